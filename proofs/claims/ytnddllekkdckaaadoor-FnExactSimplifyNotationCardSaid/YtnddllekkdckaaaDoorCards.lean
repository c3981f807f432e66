/-
  DERIVED. GIVEN WITH THE SEED: THE CARDS: each row of YtnddllekkdckaaaDoorRows.lean that lists a variable, with what it lists TIED to the program's text (the seventh form; the later family's looks); each row that meets fmt, with fmt's text TOLD by the authors' own Lean function (tested against real Go, not proved from fmt's source: count such statements apart). THE CARD IS WHAT COUNTS. Prove the row's statement (the work); the ties are given (YtnddllekkdckaaaDoorTie.lean); close each card by the builder's one call (the guide's Derived/Test/ToyasCard.lean, 'card_holds'). Laid BY PROGRAM, IN A SANDBOX (cutbox-door.mjs). By AI agents, Wed Nov 11 2026. No macro, syntax, notation, axiom, sorry.
-/
import Derived.Test.YtnddllekkdckaaaDoorRows
import GoSem.ClaimSeven
namespace Go.Proofs.YtnddllekkdckaaaDoor
namespace Rows

/-- THE TIED CARD OF 'laws.FnExactIsNotation'. -/
def fnExactIsNotationCard : Claim7 := { stood := { row := fnExactIsNotationRow, standIns := [], harness := (true, "4722003a3b972d197f3b456dd0b204be3c9d5ddaaa0fd2b4b1b227dfe714384d"), looks := true }, kinds := [], alts := [], laidByText := true, laidKinds := [.data, .data, .data, .data, .sentinel, .sentinel, .pinned], laidTests := true, laidLooks := .later }
def FnExactIsNotationCardSaid : Prop := Claim7.holds Tryd.pinned (.plain (OpenSpec.ofChange fnExactIsNotationSpec)) fnExactIsNotationCard

/-- THE TIED CARD OF 'laws.FnExactOperatorsOf'. -/
def fnExactOperatorsOfCard : Claim7 := { stood := { row := fnExactOperatorsOfRow, standIns := [], harness := (true, "4722003a3b972d197f3b456dd0b204be3c9d5ddaaa0fd2b4b1b227dfe714384d"), looks := true }, kinds := [], alts := [], laidByText := true, laidKinds := [.data, .data, .data, .data, .sentinel, .sentinel, .pinned], laidTests := true, laidLooks := .later }
def FnExactOperatorsOfCardSaid : Prop := Claim7.holds Tryd.pinned (.plain (OpenSpec.ofChange fnExactOperatorsOfSpec)) fnExactOperatorsOfCard

/-- THE TIED CARD OF 'laws.FnExactBasicNotation'. -/
def fnExactBasicNotationCard : Claim7 := { stood := { row := fnExactBasicNotationRow, standIns := [], harness := (true, "4722003a3b972d197f3b456dd0b204be3c9d5ddaaa0fd2b4b1b227dfe714384d"), looks := true }, kinds := [], alts := [], laidByText := true, laidKinds := [.data, .data, .data, .data, .sentinel, .sentinel, .pinned], laidTests := true, laidLooks := .later }
def FnExactBasicNotationCardSaid : Prop := Claim7.holds Tryd.pinned (.plain (OpenSpec.ofChange fnExactBasicNotationSpec)) fnExactBasicNotationCard

/-- THE TIED CARD OF 'laws.FnExactSeedDiagram'. -/
def fnExactSeedDiagramCard : Claim7 := { stood := { row := fnExactSeedDiagramRow, standIns := [], harness := (true, "4722003a3b972d197f3b456dd0b204be3c9d5ddaaa0fd2b4b1b227dfe714384d"), looks := true }, kinds := [], alts := [], laidByText := true, laidKinds := [.data, .data, .data, .data, .sentinel, .sentinel, .pinned], laidTests := true, laidLooks := .later }
def FnExactSeedDiagramCardSaid : Prop := Claim7.holds Tryd.pinned (.plain (OpenSpec.ofChange fnExactSeedDiagramSpec)) fnExactSeedDiagramCard

/-- THE TIED CARD OF 'laws.FnExactCountsOfNotation'. -/
def fnExactCountsOfNotationCard : Claim7 := { stood := { row := fnExactCountsOfNotationRow, standIns := [], harness := (true, "4722003a3b972d197f3b456dd0b204be3c9d5ddaaa0fd2b4b1b227dfe714384d"), looks := true }, kinds := [], alts := [], laidByText := true, laidKinds := [.data, .data, .data, .data, .sentinel, .sentinel, .pinned], laidTests := true, laidLooks := .later }
def FnExactCountsOfNotationCardSaid : Prop := Claim7.holds Tryd.pinned (.plain (OpenSpec.ofChange fnExactCountsOfNotationSpec)) fnExactCountsOfNotationCard

/-- THE TIED CARD OF 'laws.FnExactSimplifyNotation'. -/
def fnExactSimplifyNotationCard : Claim7 := { stood := { row := fnExactSimplifyNotationRow, standIns := [], harness := (true, "4722003a3b972d197f3b456dd0b204be3c9d5ddaaa0fd2b4b1b227dfe714384d"), looks := true }, kinds := [], alts := [], laidByText := true, laidKinds := [.data, .data, .data, .data, .sentinel, .sentinel, .data, .pinned], laidTests := true, laidLooks := .later }
def FnExactSimplifyNotationCardSaid : Prop := Claim7.holds Tryd.pinned (.plain (OpenSpec.ofChange fnExactSimplifyNotationSpec)) fnExactSimplifyNotationCard

/-- THE SECOND FORM's CARD OF 'laws.FnExactIsNotation'. -/
def fnExactIsNotationUptoCard : Claim7 := { stood := { row := fnExactIsNotationUptoRow, standIns := [], harness := (true, "4722003a3b972d197f3b456dd0b204be3c9d5ddaaa0fd2b4b1b227dfe714384d"), looks := true }, kinds := [], alts := [], laidByText := true, laidKinds := [.data, .data, .data, .data, .sentinel, .sentinel, .pinned], laidTests := true, laidLooks := .later }
def FnExactIsNotationUptoCardSaid : Prop := Claim7.holds Tryd.pinned (.plain (OpenSpec.upto fnExactIsNotationSpec)) fnExactIsNotationUptoCard

/-- THE SECOND FORM's CARD OF 'laws.FnExactOperatorsOf'. -/
def fnExactOperatorsOfUptoCard : Claim7 := { stood := { row := fnExactOperatorsOfUptoRow, standIns := [], harness := (true, "4722003a3b972d197f3b456dd0b204be3c9d5ddaaa0fd2b4b1b227dfe714384d"), looks := true }, kinds := [], alts := [], laidByText := true, laidKinds := [.data, .data, .data, .data, .sentinel, .sentinel, .pinned], laidTests := true, laidLooks := .later }
def FnExactOperatorsOfUptoCardSaid : Prop := Claim7.holds Tryd.pinned (.plain (OpenSpec.upto fnExactOperatorsOfSpec)) fnExactOperatorsOfUptoCard

/-- THE SECOND FORM's CARD OF 'laws.FnExactBasicNotation'. -/
def fnExactBasicNotationUptoCard : Claim7 := { stood := { row := fnExactBasicNotationUptoRow, standIns := [], harness := (true, "4722003a3b972d197f3b456dd0b204be3c9d5ddaaa0fd2b4b1b227dfe714384d"), looks := true }, kinds := [], alts := [], laidByText := true, laidKinds := [.data, .data, .data, .data, .sentinel, .sentinel, .pinned], laidTests := true, laidLooks := .later }
def FnExactBasicNotationUptoCardSaid : Prop := Claim7.holds Tryd.pinned (.plain (OpenSpec.upto fnExactBasicNotationSpec)) fnExactBasicNotationUptoCard

/-- THE SECOND FORM's CARD OF 'laws.FnExactSeedDiagram'. -/
def fnExactSeedDiagramUptoCard : Claim7 := { stood := { row := fnExactSeedDiagramUptoRow, standIns := [], harness := (true, "4722003a3b972d197f3b456dd0b204be3c9d5ddaaa0fd2b4b1b227dfe714384d"), looks := true }, kinds := [], alts := [], laidByText := true, laidKinds := [.data, .data, .data, .data, .sentinel, .sentinel, .pinned], laidTests := true, laidLooks := .later }
def FnExactSeedDiagramUptoCardSaid : Prop := Claim7.holds Tryd.pinned (.plain (OpenSpec.upto fnExactSeedDiagramSpec)) fnExactSeedDiagramUptoCard

/-- THE SECOND FORM's CARD OF 'laws.FnExactCountsOfNotation'. -/
def fnExactCountsOfNotationUptoCard : Claim7 := { stood := { row := fnExactCountsOfNotationUptoRow, standIns := [], harness := (true, "4722003a3b972d197f3b456dd0b204be3c9d5ddaaa0fd2b4b1b227dfe714384d"), looks := true }, kinds := [], alts := [], laidByText := true, laidKinds := [.data, .data, .data, .data, .sentinel, .sentinel, .pinned], laidTests := true, laidLooks := .later }
def FnExactCountsOfNotationUptoCardSaid : Prop := Claim7.holds Tryd.pinned (.plain (OpenSpec.upto fnExactCountsOfNotationSpec)) fnExactCountsOfNotationUptoCard

/-- THE SECOND FORM's CARD OF 'laws.FnExactSimplifyNotation'. -/
def fnExactSimplifyNotationUptoCard : Claim7 := { stood := { row := fnExactSimplifyNotationUptoRow, standIns := [], harness := (true, "4722003a3b972d197f3b456dd0b204be3c9d5ddaaa0fd2b4b1b227dfe714384d"), looks := true }, kinds := [], alts := [], laidByText := true, laidKinds := [.data, .data, .data, .data, .sentinel, .sentinel, .data, .pinned], laidTests := true, laidLooks := .later }
def FnExactSimplifyNotationUptoCardSaid : Prop := Claim7.holds Tryd.pinned (.plain (OpenSpec.upto fnExactSimplifyNotationSpec)) fnExactSimplifyNotationUptoCard
end Rows
end Go.Proofs.YtnddllekkdckaaaDoor
