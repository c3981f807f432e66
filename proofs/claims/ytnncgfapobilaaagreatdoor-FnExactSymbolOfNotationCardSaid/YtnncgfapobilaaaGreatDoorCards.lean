/-
  DERIVED. GIVEN WITH THE SEED: THE CARDS: each row of YtnncgfapobilaaaGreatDoorRows.lean that lists a variable, with what it lists TIED to the program's text (the seventh form; the later family's looks); each row that meets fmt, with fmt's text TOLD by the authors' own Lean function (tested against real Go, not proved from fmt's source: count such statements apart). THE CARD IS WHAT COUNTS. Prove the row's statement (the work); the ties are given (YtnncgfapobilaaaGreatDoorTie.lean); close each card by the builder's one call (the guide's Derived/Test/ToyasCard.lean, 'card_holds'). Laid BY PROGRAM, IN A SANDBOX (cutbox-door.mjs). By AI agents, Wed Nov 11 2026. No macro, syntax, notation, axiom, sorry.
-/
import Derived.Test.YtnncgfapobilaaaGreatDoorRows
import GoSem.ClaimSeven
namespace Go.Proofs.YtnncgfapobilaaaGreatDoor
namespace Rows

/-- THE TIED CARD OF 'laws.FnExactMapOfNotation'. -/
def fnExactMapOfNotationCard : Claim7 := { stood := { row := fnExactMapOfNotationRow, standIns := [], harness := (true, "2f5baa37b7690a95015ccb093c6bdfa880fe05d2500548297404431f3d43459f"), looks := true }, kinds := [], alts := [], laidByText := true, laidKinds := [.data, .data, .data, .data, .sentinel, .sentinel, .pinned], laidTests := true, laidLooks := .later }
def FnExactMapOfNotationCardSaid : Prop := Claim7.holds Tryz.pinned (.plain (OpenSpec.ofChange fnExactMapOfNotationSpec)) fnExactMapOfNotationCard

/-- THE TIED CARD OF 'laws.FnExactAreSameMaps'. -/
def fnExactAreSameMapsCard : Claim7 := { stood := { row := fnExactAreSameMapsRow, standIns := [], harness := (true, "2f5baa37b7690a95015ccb093c6bdfa880fe05d2500548297404431f3d43459f"), looks := true }, kinds := [], alts := [], laidByText := true, laidKinds := [.data, .data, .data, .data, .sentinel, .sentinel, .pinned], laidTests := true, laidLooks := .later }
def FnExactAreSameMapsCardSaid : Prop := Claim7.holds Tryz.pinned (.plain (OpenSpec.ofChange fnExactAreSameMapsSpec)) fnExactAreSameMapsCard

/-- THE TIED CARD OF 'laws.FnExactSymbolOfNotation'. -/
def fnExactSymbolOfNotationCard : Claim7 := { stood := { row := fnExactSymbolOfNotationRow, standIns := [], harness := (true, "2f5baa37b7690a95015ccb093c6bdfa880fe05d2500548297404431f3d43459f"), looks := true }, kinds := [], alts := [], laidByText := true, laidKinds := [.data, .data, .data, .data, .sentinel, .sentinel, .pinned], laidTests := true, laidLooks := .later }
def FnExactSymbolOfNotationCardSaid : Prop := Claim7.holds Tryz.pinned (.plain (OpenSpec.ofChange fnExactSymbolOfNotationSpec)) fnExactSymbolOfNotationCard

/-- THE SECOND FORM's CARD OF 'laws.FnExactMapOfNotation'. -/
def fnExactMapOfNotationUptoCard : Claim7 := { stood := { row := fnExactMapOfNotationUptoRow, standIns := [], harness := (true, "2f5baa37b7690a95015ccb093c6bdfa880fe05d2500548297404431f3d43459f"), looks := true }, kinds := [], alts := [], laidByText := true, laidKinds := [.data, .data, .data, .data, .sentinel, .sentinel, .pinned], laidTests := true, laidLooks := .later }
def FnExactMapOfNotationUptoCardSaid : Prop := Claim7.holds Tryz.pinned (.plain (OpenSpec.upto fnExactMapOfNotationSpec)) fnExactMapOfNotationUptoCard

/-- THE SECOND FORM's CARD OF 'laws.FnExactAreSameMaps'. -/
def fnExactAreSameMapsUptoCard : Claim7 := { stood := { row := fnExactAreSameMapsUptoRow, standIns := [], harness := (true, "2f5baa37b7690a95015ccb093c6bdfa880fe05d2500548297404431f3d43459f"), looks := true }, kinds := [], alts := [], laidByText := true, laidKinds := [.data, .data, .data, .data, .sentinel, .sentinel, .pinned], laidTests := true, laidLooks := .later }
def FnExactAreSameMapsUptoCardSaid : Prop := Claim7.holds Tryz.pinned (.plain (OpenSpec.upto fnExactAreSameMapsSpec)) fnExactAreSameMapsUptoCard

/-- THE SECOND FORM's CARD OF 'laws.FnExactSymbolOfNotation'. -/
def fnExactSymbolOfNotationUptoCard : Claim7 := { stood := { row := fnExactSymbolOfNotationUptoRow, standIns := [], harness := (true, "2f5baa37b7690a95015ccb093c6bdfa880fe05d2500548297404431f3d43459f"), looks := true }, kinds := [], alts := [], laidByText := true, laidKinds := [.data, .data, .data, .data, .sentinel, .sentinel, .pinned], laidTests := true, laidLooks := .later }
def FnExactSymbolOfNotationUptoCardSaid : Prop := Claim7.holds Tryz.pinned (.plain (OpenSpec.upto fnExactSymbolOfNotationSpec)) fnExactSymbolOfNotationUptoCard
end Rows
end Go.Proofs.YtnncgfapobilaaaGreatDoor
