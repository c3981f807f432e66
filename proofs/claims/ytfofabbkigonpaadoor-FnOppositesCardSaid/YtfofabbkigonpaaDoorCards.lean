/-
  DERIVED. GIVEN WITH THE SEED: THE CARDS: each row of YtfofabbkigonpaaDoorRows.lean that lists a variable, with what it lists TIED to the program's text (the seventh form; the later family's looks); each row that meets fmt, with fmt's text TOLD by the authors' own Lean function (tested against real Go, not proved from fmt's source: count such statements apart). THE CARD IS WHAT COUNTS. Prove the row's statement (the work); the ties are given (YtfofabbkigonpaaDoorTie.lean); close each card by the builder's one call (the guide's Derived/Test/ToyasCard.lean, 'card_holds'). Laid BY PROGRAM, IN A SANDBOX (cutbox-door.mjs). By AI agents, Wed Nov 11 2026. No macro, syntax, notation, axiom, sorry.
-/
import Derived.Test.YtfofabbkigonpaaDoorRows
import GoSem.ClaimSeven
namespace Go.Proofs.YtfofabbkigonpaaDoor
namespace Rows

/-- THE TIED CARD OF 'laws.FnOpposites'. -/
def fnOppositesCard : Claim7 := { stood := { row := fnOppositesRow, standIns := [], harness := (true, "1e6e4ddbfc32c0df5085522bfa049a22a6e70e4c4f4d67e16f92a1fe75701f65"), looks := false }, kinds := [], alts := [], laidByText := true, laidKinds := [.data, .data, .data], laidTests := true, laidLooks := .later }
def FnOppositesCardSaid : Prop := Claim7.holds Tryd.pinned (.plain (OpenSpec.ofChange fnOppositesSpec)) fnOppositesCard

/-- THE TIED CARD OF 'laws.FnExactIsPseudomanifold'. -/
def fnExactIsPseudomanifoldCard : Claim7 := { stood := { row := fnExactIsPseudomanifoldRow, standIns := [], harness := (true, "1e6e4ddbfc32c0df5085522bfa049a22a6e70e4c4f4d67e16f92a1fe75701f65"), looks := false }, kinds := [], alts := [], laidByText := true, laidKinds := [.data, .data, .data], laidTests := true, laidLooks := .later }
def FnExactIsPseudomanifoldCardSaid : Prop := Claim7.holds Tryd.pinned (.plain (OpenSpec.ofChange fnExactIsPseudomanifoldSpec)) fnExactIsPseudomanifoldCard

/-- THE SECOND FORM's CARD OF 'laws.FnOpposites'. -/
def fnOppositesUptoCard : Claim7 := { stood := { row := fnOppositesUptoRow, standIns := [], harness := (true, "1e6e4ddbfc32c0df5085522bfa049a22a6e70e4c4f4d67e16f92a1fe75701f65"), looks := false }, kinds := [], alts := [], laidByText := true, laidKinds := [.data, .data, .data], laidTests := true, laidLooks := .later }
def FnOppositesUptoCardSaid : Prop := Claim7.holds Tryd.pinned (.plain (OpenSpec.upto fnOppositesSpec)) fnOppositesUptoCard

/-- THE SECOND FORM's CARD OF 'laws.FnExactIsPseudomanifold'. -/
def fnExactIsPseudomanifoldUptoCard : Claim7 := { stood := { row := fnExactIsPseudomanifoldUptoRow, standIns := [], harness := (true, "1e6e4ddbfc32c0df5085522bfa049a22a6e70e4c4f4d67e16f92a1fe75701f65"), looks := false }, kinds := [], alts := [], laidByText := true, laidKinds := [.data, .data, .data], laidTests := true, laidLooks := .later }
def FnExactIsPseudomanifoldUptoCardSaid : Prop := Claim7.holds Tryd.pinned (.plain (OpenSpec.upto fnExactIsPseudomanifoldSpec)) fnExactIsPseudomanifoldUptoCard
end Rows
end Go.Proofs.YtfofabbkigonpaaDoor
