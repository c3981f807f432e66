/-
  DERIVED. GIVEN WITH THE SEED: THE CARDS: each row of YtgdijhchndjhlaaDoorRows.lean that lists a variable, with what it lists TIED to the program's text (the seventh form; the later family's looks); each row that meets fmt, with fmt's text TOLD by the authors' own Lean function (tested against real Go, not proved from fmt's source: count such statements apart). THE CARD IS WHAT COUNTS. Prove the row's statement (the work); the ties are given (YtgdijhchndjhlaaDoorTie.lean); close each card by the builder's one call (the guide's Derived/Test/ToyasCard.lean, 'card_holds'). Laid BY PROGRAM, IN A SANDBOX (cutbox-door.mjs). By AI agents, Wed Nov 11 2026. No macro, syntax, notation, axiom, sorry.
-/
import Derived.Test.YtgdijhchndjhlaaDoorRows
import GoSem.ClaimSeven
namespace Go.Proofs.YtgdijhchndjhlaaDoor
namespace Rows

/-- THE TIED CARD OF 'laws.FnExactComplexOf'. -/
def fnExactComplexOfCard : Claim7 := { stood := { row := fnExactComplexOfRow, standIns := [], harness := (true, "16672a11a35a72f71a06c2f03e7b62c57d83d006d86e81742d7e40ac6dec9d98"), looks := false }, kinds := [], alts := [], laidByText := true, laidKinds := [.data, .data, .data], laidTests := true, laidLooks := .later }
def FnExactComplexOfCardSaid : Prop := Claim7.holds Tryd.pinned (.plain (OpenSpec.ofChange fnExactComplexOfSpec)) fnExactComplexOfCard

/-- THE TIED CARD OF 'laws.FnExactIsEulerian'. -/
def fnExactIsEulerianCard : Claim7 := { stood := { row := fnExactIsEulerianRow, standIns := [], harness := (true, "16672a11a35a72f71a06c2f03e7b62c57d83d006d86e81742d7e40ac6dec9d98"), looks := false }, kinds := [], alts := [], laidByText := true, laidKinds := [.data, .data, .data], laidTests := true, laidLooks := .later }
def FnExactIsEulerianCardSaid : Prop := Claim7.holds Tryd.pinned (.plain (OpenSpec.ofChange fnExactIsEulerianSpec)) fnExactIsEulerianCard

/-- THE TIED CARD OF 'laws.FnExactIsPseudomanifold'. -/
def fnExactIsPseudomanifoldCard : Claim7 := { stood := { row := fnExactIsPseudomanifoldRow, standIns := [], harness := (true, "16672a11a35a72f71a06c2f03e7b62c57d83d006d86e81742d7e40ac6dec9d98"), looks := false }, kinds := [], alts := [], laidByText := true, laidKinds := [.data, .data, .data], laidTests := true, laidLooks := .later }
def FnExactIsPseudomanifoldCardSaid : Prop := Claim7.holds Tryd.pinned (.plain (OpenSpec.ofChange fnExactIsPseudomanifoldSpec)) fnExactIsPseudomanifoldCard

/-- THE SECOND FORM's CARD OF 'laws.FnExactComplexOf'. -/
def fnExactComplexOfUptoCard : Claim7 := { stood := { row := fnExactComplexOfUptoRow, standIns := [], harness := (true, "16672a11a35a72f71a06c2f03e7b62c57d83d006d86e81742d7e40ac6dec9d98"), looks := false }, kinds := [], alts := [], laidByText := true, laidKinds := [.data, .data, .data], laidTests := true, laidLooks := .later }
def FnExactComplexOfUptoCardSaid : Prop := Claim7.holds Tryd.pinned (.plain (OpenSpec.upto fnExactComplexOfSpec)) fnExactComplexOfUptoCard

/-- THE SECOND FORM's CARD OF 'laws.FnExactIsEulerian'. -/
def fnExactIsEulerianUptoCard : Claim7 := { stood := { row := fnExactIsEulerianUptoRow, standIns := [], harness := (true, "16672a11a35a72f71a06c2f03e7b62c57d83d006d86e81742d7e40ac6dec9d98"), looks := false }, kinds := [], alts := [], laidByText := true, laidKinds := [.data, .data, .data], laidTests := true, laidLooks := .later }
def FnExactIsEulerianUptoCardSaid : Prop := Claim7.holds Tryd.pinned (.plain (OpenSpec.upto fnExactIsEulerianSpec)) fnExactIsEulerianUptoCard

/-- THE SECOND FORM's CARD OF 'laws.FnExactIsPseudomanifold'. -/
def fnExactIsPseudomanifoldUptoCard : Claim7 := { stood := { row := fnExactIsPseudomanifoldUptoRow, standIns := [], harness := (true, "16672a11a35a72f71a06c2f03e7b62c57d83d006d86e81742d7e40ac6dec9d98"), looks := false }, kinds := [], alts := [], laidByText := true, laidKinds := [.data, .data, .data], laidTests := true, laidLooks := .later }
def FnExactIsPseudomanifoldUptoCardSaid : Prop := Claim7.holds Tryd.pinned (.plain (OpenSpec.upto fnExactIsPseudomanifoldSpec)) fnExactIsPseudomanifoldUptoCard
end Rows
end Go.Proofs.YtgdijhchndjhlaaDoor
