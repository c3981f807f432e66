/-
  DERIVED. GIVEN WITH THE SEED: THE CARDS: each row of YtghhlcioabdpfaaDoorRows.lean that lists a variable, with what it lists TIED to the program's text (the seventh form; the later family's looks); each row that meets fmt, with fmt's text TOLD by the authors' own Lean function (tested against real Go, not proved from fmt's source: count such statements apart). THE CARD IS WHAT COUNTS. Prove the row's statement (the work); the ties are given (YtghhlcioabdpfaaDoorTie.lean); close each card by the builder's one call (the guide's Derived/Test/ToyasCard.lean, 'card_holds'). Laid BY PROGRAM, IN A SANDBOX (cutbox-door.mjs). By AI agents, Wed Nov 11 2026. No macro, syntax, notation, axiom, sorry.
-/
import Derived.Test.YtghhlcioabdpfaaDoorRows
import GoSem.ClaimSeven
namespace Go.Proofs.YtghhlcioabdpfaaDoor
namespace Rows

/-- THE TIED CARD OF 'laws.FnExactIsEulerian'. -/
def fnExactIsEulerianCard : Claim7 := { stood := { row := fnExactIsEulerianRow, standIns := [], harness := (true, "f764a1d72a8c6b7cf15a78c466047f5284ac2c47de3348cbc217e11017a5bc96"), looks := false }, kinds := [], alts := [], laidByText := true, laidKinds := [.data, .data, .data], laidTests := true, laidLooks := .later }
def FnExactIsEulerianCardSaid : Prop := Claim7.holds Tryd.pinned (.plain (OpenSpec.ofChange fnExactIsEulerianSpec)) fnExactIsEulerianCard

/-- THE TIED CARD OF 'laws.FnExactIsPseudomanifold'. -/
def fnExactIsPseudomanifoldCard : Claim7 := { stood := { row := fnExactIsPseudomanifoldRow, standIns := [], harness := (true, "f764a1d72a8c6b7cf15a78c466047f5284ac2c47de3348cbc217e11017a5bc96"), looks := false }, kinds := [], alts := [], laidByText := true, laidKinds := [.data, .data, .data], laidTests := true, laidLooks := .later }
def FnExactIsPseudomanifoldCardSaid : Prop := Claim7.holds Tryd.pinned (.plain (OpenSpec.ofChange fnExactIsPseudomanifoldSpec)) fnExactIsPseudomanifoldCard

/-- THE TIED CARD OF 'laws.FnExactIsPolytope'. -/
def fnExactIsPolytopeCard : Claim7 := { stood := { row := fnExactIsPolytopeRow, standIns := [], harness := (true, "f764a1d72a8c6b7cf15a78c466047f5284ac2c47de3348cbc217e11017a5bc96"), looks := false }, kinds := [], alts := [], laidByText := true, laidKinds := [.data, .data, .data], laidTests := true, laidLooks := .later }
def FnExactIsPolytopeCardSaid : Prop := Claim7.holds Tryd.pinned (.plain (OpenSpec.ofChange fnExactIsPolytopeSpec)) fnExactIsPolytopeCard

/-- THE TIED CARD OF 'laws.FnExactManiplexOf'. -/
def fnExactManiplexOfCard : Claim7 := { stood := { row := fnExactManiplexOfRow, standIns := [], harness := (true, "f764a1d72a8c6b7cf15a78c466047f5284ac2c47de3348cbc217e11017a5bc96"), looks := false }, kinds := [], alts := [], laidByText := true, laidKinds := [.data, .data, .data], laidTests := true, laidLooks := .later }
def FnExactManiplexOfCardSaid : Prop := Claim7.holds Tryd.pinned (.plain (OpenSpec.ofChange fnExactManiplexOfSpec)) fnExactManiplexOfCard

/-- THE TIED CARD OF 'laws.FnOpposites'. -/
def fnOppositesCard : Claim7 := { stood := { row := fnOppositesRow, standIns := [], harness := (true, "f764a1d72a8c6b7cf15a78c466047f5284ac2c47de3348cbc217e11017a5bc96"), looks := false }, kinds := [], alts := [], laidByText := true, laidKinds := [.data, .data, .data], laidTests := true, laidLooks := .later }
def FnOppositesCardSaid : Prop := Claim7.holds Tryd.pinned (.plain (OpenSpec.ofChange fnOppositesSpec)) fnOppositesCard

/-- THE SECOND FORM's CARD OF 'laws.FnExactIsEulerian'. -/
def fnExactIsEulerianUptoCard : Claim7 := { stood := { row := fnExactIsEulerianUptoRow, standIns := [], harness := (true, "f764a1d72a8c6b7cf15a78c466047f5284ac2c47de3348cbc217e11017a5bc96"), looks := false }, kinds := [], alts := [], laidByText := true, laidKinds := [.data, .data, .data], laidTests := true, laidLooks := .later }
def FnExactIsEulerianUptoCardSaid : Prop := Claim7.holds Tryd.pinned (.plain (OpenSpec.upto fnExactIsEulerianSpec)) fnExactIsEulerianUptoCard

/-- THE SECOND FORM's CARD OF 'laws.FnExactIsPseudomanifold'. -/
def fnExactIsPseudomanifoldUptoCard : Claim7 := { stood := { row := fnExactIsPseudomanifoldUptoRow, standIns := [], harness := (true, "f764a1d72a8c6b7cf15a78c466047f5284ac2c47de3348cbc217e11017a5bc96"), looks := false }, kinds := [], alts := [], laidByText := true, laidKinds := [.data, .data, .data], laidTests := true, laidLooks := .later }
def FnExactIsPseudomanifoldUptoCardSaid : Prop := Claim7.holds Tryd.pinned (.plain (OpenSpec.upto fnExactIsPseudomanifoldSpec)) fnExactIsPseudomanifoldUptoCard

/-- THE SECOND FORM's CARD OF 'laws.FnExactIsPolytope'. -/
def fnExactIsPolytopeUptoCard : Claim7 := { stood := { row := fnExactIsPolytopeUptoRow, standIns := [], harness := (true, "f764a1d72a8c6b7cf15a78c466047f5284ac2c47de3348cbc217e11017a5bc96"), looks := false }, kinds := [], alts := [], laidByText := true, laidKinds := [.data, .data, .data], laidTests := true, laidLooks := .later }
def FnExactIsPolytopeUptoCardSaid : Prop := Claim7.holds Tryd.pinned (.plain (OpenSpec.upto fnExactIsPolytopeSpec)) fnExactIsPolytopeUptoCard

/-- THE SECOND FORM's CARD OF 'laws.FnExactManiplexOf'. -/
def fnExactManiplexOfUptoCard : Claim7 := { stood := { row := fnExactManiplexOfUptoRow, standIns := [], harness := (true, "f764a1d72a8c6b7cf15a78c466047f5284ac2c47de3348cbc217e11017a5bc96"), looks := false }, kinds := [], alts := [], laidByText := true, laidKinds := [.data, .data, .data], laidTests := true, laidLooks := .later }
def FnExactManiplexOfUptoCardSaid : Prop := Claim7.holds Tryd.pinned (.plain (OpenSpec.upto fnExactManiplexOfSpec)) fnExactManiplexOfUptoCard

/-- THE SECOND FORM's CARD OF 'laws.FnOpposites'. -/
def fnOppositesUptoCard : Claim7 := { stood := { row := fnOppositesUptoRow, standIns := [], harness := (true, "f764a1d72a8c6b7cf15a78c466047f5284ac2c47de3348cbc217e11017a5bc96"), looks := false }, kinds := [], alts := [], laidByText := true, laidKinds := [.data, .data, .data], laidTests := true, laidLooks := .later }
def FnOppositesUptoCardSaid : Prop := Claim7.holds Tryd.pinned (.plain (OpenSpec.upto fnOppositesSpec)) fnOppositesUptoCard
end Rows
end Go.Proofs.YtghhlcioabdpfaaDoor
