/-
  DERIVED. GIVEN WITH THE SEED: THE CARDS: each row of YtaekhhaaphgndaaGreatDoorRows.lean that lists a variable, with what it lists TIED to the program's text (the seventh form; the later family's looks); each row that meets fmt, with fmt's text TOLD by the authors' own Lean function (tested against real Go, not proved from fmt's source: count such statements apart). THE CARD IS WHAT COUNTS. Prove the row's statement (the work); the ties are given (YtaekhhaaphgndaaGreatDoorTie.lean); close each card by the builder's one call (the guide's Derived/Test/ToyasCard.lean, 'card_holds'). Laid BY PROGRAM, IN A SANDBOX (cutbox-door.mjs). By AI agents, Wed Nov 11 2026. No macro, syntax, notation, axiom, sorry.
-/
import Derived.Test.YtaekhhaaphgndaaGreatDoorRows
import GoSem.ClaimSeven
namespace Go.Proofs.YtaekhhaaphgndaaGreatDoor
namespace Rows

/-- THE TIED CARD OF 'laws.FnExactIsPolytopal'. -/
def fnExactIsPolytopalCard : Claim7 := { stood := { row := fnExactIsPolytopalRow, standIns := [], harness := (true, "72de6e45fbd227afe37aa3496685a54fab1219a2894acd1ca7f9863cec6cc637"), looks := false }, kinds := [], alts := [], laidByText := true, laidKinds := [.data, .data, .data], laidTests := true, laidLooks := .later }
def FnExactIsPolytopalCardSaid : Prop := Claim7.holds Tryz.pinned (.plain (OpenSpec.ofChange fnExactIsPolytopalSpec)) fnExactIsPolytopalCard

/-- THE TIED CARD OF 'laws.FnExactFacePolynomial'. -/
def fnExactFacePolynomialCard : Claim7 := { stood := { row := fnExactFacePolynomialRow, standIns := [], harness := (true, "72de6e45fbd227afe37aa3496685a54fab1219a2894acd1ca7f9863cec6cc637"), looks := false }, kinds := [], alts := [], laidByText := true, laidKinds := [.data, .data, .data], laidTests := true, laidLooks := .later }
def FnExactFacePolynomialCardSaid : Prop := Claim7.holds Tryz.pinned (.plain (OpenSpec.ofChange fnExactFacePolynomialSpec)) fnExactFacePolynomialCard

/-- THE TIED CARD OF 'laws.FnExactCountFlagsOf'. -/
def fnExactCountFlagsOfCard : Claim7 := { stood := { row := fnExactCountFlagsOfRow, standIns := [], harness := (true, "72de6e45fbd227afe37aa3496685a54fab1219a2894acd1ca7f9863cec6cc637"), looks := false }, kinds := [], alts := [], laidByText := true, laidKinds := [.data, .data, .data], laidTests := true, laidLooks := .later }
def FnExactCountFlagsOfCardSaid : Prop := Claim7.holds Tryz.pinned (.plain (OpenSpec.ofChange fnExactCountFlagsOfSpec)) fnExactCountFlagsOfCard

/-- THE SECOND FORM's CARD OF 'laws.FnExactIsPolytopal'. -/
def fnExactIsPolytopalUptoCard : Claim7 := { stood := { row := fnExactIsPolytopalUptoRow, standIns := [], harness := (true, "72de6e45fbd227afe37aa3496685a54fab1219a2894acd1ca7f9863cec6cc637"), looks := false }, kinds := [], alts := [], laidByText := true, laidKinds := [.data, .data, .data], laidTests := true, laidLooks := .later }
def FnExactIsPolytopalUptoCardSaid : Prop := Claim7.holds Tryz.pinned (.plain (OpenSpec.upto fnExactIsPolytopalSpec)) fnExactIsPolytopalUptoCard

/-- THE SECOND FORM's CARD OF 'laws.FnExactFacePolynomial'. -/
def fnExactFacePolynomialUptoCard : Claim7 := { stood := { row := fnExactFacePolynomialUptoRow, standIns := [], harness := (true, "72de6e45fbd227afe37aa3496685a54fab1219a2894acd1ca7f9863cec6cc637"), looks := false }, kinds := [], alts := [], laidByText := true, laidKinds := [.data, .data, .data], laidTests := true, laidLooks := .later }
def FnExactFacePolynomialUptoCardSaid : Prop := Claim7.holds Tryz.pinned (.plain (OpenSpec.upto fnExactFacePolynomialSpec)) fnExactFacePolynomialUptoCard

/-- THE SECOND FORM's CARD OF 'laws.FnExactCountFlagsOf'. -/
def fnExactCountFlagsOfUptoCard : Claim7 := { stood := { row := fnExactCountFlagsOfUptoRow, standIns := [], harness := (true, "72de6e45fbd227afe37aa3496685a54fab1219a2894acd1ca7f9863cec6cc637"), looks := false }, kinds := [], alts := [], laidByText := true, laidKinds := [.data, .data, .data], laidTests := true, laidLooks := .later }
def FnExactCountFlagsOfUptoCardSaid : Prop := Claim7.holds Tryz.pinned (.plain (OpenSpec.upto fnExactCountFlagsOfSpec)) fnExactCountFlagsOfUptoCard
end Rows
end Go.Proofs.YtaekhhaaphgndaaGreatDoor
