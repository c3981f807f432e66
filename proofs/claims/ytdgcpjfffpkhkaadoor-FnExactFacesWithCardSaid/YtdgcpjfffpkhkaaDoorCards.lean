/-
  DERIVED. GIVEN WITH THE SEED: THE CARDS: each row of YtdgcpjfffpkhkaaDoorRows.lean that lists a variable, with what it lists TIED to the program's text (the seventh form; the later family's looks); each row that meets fmt, with fmt's text TOLD by the authors' own Lean function (tested against real Go, not proved from fmt's source: count such statements apart). THE CARD IS WHAT COUNTS. Prove the row's statement (the work); the ties are given (YtdgcpjfffpkhkaaDoorTie.lean); close each card by the builder's one call (the guide's Derived/Test/ToyasCard.lean, 'card_holds'). Laid BY PROGRAM, IN A SANDBOX (cutbox-door.mjs). By AI agents, Wed Nov 11 2026. No macro, syntax, notation, axiom, sorry.
-/
import Derived.Test.YtdgcpjfffpkhkaaDoorRows
import GoSem.ClaimSeven
namespace Go.Proofs.YtdgcpjfffpkhkaaDoor
namespace Rows

/-- THE TIED CARD OF 'laws.FnExactIsComplex'. -/
def fnExactIsComplexCard : Claim7 := { stood := { row := fnExactIsComplexRow, standIns := [], harness := (true, "f166cb81bc79f709f0daaf355560f36f39426dd3b805d047174013bbe5ac3898"), looks := false }, kinds := [], alts := [], laidByText := true, laidKinds := [.data, .data, .data], laidTests := true, laidLooks := .later }
def FnExactIsComplexCardSaid : Prop := Claim7.holds Tryd.pinned (.plain (OpenSpec.ofChange fnExactIsComplexSpec)) fnExactIsComplexCard

/-- THE TIED CARD OF 'laws.FnExactIsPureComplex'. -/
def fnExactIsPureComplexCard : Claim7 := { stood := { row := fnExactIsPureComplexRow, standIns := [], harness := (true, "f166cb81bc79f709f0daaf355560f36f39426dd3b805d047174013bbe5ac3898"), looks := false }, kinds := [], alts := [], laidByText := true, laidKinds := [.data, .data, .data], laidTests := true, laidLooks := .later }
def FnExactIsPureComplexCardSaid : Prop := Claim7.holds Tryd.pinned (.plain (OpenSpec.ofChange fnExactIsPureComplexSpec)) fnExactIsPureComplexCard

/-- THE TIED CARD OF 'laws.FnExactFacesWith'. -/
def fnExactFacesWithCard : Claim7 := { stood := { row := fnExactFacesWithRow, standIns := [], harness := (true, "f166cb81bc79f709f0daaf355560f36f39426dd3b805d047174013bbe5ac3898"), looks := false }, kinds := [], alts := [], laidByText := true, laidKinds := [.data, .data, .data], laidTests := true, laidLooks := .later }
def FnExactFacesWithCardSaid : Prop := Claim7.holds Tryd.pinned (.plain (OpenSpec.ofChange fnExactFacesWithSpec)) fnExactFacesWithCard

/-- THE TIED CARD OF 'laws.FnExactEulerOfComplex'. -/
def fnExactEulerOfComplexCard : Claim7 := { stood := { row := fnExactEulerOfComplexRow, standIns := [], harness := (true, "f166cb81bc79f709f0daaf355560f36f39426dd3b805d047174013bbe5ac3898"), looks := false }, kinds := [], alts := [], laidByText := true, laidKinds := [.data, .data, .data], laidTests := true, laidLooks := .later }
def FnExactEulerOfComplexCardSaid : Prop := Claim7.holds Tryd.pinned (.plain (OpenSpec.ofChange fnExactEulerOfComplexSpec)) fnExactEulerOfComplexCard

/-- THE TIED CARD OF 'laws.FnExactFVector'. -/
def fnExactFVectorCard : Claim7 := { stood := { row := fnExactFVectorRow, standIns := [], harness := (true, "f166cb81bc79f709f0daaf355560f36f39426dd3b805d047174013bbe5ac3898"), looks := false }, kinds := [], alts := [], laidByText := true, laidKinds := [.data, .data, .data], laidTests := true, laidLooks := .later }
def FnExactFVectorCardSaid : Prop := Claim7.holds Tryd.pinned (.plain (OpenSpec.ofChange fnExactFVectorSpec)) fnExactFVectorCard

/-- THE TIED CARD OF 'laws.FnExactHVector'. -/
def fnExactHVectorCard : Claim7 := { stood := { row := fnExactHVectorRow, standIns := [], harness := (true, "f166cb81bc79f709f0daaf355560f36f39426dd3b805d047174013bbe5ac3898"), looks := false }, kinds := [], alts := [], laidByText := true, laidKinds := [.data, .data, .data], laidTests := true, laidLooks := .later }
def FnExactHVectorCardSaid : Prop := Claim7.holds Tryd.pinned (.plain (OpenSpec.ofChange fnExactHVectorSpec)) fnExactHVectorCard

/-- THE SECOND FORM's CARD OF 'laws.FnExactIsComplex'. -/
def fnExactIsComplexUptoCard : Claim7 := { stood := { row := fnExactIsComplexUptoRow, standIns := [], harness := (true, "f166cb81bc79f709f0daaf355560f36f39426dd3b805d047174013bbe5ac3898"), looks := false }, kinds := [], alts := [], laidByText := true, laidKinds := [.data, .data, .data], laidTests := true, laidLooks := .later }
def FnExactIsComplexUptoCardSaid : Prop := Claim7.holds Tryd.pinned (.plain (OpenSpec.upto fnExactIsComplexSpec)) fnExactIsComplexUptoCard

/-- THE SECOND FORM's CARD OF 'laws.FnExactIsPureComplex'. -/
def fnExactIsPureComplexUptoCard : Claim7 := { stood := { row := fnExactIsPureComplexUptoRow, standIns := [], harness := (true, "f166cb81bc79f709f0daaf355560f36f39426dd3b805d047174013bbe5ac3898"), looks := false }, kinds := [], alts := [], laidByText := true, laidKinds := [.data, .data, .data], laidTests := true, laidLooks := .later }
def FnExactIsPureComplexUptoCardSaid : Prop := Claim7.holds Tryd.pinned (.plain (OpenSpec.upto fnExactIsPureComplexSpec)) fnExactIsPureComplexUptoCard

/-- THE SECOND FORM's CARD OF 'laws.FnExactFacesWith'. -/
def fnExactFacesWithUptoCard : Claim7 := { stood := { row := fnExactFacesWithUptoRow, standIns := [], harness := (true, "f166cb81bc79f709f0daaf355560f36f39426dd3b805d047174013bbe5ac3898"), looks := false }, kinds := [], alts := [], laidByText := true, laidKinds := [.data, .data, .data], laidTests := true, laidLooks := .later }
def FnExactFacesWithUptoCardSaid : Prop := Claim7.holds Tryd.pinned (.plain (OpenSpec.upto fnExactFacesWithSpec)) fnExactFacesWithUptoCard

/-- THE SECOND FORM's CARD OF 'laws.FnExactEulerOfComplex'. -/
def fnExactEulerOfComplexUptoCard : Claim7 := { stood := { row := fnExactEulerOfComplexUptoRow, standIns := [], harness := (true, "f166cb81bc79f709f0daaf355560f36f39426dd3b805d047174013bbe5ac3898"), looks := false }, kinds := [], alts := [], laidByText := true, laidKinds := [.data, .data, .data], laidTests := true, laidLooks := .later }
def FnExactEulerOfComplexUptoCardSaid : Prop := Claim7.holds Tryd.pinned (.plain (OpenSpec.upto fnExactEulerOfComplexSpec)) fnExactEulerOfComplexUptoCard

/-- THE SECOND FORM's CARD OF 'laws.FnExactFVector'. -/
def fnExactFVectorUptoCard : Claim7 := { stood := { row := fnExactFVectorUptoRow, standIns := [], harness := (true, "f166cb81bc79f709f0daaf355560f36f39426dd3b805d047174013bbe5ac3898"), looks := false }, kinds := [], alts := [], laidByText := true, laidKinds := [.data, .data, .data], laidTests := true, laidLooks := .later }
def FnExactFVectorUptoCardSaid : Prop := Claim7.holds Tryd.pinned (.plain (OpenSpec.upto fnExactFVectorSpec)) fnExactFVectorUptoCard

/-- THE SECOND FORM's CARD OF 'laws.FnExactHVector'. -/
def fnExactHVectorUptoCard : Claim7 := { stood := { row := fnExactHVectorUptoRow, standIns := [], harness := (true, "f166cb81bc79f709f0daaf355560f36f39426dd3b805d047174013bbe5ac3898"), looks := false }, kinds := [], alts := [], laidByText := true, laidKinds := [.data, .data, .data], laidTests := true, laidLooks := .later }
def FnExactHVectorUptoCardSaid : Prop := Claim7.holds Tryd.pinned (.plain (OpenSpec.upto fnExactHVectorSpec)) fnExactHVectorUptoCard
end Rows
end Go.Proofs.YtdgcpjfffpkhkaaDoor
