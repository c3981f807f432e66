/-
  DERIVED. GIVEN WITH THE SEED: THE CARDS: each row of YtfcbamfkfadabaaGreatDoorRows.lean that lists a variable, with what it lists TIED to the program's text (the seventh form; the later family's looks); each row that meets fmt, with fmt's text TOLD by the authors' own Lean function (tested against real Go, not proved from fmt's source: count such statements apart). THE CARD IS WHAT COUNTS. Prove the row's statement (the work); the ties are given (YtfcbamfkfadabaaGreatDoorTie.lean); close each card by the builder's one call (the guide's Derived/Test/ToyasCard.lean, 'card_holds'). Laid BY PROGRAM, IN A SANDBOX (cutbox-door.mjs). By AI agents, Wed Nov 11 2026. No macro, syntax, notation, axiom, sorry.
-/
import Derived.Test.YtfcbamfkfadabaaGreatDoorRows
import GoSem.ClaimSeven
namespace Go.Proofs.YtfcbamfkfadabaaGreatDoor
namespace Rows

/-- THE TIED CARD OF 'laws.FnNotations'. -/
def fnNotationsCard : Claim7 := { stood := { row := fnNotationsRow, standIns := [], harness := (true, "e96f02290fd62d6e2d32c2011d89e098a3a5dad6df12aab39c440001ca3f66fb"), looks := true }, kinds := [], alts := [], laidByText := true, laidKinds := [.data, .data, .data, .data, .sentinel, .sentinel, .data, .pinned], laidTests := true, laidLooks := .later }
def FnNotationsCardSaid : Prop := Claim7.holds Tryz.pinned (.plain (OpenSpec.ofChange fnNotationsSpec)) fnNotationsCard

/-- THE TIED CARD OF 'laws.FnExactRecognizeMap'. -/
def fnExactRecognizeMapCard : Claim7 := { stood := { row := fnExactRecognizeMapRow, standIns := [], harness := (true, "e96f02290fd62d6e2d32c2011d89e098a3a5dad6df12aab39c440001ca3f66fb"), looks := true }, kinds := [], alts := [], laidByText := true, laidKinds := [.data, .data, .data, .data, .sentinel, .sentinel, .pinned], laidTests := true, laidLooks := .later }
def FnExactRecognizeMapCardSaid : Prop := Claim7.holds Tryz.pinned (.plain (OpenSpec.ofChange fnExactRecognizeMapSpec)) fnExactRecognizeMapCard

/-- THE TIED CARD OF 'laws.FnRecognized'. -/
def fnRecognizedCard : Claim7 := { stood := { row := fnRecognizedRow, standIns := [], harness := (true, "e96f02290fd62d6e2d32c2011d89e098a3a5dad6df12aab39c440001ca3f66fb"), looks := true }, kinds := [], alts := [], laidByText := true, laidKinds := [.data, .data, .data, .data, .sentinel, .sentinel, .pinned], laidTests := true, laidLooks := .later }
def FnRecognizedCardSaid : Prop := Claim7.holds Tryz.pinned (.plain (OpenSpec.ofChange fnRecognizedSpec)) fnRecognizedCard

/-- THE TIED CARD OF 'laws.FnNotationParts'. -/
def fnNotationPartsCard : Claim7 := { stood := { row := fnNotationPartsRow, standIns := [], harness := (true, "e96f02290fd62d6e2d32c2011d89e098a3a5dad6df12aab39c440001ca3f66fb"), looks := true }, kinds := [], alts := [], laidByText := true, laidKinds := [.data, .data, .data, .data, .sentinel, .sentinel, .data, .pinned], laidTests := true, laidLooks := .later }
def FnNotationPartsCardSaid : Prop := Claim7.holds Tryz.pinned (.plain (OpenSpec.ofChange fnNotationPartsSpec)) fnNotationPartsCard

/-- THE SECOND FORM's CARD OF 'laws.FnNotations'. -/
def fnNotationsUptoCard : Claim7 := { stood := { row := fnNotationsUptoRow, standIns := [], harness := (true, "e96f02290fd62d6e2d32c2011d89e098a3a5dad6df12aab39c440001ca3f66fb"), looks := true }, kinds := [], alts := [], laidByText := true, laidKinds := [.data, .data, .data, .data, .sentinel, .sentinel, .data, .pinned], laidTests := true, laidLooks := .later }
def FnNotationsUptoCardSaid : Prop := Claim7.holds Tryz.pinned (.plain (OpenSpec.upto fnNotationsSpec)) fnNotationsUptoCard

/-- THE SECOND FORM's CARD OF 'laws.FnExactRecognizeMap'. -/
def fnExactRecognizeMapUptoCard : Claim7 := { stood := { row := fnExactRecognizeMapUptoRow, standIns := [], harness := (true, "e96f02290fd62d6e2d32c2011d89e098a3a5dad6df12aab39c440001ca3f66fb"), looks := true }, kinds := [], alts := [], laidByText := true, laidKinds := [.data, .data, .data, .data, .sentinel, .sentinel, .pinned], laidTests := true, laidLooks := .later }
def FnExactRecognizeMapUptoCardSaid : Prop := Claim7.holds Tryz.pinned (.plain (OpenSpec.upto fnExactRecognizeMapSpec)) fnExactRecognizeMapUptoCard

/-- THE SECOND FORM's CARD OF 'laws.FnRecognized'. -/
def fnRecognizedUptoCard : Claim7 := { stood := { row := fnRecognizedUptoRow, standIns := [], harness := (true, "e96f02290fd62d6e2d32c2011d89e098a3a5dad6df12aab39c440001ca3f66fb"), looks := true }, kinds := [], alts := [], laidByText := true, laidKinds := [.data, .data, .data, .data, .sentinel, .sentinel, .pinned], laidTests := true, laidLooks := .later }
def FnRecognizedUptoCardSaid : Prop := Claim7.holds Tryz.pinned (.plain (OpenSpec.upto fnRecognizedSpec)) fnRecognizedUptoCard

/-- THE SECOND FORM's CARD OF 'laws.FnNotationParts'. -/
def fnNotationPartsUptoCard : Claim7 := { stood := { row := fnNotationPartsUptoRow, standIns := [], harness := (true, "e96f02290fd62d6e2d32c2011d89e098a3a5dad6df12aab39c440001ca3f66fb"), looks := true }, kinds := [], alts := [], laidByText := true, laidKinds := [.data, .data, .data, .data, .sentinel, .sentinel, .data, .pinned], laidTests := true, laidLooks := .later }
def FnNotationPartsUptoCardSaid : Prop := Claim7.holds Tryz.pinned (.plain (OpenSpec.upto fnNotationPartsSpec)) fnNotationPartsUptoCard
end Rows
end Go.Proofs.YtfcbamfkfadabaaGreatDoor
