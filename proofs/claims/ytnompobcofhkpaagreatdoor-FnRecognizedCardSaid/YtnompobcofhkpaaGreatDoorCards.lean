/-
  DERIVED. GIVEN WITH THE SEED: THE CARDS: each row of YtnompobcofhkpaaGreatDoorRows.lean that lists a variable, with what it lists TIED to the program's text (the seventh form; the later family's looks); each row that meets fmt, with fmt's text TOLD by the authors' own Lean function (tested against real Go, not proved from fmt's source: count such statements apart). THE CARD IS WHAT COUNTS. Prove the row's statement (the work); the ties are given (YtnompobcofhkpaaGreatDoorTie.lean); close each card by the builder's one call (the guide's Derived/Test/ToyasCard.lean, 'card_holds'). Laid BY PROGRAM, IN A SANDBOX (cutbox-door.mjs). By AI agents, Wed Nov 11 2026. No macro, syntax, notation, axiom, sorry.
-/
import Derived.Test.YtnompobcofhkpaaGreatDoorRows
import GoSem.ClaimSeven
namespace Go.Proofs.YtnompobcofhkpaaGreatDoor
namespace Rows

/-- THE TIED CARD OF 'laws.FnRecognized'. -/
def fnRecognizedCard : Claim7 := { stood := { row := fnRecognizedRow, standIns := [], harness := (true, "22c0d1ec6eeb069d06238bc759b3634cb8acbeb439f2d8ff911f1c063b7235d9"), looks := true }, kinds := [], alts := [], laidByText := true, laidKinds := [.data, .data, .data, .data, .sentinel, .sentinel, .pinned], laidTests := true, laidLooks := .later }
def FnRecognizedCardSaid : Prop := Claim7.holds Tryz.pinned (.plain (OpenSpec.ofChange fnRecognizedSpec)) fnRecognizedCard

/-- THE SECOND FORM's CARD OF 'laws.FnRecognized'. -/
def fnRecognizedUptoCard : Claim7 := { stood := { row := fnRecognizedUptoRow, standIns := [], harness := (true, "22c0d1ec6eeb069d06238bc759b3634cb8acbeb439f2d8ff911f1c063b7235d9"), looks := true }, kinds := [], alts := [], laidByText := true, laidKinds := [.data, .data, .data, .data, .sentinel, .sentinel, .pinned], laidTests := true, laidLooks := .later }
def FnRecognizedUptoCardSaid : Prop := Claim7.holds Tryz.pinned (.plain (OpenSpec.upto fnRecognizedSpec)) fnRecognizedUptoCard
end Rows
end Go.Proofs.YtnompobcofhkpaaGreatDoor
