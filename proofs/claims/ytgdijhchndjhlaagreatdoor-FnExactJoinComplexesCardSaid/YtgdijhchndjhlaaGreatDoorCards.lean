/-
  DERIVED. GIVEN WITH THE SEED: THE CARDS: each row of YtgdijhchndjhlaaGreatDoorRows.lean that lists a variable, with what it lists TIED to the program's text (the seventh form; the later family's looks); each row that meets fmt, with fmt's text TOLD by the authors' own Lean function (tested against real Go, not proved from fmt's source: count such statements apart). THE CARD IS WHAT COUNTS. Prove the row's statement (the work); the ties are given (YtgdijhchndjhlaaGreatDoorTie.lean); close each card by the builder's one call (the guide's Derived/Test/ToyasCard.lean, 'card_holds'). Laid BY PROGRAM, IN A SANDBOX (cutbox-door.mjs). By AI agents, Wed Nov 11 2026. No macro, syntax, notation, axiom, sorry.
-/
import Derived.Test.YtgdijhchndjhlaaGreatDoorRows
import GoSem.ClaimSeven
namespace Go.Proofs.YtgdijhchndjhlaaGreatDoor
namespace Rows

/-- THE TIED CARD OF 'laws.FnExactSkeletonOf'. -/
def fnExactSkeletonOfCard : Claim7 := { stood := { row := fnExactSkeletonOfRow, standIns := [], harness := (true, "d0fb764130f84a4c08a7547bae3b5bbdcab2eda7517136d7e82ba9f606b2e1fb"), looks := false }, kinds := [], alts := [], laidByText := true, laidKinds := [.data, .data, .data], laidTests := true, laidLooks := .later }
def FnExactSkeletonOfCardSaid : Prop := Claim7.holds Tryz.pinned (.plain (OpenSpec.ofChange fnExactSkeletonOfSpec)) fnExactSkeletonOfCard

/-- THE TIED CARD OF 'laws.FnExactDeletionOf'. -/
def fnExactDeletionOfCard : Claim7 := { stood := { row := fnExactDeletionOfRow, standIns := [], harness := (true, "d0fb764130f84a4c08a7547bae3b5bbdcab2eda7517136d7e82ba9f606b2e1fb"), looks := false }, kinds := [], alts := [], laidByText := true, laidKinds := [.data, .data, .data], laidTests := true, laidLooks := .later }
def FnExactDeletionOfCardSaid : Prop := Claim7.holds Tryz.pinned (.plain (OpenSpec.ofChange fnExactDeletionOfSpec)) fnExactDeletionOfCard

/-- THE TIED CARD OF 'laws.FnExactJoinComplexes'. -/
def fnExactJoinComplexesCard : Claim7 := { stood := { row := fnExactJoinComplexesRow, standIns := [], harness := (true, "d0fb764130f84a4c08a7547bae3b5bbdcab2eda7517136d7e82ba9f606b2e1fb"), looks := false }, kinds := [], alts := [], laidByText := true, laidKinds := [.data, .data, .data], laidTests := true, laidLooks := .later }
def FnExactJoinComplexesCardSaid : Prop := Claim7.holds Tryz.pinned (.plain (OpenSpec.ofChange fnExactJoinComplexesSpec)) fnExactJoinComplexesCard

/-- THE TIED CARD OF 'laws.FnExactSuspensionOf'. -/
def fnExactSuspensionOfCard : Claim7 := { stood := { row := fnExactSuspensionOfRow, standIns := [], harness := (true, "d0fb764130f84a4c08a7547bae3b5bbdcab2eda7517136d7e82ba9f606b2e1fb"), looks := false }, kinds := [], alts := [], laidByText := true, laidKinds := [.data, .data, .data], laidTests := true, laidLooks := .later }
def FnExactSuspensionOfCardSaid : Prop := Claim7.holds Tryz.pinned (.plain (OpenSpec.ofChange fnExactSuspensionOfSpec)) fnExactSuspensionOfCard

/-- THE SECOND FORM's CARD OF 'laws.FnExactSkeletonOf'. -/
def fnExactSkeletonOfUptoCard : Claim7 := { stood := { row := fnExactSkeletonOfUptoRow, standIns := [], harness := (true, "d0fb764130f84a4c08a7547bae3b5bbdcab2eda7517136d7e82ba9f606b2e1fb"), looks := false }, kinds := [], alts := [], laidByText := true, laidKinds := [.data, .data, .data], laidTests := true, laidLooks := .later }
def FnExactSkeletonOfUptoCardSaid : Prop := Claim7.holds Tryz.pinned (.plain (OpenSpec.upto fnExactSkeletonOfSpec)) fnExactSkeletonOfUptoCard

/-- THE SECOND FORM's CARD OF 'laws.FnExactDeletionOf'. -/
def fnExactDeletionOfUptoCard : Claim7 := { stood := { row := fnExactDeletionOfUptoRow, standIns := [], harness := (true, "d0fb764130f84a4c08a7547bae3b5bbdcab2eda7517136d7e82ba9f606b2e1fb"), looks := false }, kinds := [], alts := [], laidByText := true, laidKinds := [.data, .data, .data], laidTests := true, laidLooks := .later }
def FnExactDeletionOfUptoCardSaid : Prop := Claim7.holds Tryz.pinned (.plain (OpenSpec.upto fnExactDeletionOfSpec)) fnExactDeletionOfUptoCard

/-- THE SECOND FORM's CARD OF 'laws.FnExactJoinComplexes'. -/
def fnExactJoinComplexesUptoCard : Claim7 := { stood := { row := fnExactJoinComplexesUptoRow, standIns := [], harness := (true, "d0fb764130f84a4c08a7547bae3b5bbdcab2eda7517136d7e82ba9f606b2e1fb"), looks := false }, kinds := [], alts := [], laidByText := true, laidKinds := [.data, .data, .data], laidTests := true, laidLooks := .later }
def FnExactJoinComplexesUptoCardSaid : Prop := Claim7.holds Tryz.pinned (.plain (OpenSpec.upto fnExactJoinComplexesSpec)) fnExactJoinComplexesUptoCard

/-- THE SECOND FORM's CARD OF 'laws.FnExactSuspensionOf'. -/
def fnExactSuspensionOfUptoCard : Claim7 := { stood := { row := fnExactSuspensionOfUptoRow, standIns := [], harness := (true, "d0fb764130f84a4c08a7547bae3b5bbdcab2eda7517136d7e82ba9f606b2e1fb"), looks := false }, kinds := [], alts := [], laidByText := true, laidKinds := [.data, .data, .data], laidTests := true, laidLooks := .later }
def FnExactSuspensionOfUptoCardSaid : Prop := Claim7.holds Tryz.pinned (.plain (OpenSpec.upto fnExactSuspensionOfSpec)) fnExactSuspensionOfUptoCard
end Rows
end Go.Proofs.YtgdijhchndjhlaaGreatDoor
