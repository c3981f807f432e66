/- Texts that belong together. -/
import Derived.Deep.SlicePairs
import Derived.Test.YtfcbamfkfadabaaGreatDoorZm
import Derived.Test.YtfcbamfkfadabaaGreatDoorZp
import Derived.Test.YtfcbamfkfadabaaGreatDoorZx
set_option linter.unusedSimpArgs false
set_option linter.unusedVariables false
set_option maxRecDepth 100000
namespace Go.Proofs.YtfcbamfkfadabaaGreatDoor
open Go.Gov
open Classical
def apV (M : List (List Int)) (T : List (List Tg)) (i f j : Nat) : Int := (if 0 ≤ (tg T j i).2 then (M.getD (tg T j i).2.toNat []).getD f 0 else (f : Int)) * T.length + (tg T j i).1
def apR (M : List (List Int)) (T : List (List Tg)) (i f m : Nat) : List Int := (List.range m).map fun j => apV M T i f j
def apF (M : List (List Int)) (T : List (List Tg)) (i k : Nat) : List Int := (List.range k).flatMap fun f => apR M T i f T.length
def apM (M : List (List Int)) (T : List (List Tg)) (k : Nat) : List (List Int) := (List.range k).map fun i => apF M T i (fl M)
theorem apR_succ (M : List (List Int)) (T : List (List Tg)) (i f m : Nat) : apR M T i f (m + 1) = apR M T i f m ++ [apV M T i f m] := by simp [apR, List.range_succ]
theorem apF_succ (M : List (List Int)) (T : List (List Tg)) (i k : Nat) : apF M T i (k + 1) = apF M T i k ++ apR M T i k T.length := by simp [apF, List.range_succ]
theorem apM_succ (M : List (List Int)) (T : List (List Tg)) (k : Nat) : apM M T (k + 1) = apM M T k ++ [apF M T k (fl M)] := by simp [apM, List.range_succ]
theorem apR_len (M : List (List Int)) (T : List (List Tg)) (i f m : Nat) : (apR M T i f m).length = m := by simp [apR]
theorem apF_len (M : List (List Int)) (T : List (List Tg)) (i : Nat) : ∀ k, (apF M T i k).length = k * T.length
 | 0 => by simp [apF]
 | k + 1 => by rw [apF_succ, List.length_append, apF_len M T i k, apR_len, Nat.add_mul]; omega
theorem apM_len (M : List (List Int)) (T : List (List Tg)) (k : Nat) : (apM M T k).length = k := by simp [apM]
end Go.Proofs.YtfcbamfkfadabaaGreatDoor
