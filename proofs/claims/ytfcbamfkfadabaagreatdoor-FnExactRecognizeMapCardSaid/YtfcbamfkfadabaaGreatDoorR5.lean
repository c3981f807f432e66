/- Texts that belong together. -/
import Derived.Test.YtfcbamfkfadabaaGreatDoorR4
set_option linter.unusedSimpArgs false
set_option linter.unusedVariables false
set_option maxRecDepth 100000
namespace Go.Gov
def u8s (bs : List Int) : List AV := bs.map fun b => .val (.int .u8 b)
theorem getD_u8s (xs : List Int) (i : Nat) : (u8s xs).getD i (.val (.int .u8 0)) = .val (.int .u8 (xs.getD i 0)) := by
 simp only [u8s, List.getD_eq_getElem?_getD, List.getElem?_map]
 cases xs[i]? <;> rfl
theorem plain_u8s (xs : List Int) (i : Nat) : plainC ((u8s xs).getD i .any) = true := by
 simp only [u8s, List.getD_eq_getElem?_getD, List.getElem?_map]
 cases xs[i]? <;> rfl
attribute [go_sem] getD_u8s plain_u8s
end Go.Gov
namespace Go.Proofs.YtfcbamfkfadabaaGreatDoor
section
open Go.Gov Go.Ce
open Classical
structure Byt (bs : List Int) : Prop where
 few : bs.length ≤ 1048576
 by8 : ∀ k, k < bs.length → 0 ≤ bs.getD k 0 ∧ bs.getD k 0 ≤ 255
end
section
open Go.Gov Go.Ce
open Classical
theorem Ref.row {n0 : Nat} {F : Gov.Frame} {H : Gov.Heap} (o o2 : Nat) {L : List (List Int)} {x : List Int} {n k : Nat} (ho : H[o]? = some (some ((L.map oints).take k ++ [.sl o2 1 0 n]))) (hk : L.length = k) (h2 : H[o2]? = some (some (intsC x))) (hn : x.length = n) (hne : o ≠ o2) :
    Ref n0 F H F ((H.set o (some ((L ++ [x]).map oints))).set o2 none) := by
 subst hk hn
 have e : (L.map oints).take L.length = L.map oints := List.take_of_length_le (by simp)
 rw [e] at ho
 have r := Ref.close (n0 := n0) (F := F) o L.length o2 (k := 1) (n := x.length) ho (by rw [List.getElem?_append_right (by simp)]; simp) h2 hne (by simp [len_intsC])
 have hs : (L.map oints ++ [AV.sl o2 1 0 x.length]).set L.length (.osl 1 x.length (intsC x)) = (L ++ [x]).map oints := by
  rw [List.set_append_right _ _ (by simp)]; simp [oints]
 rw [hs] at r
 exact r
end
end Go.Proofs.YtfcbamfkfadabaaGreatDoor
