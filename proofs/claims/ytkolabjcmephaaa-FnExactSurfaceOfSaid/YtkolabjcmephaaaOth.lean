/- All rows but one. -/
import Derived.Test.YtkolabjcmephaaaDel
import Derived.Test.YtkolabjcmephaaaOr2
set_option linter.unusedSimpArgs false
set_option linter.unusedVariables false
set_option maxRecDepth 100000
namespace Go.Proofs.Ytkolabjcmephaaa
open Go.Gov

abbrev maniA (M : List (List Int)) : AV := .agg [mat M]
abbrev maniP (M : List (List Int)) : AV := .pto [mat M] 0

/-- Of the first k rows all but that at place i. -/
def oth (M : List (List Int)) (i k : Nat) : List (List Int) := (M.take k).take i ++ (M.take k).drop (i + 1)
theorem oth_len {M : List (List Int)} {i k : Nat} (hk : k ≤ M.length) : (oth M i k).length = if i < k then k - 1 else k := by
  unfold oth
  simp only [List.length_append, List.length_take, List.length_drop]
  split <;> omega
theorem oth_step {M : List (List Int)} {i k : Nat} (hk : k < M.length) : oth M i (k + 1) = oth M i k ++ if k = i then [] else [M.getD k []] := by
  have e : M.take (k + 1) = M.take k ++ [M.getD k []] := by rw [List.take_succ_eq_append_getElem hk]; simp [hk]
  have hl : (M.take k).length = k := by simp; omega
  unfold oth
  rw [e]
  rcases Nat.lt_trichotomy k i with h | h | h
  · rw [if_neg (by omega), List.take_of_length_le (by simp; omega), List.drop_of_length_le (by simp; omega), List.take_of_length_le (l := M.take k) (by simp; omega), List.drop_of_length_le (l := M.take k) (by simp; omega)]
    simp
  · subst h
    rw [if_pos rfl, List.take_append_of_le_length (by omega), List.drop_of_length_le (by simp; omega), List.drop_of_length_le (l := M.take k) (by omega)]
    simp
  · rw [if_neg (by omega), List.take_append_of_le_length (by omega), List.drop_append_of_le_length (by omega), List.append_assoc]
theorem oth_mem {M : List (List Int)} {i k : Nat} {p : List Int} (h : p ∈ oth M i k) : p ∈ M := by
  unfold oth at h
  rcases List.mem_append.1 h with h | h
  · exact List.mem_of_mem_take (List.mem_of_mem_take h)
  · exact List.mem_of_mem_take (List.mem_of_mem_drop h)
theorem MvOk.oth {n : Nat} {M : List (List Int)} (h : MvOk n M) (i k : Nat) : MvOk n (oth M i k) := fun p hp => h p (oth_mem hp)
theorem one_row (r : List Int) (M : List (List Int)) : M.map ints ++ [ints r] = (M ++ [r]).map ints := by simp

set_option maxHeartbeats 2000000 in
theorem l02Others_c (M : List (List Int)) (i : Int) (hl : M.length ≤ 1048576) (hi : 0 ≤ i) : Pure Try.prog 80 [maniA M, ints [i]] (.sl 0 1 0 (oth M i.toNat M.length).length) [some ((oth M i.toNat M.length).map ints)] := by
  refine pureVg [1] ok80 rfl ?_; unfold c80
  (repeat first | simp only [go_sem, ↓reduceIte, Nat.reduceEqDiff, Nat.reduceAdd, reduceCtorEq] | (with_reducible refine And.intro ?_ ?_; focus first | omega | decide | grind) | (with_reducible refine Br.mk ?_ ?_; focus (intros; omega)) | decide)
  refine V_loop (α := Nat) (S := fun k => ([(1, ints [i]), (2, .ref 0 0), (5, .sl 1 1 0 (oth M i.toNat k).length), (6, i64 k)], [some [mat M], some ((oth M i.toNat k).map ints)])) (C := fun k => k ≤ M.length) (μ := fun k => M.length - k) 0 (by omega) (Ref.to (by simp [oth]) (by simp [sub, fget, oth])) ?_
  intro k hk
  have hol := oth_len (i := i.toNat) hk
  have hol2 : (oth M i.toNat k).length ≤ k := by rw [hol]; split <;> omega
  (repeat first | simp only [go_sem, ↓reduceIte, Nat.reduceEqDiff, Nat.reduceAdd, reduceCtorEq] | (with_reducible refine And.intro ?_ ?_; focus first | omega | decide | grind) | (with_reducible refine Br.mk ?_ ?_; focus (intros; omega)) | decide)
  refine ⟨fun hc => ?_, fun hc => ?_⟩
  · have hk' : k < M.length := by omega
    have hst := oth_step (i := i.toNat) hk'
    (repeat first | simp only [go_sem, ↓reduceIte, Nat.reduceEqDiff, Nat.reduceAdd, reduceCtorEq] | (with_reducible refine And.intro ?_ ?_; focus first | omega | decide | grind) | (with_reducible refine Br.mk ?_ ?_; focus (intros; omega)) | decide)
    refine pureC (l01Has_c [i] k (by simp)) (by simp only [go_sem, ↓reduceIte, Nat.reduceEqDiff, Nat.reduceAdd, reduceCtorEq] <;> rfl) (by first | rfl | simp only [go_sem, ↓reduceIte, Nat.reduceEqDiff, Nat.reduceAdd, reduceCtorEq]) ?_
    (repeat first | simp only [go_sem, ↓reduceIte, Nat.reduceEqDiff, Nat.reduceAdd, reduceCtorEq] | (with_reducible refine And.intro ?_ ?_; focus first | omega | decide | grind) | (with_reducible refine Br.mk ?_ ?_; focus (intros; omega)) | decide)
    refine ⟨fun hc1 => ?_, fun hc1 => ?_⟩
    · have hne : ¬ k = i.toNat := by (try simp at hc1); omega
      rw [if_neg hne] at hst
      (repeat first | simp only [go_sem, ↓reduceIte, Nat.reduceEqDiff, Nat.reduceAdd, reduceCtorEq] | (with_reducible refine And.intro ?_ ?_; focus first | omega | decide | grind) | (with_reducible refine Br.mk ?_ ?_; focus (intros; omega)) | decide)
      refine ⟨k + 1, by omega, by omega, ?_⟩
      rw [hst]
      refine Ref.gc [0, 3] rfl ?_ (by simp [sub, fget, go_sem, ↓reduceIte, Nat.reduceEqDiff, Nat.reduceAdd, reduceCtorEq])
      have e1 : ((oth M i.toNat k).map ints).take (oth M i.toNat k).length = (oth M i.toNat k).map ints := List.take_of_length_le (by simp)
      (try simp only [go_sem, ↓reduceIte, Nat.reduceEqDiff, Nat.reduceAdd, reduceCtorEq, e1, one_row])
    · have he : k = i.toNat := by (try simp at hc1); omega
      rw [if_pos he, List.append_nil] at hst
      (repeat first | simp only [go_sem, ↓reduceIte, Nat.reduceEqDiff, Nat.reduceAdd, reduceCtorEq] | (with_reducible refine And.intro ?_ ?_; focus first | omega | decide | grind) | (with_reducible refine Br.mk ?_ ?_; focus (intros; omega)) | decide)
      refine ⟨k + 1, by omega, by omega, ?_⟩
      rw [hst]
      exact Ref.frame (by simp [sub, fget])
  · obtain rfl : k = M.length := by omega
    (repeat first | simp only [go_sem, ↓reduceIte, Nat.reduceEqDiff, Nat.reduceAdd, reduceCtorEq] | (with_reducible refine And.intro ?_ ?_; focus first | omega | decide | grind) | (with_reducible refine Br.mk ?_ ?_; focus (intros; omega)) | decide)
    (try simp only [go_sem, ↓reduceIte, Nat.reduceEqDiff, Nat.reduceAdd, reduceCtorEq, and_self])

end Go.Proofs.Ytkolabjcmephaaa
