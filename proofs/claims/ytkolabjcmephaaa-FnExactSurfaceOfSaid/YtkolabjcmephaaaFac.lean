/- The faces of a rank: both sides. -/
import Derived.Test.YtkolabjcmephaaaOth
import Derived.Test.YtkolabjcmephaaaCodeF
set_option linter.unusedSimpArgs false
set_option linter.unusedVariables false
set_option maxRecDepth 100000
namespace Go.Proofs.Ytkolabjcmephaaa
open Go.Gov

theorem cloneRows_c (M : List (List Int)) (h0 : 0 < M.length) (hl : M.length ≤ 1048576) : Pure Try.prog 101 [mat M] (.sl 0 1 0 M.length) [some (M.map ints)] := by
  obtain ⟨r, R, rfl⟩ : ∃ r R, M = r :: R := by cases M with | nil => simp at h0 | cons r R => exact ⟨r, R, rfl⟩
  generalize hM : r :: R = M at *
  have hlen : M.length = R.length + 1 := by rw [← hM]; rfl
  refine pureVg [1] ok101 rfl ?_; unfold c101
  rw [show mat M = .slc 1 (R.length + 1) (M.map ints) by rw [mat, hlen]]
  have hn : ∀ H, nilOf H (.slc 1 (R.length + 1) (M.map ints)) = some false := fun _ => rfl
  (repeat first | simp only [go_sem, ↓reduceIte, Nat.reduceEqDiff, Nat.reduceAdd, reduceCtorEq] | (with_reducible refine And.intro ?_ ?_; focus first | omega | decide | grind) | (with_reducible refine Br.mk ?_ ?_; focus (intros; omega)) | decide)
  simp only [hn, Option.isSome_some, Option.getD_some, true_and]
  (repeat first | simp only [go_sem, ↓reduceIte, Nat.reduceEqDiff, Nat.reduceAdd, reduceCtorEq] | (with_reducible refine And.intro ?_ ?_; focus first | omega | decide | grind) | (with_reducible refine Br.mk ?_ ?_; focus (intros; omega)) | decide)
  refine ⟨by simp [plainC], by simp [oneA], ?_⟩
  (repeat first | simp only [go_sem, ↓reduceIte, Nat.reduceEqDiff, Nat.reduceAdd, reduceCtorEq] | (with_reducible refine And.intro ?_ ?_; focus first | omega | decide | grind) | (with_reducible refine Br.mk ?_ ?_; focus (intros; omega)) | decide)
  (try simp only [go_sem, ↓reduceIte, Nat.reduceEqDiff, Nat.reduceAdd, reduceCtorEq, and_self, and_true])
  rw [hlen]

theorem sizeRows_c (M : List (List Int)) (hl : M.length ≤ 1048576) : Pure Try.prog 102 [mat M] (i64 M.length) [] := by
  refine pureV ok102 rfl ?_; unfold c102
  (repeat first | simp only [go_sem, ↓reduceIte, Nat.reduceEqDiff, Nat.reduceAdd, reduceCtorEq] | (with_reducible refine And.intro ?_ ?_; focus first | omega | decide | grind) | (with_reducible refine Br.mk ?_ ?_; focus (intros; omega)) | decide)
theorem rank_c (M : List (List Int)) (hl : M.length ≤ 1048576) : Pure Try.prog 75 [maniP M] (i64 M.length) [] := by
  refine pureV ok75 rfl ?_; unfold c75
  (repeat first | simp only [go_sem, ↓reduceIte, Nat.reduceEqDiff, Nat.reduceAdd, reduceCtorEq] | (with_reducible refine And.intro ?_ ?_; focus first | omega | decide | grind) | (with_reducible refine Br.mk ?_ ?_; focus (intros; omega)) | decide)
  refine pureC (sizeRows_c M hl) (by simp only [go_sem, ↓reduceIte, Nat.reduceEqDiff, Nat.reduceAdd, reduceCtorEq] <;> rfl) (by first | rfl | simp only [go_sem, ↓reduceIte, Nat.reduceEqDiff, Nat.reduceAdd, reduceCtorEq]) ?_
  (repeat first | simp only [go_sem, ↓reduceIte, Nat.reduceEqDiff, Nat.reduceAdd, reduceCtorEq] | (with_reducible refine And.intro ?_ ?_; focus first | omega | decide | grind) | (with_reducible refine Br.mk ?_ ?_; focus (intros; omega)) | decide)
theorem flags_c (M : List (List Int)) (h0 : 0 < M.length) (hl : M.length ≤ 1048576) (hr : (M.getD 0 []).length ≤ 1048576) : Pure Try.prog 59 [maniP M] (i64 (M.getD 0 []).length) [] := by
  refine pureV ok59 rfl ?_; unfold c59
  (repeat first | simp only [go_sem, ↓reduceIte, Nat.reduceEqDiff, Nat.reduceAdd, reduceCtorEq] | (with_reducible refine And.intro ?_ ?_; focus first | omega | decide | grind) | (with_reducible refine Br.mk ?_ ?_; focus (intros; omega)) | decide)
  simp only [show Int.toNat 0 = 0 from rfl]
  refine pureC (size_c (M.getD 0 []) (by omega)) (by simp only [go_sem, ↓reduceIte, Nat.reduceEqDiff, Nat.reduceAdd, reduceCtorEq] <;> rfl) (by first | rfl | simp only [go_sem, ↓reduceIte, Nat.reduceEqDiff, Nat.reduceAdd, reduceCtorEq]) ?_
  (repeat first | simp only [go_sem, ↓reduceIte, Nat.reduceEqDiff, Nat.reduceAdd, reduceCtorEq] | (with_reducible refine And.intro ?_ ?_; focus first | omega | decide | grind) | (with_reducible refine Br.mk ?_ ?_; focus (intros; omega)) | decide)
theorem l02Flags_c (M : List (List Int)) (h0 : 0 < M.length) (hl : M.length ≤ 1048576) (hr : (M.getD 0 []).length ≤ 1048576) : Pure Try.prog 55 [maniA M] (i64 (M.getD 0 []).length) [] := by
  refine pureV0 ok55 rfl rfl ?_; unfold c55
  (repeat first | simp only [go_sem, ↓reduceIte, Nat.reduceEqDiff, Nat.reduceAdd, reduceCtorEq] | (with_reducible refine And.intro ?_ ?_; focus first | omega | decide | grind) | (with_reducible refine Br.mk ?_ ?_; focus (intros; omega)) | decide)
  rfl

theorem without_c (M : List (List Int)) (i : Nat) (hi : i < M.length) (hl : M.length ≤ 1048576) : Pure Try.prog 73 [maniP M, i64 i] (.sl 0 1 0 (oth M i M.length).length) [some ((oth M i M.length ++ [[]]).map ints)] := by
  have hol := oth_len (M := M) (i := i) (k := M.length) (Nat.le_refl _)
  rw [if_pos hi] at hol
  have hoe : M.take i ++ M.drop (i + 1) = oth M i M.length := by unfold oth; rw [List.take_length]
  refine pureVg [0] ok73 rfl ?_; unfold c73
  (repeat first | simp only [go_sem, ↓reduceIte, Nat.reduceEqDiff, Nat.reduceAdd, reduceCtorEq] | (with_reducible refine And.intro ?_ ?_; focus first | omega | decide | grind) | (with_reducible refine Br.mk ?_ ?_; focus (intros; omega)) | decide)
  refine call_pureG (cloneRows_c M (by omega) hl) (by simp only [go_sem, ↓reduceIte, Nat.reduceEqDiff, Nat.reduceAdd, reduceCtorEq] <;> rfl) ?_
  (repeat first | simp only [go_sem, ↓reduceIte, Nat.reduceEqDiff, Nat.reduceAdd, reduceCtorEq] | (with_reducible refine And.intro ?_ ?_; focus first | omega | decide | grind) | (with_reducible refine Br.mk ?_ ?_; focus (intros; omega)) | decide)
  refine delete_c rfl M i hi (by omega) rfl ?_
  rw [hoe, ← hol]
  (try simp only [go_sem, ↓reduceIte, Nat.reduceEqDiff, Nat.reduceAdd, reduceCtorEq])
  (repeat first | simp only [go_sem, ↓reduceIte, Nat.reduceEqDiff, Nat.reduceAdd, reduceCtorEq] | (with_reducible refine And.intro ?_ ?_; focus first | omega | decide | grind) | (with_reducible refine Br.mk ?_ ?_; focus (intros; omega)) | decide)
  (try simp only [go_sem, ↓reduceIte, Nat.reduceEqDiff, Nat.reduceAdd, reduceCtorEq, and_self])

end Go.Proofs.Ytkolabjcmephaaa
