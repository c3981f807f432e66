/- Texts that belong together. -/
import Derived.Test.YtdgcpjfffpkhkaaDoorZj
set_option linter.unusedSimpArgs false
set_option linter.unusedVariables false
set_option maxRecDepth 100000
namespace Go.Proofs.YtdgcpjfffpkhkaaDoor
open Go.Gov

def altN (xs : List Int) : Nat → Int
  | 0 => 0
  | i + 1 => if i % 2 = 0 then altN xs i + xs.getD i 0 else altN xs i - xs.getD i 0
theorem altN_bound {xs : List Int} (hb : ∀ i, 0 ≤ xs.getD i 0 ∧ xs.getD i 0 ≤ 1048576) : ∀ i : Nat, -(1048576 * i : Int) ≤ altN xs i ∧ altN xs i ≤ 1048576 * i
  | 0 => by simp [altN]
  | i + 1 => by
    have := altN_bound hb i
    have := hb i
    simp only [altN]
    split <;> omega

theorem eulerOf_c (xs : List Int) (hl : xs.length ≤ 1048576) (hb : ∀ i, 0 ≤ xs.getD i 0 ∧ xs.getD i 0 ≤ 1048576) : Pure Tryd.prog 43 [ints xs] (i64 (altN xs xs.length)) [] := by
  refine pureV ok43 rfl ?_; unfold c43
  (repeat first | simp only [go_sem, ↓reduceIte, Nat.reduceEqDiff, Nat.reduceAdd, reduceCtorEq] | with_reducible refine V_W ?_ | (with_reducible refine And.intro ?_ ?_; focus first | assumption | omega | decide | grind) | (with_reducible refine Br.mk ?_ ?_; focus (intros; omega)) | decide)
  refine V_loop (α := Nat) (S := fun x => ([(3, i64 (altN xs x)), (6, ints xs), (7, i64 xs.length), (8, i64 x)], [])) (C := fun x => x ≤ xs.length) (μ := fun x => xs.length - x) 0 (by omega) (by simp only [altN]; exact Ref.frame (by simp [sub, fget])) ?_
  intro x hx
  have h1 := altN_bound hb x
  have h2 := hb x
  (repeat first | simp only [go_sem, ↓reduceIte, Nat.reduceEqDiff, Nat.reduceAdd, reduceCtorEq] | with_reducible refine V_W ?_ | (with_reducible refine And.intro ?_ ?_; focus first | assumption | omega | decide | grind) | (with_reducible refine Br.mk ?_ ?_; focus (intros; omega)) | decide)
  refine ⟨fun hc1 => ?_, fun hc1 => ?_⟩
  · (repeat first | simp only [go_sem, ↓reduceIte, Nat.reduceEqDiff, Nat.reduceAdd, reduceCtorEq] | with_reducible refine V_W ?_ | (with_reducible refine And.intro ?_ ?_; focus first | assumption | omega | decide | grind) | (with_reducible refine Br.mk ?_ ?_; focus (intros; omega)) | decide)
    refine ⟨fun hc2 => ?_, fun hc2 => ?_⟩
    · (repeat first | simp only [go_sem, ↓reduceIte, Nat.reduceEqDiff, Nat.reduceAdd, reduceCtorEq] | with_reducible refine V_W ?_ | (with_reducible refine And.intro ?_ ?_; focus first | assumption | omega | decide | grind) | (with_reducible refine Br.mk ?_ ?_; focus (intros; omega)) | decide)
      refine ⟨x + 1, by omega, by omega, ?_⟩
      have e : x % 2 = 0 := by
        rw [Int.tmod_eq_emod_of_nonneg (by omega)] at hc2
        omega
      simp only [altN, e, if_true]
      exact Ref.frame (by simp [sub, fget])
    · (repeat first | simp only [go_sem, ↓reduceIte, Nat.reduceEqDiff, Nat.reduceAdd, reduceCtorEq] | with_reducible refine V_W ?_ | (with_reducible refine And.intro ?_ ?_; focus first | assumption | omega | decide | grind) | (with_reducible refine Br.mk ?_ ?_; focus (intros; omega)) | decide)
      refine ⟨x + 1, by omega, by omega, ?_⟩
      have e : ¬ x % 2 = 0 := by
        rw [Int.tmod_eq_emod_of_nonneg (by omega)] at hc2
        omega
      simp only [altN, if_neg e]
      exact Ref.frame (by simp [sub, fget])
  · (repeat first | simp only [go_sem, ↓reduceIte, Nat.reduceEqDiff, Nat.reduceAdd, reduceCtorEq] | with_reducible refine V_W ?_ | (with_reducible refine And.intro ?_ ?_; focus first | assumption | omega | decide | grind) | (with_reducible refine Br.mk ?_ ?_; focus (intros; omega)) | decide)
    rw [show x = xs.length by omega]


end Go.Proofs.YtdgcpjfffpkhkaaDoor
