/- Texts that belong together. -/
import Derived.Test.YtcmahhfjpgoceaaGreatZm
import Derived.Test.YtcmahhfjpgoceaaGreatZn
import Derived.Test.YtcmahhfjpgoceaaGreatR7
import Derived.Test.YtcmahhfjpgoceaaGreatRa
set_option linter.unusedSimpArgs false
set_option linter.unusedVariables false
set_option maxRecDepth 100000
namespace Go.Proofs.YtcmahhfjpgoceaaGreat
open Go.Gov
open Classical

theorem big_c (bs : List Int) (hl : bs.length ≤ 9223372036854775807) : Pure Tryz.prog 6 [bytA' bs] (bl (decide (4096 < (bs.length : Int)))) [] := by
  unfold bytA'
  refine pureV0 ok6 rfl rfl ?_; unfold c6
  (refine RN ?_; try with_reducible exact trivial)
  try rfl
theorem flags9_c (M : List (List Int)) (h1 : 1 ≤ M.length) (hl : M.length ≤ 1048576) (hr : ∀ p ∈ M, p.length ≤ 1048576) : Pure Tryz.prog 15 [maniA M] (i64 (fl M)) [] := by
  have h2 : (M.getD 0 []).length ≤ 1048576 := hr _ (by simp [show 0 < M.length from h1])
  unfold fl
  refine pureRV ok15 rfl ?_; unfold c15
  refine RN ?_
  intro _
  refine RN ?_
  exact Ref.gc [] rfl (by simp only [go_sem, ↓reduceIte, Nat.reduceEqDiff, Nat.reduceAdd, reduceCtorEq] <;> rfl) (by simp [sub, fget, go_sem, ↓reduceIte, Nat.reduceEqDiff, Nat.reduceAdd, reduceCtorEq])
theorem likeInts_c (xs ys : List Int) (hx : xs.length ≤ 1048576) (hy : ys.length ≤ 1048576) : Pure Tryz.prog 10 [ints xs, ints ys] (bl (decide (xs = ys))) [] := by
  refine pureV ok10 rfl ?_; unfold c10
  refine RN ?_
  refine ⟨fun hc => ?_, fun hc => ?_⟩
  · (refine RN ?_; try with_reducible exact trivial)
    rw [decide_eq_false (fun h => hc (by rw [h]))]
  · have hl : xs.length = ys.length := by omega
    refine RN ?_
    refine V_loop (α := Nat) (S := fun i => ([(0, ints xs), (1, ints ys), (5, i64 i)], [])) (C := fun i => i ≤ xs.length ∧ ∀ j, j < i → xs.getD j 0 = ys.getD j 0) (μ := fun i => xs.length - i) 0 ⟨by omega, by omega⟩ (by exact Ref.frame (by simp [sub, fget])) ?_
    rintro i ⟨hi, hall⟩
    refine RN ?_
    refine ⟨fun hc1 => ?_, fun hc1 => ?_⟩
    · (refine RN ?_; try with_reducible exact trivial)
      refine ⟨fun hc2 => ?_, fun hc2 => ?_⟩
      · (refine RN ?_; try with_reducible exact trivial)
        rw [decide_eq_false (fun h => hc2 (by rw [h]))]
      · (refine RN ?_; try with_reducible exact trivial)
        refine ⟨i + 1, ⟨by omega, fun j hj => ?_⟩, by omega, by exact Ref.frame (by simp [sub, fget])⟩
        rcases Nat.lt_or_ge j i with h | h
        · exact hall j h
        · obtain rfl : j = i := by omega
          simpa using hc2
    · (refine RN ?_; try with_reducible exact trivial)
      rw [decide_eq_true]
      refine List.ext_getElem hl fun j h1 h2 => ?_
      have := hall j (by omega)
      simpa [h1, h2] using this
end Go.Proofs.YtcmahhfjpgoceaaGreat
