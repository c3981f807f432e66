/- Texts that belong together. -/
import Derived.Test.YtcmahhfjpgoceaaGreatRb
import Derived.Test.YtcmahhfjpgoceaaGreatRi
import Derived.Test.YtcmahhfjpgoceaaGreatRj
set_option linter.unusedSimpArgs false
set_option linter.unusedVariables false
set_option maxRecDepth 100000
namespace Go.Proofs.YtcmahhfjpgoceaaGreat
open Go.Gov
open Classical

theorem sum_take_b {xs : List Int} {B : Int} (hB : 0 ≤ B) (hb : ∀ x ∈ xs, 0 ≤ x ∧ x ≤ B) : ∀ k : Nat, 0 ≤ (xs.take k).sum ∧ (xs.take k).sum ≤ B * k
  | 0 => by simp
  | k + 1 => by
    obtain ⟨h1, h2⟩ := sum_take_b hB hb k
    have e : B * ((k + 1 : Nat) : Int) = B * k + B := by rw [Int.natCast_add, Int.mul_add]; simp
    by_cases hk : k < xs.length
    · rw [List.take_succ_eq_append_getElem hk, List.sum_append]
      have := hb _ (List.getElem_mem hk)
      simp only [List.sum_cons, List.sum_nil]
      omega
    · rw [List.take_of_length_le (by omega)]
      rw [List.take_of_length_le (by omega)] at h1 h2
      omega
theorem sum_c (xs : List Int) (hl : xs.length ≤ 1048576) (hb : ∀ x ∈ xs, 0 ≤ x ∧ x ≤ 1048576) : Pure Tryz.prog 16 [ints xs] (i64 xs.sum) [] := by
  refine pureRV ok16 rfl ?_; unfold c16
  refine RN ?_
  refine V_loop (α := Nat) (S := fun i => ([(0, ints xs), (3, i64 (xs.take i).sum), (4, i64 (i : Int))], [])) (C := fun i => i ≤ xs.length) (μ := fun i => xs.length - i) 0 (Nat.zero_le _) (Ref.to rfl (by simp [sub, fget])) ?_
  intro i hi
  obtain ⟨s1, s2⟩ := sum_take_b (by decide) hb i
  refine RN ?_
  refine ⟨fun hc => ?_, fun hc => ?_⟩
  · have hil : i < xs.length := by omega
    have hx := hb (xs.getD i 0) (by simp [hil])
    have hs : (xs.take (i + 1)).sum = (xs.take i).sum + xs.getD i 0 := by rw [List.take_succ_eq_append_getElem hil, List.sum_append]; simp [hil]
    refine RN ?_
    refine ⟨i + 1, by omega, by omega, ?_⟩
    rw [hs]
    exact Ref.to rfl (by simp [sub, fget])
  · obtain rfl : i = xs.length := by omega
    rw [List.take_length]
    refine RN ?_
    exact Ref.gc [] rfl (by simp only [go_sem, ↓reduceIte, Nat.reduceEqDiff, Nat.reduceAdd, reduceCtorEq] <;> rfl) (by simp [sub, fget, go_sem, ↓reduceIte, Nat.reduceEqDiff, Nat.reduceAdd, reduceCtorEq])
theorem hasRank_c (M : List (List Int)) (i : Int) (hl : M.length ≤ 1048576) : Pure Tryz.prog 54 [maniP M, i64 i] (bl (decide (0 ≤ i) && decide (i ≤ (M.length : Int) - 1))) [] := by
  have hr := rank_c M (by omega)
  refine pureV ok54 rfl ?_; unfold c54
  refine RN ?_
  refine pureC1 (hr) ?_
  refine RN ?_
  refine pureC1 (within_c i 0 ((M.length : Int) - 1)) ?_
  (refine RN ?_; try with_reducible exact trivial)
theorem faceSizes_y (M : List (List Int)) (h : IsMap M) : Pure Tryz.prog 11 [maniA M] (.tup [.sl 0 1 0 (ncnt (oth M 2 M.length) (fl M)), i64 0]) [some (intsC (clV M 2))] := by
  have h3 := h.2
  have hf := h.1.f4
  have hS := sizesOf_c (fl M) M 2 h.1.mv (by omega) rfl (by omega) (by omega)
  have hm := isMap_c M (by omega) (fun p hp => by
    obtain ⟨k, hk, rfl⟩ := List.mem_iff_getElem.1 hp
    have h1 := (h.1.rows k hk).1
    rw [show M.getD k [] = M[k] by simp [hk]] at h1
    omega)
  rw [decide_eq_true h] at hm
  simp only [Int.cast_ofNat_Int] at hS
  refine pureRV ok11 rfl ?_; unfold c11
  refine RN ?_
  refine pureC1 (hm) ?_
  refine RN ?_
  refine pureC1 (hS) ?_
  refine RN ?_
  exact Ref.gc [1] rfl (by simp only [go_sem, ↓reduceIte, Nat.reduceEqDiff, Nat.reduceAdd, reduceCtorEq] <;> rfl) (by simp [sub, fget, go_sem, ↓reduceIte, Nat.reduceEqDiff, Nat.reduceAdd, reduceCtorEq])
theorem faceLabels_y (M : List (List Int)) (h : IsMap M) : Pure Tryz.prog 13 [maniA M, i64 0] (.tup [.sl 0 1 0 (fl M), i64 0]) [some (intsC (labs (fl M) (oth M 0 M.length)))] := by
  have h3 := h.2
  have hf := h.1.f4
  have hm := isManiplex_c M (by omega) (fun p hp => by
    obtain ⟨k, hk, rfl⟩ := List.mem_iff_getElem.1 hp
    have h1 := (h.1.rows k hk).1
    rw [show M.getD k [] = M[k] by simp [hk]] at h1
    omega)
  rw [decide_eq_true h.1] at hm
  have hr := hasRank_c M 0 (by omega)
  have hF := faces_c (fl M) M 0 h.1.mv (by omega) rfl (by omega) (by omega)
  simp only [Int.cast_ofNat_Int] at hF
  rw [h3, show (decide ((0 : Int) ≤ 0) && decide ((0 : Int) ≤ ((3 : Nat) : Int) - 1)) = true from rfl] at hr
  refine pureRV ok13 rfl ?_; unfold c13
  refine RN ?_
  refine pureC1 (hm) ?_
  refine RN ?_
  refine pureC1 (hr) ?_
  refine RN ?_
  refine pureC1 (hF) ?_
  refine RN ?_
  exact Ref.gc [1] rfl (by simp only [go_sem, ↓reduceIte, Nat.reduceEqDiff, Nat.reduceAdd, reduceCtorEq] <;> rfl) (by simp [sub, fget, go_sem, ↓reduceIte, Nat.reduceEqDiff, Nat.reduceAdd, reduceCtorEq])
set_option maxHeartbeats 2000000 in
theorem drawSymbolAt_e (bs : List Int) (hb : Byt bs) : PureE Tryz.prog 7 [bytA' bs] (fun o : List (List Int) × Int => Gd 401 o.1 ∧ -1 ≤ o.2 ∧ o.2 ≤ 50) (fun o => .tup [maniA o.1, i64 o.2]) (fun _ => []) := by
  have hl := l01From_p bs hb
  unfold bytA' at *
  refine pureREV ok7 rfl ?_; unfold c7
  refine RN ?_
  refine pureEG hl (by simp only [bytA', go_sem, ↓reduceIte, Nat.reduceEqDiff, Nat.reduceAdd, reduceCtorEq]) fun o ho => ?_
  refine RN ?_
  have hd := l14Draw_w bs hb 0 o (Nat.zero_le _) 48 (by decide) (by decide)
  simp only [Int.cast_ofNat_Int] at hd
  refine wriEF (hd) [1] (by first | rfl | simp) (by simp only [go_sem, ↓reduceIte, Nat.reduceEqDiff, Nat.reduceAdd, reduceCtorEq] <;> rfl) (by simp only [go_sem, ↓reduceIte, Nat.reduceEqDiff, Nat.reduceAdd, reduceCtorEq] <;> rfl) fun o ho => ?_
  obtain ⟨a2, b2, M⟩ := o
  obtain ⟨g1, g2⟩ := ho
  dsimp only at g1 g2
  refine RN ?_
  refine V_alts (show LT _ _ _ _ _ _ from ?_)
  repeat' first
    | simp only [go_sem, ↓reduceIte, Nat.reduceEqDiff, Nat.reduceAdd, reduceCtorEq]
    | with_reducible refine LT_reg ?_
    | with_reducible refine LT_fin ?_
    | with_reducible exact LT_tt
    | with_reducible refine LT_alt ?_ ?_
    | (with_reducible refine And.intro ?_ ?_; focus first | assumption | omega | grind)
    | ((refine wriEF (l01Next_w bs hb a2 b2 g1 50) [1] ?_ ?_ ?_ ?_; (focus first | rfl | simp); (focus (simp only [go_sem, ↓reduceIte, Nat.reduceEqDiff, Nat.reduceAdd, reduceCtorEq] <;> rfl)); (focus (simp only [go_sem, ↓reduceIte, Nat.reduceEqDiff, Nat.reduceAdd, reduceCtorEq] <;> rfl)); intro o ho); obtain ⟨a5, b5, f⟩ := o; obtain ⟨p1, p2, p3⟩ := ho; dsimp only at p1 p2 p3)
  all_goals (refine RN ?_; try with_reducible exact trivial)
  all_goals exact ⟨(M, f - 1), ⟨g2, by dsimp only; omega, by dsimp only; omega⟩, Ref.gc [] rfl (by simp only [go_sem, ↓reduceIte, Nat.reduceEqDiff, Nat.reduceAdd, reduceCtorEq] <;> rfl) (by simp [sub, fget, go_sem, ↓reduceIte, Nat.reduceEqDiff, Nat.reduceAdd, reduceCtorEq])⟩
end Go.Proofs.YtcmahhfjpgoceaaGreat
