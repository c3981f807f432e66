/- Texts that belong together. -/
import Derived.Test.YtfcbamfkfadabaaGreatZe
import Derived.Test.YtfcbamfkfadabaaGreatZt
import Derived.Test.YtfcbamfkfadabaaGreatZw
set_option linter.unusedSimpArgs false
set_option linter.unusedVariables false
set_option maxRecDepth 100000
namespace Go.Proofs.YtfcbamfkfadabaaGreat
open Go.Gov
open Classical

set_option maxHeartbeats 4000000 in
theorem commutes_c (T : List (List Tg)) (j : Nat) (hlt : j < T.length) (hlen : ∀ k, k < T.length → (T.getD k []).length = 3) (hl12 : T.length ≤ 12) (hok : ∀ k i, k < T.length → i < 3 → 0 ≤ (tg T k i).1 ∧ (tg T k i).1 ≤ (T.length : Int) - 1 ∧ -1 ≤ (tg T k i).2 ∧ (tg T k i).2 ≤ 2) : Pure Tryz.prog 58 [tplA T, i64 j] (bl (decide (TgCom T j))) [] := by
  refine pureV0 ok58 rfl rfl ?_; unfold c58
  have g1 := tmt_at T j hlt
  have g2 := tmt_any T j hlt
  have h3 := hlen j hlt
  obtain ⟨a1, a2, a3, a4⟩ := hok j 0 hlt (by omega)
  obtain ⟨b1, b2, b3, b4⟩ := hok j 2 hlt (by omega)
  have g30 := flt_two (T.getD j []) 0 (by omega)
  have g32 := flt_two (T.getD j []) 2 (by omega)
  rw [show (T.getD j []).getD 0 T0 = tg T j 0 from rfl] at g30
  rw [show (T.getD j []).getD 2 T0 = tg T j 2 from rfl] at g32
  generalize hx0 : tg T j 0 = x at *
  generalize hx2 : tg T j 2 = y at *
  rw [Nat.zero_mul, List.drop_zero] at g30
  refine RN ?_
  refine V_ref ((Ref.dead (F' := [(1, i64 j), (2, .pto [tmt T] 0)]) (by simp [sub, fget, frzF, go_sem, ↓reduceIte, Nat.reduceEqDiff, Nat.reduceAdd, reduceCtorEq])).trans (Ref.gc (F' := [(1, i64 j), (2, .pto [tmt T] 0)]) [] rfl rfl (by simp [sub, fget, go_sem, ↓reduceIte, Nat.reduceEqDiff, Nat.reduceAdd, reduceCtorEq]))) ?_
  refine RN ?_
  refine V_altsS [(1, i64 j), (2, .pto [tmt T] 0), (5, .pto [i64 x.1, i64 x.2] 0), (6, .pto [i64 y.1, i64 y.2] 0)] [] ?_ ?_
  · (repeat' first | simp only [go_sem, ↓reduceIte, Nat.reduceEqDiff, Nat.reduceAdd, reduceCtorEq] | with_reducible refine LT_reg ?_ | with_reducible refine LT_regz (by simp only [zAd_load, zAd_loads, zPt_pto, go_sem, ↓reduceIte, Nat.reduceEqDiff, Nat.reduceAdd, reduceCtorEq]) ?_ | with_reducible refine LT_fin ?_ | with_reducible exact LT_tt | with_reducible refine LT_alt ?_ ?_ | (with_reducible refine And.intro ?_ ?_; focus first | assumption | omega | grind))
    simp only [g1, go_sem, ↓reduceIte, Nat.reduceEqDiff, Nat.reduceAdd, reduceCtorEq]
    (repeat' first | simp only [go_sem, ↓reduceIte, Nat.reduceEqDiff, Nat.reduceAdd, reduceCtorEq] | with_reducible refine LT_reg ?_ | with_reducible refine LT_regz (by simp only [zAd_load, zAd_loads, zPt_pto, go_sem, ↓reduceIte, Nat.reduceEqDiff, Nat.reduceAdd, reduceCtorEq]) ?_ | with_reducible refine LT_fin ?_ | with_reducible exact LT_tt | with_reducible refine LT_alt ?_ ?_ | (with_reducible refine And.intro ?_ ?_; focus first | assumption | omega | grind))
    refine And.intro ⟨by rw [flt_len]; omega, by rw [g30]; rfl⟩ ?_
    simp only [g30, go_sem, ↓reduceIte, Nat.reduceEqDiff, Nat.reduceAdd, reduceCtorEq]
    (repeat' first | simp only [go_sem, ↓reduceIte, Nat.reduceEqDiff, Nat.reduceAdd, reduceCtorEq] | with_reducible refine LT_reg ?_ | with_reducible refine LT_regz (by simp only [zAd_load, zAd_loads, zPt_pto, go_sem, ↓reduceIte, Nat.reduceEqDiff, Nat.reduceAdd, reduceCtorEq]) ?_ | with_reducible refine LT_fin ?_ | with_reducible exact LT_tt | with_reducible refine LT_alt ?_ ?_ | (with_reducible refine And.intro ?_ ?_; focus first | assumption | omega | grind))
    simp only [g1, go_sem, ↓reduceIte, Nat.reduceEqDiff, Nat.reduceAdd, reduceCtorEq]
    (repeat' first | simp only [go_sem, ↓reduceIte, Nat.reduceEqDiff, Nat.reduceAdd, reduceCtorEq] | with_reducible refine LT_reg ?_ | with_reducible refine LT_regz (by simp only [zAd_load, zAd_loads, zPt_pto, go_sem, ↓reduceIte, Nat.reduceEqDiff, Nat.reduceAdd, reduceCtorEq]) ?_ | with_reducible refine LT_fin ?_ | with_reducible exact LT_tt | with_reducible refine LT_alt ?_ ?_ | (with_reducible refine And.intro ?_ ?_; focus first | assumption | omega | grind))
    refine And.intro ⟨by rw [flt_len]; omega, by rw [g32]; rfl⟩ ?_
    simp only [g32, go_sem, ↓reduceIte, Nat.reduceEqDiff, Nat.reduceAdd, reduceCtorEq]
    (repeat' first | simp only [go_sem, ↓reduceIte, Nat.reduceEqDiff, Nat.reduceAdd, reduceCtorEq] | with_reducible refine LT_reg ?_ | with_reducible refine LT_regz (by simp only [zAd_load, zAd_loads, zPt_pto, go_sem, ↓reduceIte, Nat.reduceEqDiff, Nat.reduceAdd, reduceCtorEq]) ?_ | with_reducible refine LT_fin ?_ | with_reducible exact LT_tt | with_reducible refine LT_alt ?_ ?_ | (with_reducible refine And.intro ?_ ?_; focus first | assumption | omega | grind))
    all_goals exact (Ref.dead (F' := [(1, i64 j), (2, .pto [tmt T] 0), (5, .pto [i64 x.1, i64 x.2] 0), (6, .pto [i64 y.1, i64 y.2] 0)]) (by simp [sub, fget, frzF, go_sem, ↓reduceIte, Nat.reduceEqDiff, Nat.reduceAdd, reduceCtorEq])).trans (Ref.gc [] rfl rfl (by simp [sub, fget, go_sem, ↓reduceIte, Nat.reduceEqDiff, Nat.reduceAdd, reduceCtorEq]))
  have hxt : x.1.toNat < T.length := by omega
  have hyt : y.1.toNat < T.length := by omega
  have m1 := tmt_at T x.1.toNat hxt
  have m2 := tmt_any T x.1.toNat hxt
  have m3 := tmt_at T y.1.toNat hyt
  have m4 := tmt_any T y.1.toNat hyt
  have l1 := hlen _ hxt
  have l2 := hlen _ hyt
  have k1 := flt_two (T.getD x.1.toNat []) 2 (by omega)
  have k2 := flt_two (T.getD y.1.toNat []) 0 (by omega)
  rw [Nat.zero_mul, List.drop_zero] at k2
  rw [show (T.getD x.1.toNat []).getD 2 T0 = tg T x.1.toNat 2 from rfl] at k1
  rw [show (T.getD y.1.toNat []).getD 0 T0 = tg T y.1.toNat 0 from rfl] at k2
  generalize hu : tg T x.1.toNat 2 = u at *
  generalize hv : tg T y.1.toNat 0 = v at *
  have hcm : TgCom T j ↔ (u.1 = v.1 ∧ u.2 = y.2 ∧ v.2 = x.2 ∧ Cmt x.2 y.2 ∧ ¬ (x.2 = y.2 ∧ u.1 = j)) := by
    unfold TgCom
    rw [hx0, hx2, hu, hv]
  unfold Cmt at hcm
  refine RN ?_
  refine V_altsS [(1, i64 j), (2, .pto [tmt T] 0), (5, .pto [i64 x.1, i64 x.2] 0), (6, .pto [i64 y.1, i64 y.2] 0), (7, .pto [i64 u.1, i64 u.2] 0), (8, .pto [i64 v.1, i64 v.2] 0)] [] ?_ ?_
  · (repeat' first | simp only [go_sem, ↓reduceIte, Nat.reduceEqDiff, Nat.reduceAdd, reduceCtorEq] | with_reducible refine LT_reg ?_ | with_reducible refine LT_regz (by simp only [zAd_load, zAd_loads, zPt_pto, go_sem, ↓reduceIte, Nat.reduceEqDiff, Nat.reduceAdd, reduceCtorEq]) ?_ | with_reducible refine LT_fin ?_ | with_reducible exact LT_tt | with_reducible refine LT_alt ?_ ?_ | (with_reducible refine And.intro ?_ ?_; focus first | assumption | omega | grind))
    simp only [m1, m2, go_sem, ↓reduceIte, Nat.reduceEqDiff, Nat.reduceAdd, reduceCtorEq]
    (repeat' first | simp only [go_sem, ↓reduceIte, Nat.reduceEqDiff, Nat.reduceAdd, reduceCtorEq] | with_reducible refine LT_reg ?_ | with_reducible refine LT_regz (by simp only [zAd_load, zAd_loads, zPt_pto, go_sem, ↓reduceIte, Nat.reduceEqDiff, Nat.reduceAdd, reduceCtorEq]) ?_ | with_reducible refine LT_fin ?_ | with_reducible exact LT_tt | with_reducible refine LT_alt ?_ ?_ | (with_reducible refine And.intro ?_ ?_; focus first | assumption | omega | grind))
    refine And.intro ⟨by rw [flt_len]; omega, by rw [k1]; rfl⟩ ?_
    simp only [k1, go_sem, ↓reduceIte, Nat.reduceEqDiff, Nat.reduceAdd, reduceCtorEq]
    (repeat' first | simp only [go_sem, ↓reduceIte, Nat.reduceEqDiff, Nat.reduceAdd, reduceCtorEq] | with_reducible refine LT_reg ?_ | with_reducible refine LT_regz (by simp only [zAd_load, zAd_loads, zPt_pto, go_sem, ↓reduceIte, Nat.reduceEqDiff, Nat.reduceAdd, reduceCtorEq]) ?_ | with_reducible refine LT_fin ?_ | with_reducible exact LT_tt | with_reducible refine LT_alt ?_ ?_ | (with_reducible refine And.intro ?_ ?_; focus first | assumption | omega | grind))
    simp only [m3, m4, go_sem, ↓reduceIte, Nat.reduceEqDiff, Nat.reduceAdd, reduceCtorEq]
    (repeat' first | simp only [go_sem, ↓reduceIte, Nat.reduceEqDiff, Nat.reduceAdd, reduceCtorEq] | with_reducible refine LT_reg ?_ | with_reducible refine LT_regz (by simp only [zAd_load, zAd_loads, zPt_pto, go_sem, ↓reduceIte, Nat.reduceEqDiff, Nat.reduceAdd, reduceCtorEq]) ?_ | with_reducible refine LT_fin ?_ | with_reducible exact LT_tt | with_reducible refine LT_alt ?_ ?_ | (with_reducible refine And.intro ?_ ?_; focus first | assumption | omega | grind))
    refine And.intro ⟨by rw [flt_len]; omega, by rw [k2]; rfl⟩ ?_
    simp only [k2, go_sem, ↓reduceIte, Nat.reduceEqDiff, Nat.reduceAdd, reduceCtorEq]
    (repeat' first | simp only [go_sem, ↓reduceIte, Nat.reduceEqDiff, Nat.reduceAdd, reduceCtorEq] | with_reducible refine LT_reg ?_ | with_reducible refine LT_regz (by simp only [zAd_load, zAd_loads, zPt_pto, go_sem, ↓reduceIte, Nat.reduceEqDiff, Nat.reduceAdd, reduceCtorEq]) ?_ | with_reducible refine LT_fin ?_ | with_reducible exact LT_tt | with_reducible refine LT_alt ?_ ?_ | (with_reducible refine And.intro ?_ ?_; focus first | assumption | omega | grind))
    all_goals exact (Ref.dead (F' := [(1, i64 j), (2, .pto [tmt T] 0), (5, .pto [i64 x.1, i64 x.2] 0), (6, .pto [i64 y.1, i64 y.2] 0), (7, .pto [i64 u.1, i64 u.2] 0), (8, .pto [i64 v.1, i64 v.2] 0)]) (by simp [sub, fget, frzF, go_sem, ↓reduceIte, Nat.reduceEqDiff, Nat.reduceAdd, reduceCtorEq])).trans (Ref.gc [] rfl rfl (by simp [sub, fget, go_sem, ↓reduceIte, Nat.reduceEqDiff, Nat.reduceAdd, reduceCtorEq]))
  refine RN ?_
  refine ⟨fun hc4 => ?_, fun hc4 => ?_⟩
  · (refine RN ?_; try with_reducible exact trivial)
    try simp only [go_sem, ↓reduceIte, Nat.reduceEqDiff, Nat.reduceAdd, reduceCtorEq] at hc4
    rw [decide_eq_false (fun h => ?_)]
    have hk := hcm.1 h
    grind
  · try simp only [go_sem, ↓reduceIte, Nat.reduceEqDiff, Nat.reduceAdd, reduceCtorEq] at hc4
    refine RN ?_
    refine ⟨fun hc5 => ?_, fun hc5 => ?_⟩
    · try simp only [go_sem, ↓reduceIte, Nat.reduceEqDiff, Nat.reduceAdd, reduceCtorEq] at hc5
      refine RN ?_
      refine congrArg (fun b => bl b) ?_
      rw [Bool.eq_iff_iff, decide_eq_true_iff, hcm]
      simp
      grind
    · try simp only [go_sem, ↓reduceIte, Nat.reduceEqDiff, Nat.reduceAdd, reduceCtorEq] at hc5
      refine RN ?_
      refine congrArg (fun b => bl b) ?_
      rw [Bool.eq_iff_iff, decide_eq_true_iff, hcm]
      simp
      grind
end Go.Proofs.YtfcbamfkfadabaaGreat
set_option maxRecDepth 100000
namespace Go.Proofs.YtfcbamfkfadabaaGreat
open Go.Gov
open Classical

theorem sizeT_c (T : List (List Tg)) (hl : T.length ≤ 1048576) : Pure Tryz.prog 29 [tmt T] (i64 T.length) [] := by
  refine pureV ok29 rfl ?_; unfold c29
  (refine RN ?_; try with_reducible exact trivial)

theorem isTemplate1_c (x : Tg) (n : Int) (h1 : 0 ≤ n) (h2 : n ≤ 1048576) : Pure Tryz.prog 57 [.agg [i64 x.1, i64 x.2], .pto [i64 n] 0] (bl (!(decide (0 ≤ x.1) && decide (x.1 ≤ n - 1)) || !(decide (-1 ≤ x.2) && decide (x.2 ≤ 2)))) [] := by
  refine pureV0 ok57 rfl rfl ?_; unfold c57
  refine RN ?_
  refine pureC1 (within_c x.1 0 (n - 1)) ?_
  refine RN ?_
  refine GC1 (bl (decide (-1 ≤ x.2) && decide (x.2 ≤ 2)) ) (fun hg =>  within_c x.2 (-1) 2) ?_
  (refine RN ?_; try with_reducible exact trivial)

def fidT (p : Tg → Bool) (l : List Tg) : Int := if l.any p then l.findIdx p else -1
theorem fidT_at {p : Tg → Bool} {l : List Tg} {i : Nat} (h : ∀ j, j < i → p (l.getD j T0) = false) (hi : i < l.length) (he : p (l.getD i T0) = true) : fidT p l = i := by
  have he' : p l[i] = true := by simpa [hi] using he
  unfold fidT
  rw [if_pos (List.any_eq_true.2 ⟨_, List.getElem_mem hi, he'⟩)]
  congr 1
  have h1 : l.findIdx p ≤ i := by
    rcases Nat.lt_or_ge i (l.findIdx p) with h2 | h2
    · have := List.not_of_lt_findIdx h2
      simp [he'] at this
    · exact h2
  rcases Nat.lt_or_ge (l.findIdx p) i with h2 | h2
  · have h3 := h _ h2
    have h4 : p l[l.findIdx p] = true := List.findIdx_getElem (w := by omega)
    simp [show l.findIdx p < l.length by omega, h4] at h3
  · omega
theorem fidT_no {p : Tg → Bool} {l : List Tg} (h : ∀ j, j < l.length → p (l.getD j T0) = false) : fidT p l = -1 := by
  unfold fidT
  rw [if_neg]
  intro ha
  obtain ⟨x, hx, hp⟩ := List.any_eq_true.1 ha
  obtain ⟨j, hj, rfl⟩ := List.mem_iff_getElem.1 hx
  have := h j hj
  simp [hj, hp] at this
theorem fidT_ge (p : Tg → Bool) (l : List Tg) : decide (0 ≤ fidT p l) = l.any p := by
  unfold fidT
  by_cases h : l.any p = true <;> simp [h]

theorem indexFuncT_c (l : List Tg) (f : FuncId) (cs : List AV) (p : Tg → Bool) (hl : l.length ≤ 1048576) (hf : ∀ x : Tg, Pure Tryz.prog f ([] ++ [.agg [i64 x.1, i64 x.2]] ++ cs) (bl (p x)) []) (hk : callable Tryz.prog f = true) (h2 : cs.map (frz [] 6) = cs) :
    Pure Tryz.prog 79 [tgs l, .clo f [] cs] (i64 (fidT p l)) [] := by
  refine pureV ok79 rfl ?_; unfold c79
  refine RN ?_
  refine V_loop (α := Nat) (S := fun i => ([(0, tgs l), (1, .clo f [] cs), (6, tgs l), (7, i64 l.length), (8, i64 i)], [])) (C := fun i => i ≤ l.length ∧ ∀ j, j < i → p (l.getD j T0) = false) (μ := fun i => l.length - i) 0 ⟨by omega, by omega⟩ (by exact Ref.frame (by simp [sub, fget])) ?_
  rintro i ⟨hi, hall⟩
  refine RN ?_
  refine ⟨fun hc => ?_, fun hc => ?_⟩
  · have g3 := flt_two l i (by omega)
    refine RN ?_
    refine And.intro ⟨by rw [flt_len]; omega, by rw [g3]; rfl⟩ ?_
    simp only [g3, go_sem, ↓reduceIte, Nat.reduceEqDiff, Nat.reduceAdd, reduceCtorEq]
    refine RN ?_
    refine call_pure (args := [] ++ [.agg [i64 (l.getD i T0).1, i64 (l.getD i T0).2]] ++ cs) (hf _) (by simp only [List.map_append, h2, go_sem, ↓reduceIte, Nat.reduceEqDiff, Nat.reduceAdd, reduceCtorEq]) rfl rfl ?_
    (try simp only [go_sem, ↓reduceIte, Nat.reduceEqDiff, Nat.reduceAdd, reduceCtorEq, go_sem, ↓reduceIte, Nat.reduceEqDiff, Nat.reduceAdd, reduceCtorEq])
    refine RN ?_
    refine ⟨fun hc2 => ?_, fun hc2 => ?_⟩
    · (refine RN ?_; try with_reducible exact trivial)
      rw [fidT_at hall (by omega) hc2]
    · (refine RN ?_; try with_reducible exact trivial)
      refine ⟨i + 1, ⟨by omega, fun j hj => ?_⟩, by omega, by exact Ref.frame (by simp [sub, fget])⟩
      rcases Nat.lt_or_ge j i with h | h
      · exact hall j h
      · obtain rfl : j = i := by omega
        exact hc2
  · (refine RN ?_; try with_reducible exact trivial)
    rw [fidT_no (fun j hj => hall j (by omega))]

theorem containsFuncT_c (l : List Tg) (f : FuncId) (cs : List AV) (p : Tg → Bool) (hl : l.length ≤ 1048576) (hf : ∀ x : Tg, Pure Tryz.prog f ([] ++ [.agg [i64 x.1, i64 x.2]] ++ cs) (bl (p x)) []) (hk : callable Tryz.prog f = true) (h2 : cs.map (frz [] 6) = cs) (h4 : cs.map (frz [] 5) = cs) :
    Pure Tryz.prog 56 [tgs l, .clo f [] cs] (bl (l.any p)) [] := by
  refine pureV ok56 rfl ?_; unfold c56
  refine RN ?_
  refine call_pure (indexFuncT_c l f cs p hl hf hk h2) (by simp only [h4, go_sem, ↓reduceIte, Nat.reduceEqDiff, Nat.reduceAdd, reduceCtorEq]) rfl rfl ?_
  (try simp only [go_sem, ↓reduceIte, Nat.reduceEqDiff, Nat.reduceAdd, reduceCtorEq, go_sem, ↓reduceIte, Nat.reduceEqDiff, Nat.reduceAdd, reduceCtorEq])
  refine RN ?_
  rw [fidT_ge]

def tgB (n : Int) (x : Tg) : Bool := !(decide (0 ≤ x.1) && decide (x.1 ≤ n - 1)) || !(decide (-1 ≤ x.2) && decide (x.2 ≤ 2))
theorem tgB_all {n : Int} {l : List Tg} (h : l.any (tgB n) = false) (i : Nat) (hi : i < l.length) : 0 ≤ (l.getD i T0).1 ∧ (l.getD i T0).1 ≤ n - 1 ∧ -1 ≤ (l.getD i T0).2 ∧ (l.getD i T0).2 ≤ 2 := by
  rw [List.any_eq_false] at h
  have := h l[i] (List.getElem_mem hi)
  rw [show l.getD i T0 = l[i] by simp [hi]]
  unfold tgB at this
  simp at this
  omega
theorem tgB_any {n : Int} {l : List Tg} (h : l.any (tgB n) = true) : ∃ i, i < l.length ∧ ¬ (0 ≤ (l.getD i T0).1 ∧ (l.getD i T0).1 ≤ n - 1 ∧ -1 ≤ (l.getD i T0).2 ∧ (l.getD i T0).2 ≤ 2) := by
  obtain ⟨x, hx, hp⟩ := List.any_eq_true.1 h
  obtain ⟨i, hi, rfl⟩ := List.mem_iff_getElem.1 hx
  refine ⟨i, hi, ?_⟩
  rw [show l.getD i T0 = l[i] by simp [hi]]
  unfold tgB at hp
  simp at hp
  omega

def TgR (T : List (List Tg)) (j i : Nat) : Prop := 0 ≤ (tg T j i).1 ∧ (tg T j i).1 ≤ (T.length : Int) - 1 ∧ -1 ≤ (tg T j i).2 ∧ (tg T j i).2 ≤ 2
set_option maxHeartbeats 4000000 in
theorem isTemplate_c (T : List (List Tg)) (hl : T.length ≤ 1048576) (hr : ∀ xs ∈ T, xs.length ≤ 1048576) : Pure Tryz.prog 27 [tplA T] (bl (decide (IsTpl T))) [] := by
  refine pureV0 ok27 rfl rfl ?_; unfold c27
  refine RN ?_
  refine pureC1 (sizeT_c T hl) ?_
  refine RN ?_
  refine pureC1 (within_c T.length 1 12) ?_
  refine RN ?_
  refine ⟨fun hc => ?_, fun hc => ?_⟩
  · (refine RN ?_; try with_reducible exact trivial)
    rw [decide_eq_false (fun h => ?_)]
    have h1 := h.p1; have h2 := h.p2
    try simp only [go_sem, ↓reduceIte, Nat.reduceEqDiff, Nat.reduceAdd, reduceCtorEq] at hc
    omega
  · try simp only [go_sem, ↓reduceIte, Nat.reduceEqDiff, Nat.reduceAdd, reduceCtorEq] at hc
    have hp1 : 1 ≤ T.length := by omega
    have hp2 : T.length ≤ 12 := by omega
    refine RN ?_
    refine V_ref ((Ref.dead (F' := [(1, .pto [tmt T] 0), (3, .pto [i64 T.length] 0), (18, tmt T), (19, i64 T.length), (20, i64 0)]) (by simp [sub, fget, frzF, go_sem, ↓reduceIte, Nat.reduceEqDiff, Nat.reduceAdd, reduceCtorEq])).trans (Ref.gc (F' := [(1, .pto [tmt T] 0), (3, .pto [i64 T.length] 0), (18, tmt T), (19, i64 T.length), (20, i64 0)]) [] rfl rfl (by simp [sub, fget, go_sem, ↓reduceIte, Nat.reduceEqDiff, Nat.reduceAdd, reduceCtorEq]))) ?_
    refine V_loop (α := Nat) (S := fun j => ([(1, .pto [tmt T] 0), (3, .pto [i64 T.length] 0), (18, tmt T), (19, i64 T.length), (20, i64 j)], [])) (C := fun j => j ≤ T.length ∧ ∀ k, k < j → (T.getD k []).length = 3 ∧ ∀ i, i < 3 → TgR T k i) (μ := fun j => T.length - j) 0 ⟨by omega, by omega⟩ (by exact Ref.frame (by simp [sub, fget])) ?_
    rintro j ⟨hj, hall⟩
    refine RN ?_
    refine ⟨fun hc1 => ?_, fun hc1 => ?_⟩
    · have hlt : j < T.length := by omega
      have g1 := tmt_at T j hlt
      have g2 := tmt_any T j hlt
      have hlj : (T.getD j []).length ≤ 1048576 := by
        rw [show T.getD j [] = T[j] by simp [hlt]]
        exact hr _ (List.getElem_mem _)
      refine RN ?_
      simp only [g1, g2, go_sem, ↓reduceIte, Nat.reduceEqDiff, Nat.reduceAdd, reduceCtorEq]
      refine RN ?_
      refine GC1 (bl ((T.getD j []).any (tgB T.length)) ) (fun hg =>  containsFuncT_c (T.getD j []) 57 [.pto [i64 T.length] 0] (tgB T.length) hlj (fun x => isTemplate1_c x T.length (by omega) (by omega)) (by kernel_rfl) rfl rfl) ?_
      refine RN ?_
      refine ⟨fun hc2 => ?_, fun hc2 => ?_⟩
      · (refine RN ?_; try with_reducible exact trivial)
        rw [decide_eq_false (fun h => ?_)]
        have h3 := h.len j hlt
        try simp only [go_sem, ↓reduceIte, Nat.reduceEqDiff, Nat.reduceAdd, reduceCtorEq] at hc2
        rcases hc2 with hc2 | hc2
        · exact hc2 (by omega)
        · obtain ⟨i, hi, hn⟩ := tgB_any hc2
          obtain ⟨o1, o2, o3, o4, _⟩ := h.ok j i hlt (by omega)
          exact hn ⟨o1, o2, o3, o4⟩
      · try simp only [go_sem, ↓reduceIte, Nat.reduceEqDiff, Nat.reduceAdd, reduceCtorEq] at hc2
        have h3 : (T.getD j []).length = 3 := by omega
        refine RN ?_
        refine ⟨j + 1, ⟨by omega, fun k hk => ?_⟩, by omega, ?_⟩
        · rcases Nat.lt_or_ge k j with h | h
          · exact hall k h
          · obtain rfl : k = j := by omega
            exact ⟨h3, fun i hi => tgB_all hc2.2 i (by omega)⟩
        · exact Ref.gc [] rfl rfl (by simp [sub, fget, go_sem, ↓reduceIte, Nat.reduceEqDiff, Nat.reduceAdd, reduceCtorEq])
    · have hlen : ∀ k, k < T.length → (T.getD k []).length = 3 := fun k hk => (hall k (by omega)).1
      have hok : ∀ k i, k < T.length → i < 3 → TgR T k i := fun k i hk hi => (hall k (by omega)).2 i hi
      clear hall
      refine RN ?_
      refine V_loop (α := Nat) (S := fun j => ([(1, .pto [tmt T] 0), (34, tmt T), (35, i64 T.length), (36, i64 j)], [])) (C := fun j => j ≤ T.length ∧ ∀ k, k < j → (∀ i, i < 3 → TgInv T k i ∧ ¬ ((tg T k i).1 = k ∧ (tg T k i).2 < 0)) ∧ TgCom T k) (μ := fun j => T.length - j) 0 ⟨by omega, by omega⟩ (by exact Ref.frame (by simp [sub, fget])) ?_
      rintro j ⟨hj, hall⟩
      refine RN ?_
      refine ⟨fun hc1 => ?_, fun hc1 => ?_⟩
      · have hlt : j < T.length := by omega
        have g1 := tmt_at T j hlt
        have g2 := tmt_any T j hlt
        have h3 := hlen j hlt
        refine RN ?_
        simp only [g1, g2, go_sem, ↓reduceIte, Nat.reduceEqDiff, Nat.reduceAdd, reduceCtorEq]
        refine RN ?_
        refine V_loop (α := Nat) (S := fun i => ([(1, .pto [tmt T] 0), (34, tmt T), (35, i64 T.length), (36, i64 j), (8, i64 j), (42, tgs (T.getD j [])), (43, i64 (T.getD j []).length), (44, i64 i)], [])) (C := fun i => i ≤ 3 ∧ ∀ k, k < i → TgInv T j k ∧ ¬ ((tg T j k).1 = j ∧ (tg T j k).2 < 0)) (μ := fun i => 3 - i) 0 ⟨by omega, by omega⟩ (by exact Ref.frame (by simp [sub, fget])) ?_
        rintro i ⟨hi, hin⟩
        refine RN ?_
        refine ⟨fun hc3 => ?_, fun hc3 => ?_⟩
        · have g3 := flt_two (T.getD j []) i (by omega)
          refine RN ?_
          refine And.intro ⟨by rw [flt_len]; omega, by rw [g3]; rfl⟩ (And.intro (by rw [List.length_drop, len_intsC, flt_len]; omega) (And.intro (by rw [g3]; rfl) ?_))
          simp only [g3, go_sem, ↓reduceIte, Nat.reduceEqDiff, Nat.reduceAdd, reduceCtorEq]
          change W _ _ _ _ _ _ _ _
          rw [show (T.getD j []).getD i T0 = tg T j i from rfl]
          obtain ⟨o1, o2, o3, o4⟩ := hok j i hlt (by omega)
          generalize hx : tg T j i = x at *
          have hxt : x.1.toNat < T.length := by omega
          have g4 := tmt_at T x.1.toNat hxt
          have g5 := tmt_any T x.1.toNat hxt
          have h4 := hlen _ hxt
          have g6 := flt_two (T.getD x.1.toNat []) i (by omega)
          refine RN ?_
          simp only [g4, g5, go_sem, ↓reduceIte, Nat.reduceEqDiff, Nat.reduceAdd, reduceCtorEq]
          refine RN ?_
          refine And.intro ⟨by rw [flt_len]; omega, by rw [g6]; rfl⟩ ?_
          simp only [g6, go_sem, ↓reduceIte, Nat.reduceEqDiff, Nat.reduceAdd, reduceCtorEq]
          rw [show (T.getD x.1.toNat []).getD i T0 = tg T x.1.toNat i from rfl]
          generalize hy : tg T x.1.toNat i = y at *
          refine RN ?_
          refine ⟨fun hc4 => ?_, fun hc4 => ?_⟩
          · (refine RN ?_; try with_reducible exact trivial)
            rw [decide_eq_false (fun h => ?_)]
            have hk1 := h.inv j i hlt (by omega)
            have hk2 := (h.ok j i hlt (by omega)).2.2.2.2
            unfold TgInv at hk1
            rw [hx, hy] at hk1
            rw [hx] at hk2
            try simp only [go_sem, ↓reduceIte, Nat.reduceEqDiff, Nat.reduceAdd, reduceCtorEq] at hc4
            subst hk1
            simp at hc4
            omega
          · (refine RN ?_; try with_reducible exact trivial)
            refine ⟨i + 1, ⟨by omega, fun k hk => ?_⟩, by omega, ?_⟩
            · rcases Nat.lt_or_ge k i with h | h
              · exact hin k h
              · obtain rfl : k = i := by omega
                unfold TgInv
                rw [hx, hy]
                try simp only [go_sem, ↓reduceIte, Nat.reduceEqDiff, Nat.reduceAdd, reduceCtorEq] at hc4
                obtain ⟨⟨e1, e2⟩, e3⟩ := hc4
                exact ⟨Prod.ext e1 e2, fun ⟨h1, h2⟩ => by omega⟩
            · exact (Ref.dead (F' := [(1, .pto [tmt T] 0), (34, tmt T), (35, i64 T.length), (36, i64 j), (8, i64 j), (42, tgs (T.getD j [])), (43, i64 (T.getD j []).length), (44, i64 ((i : Int) + 1))]) (by simp [sub, fget, frzF, go_sem, ↓reduceIte, Nat.reduceEqDiff, Nat.reduceAdd, reduceCtorEq])).trans (Ref.gc [] rfl rfl (by simp [sub, fget, go_sem, ↓reduceIte, Nat.reduceEqDiff, Nat.reduceAdd, reduceCtorEq]))
        · have hinv : ∀ k, k < 3 → TgInv T j k ∧ ¬ ((tg T j k).1 = j ∧ (tg T j k).2 < 0) := fun k hk => hin k (by omega)
          refine RN ?_
          refine pureC1 (commutes_c T j hlt hlen hp2 hok) ?_
          refine RN ?_
          refine ⟨fun hc4 => ?_, fun hc4 => ?_⟩
          · (refine RN ?_; try with_reducible exact trivial)
            rw [decide_eq_false (fun h => ?_)]
            have hk := h.com j hlt
            try simp only [go_sem, ↓reduceIte, Nat.reduceEqDiff, Nat.reduceAdd, reduceCtorEq] at hc4
            exact hc4 hk
          · try simp only [go_sem, ↓reduceIte, Nat.reduceEqDiff, Nat.reduceAdd, reduceCtorEq] at hc4
            refine RN ?_
            refine ⟨j + 1, ⟨by omega, fun k hk => ?_⟩, by omega, ?_⟩
            · rcases Nat.lt_or_ge k j with h | h
              · exact hall k h
              · obtain rfl : k = j := by omega
                exact ⟨hinv, hc4⟩
            · exact Ref.gc [] rfl rfl (by simp [sub, fget, go_sem, ↓reduceIte, Nat.reduceEqDiff, Nat.reduceAdd, reduceCtorEq])
      · (refine RN ?_; try with_reducible exact trivial)
        rw [decide_eq_true]
        refine ⟨hp1, hp2, hlen, fun k i hk hi => ?_, fun k i hk hi => ((hall k (by omega)).1 i hi).1, fun k hk => (hall k (by omega)).2⟩
        obtain ⟨o1, o2, o3, o4⟩ := hok k i hk hi
        exact ⟨o1, o2, o3, o4, ((hall k (by omega)).1 i hi).2⟩
end Go.Proofs.YtfcbamfkfadabaaGreat
