/- Texts that belong together. -/
import Derived.Test.YtcmahhfjpgoceaaGreatZe
import Derived.Test.YtcmahhfjpgoceaaGreatZi
import Derived.Test.YtcmahhfjpgoceaaGreatZj
set_option linter.unusedSimpArgs false
set_option linter.unusedVariables false
set_option maxRecDepth 100000
namespace Go.Proofs.YtcmahhfjpgoceaaGreat
open Go.Gov

abbrev Tg := Int × Int
def flt : List Tg → List Int
  | [] => []
  | p :: l => p.1 :: p.2 :: flt l
theorem flt_len : ∀ (l : List Tg), (flt l).length = l.length * 2
  | [] => rfl
  | p :: l => by simp [flt, flt_len l]; omega
theorem flt_app : ∀ (a b : List Tg), flt (a ++ b) = flt a ++ flt b
  | [], b => rfl
  | p :: a, b => by simp [flt, flt_app a b]
theorem flt_drop : ∀ (l : List Tg) (i : Nat), (flt l).drop (i * 2) = flt (l.drop i)
  | l, 0 => by simp
  | [], i + 1 => by simp [flt]
  | p :: l, i + 1 => by
    rw [show (i + 1) * 2 = i * 2 + 1 + 1 by omega, flt, List.drop_succ_cons, List.drop_succ_cons, flt_drop l i, List.drop_succ_cons]
abbrev T0 : Tg := (0, 0)
theorem flt_at0 : ∀ (l : List Tg) (i : Nat), (flt l).getD (i * 2) 0 = (l.getD i T0).1
  | [], i => by simp [flt]
  | p :: l, 0 => rfl
  | p :: l, i + 1 => by
    rw [show (i + 1) * 2 = i * 2 + 1 + 1 by omega, flt, List.getD_cons_succ, List.getD_cons_succ, flt_at0 l i, List.getD_cons_succ]
theorem flt_at1 : ∀ (l : List Tg) (i : Nat), (flt l).getD (i * 2 + 1) 0 = (l.getD i T0).2
  | [], i => by simp [flt]
  | p :: l, 0 => rfl
  | p :: l, i + 1 => by
    rw [show (i + 1) * 2 + 1 = (i * 2 + 1) + 1 + 1 by omega, flt, List.getD_cons_succ, List.getD_cons_succ, flt_at1 l i, List.getD_cons_succ]
theorem flt_two (l : List Tg) (i : Nat) (h : i < l.length) : ((intsC (flt l)).drop (i * 2)).take 2 = [i64 (l.getD i T0).1, i64 (l.getD i T0).2] := by
  rw [drop_intsC, take_intsC, flt_drop, List.drop_eq_getElem_cons h]
  simp [flt, intsC, h]
abbrev tgs (l : List Tg) : AV := .slc 2 l.length (intsC (flt l))
abbrev otgs (l : List Tg) : AV := .osl 2 l.length (intsC (flt l))
abbrev tmt (T : List (List Tg)) : AV := .slc 1 T.length (T.map tgs)
theorem tmt_at (T : List (List Tg)) (i : Nat) (h : i < T.length) : (T.map tgs).getD i (.slc 1 0 []) = tgs (T.getD i []) := by simp [h]
theorem tmt_any (T : List (List Tg)) (i : Nat) (h : i < T.length) : (T.map tgs).getD i .any = tgs (T.getD i []) := by simp [h]

theorem frz_otgs (H : Heap) (d : Nat) (l : List Tg) : frz H (d + 2) (otgs l) = tgs l := by simp only [otgs, frz]; rw [map_frz_ints]
theorem frz_tgs (H : Heap) (d : Nat) (l : List Tg) : frz H (d + 2) (tgs l) = tgs l := by simp only [tgs, frz]; rw [map_frz_ints]
theorem map_frz_tr (H : Heap) (d : Nat) (T : List (List Tg)) : (T.map tgs).map (frz H (d + 2)) = T.map tgs := by
  rw [List.map_map]; exact List.map_congr_left fun l _ => frz_tgs H d l
theorem map_frz_otr (H : Heap) (d : Nat) (T : List (List Tg)) : (T.map otgs).map (frz H (d + 2)) = T.map tgs := by
  rw [List.map_map]; exact List.map_congr_left fun l _ => frz_otgs H d l
theorem shf_otgs (n d : Nat) (l : List Tg) : shf n d (otgs l) = otgs l := by
  cases d with
  | zero => rfl
  | succ d => simp only [otgs, shf]; rw [map_shf_ints]
theorem map_shf_otr (n d : Nat) (T : List (List Tg)) : (T.map otgs).map (shf n d) = T.map otgs := by
  rw [List.map_map]; exact List.map_congr_left fun l _ => shf_otgs n d l
theorem all_nf_otr (d : Nat) (T : List (List Tg)) : (T.map otgs).all (nf (d + 2)) = true := by
  rw [List.all_map]; exact List.all_eq_true.2 fun l _ => by simp only [Function.comp_apply, otgs, nf]; exact all_nf_ints d _
theorem plain_tr (T : List (List Tg)) (i : Nat) : plainC ((T.map tgs).getD i .any) = true := by
  by_cases h : i < T.length
  · simp [h, plainC]
  · simp [h, plainC]
theorem rnmL_tr (τ : Nat → Option Nat) (T : List (List Tg)) : rnmL τ (T.map tgs) = T.map tgs := by
  rw [rnmL_map, List.map_map]; exact List.map_congr_left fun l _ => by simp only [Function.comp_apply, tgs, rnm, rnmL_ints]
theorem rnmL_otr (τ : Nat → Option Nat) (T : List (List Tg)) : rnmL τ (T.map otgs) = T.map otgs := by
  rw [rnmL_map, List.map_map]; exact List.map_congr_left fun l _ => by simp only [Function.comp_apply, otgs, rnm, rnmL_ints]
attribute [go_sem] map_frz_tr map_frz_otr map_shf_otr all_nf_otr plain_tr rnmL_tr rnmL_otr
abbrev tplA (T : List (List Tg)) : AV := .agg [tmt T]
end Go.Proofs.YtcmahhfjpgoceaaGreat
set_option maxRecDepth 100000
namespace Go.Proofs.YtcmahhfjpgoceaaGreat
open Go.Gov

end Go.Proofs.YtcmahhfjpgoceaaGreat
set_option maxRecDepth 100000
namespace Go.Proofs.YtcmahhfjpgoceaaGreat
open Go.Gov
open Classical

def Cmt (m n : Int) : Prop := m = n ∨ m < 0 ∨ n < 0 ∨ (m + n = 2 ∧ m ≠ 1)
theorem l14Commute_c (m n : Int) (hm : -1 ≤ m ∧ m ≤ 2) (hn : -1 ≤ n ∧ n ≤ 2) : Pure Tryz.prog 107 [i64 m, i64 n] (bl (decide (Cmt m n))) [] := by
  refine pureV ok107 rfl ?_; unfold c107
  refine RN ?_
  refine congrArg (fun b => bl b) ?_
  rw [Bool.eq_iff_iff, decide_eq_true_iff]
  simp only [Bool.or_eq_true, Bool.and_eq_true, beq_iff_eq, decide_eq_true_eq, bne_iff_ne]
  unfold Cmt
  omega

def tg (T : List (List Tg)) (j i : Nat) : Tg := (T.getD j []).getD i T0
def TgOk (T : List (List Tg)) (j i : Nat) : Prop := 0 ≤ (tg T j i).1 ∧ (tg T j i).1 ≤ (T.length : Int) - 1 ∧ -1 ≤ (tg T j i).2 ∧ (tg T j i).2 ≤ 2 ∧ ¬ ((tg T j i).1 = j ∧ (tg T j i).2 < 0)
def TgInv (T : List (List Tg)) (j i : Nat) : Prop := tg T (tg T j i).1.toNat i = ((j : Int), (tg T j i).2)
def TgCom (T : List (List Tg)) (j : Nat) : Prop :=
  (tg T (tg T j 0).1.toNat 2).1 = (tg T (tg T j 2).1.toNat 0).1 ∧ (tg T (tg T j 0).1.toNat 2).2 = (tg T j 2).2 ∧ (tg T (tg T j 2).1.toNat 0).2 = (tg T j 0).2 ∧ Cmt (tg T j 0).2 (tg T j 2).2 ∧
  ¬ ((tg T j 0).2 = (tg T j 2).2 ∧ (tg T (tg T j 0).1.toNat 2).1 = j)
structure IsTpl (T : List (List Tg)) : Prop where
  p1 : 1 ≤ T.length
  p2 : T.length ≤ 12
  len : ∀ j, j < T.length → (T.getD j []).length = 3
  ok : ∀ j i, j < T.length → i < 3 → TgOk T j i
  inv : ∀ j i, j < T.length → i < 3 → TgInv T j i
  com : ∀ j, j < T.length → TgCom T j

set_option maxHeartbeats 4000000 in
theorem l14Template_c (T : List (List Tg)) (hl : T.length ≤ 1048576) (hr : ∀ xs ∈ T, xs.length ≤ 1048576) : Pure Tryz.prog 74 [tplA T] (bl (decide (IsTpl T))) [] := by
  refine pureV0 ok74 rfl rfl ?_; unfold c74
  refine RN ?_
  refine ⟨fun hc => ?_, fun hc => ?_⟩
  · (refine RN ?_; try with_reducible exact trivial)
    rw [decide_eq_false (fun h => ?_)]
    have h1 := h.p1; have h2 := h.p2
    try simp only [go_sem, ↓reduceIte, Nat.reduceEqDiff, Nat.reduceAdd, reduceCtorEq] at hc
    omega
  · try simp only [go_sem, ↓reduceIte, Nat.reduceEqDiff, Nat.reduceAdd, reduceCtorEq] at hc
    have hp1 : 1 ≤ T.length := by omega
    have hp2 : T.length ≤ 12 := by omega
    refine RN ?_
    refine V_ref ((Ref.dead (F' := [(3, i64 T.length), (1, .pto [tmt T] 0), (4, i64 0)]) (by simp [sub, fget, frzF, go_sem, ↓reduceIte, Nat.reduceEqDiff, Nat.reduceAdd, reduceCtorEq])).trans (Ref.gc (F' := [(3, i64 T.length), (1, .pto [tmt T] 0), (4, i64 0)]) [] rfl rfl (by simp [sub, fget, go_sem, ↓reduceIte, Nat.reduceEqDiff, Nat.reduceAdd, reduceCtorEq]))) ?_
    refine V_loop (α := Nat) (S := fun j => ([(1, .pto [tmt T] 0), (3, i64 T.length), (4, i64 j)], [])) (C := fun j => j ≤ T.length ∧ ∀ k, k < j → (T.getD k []).length = 3 ∧ ∀ i, i < 3 → TgOk T k i) (μ := fun j => T.length - j) 0 ⟨by omega, by omega⟩ (by exact Ref.frame (by simp [sub, fget])) ?_
    rintro j ⟨hj, hall⟩
    refine RN ?_
    refine ⟨fun hc1 => ?_, fun hc1 => ?_⟩
    · have hlt : j < T.length := by omega
      have g1 := tmt_at T j hlt
      have g2 := tmt_any T j hlt
      refine RN ?_
      simp only [g1, g2, go_sem, ↓reduceIte, Nat.reduceEqDiff, Nat.reduceAdd, reduceCtorEq]
      refine RN ?_
      refine ⟨fun hc2 => ?_, fun hc2 => ?_⟩
      · (refine RN ?_; try with_reducible exact trivial)
        rw [decide_eq_false (fun h => ?_)]
        have := h.len j hlt
        omega
      · have h3 : (T.getD j []).length = 3 := by omega
        refine RN ?_
        refine V_loop (α := Nat) (S := fun i => ([(1, .pto [tmt T] 0), (3, i64 T.length), (4, i64 j), (5, i64 i)], [])) (C := fun i => i ≤ 3 ∧ ∀ k, k < i → TgOk T j k) (μ := fun i => 3 - i) 0 ⟨by omega, by omega⟩ (by exact Ref.frame (by simp [sub, fget])) ?_
        rintro i ⟨hi, hok⟩
        refine RN ?_
        refine ⟨fun hc3 => ?_, fun hc3 => ?_⟩
        · have g3 := flt_two (T.getD j []) i (by omega)
          refine RN ?_
          simp only [g1, g2, go_sem, ↓reduceIte, Nat.reduceEqDiff, Nat.reduceAdd, reduceCtorEq]
          refine RN ?_
          refine And.intro ⟨by rw [flt_len]; omega, by rw [g3]; rfl⟩ (And.intro (by rw [List.length_drop, len_intsC, flt_len]; omega) (And.intro (by rw [g3]; rfl) ?_))
          simp only [g3, go_sem, ↓reduceIte, Nat.reduceEqDiff, Nat.reduceAdd, reduceCtorEq]
          change W _ _ _ _ _ _ _ _
          rw [show (T.getD j []).getD i T0 = tg T j i from rfl]
          generalize hx : tg T j i = x
          refine RN ?_
          refine pureC1 (l01In_c x.1 0 (T.length - 1)) ?_
          refine RN ?_
          refine GC1 (bl (decide (-1 ≤ x.2) && decide (x.2 ≤ 2)) ) (fun hg =>  l01In_c x.2 (-1) 2) ?_
          refine RN ?_
          refine ⟨fun hc4 => ?_, fun hc4 => ?_⟩
          · (refine RN ?_; try with_reducible exact trivial)
            rw [decide_eq_false (fun h => ?_)]
            have hk := h.ok j i hlt (by omega)
            unfold TgOk at hk
            rw [hx] at hk
            try simp only [go_sem, ↓reduceIte, Nat.reduceEqDiff, Nat.reduceAdd, reduceCtorEq] at hc4
            omega
          · (refine RN ?_; try with_reducible exact trivial)
            refine ⟨i + 1, ⟨by omega, fun k hk => ?_⟩, by omega, ?_⟩
            · rcases Nat.lt_or_ge k i with h | h
              · exact hok k h
              · obtain rfl : k = i := by omega
                unfold TgOk
                rw [hx]
                try simp only [go_sem, ↓reduceIte, Nat.reduceEqDiff, Nat.reduceAdd, reduceCtorEq] at hc4
                omega
            · exact Ref.gc [] rfl rfl (by simp [sub, fget, go_sem, ↓reduceIte, Nat.reduceEqDiff, Nat.reduceAdd, reduceCtorEq])
        · (refine RN ?_; try with_reducible exact trivial)
          refine ⟨j + 1, ⟨by omega, fun k hk => ?_⟩, by omega, by exact Ref.frame (by simp [sub, fget])⟩
          rcases Nat.lt_or_ge k j with h | h
          · exact hall k h
          · obtain rfl : k = j := by omega
            exact ⟨h3, fun i' hi' => hok i' (by omega)⟩
    · have hlen : ∀ k, k < T.length → (T.getD k []).length = 3 := fun k hk => (hall k (by omega)).1
      have hok : ∀ k i, k < T.length → i < 3 → TgOk T k i := fun k i hk hi => (hall k (by omega)).2 i hi
      clear hall
      refine RN ?_
      refine V_loop (α := Nat) (S := fun j => ([(1, .pto [tmt T] 0), (3, i64 T.length), (7, i64 j)], [])) (C := fun j => j ≤ T.length ∧ ∀ k, k < j → (∀ i, i < 3 → TgInv T k i) ∧ TgCom T k) (μ := fun j => T.length - j) 0 ⟨by omega, by omega⟩ (by exact Ref.frame (by simp [sub, fget])) ?_
      rintro j ⟨hj, hall⟩
      refine RN ?_
      refine ⟨fun hc1 => ?_, fun hc1 => ?_⟩
      · have hlt : j < T.length := by omega
        have g1 := tmt_at T j hlt
        have g2 := tmt_any T j hlt
        have h3 := hlen j hlt
        refine RN ?_
        refine V_loop (α := Nat) (S := fun i => ([(1, .pto [tmt T] 0), (3, i64 T.length), (7, i64 j), (8, i64 i)], [])) (C := fun i => i ≤ 3 ∧ ∀ k, k < i → TgInv T j k) (μ := fun i => 3 - i) 0 ⟨by omega, by omega⟩ (by exact Ref.frame (by simp [sub, fget])) ?_
        rintro i ⟨hi, hin⟩
        refine RN ?_
        refine ⟨fun hc3 => ?_, fun hc3 => ?_⟩
        · have g3 := flt_two (T.getD j []) i (by omega)
          refine RN ?_
          simp only [g1, g2, go_sem, ↓reduceIte, Nat.reduceEqDiff, Nat.reduceAdd, reduceCtorEq]
          refine RN ?_
          refine And.intro ⟨by rw [flt_len]; omega, by rw [g3]; rfl⟩ (And.intro (by rw [List.length_drop, len_intsC, flt_len]; omega) (And.intro (by rw [g3]; rfl) ?_))
          simp only [g3, go_sem, ↓reduceIte, Nat.reduceEqDiff, Nat.reduceAdd, reduceCtorEq]
          change W _ _ _ _ _ _ _ _
          rw [show (T.getD j []).getD i T0 = tg T j i from rfl]
          obtain ⟨o1, o2, o3, o4, o5⟩ := hok j i hlt (by omega)
          generalize hx : tg T j i = x at *
          have hxt : x.1.toNat < T.length := by omega
          have g4 := tmt_at T x.1.toNat hxt
          have g5 := tmt_any T x.1.toNat hxt
          have h4 := hlen _ hxt
          have g6 := flt_two (T.getD x.1.toNat []) i (by omega)
          refine RN ?_
          simp only [g4, g5, go_sem, ↓reduceIte, Nat.reduceEqDiff, Nat.reduceAdd, reduceCtorEq]
          refine RN ?_
          refine And.intro ⟨by rw [flt_len]; omega, by rw [g6]; rfl⟩ (And.intro (by rw [List.length_drop, len_intsC, flt_len]; omega) (And.intro (by rw [g6]; rfl) ?_))
          simp only [g6, go_sem, ↓reduceIte, Nat.reduceEqDiff, Nat.reduceAdd, reduceCtorEq]
          change W _ _ _ _ _ _ _ _
          rw [show (T.getD x.1.toNat []).getD i T0 = tg T x.1.toNat i from rfl]
          generalize hy : tg T x.1.toNat i = y at *
          refine RN ?_
          refine ⟨fun hc4 => ?_, fun hc4 => ?_⟩
          · (refine RN ?_; try with_reducible exact trivial)
            rw [decide_eq_false (fun h => ?_)]
            have hk := h.inv j i hlt (by omega)
            unfold TgInv at hk
            rw [hx, hy] at hk
            try simp only [go_sem, ↓reduceIte, Nat.reduceEqDiff, Nat.reduceAdd, reduceCtorEq] at hc4
            rw [hk] at hc4
            simp at hc4
          · (refine RN ?_; try with_reducible exact trivial)
            refine ⟨i + 1, ⟨by omega, fun k hk => ?_⟩, by omega, ?_⟩
            · rcases Nat.lt_or_ge k i with h | h
              · exact hin k h
              · obtain rfl : k = i := by omega
                unfold TgInv
                rw [hx, hy]
                try simp only [go_sem, ↓reduceIte, Nat.reduceEqDiff, Nat.reduceAdd, reduceCtorEq] at hc4
                refine Prod.ext ?_ ?_
                · exact hc4.1
                · exact hc4.2
            · exact Ref.gc [] rfl rfl (by simp [sub, fget, go_sem, ↓reduceIte, Nat.reduceEqDiff, Nat.reduceAdd, reduceCtorEq])
        · have hinv : ∀ k, k < 3 → TgInv T j k := fun k hk => hin k (by omega)
          clear hin
          have q0 := hok j 0 hlt (by omega)
          have q2 := hok j 2 hlt (by omega)
          have g30 := flt_two (T.getD j []) 0 (by omega)
          have g32 := flt_two (T.getD j []) 2 (by omega)
          rw [show (T.getD j []).getD 0 T0 = tg T j 0 from rfl] at g30
          rw [show (T.getD j []).getD 2 T0 = tg T j 2 from rfl] at g32
          generalize hx0 : tg T j 0 = x at *
          generalize hx2 : tg T j 2 = y at *
          refine RN ?_
          refine V_altsS [(1, .pto [tmt T] 0), (3, i64 T.length), (7, i64 j), (11, .pto [i64 x.1, i64 x.2] 0), (12, .pto [i64 y.1, i64 y.2] 0)] [] ?_ ?_
          · (repeat' first | simp only [go_sem, ↓reduceIte, Nat.reduceEqDiff, Nat.reduceAdd, reduceCtorEq] | with_reducible refine LT_reg ?_ | with_reducible refine LT_regz (by simp only [zAd_load, zAd_loads, zPt_pto, go_sem, ↓reduceIte, Nat.reduceEqDiff, Nat.reduceAdd, reduceCtorEq]) ?_ | with_reducible refine LT_fin ?_ | with_reducible exact LT_tt | with_reducible refine LT_alt ?_ ?_ | (with_reducible refine And.intro ?_ ?_; focus first | assumption | omega | grind))
            simp only [g1, go_sem, ↓reduceIte, Nat.reduceEqDiff, Nat.reduceAdd, reduceCtorEq]
            (repeat' first | simp only [go_sem, ↓reduceIte, Nat.reduceEqDiff, Nat.reduceAdd, reduceCtorEq] | with_reducible refine LT_reg ?_ | with_reducible refine LT_regz (by simp only [zAd_load, zAd_loads, zPt_pto, go_sem, ↓reduceIte, Nat.reduceEqDiff, Nat.reduceAdd, reduceCtorEq]) ?_ | with_reducible refine LT_fin ?_ | with_reducible exact LT_tt | with_reducible refine LT_alt ?_ ?_ | (with_reducible refine And.intro ?_ ?_; focus first | assumption | omega | grind))
            rw [Nat.zero_mul, List.drop_zero] at g30
            refine And.intro ⟨by rw [flt_len]; omega, by rw [g30]; rfl⟩ ?_
            simp only [g30, go_sem, ↓reduceIte, Nat.reduceEqDiff, Nat.reduceAdd, reduceCtorEq]
            (repeat' first | simp only [go_sem, ↓reduceIte, Nat.reduceEqDiff, Nat.reduceAdd, reduceCtorEq] | with_reducible refine LT_reg ?_ | with_reducible refine LT_regz (by simp only [zAd_load, zAd_loads, zPt_pto, go_sem, ↓reduceIte, Nat.reduceEqDiff, Nat.reduceAdd, reduceCtorEq]) ?_ | with_reducible refine LT_fin ?_ | with_reducible exact LT_tt | with_reducible refine LT_alt ?_ ?_ | (with_reducible refine And.intro ?_ ?_; focus first | assumption | omega | grind))
            simp only [g1, go_sem, ↓reduceIte, Nat.reduceEqDiff, Nat.reduceAdd, reduceCtorEq]
            (repeat' first | simp only [go_sem, ↓reduceIte, Nat.reduceEqDiff, Nat.reduceAdd, reduceCtorEq] | with_reducible refine LT_reg ?_ | with_reducible refine LT_regz (by simp only [zAd_load, zAd_loads, zPt_pto, go_sem, ↓reduceIte, Nat.reduceEqDiff, Nat.reduceAdd, reduceCtorEq]) ?_ | with_reducible refine LT_fin ?_ | with_reducible exact LT_tt | with_reducible refine LT_alt ?_ ?_ | (with_reducible refine And.intro ?_ ?_; focus first | assumption | omega | grind))
            refine And.intro ⟨by rw [flt_len]; omega, by rw [g32]; rfl⟩ ?_
            simp only [g32, go_sem, ↓reduceIte, Nat.reduceEqDiff, Nat.reduceAdd, reduceCtorEq]
            (repeat' first | simp only [go_sem, ↓reduceIte, Nat.reduceEqDiff, Nat.reduceAdd, reduceCtorEq] | with_reducible refine LT_reg ?_ | with_reducible refine LT_regz (by simp only [zAd_load, zAd_loads, zPt_pto, go_sem, ↓reduceIte, Nat.reduceEqDiff, Nat.reduceAdd, reduceCtorEq]) ?_ | with_reducible refine LT_fin ?_ | with_reducible exact LT_tt | with_reducible refine LT_alt ?_ ?_ | (with_reducible refine And.intro ?_ ?_; focus first | assumption | omega | grind))
            all_goals exact (Ref.dead (F' := [(1, .pto [tmt T] 0), (3, i64 T.length), (7, i64 j), (11, .pto [i64 x.1, i64 x.2] 0), (12, .pto [i64 y.1, i64 y.2] 0)]) (by simp [sub, fget, frzF, go_sem, ↓reduceIte, Nat.reduceEqDiff, Nat.reduceAdd, reduceCtorEq])).trans (Ref.gc [] rfl rfl (by simp [sub, fget, go_sem, ↓reduceIte, Nat.reduceEqDiff, Nat.reduceAdd, reduceCtorEq]))
          obtain ⟨a1, a2, a3, a4, a5⟩ := q0
          obtain ⟨b1, b2, b3, b4, b5⟩ := q2
          rw [hx0] at a1 a2 a3 a4 a5
          rw [hx2] at b1 b2 b3 b4 b5
          have hxt : x.1.toNat < T.length := by omega
          have hyt : y.1.toNat < T.length := by omega
          have m1 := tmt_at T x.1.toNat hxt
          have m2 := tmt_any T x.1.toNat hxt
          have m3 := tmt_at T y.1.toNat hyt
          have m4 := tmt_any T y.1.toNat hyt
          have l1 := hlen _ hxt
          have l2 := hlen _ hyt
          have k1 := flt_two (T.getD x.1.toNat []) 2 (by omega)
          have k2 := flt_two (T.getD y.1.toNat []) 0 (by omega)
          rw [Nat.zero_mul, List.drop_zero] at k2
          rw [show (T.getD x.1.toNat []).getD 2 T0 = tg T x.1.toNat 2 from rfl] at k1
          rw [show (T.getD y.1.toNat []).getD 0 T0 = tg T y.1.toNat 0 from rfl] at k2
          generalize hu : tg T x.1.toNat 2 = u at *
          generalize hv : tg T y.1.toNat 0 = v at *
          refine RN ?_
          refine V_altsS [(1, .pto [tmt T] 0), (3, i64 T.length), (7, i64 j), (11, .pto [i64 x.1, i64 x.2] 0), (12, .pto [i64 y.1, i64 y.2] 0), (13, .pto [i64 u.1, i64 u.2] 0), (14, .pto [i64 v.1, i64 v.2] 0)] [] ?_ ?_
          · (repeat' first | simp only [go_sem, ↓reduceIte, Nat.reduceEqDiff, Nat.reduceAdd, reduceCtorEq] | with_reducible refine LT_reg ?_ | with_reducible refine LT_regz (by simp only [zAd_load, zAd_loads, zPt_pto, go_sem, ↓reduceIte, Nat.reduceEqDiff, Nat.reduceAdd, reduceCtorEq]) ?_ | with_reducible refine LT_fin ?_ | with_reducible exact LT_tt | with_reducible refine LT_alt ?_ ?_ | (with_reducible refine And.intro ?_ ?_; focus first | assumption | omega | grind))
            simp only [m1, m2, go_sem, ↓reduceIte, Nat.reduceEqDiff, Nat.reduceAdd, reduceCtorEq]
            (repeat' first | simp only [go_sem, ↓reduceIte, Nat.reduceEqDiff, Nat.reduceAdd, reduceCtorEq] | with_reducible refine LT_reg ?_ | with_reducible refine LT_regz (by simp only [zAd_load, zAd_loads, zPt_pto, go_sem, ↓reduceIte, Nat.reduceEqDiff, Nat.reduceAdd, reduceCtorEq]) ?_ | with_reducible refine LT_fin ?_ | with_reducible exact LT_tt | with_reducible refine LT_alt ?_ ?_ | (with_reducible refine And.intro ?_ ?_; focus first | assumption | omega | grind))
            refine And.intro ⟨by rw [flt_len]; omega, by rw [k1]; rfl⟩ ?_
            simp only [k1, go_sem, ↓reduceIte, Nat.reduceEqDiff, Nat.reduceAdd, reduceCtorEq]
            (repeat' first | simp only [go_sem, ↓reduceIte, Nat.reduceEqDiff, Nat.reduceAdd, reduceCtorEq] | with_reducible refine LT_reg ?_ | with_reducible refine LT_regz (by simp only [zAd_load, zAd_loads, zPt_pto, go_sem, ↓reduceIte, Nat.reduceEqDiff, Nat.reduceAdd, reduceCtorEq]) ?_ | with_reducible refine LT_fin ?_ | with_reducible exact LT_tt | with_reducible refine LT_alt ?_ ?_ | (with_reducible refine And.intro ?_ ?_; focus first | assumption | omega | grind))
            simp only [m3, m4, go_sem, ↓reduceIte, Nat.reduceEqDiff, Nat.reduceAdd, reduceCtorEq]
            (repeat' first | simp only [go_sem, ↓reduceIte, Nat.reduceEqDiff, Nat.reduceAdd, reduceCtorEq] | with_reducible refine LT_reg ?_ | with_reducible refine LT_regz (by simp only [zAd_load, zAd_loads, zPt_pto, go_sem, ↓reduceIte, Nat.reduceEqDiff, Nat.reduceAdd, reduceCtorEq]) ?_ | with_reducible refine LT_fin ?_ | with_reducible exact LT_tt | with_reducible refine LT_alt ?_ ?_ | (with_reducible refine And.intro ?_ ?_; focus first | assumption | omega | grind))
            refine And.intro ⟨by rw [flt_len]; omega, by rw [k2]; rfl⟩ ?_
            simp only [k2, go_sem, ↓reduceIte, Nat.reduceEqDiff, Nat.reduceAdd, reduceCtorEq]
            (repeat' first | simp only [go_sem, ↓reduceIte, Nat.reduceEqDiff, Nat.reduceAdd, reduceCtorEq] | with_reducible refine LT_reg ?_ | with_reducible refine LT_regz (by simp only [zAd_load, zAd_loads, zPt_pto, go_sem, ↓reduceIte, Nat.reduceEqDiff, Nat.reduceAdd, reduceCtorEq]) ?_ | with_reducible refine LT_fin ?_ | with_reducible exact LT_tt | with_reducible refine LT_alt ?_ ?_ | (with_reducible refine And.intro ?_ ?_; focus first | assumption | omega | grind))
            all_goals exact (Ref.dead (F' := [(1, .pto [tmt T] 0), (3, i64 T.length), (7, i64 j), (11, .pto [i64 x.1, i64 x.2] 0), (12, .pto [i64 y.1, i64 y.2] 0), (13, .pto [i64 u.1, i64 u.2] 0), (14, .pto [i64 v.1, i64 v.2] 0)]) (by simp [sub, fget, frzF, go_sem, ↓reduceIte, Nat.reduceEqDiff, Nat.reduceAdd, reduceCtorEq])).trans (Ref.gc [] rfl rfl (by simp [sub, fget, go_sem, ↓reduceIte, Nat.reduceEqDiff, Nat.reduceAdd, reduceCtorEq]))
          refine RN ?_
          refine GC1 (bl (decide (Cmt x.2 y.2)) ) (fun hg =>  l14Commute_c x.2 y.2 ⟨a3, a4⟩ ⟨b3, b4⟩) ?_
          refine RN ?_
          have hcm : TgCom T j ↔ (u.1 = v.1 ∧ u.2 = y.2 ∧ v.2 = x.2 ∧ Cmt x.2 y.2 ∧ ¬ (x.2 = y.2 ∧ u.1 = j)) := by
            unfold TgCom
            rw [hx0, hx2, hu, hv]
          refine ⟨fun hc4 => ?_, fun hc4 => ?_⟩
          · (refine RN ?_; try with_reducible exact trivial)
            rw [decide_eq_false (fun h => ?_)]
            have hk := hcm.1 (h.com j hlt)
            try simp only [go_sem, ↓reduceIte, Nat.reduceEqDiff, Nat.reduceAdd, reduceCtorEq] at hc4
            grind
          · (refine RN ?_; try with_reducible exact trivial)
            refine ⟨j + 1, ⟨by omega, fun k hk => ?_⟩, by omega, ?_⟩
            · rcases Nat.lt_or_ge k j with h | h
              · exact hall k h
              · obtain rfl : k = j := by omega
                refine ⟨fun i' hi' => hinv i' hi', hcm.2 ?_⟩
                try simp only [go_sem, ↓reduceIte, Nat.reduceEqDiff, Nat.reduceAdd, reduceCtorEq] at hc4
                grind
            · exact Ref.gc [] rfl rfl (by simp [sub, fget, go_sem, ↓reduceIte, Nat.reduceEqDiff, Nat.reduceAdd, reduceCtorEq])
      · (refine RN ?_; try with_reducible exact trivial)
        rw [decide_eq_true ⟨hp1, hp2, hlen, hok, fun k i hk hi => (hall k (by omega)).1 i hi, fun k hk => (hall k (by omega)).2⟩]
end Go.Proofs.YtcmahhfjpgoceaaGreat
