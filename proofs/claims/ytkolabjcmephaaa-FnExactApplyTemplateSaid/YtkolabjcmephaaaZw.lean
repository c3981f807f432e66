/- Texts that belong together. -/
import Derived.Test.YtkolabjcmephaaaZe
import Derived.Test.YtkolabjcmephaaaZi
import Derived.Test.YtkolabjcmephaaaZj
set_option linter.unusedSimpArgs false
set_option linter.unusedVariables false
set_option maxRecDepth 100000
namespace Go.Proofs.Ytkolabjcmephaaa
open Go.Gov

abbrev Tg := Int × Int
def flt : List Tg → List Int
  | [] => []
  | p :: l => p.1 :: p.2 :: flt l
theorem flt_len : ∀ (l : List Tg), (flt l).length = l.length * 2
  | [] => rfl
  | p :: l => by simp [flt, flt_len l]; omega
theorem flt_app : ∀ (a b : List Tg), flt (a ++ b) = flt a ++ flt b
  | [], b => rfl
  | p :: a, b => by simp [flt, flt_app a b]
theorem flt_drop : ∀ (l : List Tg) (i : Nat), (flt l).drop (i * 2) = flt (l.drop i)
  | l, 0 => by simp
  | [], i + 1 => by simp [flt]
  | p :: l, i + 1 => by
    rw [show (i + 1) * 2 = i * 2 + 1 + 1 by omega, flt, List.drop_succ_cons, List.drop_succ_cons, flt_drop l i, List.drop_succ_cons]
theorem flt_take : ∀ (l : List Tg) (i : Nat), (flt l).take (i * 2) = flt (l.take i)
  | l, 0 => by simp [flt]
  | [], i + 1 => by simp [flt]
  | p :: l, i + 1 => by
    rw [show (i + 1) * 2 = i * 2 + 1 + 1 by omega, flt, List.take_succ_cons, List.take_succ_cons, flt_take l i, List.take_succ_cons, flt]
abbrev T0 : Tg := (0, 0)
theorem flt_at0 : ∀ (l : List Tg) (i : Nat), (flt l).getD (i * 2) 0 = (l.getD i T0).1
  | [], i => by simp [flt]
  | p :: l, 0 => rfl
  | p :: l, i + 1 => by
    rw [show (i + 1) * 2 = i * 2 + 1 + 1 by omega, flt, List.getD_cons_succ, List.getD_cons_succ, flt_at0 l i, List.getD_cons_succ]
theorem flt_at1 : ∀ (l : List Tg) (i : Nat), (flt l).getD (i * 2 + 1) 0 = (l.getD i T0).2
  | [], i => by simp [flt]
  | p :: l, 0 => rfl
  | p :: l, i + 1 => by
    rw [show (i + 1) * 2 + 1 = (i * 2 + 1) + 1 + 1 by omega, flt, List.getD_cons_succ, List.getD_cons_succ, flt_at1 l i, List.getD_cons_succ]
theorem flt_two (l : List Tg) (i : Nat) (h : i < l.length) : ((intsC (flt l)).drop (i * 2)).take 2 = [i64 (l.getD i T0).1, i64 (l.getD i T0).2] := by
  rw [drop_intsC, take_intsC, flt_drop, List.drop_eq_getElem_cons h]
  simp [flt, intsC, h]
theorem flt_inj : ∀ (a b : List Tg), flt a = flt b → a = b
  | [], [], _ => rfl
  | [], p :: b, h => by simp [flt] at h
  | p :: a, [], h => by simp [flt] at h
  | (p1, p2) :: a, (q1, q2) :: b, h => by
    simp only [flt, List.cons.injEq] at h
    obtain ⟨rfl, rfl, h⟩ := h
    rw [flt_inj a b h]
abbrev tgs (l : List Tg) : AV := .slc 2 l.length (intsC (flt l))
abbrev otgs (l : List Tg) : AV := .osl 2 l.length (intsC (flt l))
abbrev tmt (T : List (List Tg)) : AV := .slc 1 T.length (T.map tgs)
def ttot (T : List (List Tg)) : Nat := (T.map List.length).sum
theorem ttot_app (a b : List (List Tg)) : ttot (a ++ b) = ttot a + ttot b := by simp [ttot]
theorem ttot_take (T : List (List Tg)) (i : Nat) (h : i < T.length) : ttot (T.take (i + 1)) = ttot (T.take i) + (T.getD i []).length := by
  rw [List.take_succ_eq_append_getElem h, ttot_app]
  simp [ttot, h]
theorem ttot_take_le (T : List (List Tg)) (i : Nat) : ttot (T.take i) ≤ ttot T := by
  have := congrArg ttot (List.take_append_drop i T)
  rw [ttot_app] at this
  omega
theorem tmt_at (T : List (List Tg)) (i : Nat) (h : i < T.length) : (T.map tgs).getD i (.slc 1 0 []) = tgs (T.getD i []) := by simp [h]
theorem tmt_any (T : List (List Tg)) (i : Nat) (h : i < T.length) : (T.map tgs).getD i .any = tgs (T.getD i []) := by simp [h]

theorem frz_otgs (H : Heap) (d : Nat) (l : List Tg) : frz H (d + 2) (otgs l) = tgs l := by simp only [otgs, frz]; rw [map_frz_ints]
theorem frz_tgs (H : Heap) (d : Nat) (l : List Tg) : frz H (d + 2) (tgs l) = tgs l := by simp only [tgs, frz]; rw [map_frz_ints]
theorem map_frz_tr (H : Heap) (d : Nat) (T : List (List Tg)) : (T.map tgs).map (frz H (d + 2)) = T.map tgs := by
  rw [List.map_map]; exact List.map_congr_left fun l _ => frz_tgs H d l
theorem map_frz_otr (H : Heap) (d : Nat) (T : List (List Tg)) : (T.map otgs).map (frz H (d + 2)) = T.map tgs := by
  rw [List.map_map]; exact List.map_congr_left fun l _ => frz_otgs H d l
theorem shf_otgs (n d : Nat) (l : List Tg) : shf n d (otgs l) = otgs l := by
  cases d with
  | zero => rfl
  | succ d => simp only [otgs, shf]; rw [map_shf_ints]
theorem map_shf_otr (n d : Nat) (T : List (List Tg)) : (T.map otgs).map (shf n d) = T.map otgs := by
  rw [List.map_map]; exact List.map_congr_left fun l _ => shf_otgs n d l
theorem all_nf_otr (d : Nat) (T : List (List Tg)) : (T.map otgs).all (nf (d + 2)) = true := by
  rw [List.all_map]; exact List.all_eq_true.2 fun l _ => by simp only [Function.comp_apply, otgs, nf]; exact all_nf_ints d _
theorem plain_tr (T : List (List Tg)) (i : Nat) : plainC ((T.map tgs).getD i .any) = true := by
  by_cases h : i < T.length
  · simp [h, plainC]
  · simp [h, plainC]
theorem rnmL_tr (τ : Nat → Option Nat) (T : List (List Tg)) : rnmL τ (T.map tgs) = T.map tgs := by
  rw [rnmL_map, List.map_map]; exact List.map_congr_left fun l _ => by simp only [Function.comp_apply, tgs, rnm, rnmL_ints]
theorem rnmL_otr (τ : Nat → Option Nat) (T : List (List Tg)) : rnmL τ (T.map otgs) = T.map otgs := by
  rw [rnmL_map, List.map_map]; exact List.map_congr_left fun l _ => by simp only [Function.comp_apply, otgs, rnm, rnmL_ints]
theorem take_all_otr (T : List (List Tg)) : (T.map otgs).take (T.length * 1) = T.map otgs := by rw [Nat.mul_one]; exact List.take_of_length_le (by simp)
theorem take_otr (T : List (List Tg)) : (T.map otgs).take T.length = T.map otgs := List.take_of_length_le (by simp)
theorem take_flt (l : List Tg) : (intsC (flt l)).take (l.length * 2) = intsC (flt l) := List.take_of_length_le (by rw [len_intsC, flt_len]; exact Nat.le_refl _)
theorem shr_otgs (σ : Nat → Nat) (d : Nat) (l : List Tg) : shr σ d (otgs l) = otgs l := by
  cases d with
  | zero => rfl
  | succ d => simp only [otgs, shr]; rw [map_shr_ints]
theorem map_shr_otr (σ : Nat → Nat) (d : Nat) (T : List (List Tg)) : (T.map otgs).map (shr σ d) = T.map otgs := by
  rw [List.map_map]; exact List.map_congr_left fun l _ => shr_otgs σ d l
attribute [go_sem] map_frz_tr map_frz_otr map_shf_otr all_nf_otr plain_tr rnmL_tr rnmL_otr take_all_otr take_otr take_flt map_shr_otr

theorem szTS_c (xs : List Tg) (b : Int) (h0 : 0 ≤ b) (hb : b ≤ 1048576) (hl : xs.length ≤ 9223372036854775807) : Pure Try.prog 85 [tgs xs, i64 b] (i64 (left b xs.length)) [] := by
  refine pureV ok85 rfl ?_; unfold c85
  (repeat first | simp only [go_sem, ↓reduceIte, Nat.reduceEqDiff, Nat.reduceAdd, reduceCtorEq] | with_reducible refine V_W ?_ | (with_reducible refine And.intro ?_ ?_; focus first | assumption | omega | decide | grind) | (with_reducible refine Br.mk ?_ ?_; focus (intros; omega)) | decide)
  refine ⟨fun hc => ?_, fun hc => ?_⟩
  · (repeat first | simp only [go_sem, ↓reduceIte, Nat.reduceEqDiff, Nat.reduceAdd, reduceCtorEq] | with_reducible refine V_W ?_ | (with_reducible refine And.intro ?_ ?_; focus first | assumption | omega | decide | grind) | (with_reducible refine Br.mk ?_ ?_; focus (intros; omega)) | decide)
    rw [show left b xs.length = -1 from if_neg (by omega)]
  · (repeat first | simp only [go_sem, ↓reduceIte, Nat.reduceEqDiff, Nat.reduceAdd, reduceCtorEq] | with_reducible refine V_W ?_ | (with_reducible refine And.intro ?_ ?_; focus first | assumption | omega | decide | grind) | (with_reducible refine Br.mk ?_ ?_; focus (intros; omega)) | decide)
    rw [show left b xs.length = b - xs.length from if_pos (by omega)]

theorem szTSS_c (T : List (List Tg)) (b : Int) (h0 : 0 ≤ b) (hb : b ≤ 1048576) (hl : T.length ≤ 9223372036854775807) (hr : ∀ xs ∈ T, xs.length ≤ 9223372036854775807) : Pure Try.prog 53 [tmt T, i64 b] (i64 (left b (T.length + ttot T))) [] := by
  refine pureV ok53 rfl ?_; unfold c53
  (repeat first | simp only [go_sem, ↓reduceIte, Nat.reduceEqDiff, Nat.reduceAdd, reduceCtorEq] | with_reducible refine V_W ?_ | (with_reducible refine And.intro ?_ ?_; focus first | assumption | omega | decide | grind) | (with_reducible refine Br.mk ?_ ?_; focus (intros; omega)) | decide)
  refine ⟨fun hc => ?_, fun hc => ?_⟩
  · (repeat first | simp only [go_sem, ↓reduceIte, Nat.reduceEqDiff, Nat.reduceAdd, reduceCtorEq] | with_reducible refine V_W ?_ | (with_reducible refine And.intro ?_ ?_; focus first | assumption | omega | decide | grind) | (with_reducible refine Br.mk ?_ ?_; focus (intros; omega)) | decide)
    rw [show left b (T.length + ttot T) = -1 from if_neg (by omega)]
  · (repeat first | simp only [go_sem, ↓reduceIte, Nat.reduceEqDiff, Nat.reduceAdd, reduceCtorEq] | with_reducible refine V_W ?_ | (with_reducible refine And.intro ?_ ?_; focus first | assumption | omega | decide | grind) | (with_reducible refine Br.mk ?_ ?_; focus (intros; omega)) | decide)
    refine V_loop (α := Nat) (S := fun i => ([(0, tmt T), (1, i64 (b - T.length - ttot (T.take i))), (5, i64 i)], [])) (C := fun i => i ≤ T.length ∧ (ttot (T.take i) : Int) ≤ b - T.length) (μ := fun i => T.length - i) 0 ⟨by omega, by simp [ttot]; omega⟩ (by simp only [List.take_zero, ttot, List.map_nil, List.sum_nil]; exact Ref.frame (by simp [sub, fget])) ?_
    rintro i ⟨hi, hle⟩
    (repeat first | simp only [go_sem, ↓reduceIte, Nat.reduceEqDiff, Nat.reduceAdd, reduceCtorEq] | with_reducible refine V_W ?_ | (with_reducible refine And.intro ?_ ?_; focus first | assumption | omega | decide | grind) | (with_reducible refine Br.mk ?_ ?_; focus (intros; omega)) | decide)
    refine ⟨fun hc1 => ?_, fun hc1 => ?_⟩
    · have hlt : i < T.length := by omega
      have hrow : (T.getD i []).length ≤ 9223372036854775807 := by
        rw [show T.getD i [] = T[i] by simp [hlt]]; exact hr _ (List.getElem_mem _)
      have g1 := tmt_at T i hlt
      have g2 := tmt_any T i hlt
      (repeat first | simp only [go_sem, ↓reduceIte, Nat.reduceEqDiff, Nat.reduceAdd, reduceCtorEq] | with_reducible refine V_W ?_ | (with_reducible refine And.intro ?_ ?_; focus first | assumption | omega | decide | grind) | (with_reducible refine Br.mk ?_ ?_; focus (intros; omega)) | decide)
      simp only [g1, g2, go_sem, ↓reduceIte, Nat.reduceEqDiff, Nat.reduceAdd, reduceCtorEq]
      (repeat first | simp only [go_sem, ↓reduceIte, Nat.reduceEqDiff, Nat.reduceAdd, reduceCtorEq] | with_reducible refine V_W ?_ | (with_reducible refine And.intro ?_ ?_; focus first | assumption | omega | decide | grind) | (with_reducible refine Br.mk ?_ ?_; focus (intros; omega)) | decide)
      refine pureC (szTS_c (T.getD i []) (b - T.length - ttot (T.take i)) (by omega) (by omega) hrow) (by simp only [go_sem, ↓reduceIte, Nat.reduceEqDiff, Nat.reduceAdd, reduceCtorEq] <;> rfl) (by first | rfl | simp only [go_sem, ↓reduceIte, Nat.reduceEqDiff, Nat.reduceAdd, reduceCtorEq]) ?_
      (repeat first | simp only [go_sem, ↓reduceIte, Nat.reduceEqDiff, Nat.reduceAdd, reduceCtorEq] | with_reducible refine V_W ?_ | (with_reducible refine And.intro ?_ ?_; focus first | assumption | omega | decide | grind) | (with_reducible refine Br.mk ?_ ?_; focus (intros; omega)) | decide)
      have ht := ttot_take T i hlt
      have hle2 := ttot_take_le T (i + 1)
      have hlf : left (b - T.length - ttot (T.take i)) (T.getD i []).length = if (ttot (T.take (i + 1)) : Int) ≤ b - T.length then b - T.length - ttot (T.take (i + 1)) else -1 := by
        unfold left
        rw [ht]
        by_cases h : ((T.getD i []).length : Int) ≤ b - T.length - ttot (T.take i)
        · rw [if_pos h, if_pos (by omega)]; omega
        · rw [if_neg h, if_neg (by omega)]
      refine ⟨fun hc2 => ?_, fun hc2 => ?_⟩
      · (repeat first | simp only [go_sem, ↓reduceIte, Nat.reduceEqDiff, Nat.reduceAdd, reduceCtorEq] | with_reducible refine V_W ?_ | (with_reducible refine And.intro ?_ ?_; focus first | assumption | omega | decide | grind) | (with_reducible refine Br.mk ?_ ?_; focus (intros; omega)) | decide)
        have : ¬ (ttot (T.take (i + 1)) : Int) ≤ b - T.length := fun h => by rw [hlf, if_pos h] at hc2; omega
        rw [show left b (T.length + ttot T) = -1 from if_neg (by omega)]
      · have h : (ttot (T.take (i + 1)) : Int) ≤ b - T.length := by
          rcases Int.lt_or_le (b - T.length) (ttot (T.take (i + 1))) with h | h
          · rw [hlf, if_neg (by omega)] at hc2; omega
          · exact h
        (repeat first | simp only [go_sem, ↓reduceIte, Nat.reduceEqDiff, Nat.reduceAdd, reduceCtorEq] | with_reducible refine V_W ?_ | (with_reducible refine And.intro ?_ ?_; focus first | assumption | omega | decide | grind) | (with_reducible refine Br.mk ?_ ?_; focus (intros; omega)) | decide)
        rw [hlf, if_pos h]
        exact ⟨i + 1, ⟨by omega, h⟩, by omega, by exact Ref.frame (by simp [sub, fget])⟩
    · (repeat first | simp only [go_sem, ↓reduceIte, Nat.reduceEqDiff, Nat.reduceAdd, reduceCtorEq] | with_reducible refine V_W ?_ | (with_reducible refine And.intro ?_ ?_; focus first | assumption | omega | decide | grind) | (with_reducible refine Br.mk ?_ ?_; focus (intros; omega)) | decide)
      have : i = T.length := by omega
      subst this
      rw [List.take_length] at hle ⊢
      rw [show left b (T.length + ttot T) = b - (T.length + ttot T : Nat) from if_pos (by omega)]
      show i64 _ = i64 _
      rw [show b - (T.length : Int) - (ttot T : Int) = b - ((T.length + ttot T : Nat) : Int) by omega]

theorem toT_c (p : Tg) : Pure Try.prog 111 [.agg [i64 p.1, i64 p.2]] (.agg [i64 p.1, i64 p.2]) [] := by
  refine pureV0 ok111 rfl rfl ?_; unfold c111
  (repeat first | simp only [go_sem, ↓reduceIte, Nat.reduceEqDiff, Nat.reduceAdd, reduceCtorEq] | with_reducible refine V_W ?_ | (with_reducible refine And.intro ?_ ?_; focus first | assumption | omega | decide | grind) | (with_reducible refine Br.mk ?_ ?_; focus (intros; omega)) | decide)

theorem flt_set : ∀ (l : List Tg) (i : Nat) (a b : Int), ((flt l).set (i * 2) a).set (i * 2 + 1) b = flt (l.set i (a, b))
  | [], i, a, b => by simp [flt]
  | p :: l, 0, a, b => rfl
  | p :: l, i + 1, a, b => by
    rw [show (i + 1) * 2 = i * 2 + 1 + 1 by omega, flt, List.set_cons_succ, List.set_cons_succ, List.set_cons_succ, List.set_cons_succ, flt_set l i, List.set_cons_succ, flt]
theorem flt_rep0 : ∀ (n : Nat), flt (List.replicate n T0) = List.replicate (n * 2) 0
  | 0 => rfl
  | n + 1 => by
    rw [show (n + 1) * 2 = n * 2 + 1 + 1 by omega, List.replicate_succ, flt, flt_rep0 n, List.replicate_succ, List.replicate_succ]
theorem flt_rep (n : Nat) : mkCells [.int .i64 0, .int .i64 0] n = intsC (flt (List.replicate n T0)) := by
  rw [flt_rep0, ← rep_intsC]
  have e : (fun i : Nat => AV.val (([Value.int .i64 0, Value.int .i64 0] : List Value).getD (i % 2) undef)) = fun _ => i64 0 := funext fun i => by
    rcases Nat.mod_two_eq_zero_or_one i with h | h <;> rw [h] <;> rfl
  show (List.range (n * 2)).map (fun i : Nat => AV.val (([Value.int .i64 0, Value.int .i64 0] : List Value).getD (i % 2) undef)) = _
  exact (List.map_congr_left fun i _ => congrFun e i).trans (by rw [List.map_const', List.length_range])
theorem splice2 : ∀ (cs : List AV) (j : Nat) (a b : AV), j + 2 ≤ cs.length → cs.take j ++ [a, b] ++ cs.drop (j + 2) = (cs.set j a).set (j + 1) b
  | [], j, a, b, h => by simp at h
  | [x], j, a, b, h => by simp at h
  | x :: y :: cs, 0, a, b, h => rfl
  | x :: cs, j + 1, a, b, h => by
    have := splice2 cs j a b (by simp at h; omega)
    rw [show j + 1 + 2 = j + 2 + 1 by omega, List.take_succ_cons, List.drop_succ_cons, List.set_cons_succ, List.set_cons_succ, ← this]
    rfl
theorem splice_flt (l : List Tg) (i : Nat) (a b : Int) (h : i < l.length) : splice (intsC (flt l)) (i * 2) [i64 a, i64 b] = intsC (flt (l.set i (a, b))) := by
  rw [← flt_set, ← set_intsC, ← set_intsC]
  exact splice2 _ _ _ _ (by rw [len_intsC, flt_len]; omega)

theorem toTS_c (xs : List Tg) (hl : xs.length ≤ 1099511627776) : Pure Try.prog 87 [tgs xs] (.sl 0 2 0 xs.length) [some (intsC (flt xs))] := by
  refine pureV ok87 rfl ?_; unfold c87
  (repeat first | simp only [go_sem, ↓reduceIte, Nat.reduceEqDiff, Nat.reduceAdd, reduceCtorEq] | with_reducible refine V_W ?_ | (with_reducible refine And.intro ?_ ?_; focus first | assumption | omega | decide | grind) | (with_reducible refine Br.mk ?_ ?_; focus (intros; omega)) | decide)
  refine V_loop (α := Nat) (S := fun i => ([(0, tgs xs), (3, .sl 0 2 0 xs.length), (4, i64 i)], [some (intsC (flt (xs.take i ++ List.replicate (xs.length - i) T0)))])) (C := fun i => i ≤ xs.length) (μ := fun i => xs.length - i) 0 (by omega) (by simp only [List.take_zero, List.nil_append, Nat.sub_zero, flt_rep]; exact Ref.frame (by simp [sub, fget])) ?_
  intro i hi
  have hlen : (flt (xs.take i ++ List.replicate (xs.length - i) T0)).length = xs.length * 2 := by rw [flt_len]; simp; omega
  (repeat first | simp only [go_sem, ↓reduceIte, Nat.reduceEqDiff, Nat.reduceAdd, reduceCtorEq] | with_reducible refine V_W ?_ | (with_reducible refine And.intro ?_ ?_; focus first | assumption | omega | decide | grind) | (with_reducible refine Br.mk ?_ ?_; focus (intros; omega)) | decide)
  refine ⟨fun hc => ?_, fun hc => ?_⟩
  · have g1 := flt_two xs i (by omega)
    (repeat first | simp only [go_sem, ↓reduceIte, Nat.reduceEqDiff, Nat.reduceAdd, reduceCtorEq] | with_reducible refine V_W ?_ | (with_reducible refine And.intro ?_ ?_; focus first | assumption | omega | decide | grind) | (with_reducible refine Br.mk ?_ ?_; focus (intros; omega)) | decide)
    refine And.intro ⟨by rw [flt_len]; omega, by rw [g1]; rfl⟩ ?_
    simp only [g1, go_sem, ↓reduceIte, Nat.reduceEqDiff, Nat.reduceAdd, reduceCtorEq]
    refine pureC (toT_c (xs.getD i T0)) (by simp only [go_sem, ↓reduceIte, Nat.reduceEqDiff, Nat.reduceAdd, reduceCtorEq] <;> rfl) (by first | rfl | simp only [go_sem, ↓reduceIte, Nat.reduceEqDiff, Nat.reduceAdd, reduceCtorEq]) ?_
    (repeat first | simp only [go_sem, ↓reduceIte, Nat.reduceEqDiff, Nat.reduceAdd, reduceCtorEq] | with_reducible refine V_W ?_ | (with_reducible refine And.intro ?_ ?_; focus first | assumption | omega | decide | grind) | (with_reducible refine Br.mk ?_ ?_; focus (intros; omega)) | decide)
    rw [splice_flt _ i _ _ (by simp; omega), cpy_step xs T0 i (by omega)]
    exact ⟨i + 1, by omega, by omega, by exact Ref.frame (by simp [sub, fget])⟩
  · (repeat first | simp only [go_sem, ↓reduceIte, Nat.reduceEqDiff, Nat.reduceAdd, reduceCtorEq] | with_reducible refine V_W ?_ | (with_reducible refine And.intro ?_ ?_; focus first | assumption | omega | decide | grind) | (with_reducible refine Br.mk ?_ ?_; focus (intros; omega)) | decide)
    rw [show i = xs.length by omega, List.take_length, Nat.sub_self, List.replicate_zero, List.append_nil]

theorem toTSS_c (T : List (List Tg)) (hl : T.length ≤ 1099511627776) (hr : ∀ xs ∈ T, xs.length ≤ 1099511627776) : Pure Try.prog 57 [tmt T] (.sl 0 1 0 T.length) [some (T.map otgs)] := by
  refine pureV ok57 rfl ?_; unfold c57
  (repeat first | simp only [go_sem, ↓reduceIte, Nat.reduceEqDiff, Nat.reduceAdd, reduceCtorEq] | with_reducible refine V_W ?_ | (with_reducible refine And.intro ?_ ?_; focus first | assumption | omega | decide | grind) | (with_reducible refine Br.mk ?_ ?_; focus (intros; omega)) | decide)
  refine V_loop (α := Nat) (S := fun i => ([(0, tmt T), (3, .sl 0 1 0 T.length), (4, i64 i)], [some ((T.take i).map otgs ++ List.replicate (T.length - i) (.val (.slice none 0 0)))])) (C := fun i => i ≤ T.length) (μ := fun i => T.length - i) 0 (by omega) (by simp only [List.take_zero, List.map_nil, List.nil_append, Nat.sub_zero]; exact Ref.frame (by simp [sub, fget])) ?_
  intro i hi
  (repeat first | simp only [go_sem, ↓reduceIte, Nat.reduceEqDiff, Nat.reduceAdd, reduceCtorEq] | with_reducible refine V_W ?_ | (with_reducible refine And.intro ?_ ?_; focus first | assumption | omega | decide | grind) | (with_reducible refine Br.mk ?_ ?_; focus (intros; omega)) | decide)
  refine ⟨fun hc => ?_, fun hc => ?_⟩
  · have hlt : i < T.length := by omega
    have g1 := tmt_at T i hlt
    have g2 := tmt_any T i hlt
    have hrow : (T.getD i []).length ≤ 1099511627776 := by
      rw [show T.getD i [] = T[i] by simp [hlt]]; exact hr _ (List.getElem_mem _)
    (repeat first | simp only [go_sem, ↓reduceIte, Nat.reduceEqDiff, Nat.reduceAdd, reduceCtorEq] | with_reducible refine V_W ?_ | (with_reducible refine And.intro ?_ ?_; focus first | assumption | omega | decide | grind) | (with_reducible refine Br.mk ?_ ?_; focus (intros; omega)) | decide)
    simp only [g1, g2, go_sem, ↓reduceIte, Nat.reduceEqDiff, Nat.reduceAdd, reduceCtorEq]
    (repeat first | simp only [go_sem, ↓reduceIte, Nat.reduceEqDiff, Nat.reduceAdd, reduceCtorEq] | with_reducible refine V_W ?_ | (with_reducible refine And.intro ?_ ?_; focus first | assumption | omega | decide | grind) | (with_reducible refine Br.mk ?_ ?_; focus (intros; omega)) | decide)
    refine pureC (toTS_c (T.getD i []) hrow) (by simp only [go_sem, ↓reduceIte, Nat.reduceEqDiff, Nat.reduceAdd, reduceCtorEq] <;> rfl) (by first | rfl | simp only [go_sem, ↓reduceIte, Nat.reduceEqDiff, Nat.reduceAdd, reduceCtorEq]) ?_
    (repeat first | simp only [go_sem, ↓reduceIte, Nat.reduceEqDiff, Nat.reduceAdd, reduceCtorEq] | with_reducible refine V_W ?_ | (with_reducible refine And.intro ?_ ?_; focus first | assumption | omega | decide | grind) | (with_reducible refine Br.mk ?_ ?_; focus (intros; omega)) | decide)
    refine ⟨i + 1, by omega, by omega, (Ref.close 0 i 1 (cs2 := intsC (flt (T.getD i []))) rfl (List.getElem?_set_self (by simp; omega)) rfl (by decide) (by rw [len_intsC, flt_len])).trans (Ref.gc [0] rfl ?_ (by simp [sub, fget, go_sem, ↓reduceIte, Nat.reduceEqDiff, Nat.reduceAdd, reduceCtorEq]))⟩
    (try simp only [go_sem, ↓reduceIte, Nat.reduceEqDiff, Nat.reduceAdd, reduceCtorEq, List.set_set])
    rw [cpy_map otgs T [] _ i (by omega)]
  · (repeat first | simp only [go_sem, ↓reduceIte, Nat.reduceEqDiff, Nat.reduceAdd, reduceCtorEq] | with_reducible refine V_W ?_ | (with_reducible refine And.intro ?_ ?_; focus first | assumption | omega | decide | grind) | (with_reducible refine Br.mk ?_ ?_; focus (intros; omega)) | decide)
    rw [show i = T.length by omega, List.take_length, Nat.sub_self, List.replicate_zero, List.append_nil]

theorem eqT_c (p q : Tg) : Pure Try.prog 113 [.agg [i64 p.1, i64 p.2], .agg [i64 q.1, i64 q.2]] (bl (decide (p = q))) [] := by
  refine pureV0 ok113 rfl rfl ?_; unfold c113
  (repeat first | simp only [go_sem, ↓reduceIte, Nat.reduceEqDiff, Nat.reduceAdd, reduceCtorEq] | with_reducible refine V_W ?_ | (with_reducible refine And.intro ?_ ?_; focus first | assumption | omega | decide | grind) | (with_reducible refine Br.mk ?_ ?_; focus (intros; omega)) | decide)
  refine ⟨fun hc => ?_, fun hc => ?_⟩
  · (repeat first | simp only [go_sem, ↓reduceIte, Nat.reduceEqDiff, Nat.reduceAdd, reduceCtorEq] | with_reducible refine V_W ?_ | (with_reducible refine And.intro ?_ ?_; focus first | assumption | omega | decide | grind) | (with_reducible refine Br.mk ?_ ?_; focus (intros; omega)) | decide)
    rw [decide_eq_false (fun h => by simp [h] at hc)]
  · (repeat first | simp only [go_sem, ↓reduceIte, Nat.reduceEqDiff, Nat.reduceAdd, reduceCtorEq] | with_reducible refine V_W ?_ | (with_reducible refine And.intro ?_ ?_; focus first | assumption | omega | decide | grind) | (with_reducible refine Br.mk ?_ ?_; focus (intros; omega)) | decide)
    refine ⟨fun hc1 => ?_, fun hc1 => ?_⟩
    · (repeat first | simp only [go_sem, ↓reduceIte, Nat.reduceEqDiff, Nat.reduceAdd, reduceCtorEq] | with_reducible refine V_W ?_ | (with_reducible refine And.intro ?_ ?_; focus first | assumption | omega | decide | grind) | (with_reducible refine Br.mk ?_ ?_; focus (intros; omega)) | decide)
      rw [decide_eq_false (fun h => by simp [h] at hc1)]
    · (repeat first | simp only [go_sem, ↓reduceIte, Nat.reduceEqDiff, Nat.reduceAdd, reduceCtorEq] | with_reducible refine V_W ?_ | (with_reducible refine And.intro ?_ ?_; focus first | assumption | omega | decide | grind) | (with_reducible refine Br.mk ?_ ?_; focus (intros; omega)) | decide)
      rw [decide_eq_true (Prod.ext (by simpa using hc) (by simpa using hc1))]

theorem eqTS_c (xs ys : List Tg) (hx : xs.length ≤ 1099511627776) (hy : ys.length ≤ 1099511627776) : Pure Try.prog 92 [tgs xs, tgs ys] (bl (decide (xs = ys))) [] := by
  refine pureV ok92 rfl ?_; unfold c92
  (repeat first | simp only [go_sem, ↓reduceIte, Nat.reduceEqDiff, Nat.reduceAdd, reduceCtorEq] | with_reducible refine V_W ?_ | (with_reducible refine And.intro ?_ ?_; focus first | assumption | omega | decide | grind) | (with_reducible refine Br.mk ?_ ?_; focus (intros; omega)) | decide)
  refine ⟨fun hc => ?_, fun hc => ?_⟩
  · (repeat first | simp only [go_sem, ↓reduceIte, Nat.reduceEqDiff, Nat.reduceAdd, reduceCtorEq] | with_reducible refine V_W ?_ | (with_reducible refine And.intro ?_ ?_; focus first | assumption | omega | decide | grind) | (with_reducible refine Br.mk ?_ ?_; focus (intros; omega)) | decide)
    rw [decide_eq_false (fun h => by simp [h] at hc)]
  · have hl : xs.length = ys.length := by omega
    (repeat first | simp only [go_sem, ↓reduceIte, Nat.reduceEqDiff, Nat.reduceAdd, reduceCtorEq] | with_reducible refine V_W ?_ | (with_reducible refine And.intro ?_ ?_; focus first | assumption | omega | decide | grind) | (with_reducible refine Br.mk ?_ ?_; focus (intros; omega)) | decide)
    refine V_loop (α := Nat) (S := fun i => ([(0, tgs xs), (1, tgs ys), (5, i64 i)], [])) (C := fun i => i ≤ xs.length ∧ ∀ j, j < i → xs.getD j T0 = ys.getD j T0) (μ := fun i => xs.length - i) 0 ⟨by omega, by omega⟩ (by exact Ref.frame (by simp [sub, fget])) ?_
    rintro i ⟨hi, hall⟩
    (repeat first | simp only [go_sem, ↓reduceIte, Nat.reduceEqDiff, Nat.reduceAdd, reduceCtorEq] | with_reducible refine V_W ?_ | (with_reducible refine And.intro ?_ ?_; focus first | assumption | omega | decide | grind) | (with_reducible refine Br.mk ?_ ?_; focus (intros; omega)) | decide)
    refine ⟨fun hc1 => ?_, fun hc1 => ?_⟩
    · have g1 := flt_two xs i (by omega)
      have g2 := flt_two ys i (by omega)
      (repeat first | simp only [go_sem, ↓reduceIte, Nat.reduceEqDiff, Nat.reduceAdd, reduceCtorEq] | with_reducible refine V_W ?_ | (with_reducible refine And.intro ?_ ?_; focus first | assumption | omega | decide | grind) | (with_reducible refine Br.mk ?_ ?_; focus (intros; omega)) | decide)
      refine And.intro ⟨by rw [flt_len]; omega, by rw [g1]; rfl⟩ (And.intro ⟨by omega, by omega⟩ (And.intro ⟨by rw [flt_len]; omega, by rw [g2]; rfl⟩ ?_))
      simp only [g1, g2, go_sem, ↓reduceIte, Nat.reduceEqDiff, Nat.reduceAdd, reduceCtorEq]
      refine pureC (eqT_c (xs.getD i T0) (ys.getD i T0)) (by simp only [go_sem, ↓reduceIte, Nat.reduceEqDiff, Nat.reduceAdd, reduceCtorEq] <;> rfl) (by first | rfl | simp only [go_sem, ↓reduceIte, Nat.reduceEqDiff, Nat.reduceAdd, reduceCtorEq]) ?_
      (repeat first | simp only [go_sem, ↓reduceIte, Nat.reduceEqDiff, Nat.reduceAdd, reduceCtorEq] | with_reducible refine V_W ?_ | (with_reducible refine And.intro ?_ ?_; focus first | assumption | omega | decide | grind) | (with_reducible refine Br.mk ?_ ?_; focus (intros; omega)) | decide)
      refine ⟨fun hc2 => ?_, fun hc2 => ?_⟩
      · (repeat first | simp only [go_sem, ↓reduceIte, Nat.reduceEqDiff, Nat.reduceAdd, reduceCtorEq] | with_reducible refine V_W ?_ | (with_reducible refine And.intro ?_ ?_; focus first | assumption | omega | decide | grind) | (with_reducible refine Br.mk ?_ ?_; focus (intros; omega)) | decide)
        rw [decide_eq_false (fun h => by simp [h] at hc2)]
      · (repeat first | simp only [go_sem, ↓reduceIte, Nat.reduceEqDiff, Nat.reduceAdd, reduceCtorEq] | with_reducible refine V_W ?_ | (with_reducible refine And.intro ?_ ?_; focus first | assumption | omega | decide | grind) | (with_reducible refine Br.mk ?_ ?_; focus (intros; omega)) | decide)
        refine ⟨i + 1, ⟨by omega, fun j hj => ?_⟩, by omega, by exact Ref.frame (by simp [sub, fget])⟩
        rcases Nat.lt_or_ge j i with h | h
        · exact hall j h
        · obtain rfl : j = i := by omega
          simpa using hc2
    · (repeat first | simp only [go_sem, ↓reduceIte, Nat.reduceEqDiff, Nat.reduceAdd, reduceCtorEq] | with_reducible refine V_W ?_ | (with_reducible refine And.intro ?_ ?_; focus first | assumption | omega | decide | grind) | (with_reducible refine Br.mk ?_ ?_; focus (intros; omega)) | decide)
      rw [decide_eq_true]
      refine List.ext_getElem hl fun j h1 h2 => ?_
      have := hall j (by omega)
      simpa [h1, h2] using this

theorem eqTSS_c (T U : List (List Tg)) (hx : T.length ≤ 1099511627776) (hy : U.length ≤ 1099511627776) (hxr : ∀ xs ∈ T, xs.length ≤ 1099511627776) (hyr : ∀ xs ∈ U, xs.length ≤ 1099511627776) : Pure Try.prog 62 [tmt T, tmt U] (bl (decide (T = U))) [] := by
  refine pureV ok62 rfl ?_; unfold c62
  (repeat first | simp only [go_sem, ↓reduceIte, Nat.reduceEqDiff, Nat.reduceAdd, reduceCtorEq] | with_reducible refine V_W ?_ | (with_reducible refine And.intro ?_ ?_; focus first | assumption | omega | decide | grind) | (with_reducible refine Br.mk ?_ ?_; focus (intros; omega)) | decide)
  refine ⟨fun hc => ?_, fun hc => ?_⟩
  · (repeat first | simp only [go_sem, ↓reduceIte, Nat.reduceEqDiff, Nat.reduceAdd, reduceCtorEq] | with_reducible refine V_W ?_ | (with_reducible refine And.intro ?_ ?_; focus first | assumption | omega | decide | grind) | (with_reducible refine Br.mk ?_ ?_; focus (intros; omega)) | decide)
    rw [decide_eq_false (fun h => by simp [h] at hc)]
  · have hl : T.length = U.length := by omega
    (repeat first | simp only [go_sem, ↓reduceIte, Nat.reduceEqDiff, Nat.reduceAdd, reduceCtorEq] | with_reducible refine V_W ?_ | (with_reducible refine And.intro ?_ ?_; focus first | assumption | omega | decide | grind) | (with_reducible refine Br.mk ?_ ?_; focus (intros; omega)) | decide)
    refine V_loop (α := Nat) (S := fun i => ([(0, tmt T), (1, tmt U), (5, i64 i)], [])) (C := fun i => i ≤ T.length ∧ ∀ j, j < i → T.getD j [] = U.getD j []) (μ := fun i => T.length - i) 0 ⟨by omega, by omega⟩ (by exact Ref.frame (by simp [sub, fget])) ?_
    rintro i ⟨hi, hall⟩
    (repeat first | simp only [go_sem, ↓reduceIte, Nat.reduceEqDiff, Nat.reduceAdd, reduceCtorEq] | with_reducible refine V_W ?_ | (with_reducible refine And.intro ?_ ?_; focus first | assumption | omega | decide | grind) | (with_reducible refine Br.mk ?_ ?_; focus (intros; omega)) | decide)
    refine ⟨fun hc1 => ?_, fun hc1 => ?_⟩
    · have h1 : (T.getD i []).length ≤ 1099511627776 := by
        rw [show T.getD i [] = T[i]'(by omega) by simp [show i < T.length by omega]]; exact hxr _ (List.getElem_mem _)
      have h2 : (U.getD i []).length ≤ 1099511627776 := by
        rw [show U.getD i [] = U[i]'(by omega) by simp [show i < U.length by omega]]; exact hyr _ (List.getElem_mem _)
      have g1 := tmt_at T i (by omega)
      have g2 := tmt_at U i (by omega)
      (repeat first | simp only [go_sem, ↓reduceIte, Nat.reduceEqDiff, Nat.reduceAdd, reduceCtorEq] | with_reducible refine V_W ?_ | (with_reducible refine And.intro ?_ ?_; focus first | assumption | omega | decide | grind) | (with_reducible refine Br.mk ?_ ?_; focus (intros; omega)) | decide)
      simp only [g1, g2, go_sem, ↓reduceIte, Nat.reduceEqDiff, Nat.reduceAdd, reduceCtorEq]
      (repeat first | simp only [go_sem, ↓reduceIte, Nat.reduceEqDiff, Nat.reduceAdd, reduceCtorEq] | with_reducible refine V_W ?_ | (with_reducible refine And.intro ?_ ?_; focus first | assumption | omega | decide | grind) | (with_reducible refine Br.mk ?_ ?_; focus (intros; omega)) | decide)
      refine pureC (eqTS_c (T.getD i []) (U.getD i []) h1 h2) (by simp only [go_sem, ↓reduceIte, Nat.reduceEqDiff, Nat.reduceAdd, reduceCtorEq] <;> rfl) (by first | rfl | simp only [go_sem, ↓reduceIte, Nat.reduceEqDiff, Nat.reduceAdd, reduceCtorEq]) ?_
      (repeat first | simp only [go_sem, ↓reduceIte, Nat.reduceEqDiff, Nat.reduceAdd, reduceCtorEq] | with_reducible refine V_W ?_ | (with_reducible refine And.intro ?_ ?_; focus first | assumption | omega | decide | grind) | (with_reducible refine Br.mk ?_ ?_; focus (intros; omega)) | decide)
      refine ⟨fun hc2 => ?_, fun hc2 => ?_⟩
      · (repeat first | simp only [go_sem, ↓reduceIte, Nat.reduceEqDiff, Nat.reduceAdd, reduceCtorEq] | with_reducible refine V_W ?_ | (with_reducible refine And.intro ?_ ?_; focus first | assumption | omega | decide | grind) | (with_reducible refine Br.mk ?_ ?_; focus (intros; omega)) | decide)
        rw [decide_eq_false (fun h => by simp [h] at hc2)]
      · (repeat first | simp only [go_sem, ↓reduceIte, Nat.reduceEqDiff, Nat.reduceAdd, reduceCtorEq] | with_reducible refine V_W ?_ | (with_reducible refine And.intro ?_ ?_; focus first | assumption | omega | decide | grind) | (with_reducible refine Br.mk ?_ ?_; focus (intros; omega)) | decide)
        refine ⟨i + 1, ⟨by omega, fun j hj => ?_⟩, by omega, by exact Ref.frame (by simp [sub, fget])⟩
        rcases Nat.lt_or_ge j i with h | h
        · exact hall j h
        · obtain rfl : j = i := by omega
          simpa using hc2
    · (repeat first | simp only [go_sem, ↓reduceIte, Nat.reduceEqDiff, Nat.reduceAdd, reduceCtorEq] | with_reducible refine V_W ?_ | (with_reducible refine And.intro ?_ ?_; focus first | assumption | omega | decide | grind) | (with_reducible refine Br.mk ?_ ?_; focus (intros; omega)) | decide)
      rw [decide_eq_true]
      refine List.ext_getElem hl fun j h1 h2 => ?_
      have := hall j (by omega)
      simpa [h1, h2] using this

abbrev tplA (T : List (List Tg)) : AV := .agg [tmt T]
theorem toTpl_c (T : List (List Tg)) (hl : T.length ≤ 1099511627776) (hr : ∀ xs ∈ T, xs.length ≤ 1099511627776) : Pure Try.prog 26 [tplA T] (.agg [.sl 0 1 0 T.length]) [some (T.map otgs)] := by
  refine pureVg [3] ok26 rfl ?_; unfold c26
  (repeat first | simp only [go_sem, ↓reduceIte, Nat.reduceEqDiff, Nat.reduceAdd, reduceCtorEq] | with_reducible refine V_W ?_ | (with_reducible refine And.intro ?_ ?_; focus first | assumption | omega | decide | grind) | (with_reducible refine Br.mk ?_ ?_; focus (intros; omega)) | decide)
  refine pureC (toTSS_c T hl hr) (by simp only [go_sem, ↓reduceIte, Nat.reduceEqDiff, Nat.reduceAdd, reduceCtorEq] <;> rfl) (by first | rfl | simp only [go_sem, ↓reduceIte, Nat.reduceEqDiff, Nat.reduceAdd, reduceCtorEq]) ?_
  (repeat first | simp only [go_sem, ↓reduceIte, Nat.reduceEqDiff, Nat.reduceAdd, reduceCtorEq] | with_reducible refine V_W ?_ | (with_reducible refine And.intro ?_ ?_; focus first | assumption | omega | decide | grind) | (with_reducible refine Br.mk ?_ ?_; focus (intros; omega)) | decide)
theorem eqTpl_c (T U : List (List Tg)) (hl : T.length ≤ 1099511627776) (hr : ∀ xs ∈ T, xs.length ≤ 1099511627776) (hl' : U.length ≤ 1099511627776) (hr' : ∀ xs ∈ U, xs.length ≤ 1099511627776) : Pure Try.prog 28 [tplA T, tplA U] (bl (decide (T = U))) [] := by
  refine pureV0 ok28 rfl rfl ?_; unfold c28
  (repeat first | simp only [go_sem, ↓reduceIte, Nat.reduceEqDiff, Nat.reduceAdd, reduceCtorEq] | with_reducible refine V_W ?_ | (with_reducible refine And.intro ?_ ?_; focus first | assumption | omega | decide | grind) | (with_reducible refine Br.mk ?_ ?_; focus (intros; omega)) | decide)
  refine pureC (eqTSS_c T U hl hl' hr hr') (by simp only [go_sem, ↓reduceIte, Nat.reduceEqDiff, Nat.reduceAdd, reduceCtorEq] <;> rfl) (by first | rfl | simp only [go_sem, ↓reduceIte, Nat.reduceEqDiff, Nat.reduceAdd, reduceCtorEq]) ?_
  (repeat first | simp only [go_sem, ↓reduceIte, Nat.reduceEqDiff, Nat.reduceAdd, reduceCtorEq] | with_reducible refine V_W ?_ | (with_reducible refine And.intro ?_ ?_; focus first | assumption | omega | decide | grind) | (with_reducible refine Br.mk ?_ ?_; focus (intros; omega)) | decide)
  refine ⟨fun hc => ?_, fun hc => ?_⟩
  · (repeat first | simp only [go_sem, ↓reduceIte, Nat.reduceEqDiff, Nat.reduceAdd, reduceCtorEq] | with_reducible refine V_W ?_ | (with_reducible refine And.intro ?_ ?_; focus first | assumption | omega | decide | grind) | (with_reducible refine Br.mk ?_ ?_; focus (intros; omega)) | decide)
    rw [decide_eq_false hc]
  · (repeat first | simp only [go_sem, ↓reduceIte, Nat.reduceEqDiff, Nat.reduceAdd, reduceCtorEq] | with_reducible refine V_W ?_ | (with_reducible refine And.intro ?_ ?_; focus first | assumption | omega | decide | grind) | (with_reducible refine Br.mk ?_ ?_; focus (intros; omega)) | decide)
    rw [decide_eq_true hc]
theorem szTpl_c (T : List (List Tg)) (b : Int) (h0 : 0 ≤ b) (hb : b ≤ 1048576) (hl : T.length ≤ 9223372036854775807) (hr : ∀ xs ∈ T, xs.length ≤ 9223372036854775807) : Pure Try.prog 24 [tplA T, i64 b] (i64 (left b (T.length + ttot T))) [] := by
  refine pureV0 ok24 rfl rfl ?_; unfold c24
  (repeat first | simp only [go_sem, ↓reduceIte, Nat.reduceEqDiff, Nat.reduceAdd, reduceCtorEq] | with_reducible refine V_W ?_ | (with_reducible refine And.intro ?_ ?_; focus first | assumption | omega | decide | grind) | (with_reducible refine Br.mk ?_ ?_; focus (intros; omega)) | decide)
  refine pureC (szTSS_c T b h0 hb hl hr) (by simp only [go_sem, ↓reduceIte, Nat.reduceEqDiff, Nat.reduceAdd, reduceCtorEq] <;> rfl) (by first | rfl | simp only [go_sem, ↓reduceIte, Nat.reduceEqDiff, Nat.reduceAdd, reduceCtorEq]) ?_
  (repeat first | simp only [go_sem, ↓reduceIte, Nat.reduceEqDiff, Nat.reduceAdd, reduceCtorEq] | with_reducible refine V_W ?_ | (with_reducible refine And.intro ?_ ?_; focus first | assumption | omega | decide | grind) | (with_reducible refine Br.mk ?_ ?_; focus (intros; omega)) | decide)
  refine ⟨fun hc => ?_, fun hc => ?_⟩
  · (repeat first | simp only [go_sem, ↓reduceIte, Nat.reduceEqDiff, Nat.reduceAdd, reduceCtorEq] | with_reducible refine V_W ?_ | (with_reducible refine And.intro ?_ ?_; focus first | assumption | omega | decide | grind) | (with_reducible refine Br.mk ?_ ?_; focus (intros; omega)) | decide)
    have := left_neg h0 hc
    rw [show left b (T.length + ttot T) = -1 from if_neg (by omega)]
  · (repeat first | simp only [go_sem, ↓reduceIte, Nat.reduceEqDiff, Nat.reduceAdd, reduceCtorEq] | with_reducible refine V_W ?_ | (with_reducible refine And.intro ?_ ?_; focus first | assumption | omega | decide | grind) | (with_reducible refine Br.mk ?_ ?_; focus (intros; omega)) | decide)
end Go.Proofs.Ytkolabjcmephaaa
set_option maxRecDepth 100000
namespace Go.Proofs.Ytkolabjcmephaaa
open Go.Gov

def upT (k : Int) (n : Nat) : List Tg := (List.range n).map fun (i : Nat) => (k + (i : Int) * 2, k + (i : Int) * 2 + 1)
theorem upT_len (k : Int) (n : Nat) : (upT k n).length = n := by simp [upT]
theorem upT_succ (k : Int) (n : Nat) : upT k (n + 1) = upT k n ++ [(k + n * 2, k + n * 2 + 1)] := by simp [upT, List.range_succ]
theorem upT_step (k : Int) (xs : List Tg) (i : Nat) (h : i < xs.length) : (upT k i ++ xs.drop i).set i (k + i * 2, k + i * 2 + 1) = upT k (i + 1) ++ xs.drop (i + 1) := by
  rw [List.set_append_right _ _ (by rw [upT_len]; exact Nat.le_refl _), upT_len, Nat.sub_self, List.drop_eq_getElem_cons h, List.set_cons_zero, upT_succ, List.append_assoc]
  rfl

theorem markTS_c (xs : List Tg) (k : Int) (hl : xs.length ≤ 1099511627776) (h0 : 0 ≤ k) (hk : k ≤ 1125899906842624) : Wri Try.prog 93 [.sl 0 2 0 xs.length, i64 k] [some (intsC (flt xs))] (i64 (k + xs.length * 2)) [some (intsC (flt (upT k xs.length)))] := by
  refine wriV ok93 rfl ?_; unfold c93
  (repeat first | simp only [go_sem, ↓reduceIte, Nat.reduceEqDiff, Nat.reduceAdd, reduceCtorEq] | with_reducible refine V_W ?_ | (with_reducible refine And.intro ?_ ?_; focus first | assumption | omega | decide | grind) | (with_reducible refine Br.mk ?_ ?_; focus (intros; omega)) | decide)
  refine V_loop (α := Nat) (S := fun i => ([(0, .sl 0 2 0 xs.length), (1, i64 (k + i * 2)), (5, i64 i)], [some (intsC (flt (upT k i ++ xs.drop i)))])) (C := fun i => i ≤ xs.length) (μ := fun i => xs.length - i) 0 (by omega) (Ref.to (by simp [upT]) (by simp [sub, fget])) ?_
  intro i hi
  have hlen : (flt (upT k i ++ xs.drop i)).length = xs.length * 2 := by rw [flt_len]; simp [upT_len]; omega
  (repeat first | simp only [go_sem, ↓reduceIte, Nat.reduceEqDiff, Nat.reduceAdd, reduceCtorEq] | with_reducible refine V_W ?_ | (with_reducible refine And.intro ?_ ?_; focus first | assumption | omega | decide | grind) | (with_reducible refine Br.mk ?_ ?_; focus (intros; omega)) | decide)
  refine ⟨fun hc => ?_, fun hc => ?_⟩
  · (repeat first | simp only [go_sem, ↓reduceIte, Nat.reduceEqDiff, Nat.reduceAdd, reduceCtorEq] | with_reducible refine V_W ?_ | (with_reducible refine And.intro ?_ ?_; focus first | assumption | omega | decide | grind) | (with_reducible refine Br.mk ?_ ?_; focus (intros; omega)) | decide)
    rw [flt_set, upT_step k xs i (by omega)]
    exact ⟨i + 1, by omega, by omega, Ref.frame (by simp [sub, fget]; omega)⟩
  · (repeat first | simp only [go_sem, ↓reduceIte, Nat.reduceEqDiff, Nat.reduceAdd, reduceCtorEq] | with_reducible refine V_W ?_ | (with_reducible refine And.intro ?_ ?_; focus first | assumption | omega | decide | grind) | (with_reducible refine Br.mk ?_ ?_; focus (intros; omega)) | decide)
    obtain rfl : i = xs.length := by omega
    simp

def upTR : Int → List (List Tg) → List (List Tg)
  | _, [] => []
  | k, x :: xs => upT k x.length :: upTR (k + x.length * 2) xs
theorem upTR_len : ∀ (k : Int) (T : List (List Tg)), (upTR k T).length = T.length
  | _, [] => rfl
  | k, x :: xs => by simp [upTR, upTR_len]
theorem ttot_cons (x : List Tg) (T : List (List Tg)) : ttot (x :: T) = x.length + ttot T := by simp [ttot]
theorem upTR_app : ∀ (k : Int) (a b : List (List Tg)), upTR k (a ++ b) = upTR k a ++ upTR (k + ttot a * 2) b
  | k, [], b => by simp [upTR, ttot]
  | k, x :: a, b => by
    rw [List.cons_append, upTR, upTR_app, upTR, List.cons_append, ttot_cons]
    congr 3
    push_cast; omega
theorem upTR_step (k : Int) (T : List (List Tg)) (i : Nat) (h : i < T.length) : ((upTR k (T.take i) ++ T.drop i).map otgs).set i (otgs (upT (k + ttot (T.take i) * 2) (T.getD i []).length)) = (upTR k (T.take (i + 1)) ++ T.drop (i + 1)).map otgs := by
  have h2 : (upTR k (T.take i)).length = i := by rw [upTR_len, List.length_take]; omega
  rw [List.take_succ_eq_append_getElem h, upTR_app, List.drop_eq_getElem_cons h, ← List.map_set, List.set_append_right _ _ (by omega), h2, Nat.sub_self, List.set_cons_zero, List.append_assoc]
  simp [upTR, h]

theorem markTSS_c (T : List (List Tg)) (k : Int) (hl : T.length ≤ 1099511627776) (ht : ttot T ≤ 1099511627776) (h0 : 0 ≤ k) (hk : k ≤ 562949953421312) : Wri Try.prog 63 [.sl 0 1 0 T.length, i64 k] [some (T.map otgs)] (i64 (k + ttot T * 2)) [some ((upTR k T).map otgs)] := by
  refine wriV ok63 rfl ?_; unfold c63
  (repeat first | simp only [go_sem, ↓reduceIte, Nat.reduceEqDiff, Nat.reduceAdd, reduceCtorEq] | with_reducible refine V_W ?_ | (with_reducible refine And.intro ?_ ?_; focus first | assumption | omega | decide | grind) | (with_reducible refine Br.mk ?_ ?_; focus (intros; omega)) | decide)
  refine (W_loop (α := Nat) (S := fun i => ([(0, .sl 0 1 0 T.length), (1, i64 (k + ttot (T.take i) * 2)), (5, i64 i)], [some ((upTR k (T.take i) ++ T.drop i).map otgs)])) (C := fun i => i ≤ T.length) (μ := fun i => T.length - i) 0 (by omega) (Ref.to (by simp [upTR]) (by simp [sub, fget, ttot])) ?_)
  intro i hi
  have h1 := ttot_take_le T i
  have hlen : ((upTR k (T.take i) ++ T.drop i).map otgs).length = T.length := by simp [upTR_len]; omega
  by_cases hc : i < T.length
  · have h2 : (upTR k (T.take i)).length = i := by rw [upTR_len, List.length_take]; omega
    have h3 := ttot_take T i hc
    have h4 := ttot_take_le T (i + 1)
    have hrow : ((upTR k (T.take i) ++ T.drop i).map otgs)[i]? = some (otgs (T.getD i [])) := by
      rw [List.getElem?_map, List.getElem?_append_right (by omega), h2, Nat.sub_self, List.getElem?_drop]
      simp [hc]
    generalize hL : (upTR k (T.take i) ++ T.drop i).map otgs = L at hlen hrow ⊢
    refine V_ref (Ref.open 0 i (cs := L) rfl hrow) ?_
    simp only [List.set_cons_zero, List.cons_append, List.nil_append, List.length_cons, List.length_nil, Nat.zero_add]
    have hg := getD_set_self' L i (.sl 1 2 0 (T.getD i []).length) (.slc 1 0 []) (by omega)
    have hg2 := getD_set_self' L i (.sl 1 2 0 (T.getD i []).length) .any (by omega)
    have hls : (L.set i (.sl 1 2 0 (T.getD i []).length)).length = T.length := by rw [List.length_set]; exact hlen
    (repeat first | simp only [go_sem, ↓reduceIte, Nat.reduceEqDiff, Nat.reduceAdd, reduceCtorEq] | with_reducible refine V_W ?_ | (with_reducible refine And.intro ?_ ?_; focus first | assumption | omega | decide | grind) | (with_reducible refine Br.mk ?_ ?_; focus (intros; omega)) | decide)
    refine ⟨fun hc1 => ?_, fun hc1 => absurd hc1 (by omega)⟩
    (repeat first | simp only [go_sem, ↓reduceIte, Nat.reduceEqDiff, Nat.reduceAdd, reduceCtorEq] | with_reducible refine V_W ?_ | (with_reducible refine And.intro ?_ ?_; focus first | assumption | omega | decide | grind) | (with_reducible refine Br.mk ?_ ?_; focus (intros; omega)) | decide)
    simp only [hg, hg2, go_sem, ↓reduceIte, Nat.reduceEqDiff, Nat.reduceAdd, reduceCtorEq]
    (repeat first | simp only [go_sem, ↓reduceIte, Nat.reduceEqDiff, Nat.reduceAdd, reduceCtorEq] | with_reducible refine V_W ?_ | (with_reducible refine And.intro ?_ ?_; focus first | assumption | omega | decide | grind) | (with_reducible refine Br.mk ?_ ?_; focus (intros; omega)) | decide)
    refine wriC (markTS_c (T.getD i []) (k + ttot (T.take i) * 2) (by omega) (by omega) (by omega)) [1] (by first | rfl | simp) (by simp only [go_sem, ↓reduceIte, Nat.reduceEqDiff, Nat.reduceAdd, reduceCtorEq] <;> rfl) (by simp only [go_sem, ↓reduceIte, Nat.reduceEqDiff, Nat.reduceAdd, reduceCtorEq] <;> rfl) (by first | rfl | simp only [go_sem, ↓reduceIte, Nat.reduceEqDiff, Nat.reduceAdd, reduceCtorEq]) ?_
    (repeat first | simp only [go_sem, ↓reduceIte, Nat.reduceEqDiff, Nat.reduceAdd, reduceCtorEq] | with_reducible refine V_W ?_ | (with_reducible refine And.intro ?_ ?_; focus first | assumption | omega | decide | grind) | (with_reducible refine Br.mk ?_ ?_; focus (intros; omega)) | decide)
    subst hL
    refine ⟨i + 1, by omega, by omega, (Ref.close 0 i 1 (cs2 := intsC (flt (upT (k + ttot (T.take i) * 2) (T.getD i []).length))) rfl (List.getElem?_set_self (by omega)) rfl (by decide) (by rw [len_intsC, flt_len, upT_len])).trans (Ref.gc [0] rfl ?_ (by simp [sub, fget, go_sem, ↓reduceIte, Nat.reduceEqDiff, Nat.reduceAdd, reduceCtorEq, h3]; omega))⟩
    (try simp only [go_sem, ↓reduceIte, Nat.reduceEqDiff, Nat.reduceAdd, reduceCtorEq, List.set_set])
    have hst := upTR_step k T i hc
    simp only [otgs, upT_len] at hst
    rw [← hst]
  · obtain rfl : i = T.length := by omega
    refine V_W ?_
    (repeat first | simp only [go_sem, ↓reduceIte, Nat.reduceEqDiff, Nat.reduceAdd, reduceCtorEq] | with_reducible refine V_W ?_ | (with_reducible refine And.intro ?_ ?_; focus first | assumption | omega | decide | grind) | (with_reducible refine Br.mk ?_ ?_; focus (intros; omega)) | decide)
    refine fun hc1 => ?_
    (repeat first | simp only [go_sem, ↓reduceIte, Nat.reduceEqDiff, Nat.reduceAdd, reduceCtorEq] | with_reducible refine V_W ?_ | (with_reducible refine And.intro ?_ ?_; focus first | assumption | omega | decide | grind) | (with_reducible refine Br.mk ?_ ?_; focus (intros; omega)) | decide)
    simp

theorem markTpl_c (T : List (List Tg)) (k : Int) (hl : T.length ≤ 1099511627776) (ht : ttot T ≤ 1099511627776) (h0 : 0 ≤ k) (hk : k ≤ 281474976710656) : Wri Try.prog 29 [.agg [.sl 0 1 0 T.length], i64 k] [some (T.map otgs)] (i64 (k + ttot T * 2)) [some ((upTR k T).map otgs)] := by
  refine wriVg [0] ok29 rfl ?_; unfold c29
  (repeat first | simp only [go_sem, ↓reduceIte, Nat.reduceEqDiff, Nat.reduceAdd, reduceCtorEq] | with_reducible refine V_W ?_ | (with_reducible refine And.intro ?_ ?_; focus first | assumption | omega | decide | grind) | (with_reducible refine Br.mk ?_ ?_; focus (intros; omega)) | decide)
  refine wriC (markTSS_c T k hl ht h0 (by omega)) [0] (by first | rfl | simp) (by simp only [go_sem, ↓reduceIte, Nat.reduceEqDiff, Nat.reduceAdd, reduceCtorEq] <;> rfl) (by simp only [go_sem, ↓reduceIte, Nat.reduceEqDiff, Nat.reduceAdd, reduceCtorEq] <;> rfl) (by first | rfl | simp only [go_sem, ↓reduceIte, Nat.reduceEqDiff, Nat.reduceAdd, reduceCtorEq]) ?_
  (repeat first | simp only [go_sem, ↓reduceIte, Nat.reduceEqDiff, Nat.reduceAdd, reduceCtorEq] | with_reducible refine V_W ?_ | (with_reducible refine And.intro ?_ ?_; focus first | assumption | omega | decide | grind) | (with_reducible refine Br.mk ?_ ?_; focus (intros; omega)) | decide)
end Go.Proofs.Ytkolabjcmephaaa
set_option maxRecDepth 100000
namespace Go.Proofs.Ytkolabjcmephaaa
open Go.Gov
open Classical

def Cmt (m n : Int) : Prop := m = n ∨ m < 0 ∨ n < 0 ∨ (m + n = 2 ∧ m ≠ 1)
theorem l14Commute_c (m n : Int) (hm : -1 ≤ m ∧ m ≤ 2) (hn : -1 ≤ n ∧ n ≤ 2) : Pure Try.prog 86 [i64 m, i64 n] (bl (decide (Cmt m n))) [] := by
  refine pureV ok86 rfl ?_; unfold c86
  (repeat first | simp only [go_sem, ↓reduceIte, Nat.reduceEqDiff, Nat.reduceAdd, reduceCtorEq] | with_reducible refine V_W ?_ | (with_reducible refine And.intro ?_ ?_; focus first | assumption | omega | decide | grind) | (with_reducible refine Br.mk ?_ ?_; focus (intros; omega)) | decide)
  refine congrArg (fun b => bl b) ?_
  rw [Bool.eq_iff_iff, decide_eq_true_iff]
  simp only [Bool.or_eq_true, Bool.and_eq_true, beq_iff_eq, decide_eq_true_eq, bne_iff_ne]
  unfold Cmt
  omega

def tg (T : List (List Tg)) (j i : Nat) : Tg := (T.getD j []).getD i T0
def TgOk (T : List (List Tg)) (j i : Nat) : Prop := 0 ≤ (tg T j i).1 ∧ (tg T j i).1 ≤ (T.length : Int) - 1 ∧ -1 ≤ (tg T j i).2 ∧ (tg T j i).2 ≤ 2 ∧ ¬ ((tg T j i).1 = j ∧ (tg T j i).2 < 0)
def TgInv (T : List (List Tg)) (j i : Nat) : Prop := tg T (tg T j i).1.toNat i = ((j : Int), (tg T j i).2)
def TgCom (T : List (List Tg)) (j : Nat) : Prop :=
  (tg T (tg T j 0).1.toNat 2).1 = (tg T (tg T j 2).1.toNat 0).1 ∧ (tg T (tg T j 0).1.toNat 2).2 = (tg T j 2).2 ∧ (tg T (tg T j 2).1.toNat 0).2 = (tg T j 0).2 ∧ Cmt (tg T j 0).2 (tg T j 2).2 ∧
  ¬ ((tg T j 0).2 = (tg T j 2).2 ∧ (tg T (tg T j 0).1.toNat 2).1 = j)
structure IsTpl (T : List (List Tg)) : Prop where
  p1 : 1 ≤ T.length
  p2 : T.length ≤ 12
  len : ∀ j, j < T.length → (T.getD j []).length = 3
  ok : ∀ j i, j < T.length → i < 3 → TgOk T j i
  inv : ∀ j i, j < T.length → i < 3 → TgInv T j i
  com : ∀ j, j < T.length → TgCom T j

set_option maxHeartbeats 4000000 in
theorem l14Template_c (T : List (List Tg)) (hl : T.length ≤ 1048576) (hr : ∀ xs ∈ T, xs.length ≤ 1048576) : Pure Try.prog 54 [tplA T] (bl (decide (IsTpl T))) [] := by
  refine pureV0 ok54 rfl rfl ?_; unfold c54
  (repeat first | simp only [go_sem, ↓reduceIte, Nat.reduceEqDiff, Nat.reduceAdd, reduceCtorEq] | with_reducible refine V_W ?_ | (with_reducible refine And.intro ?_ ?_; focus first | assumption | omega | decide | grind) | (with_reducible refine Br.mk ?_ ?_; focus (intros; omega)) | decide)
  refine ⟨fun hc => ?_, fun hc => ?_⟩
  · (repeat first | simp only [go_sem, ↓reduceIte, Nat.reduceEqDiff, Nat.reduceAdd, reduceCtorEq] | with_reducible refine V_W ?_ | (with_reducible refine And.intro ?_ ?_; focus first | assumption | omega | decide | grind) | (with_reducible refine Br.mk ?_ ?_; focus (intros; omega)) | decide)
    rw [decide_eq_false (fun h => ?_)]
    have h1 := h.p1; have h2 := h.p2
    try simp only [go_sem, ↓reduceIte, Nat.reduceEqDiff, Nat.reduceAdd, reduceCtorEq] at hc
    omega
  · try simp only [go_sem, ↓reduceIte, Nat.reduceEqDiff, Nat.reduceAdd, reduceCtorEq] at hc
    have hp1 : 1 ≤ T.length := by omega
    have hp2 : T.length ≤ 12 := by omega
    (repeat first | simp only [go_sem, ↓reduceIte, Nat.reduceEqDiff, Nat.reduceAdd, reduceCtorEq] | with_reducible refine V_W ?_ | (with_reducible refine And.intro ?_ ?_; focus first | assumption | omega | decide | grind) | (with_reducible refine Br.mk ?_ ?_; focus (intros; omega)) | decide)
    refine V_ref ((Ref.dead (F' := [(3, i64 T.length), (1, .pto [tmt T] 0), (4, i64 0)]) (by simp [sub, fget, frzF, go_sem, ↓reduceIte, Nat.reduceEqDiff, Nat.reduceAdd, reduceCtorEq])).trans (Ref.gc (F' := [(3, i64 T.length), (1, .pto [tmt T] 0), (4, i64 0)]) [] rfl rfl (by simp [sub, fget, go_sem, ↓reduceIte, Nat.reduceEqDiff, Nat.reduceAdd, reduceCtorEq]))) ?_
    refine V_loop (α := Nat) (S := fun j => ([(1, .pto [tmt T] 0), (3, i64 T.length), (4, i64 j)], [])) (C := fun j => j ≤ T.length ∧ ∀ k, k < j → (T.getD k []).length = 3 ∧ ∀ i, i < 3 → TgOk T k i) (μ := fun j => T.length - j) 0 ⟨by omega, by omega⟩ (by exact Ref.frame (by simp [sub, fget])) ?_
    rintro j ⟨hj, hall⟩
    (repeat first | simp only [go_sem, ↓reduceIte, Nat.reduceEqDiff, Nat.reduceAdd, reduceCtorEq] | with_reducible refine V_W ?_ | (with_reducible refine And.intro ?_ ?_; focus first | assumption | omega | decide | grind) | (with_reducible refine Br.mk ?_ ?_; focus (intros; omega)) | decide)
    refine ⟨fun hc1 => ?_, fun hc1 => ?_⟩
    · have hlt : j < T.length := by omega
      have g1 := tmt_at T j hlt
      have g2 := tmt_any T j hlt
      (repeat first | simp only [go_sem, ↓reduceIte, Nat.reduceEqDiff, Nat.reduceAdd, reduceCtorEq] | with_reducible refine V_W ?_ | (with_reducible refine And.intro ?_ ?_; focus first | assumption | omega | decide | grind) | (with_reducible refine Br.mk ?_ ?_; focus (intros; omega)) | decide)
      simp only [g1, g2, go_sem, ↓reduceIte, Nat.reduceEqDiff, Nat.reduceAdd, reduceCtorEq]
      (repeat first | simp only [go_sem, ↓reduceIte, Nat.reduceEqDiff, Nat.reduceAdd, reduceCtorEq] | with_reducible refine V_W ?_ | (with_reducible refine And.intro ?_ ?_; focus first | assumption | omega | decide | grind) | (with_reducible refine Br.mk ?_ ?_; focus (intros; omega)) | decide)
      refine ⟨fun hc2 => ?_, fun hc2 => ?_⟩
      · (repeat first | simp only [go_sem, ↓reduceIte, Nat.reduceEqDiff, Nat.reduceAdd, reduceCtorEq] | with_reducible refine V_W ?_ | (with_reducible refine And.intro ?_ ?_; focus first | assumption | omega | decide | grind) | (with_reducible refine Br.mk ?_ ?_; focus (intros; omega)) | decide)
        rw [decide_eq_false (fun h => ?_)]
        have := h.len j hlt
        omega
      · have h3 : (T.getD j []).length = 3 := by omega
        (repeat first | simp only [go_sem, ↓reduceIte, Nat.reduceEqDiff, Nat.reduceAdd, reduceCtorEq] | with_reducible refine V_W ?_ | (with_reducible refine And.intro ?_ ?_; focus first | assumption | omega | decide | grind) | (with_reducible refine Br.mk ?_ ?_; focus (intros; omega)) | decide)
        refine V_loop (α := Nat) (S := fun i => ([(1, .pto [tmt T] 0), (3, i64 T.length), (4, i64 j), (5, i64 i)], [])) (C := fun i => i ≤ 3 ∧ ∀ k, k < i → TgOk T j k) (μ := fun i => 3 - i) 0 ⟨by omega, by omega⟩ (by exact Ref.frame (by simp [sub, fget])) ?_
        rintro i ⟨hi, hok⟩
        (repeat first | simp only [go_sem, ↓reduceIte, Nat.reduceEqDiff, Nat.reduceAdd, reduceCtorEq] | with_reducible refine V_W ?_ | (with_reducible refine And.intro ?_ ?_; focus first | assumption | omega | decide | grind) | (with_reducible refine Br.mk ?_ ?_; focus (intros; omega)) | decide)
        refine ⟨fun hc3 => ?_, fun hc3 => ?_⟩
        · have g3 := flt_two (T.getD j []) i (by omega)
          (repeat first | simp only [go_sem, ↓reduceIte, Nat.reduceEqDiff, Nat.reduceAdd, reduceCtorEq] | with_reducible refine V_W ?_ | (with_reducible refine And.intro ?_ ?_; focus first | assumption | omega | decide | grind) | (with_reducible refine Br.mk ?_ ?_; focus (intros; omega)) | decide)
          simp only [g1, g2, go_sem, ↓reduceIte, Nat.reduceEqDiff, Nat.reduceAdd, reduceCtorEq]
          (repeat first | simp only [go_sem, ↓reduceIte, Nat.reduceEqDiff, Nat.reduceAdd, reduceCtorEq] | with_reducible refine V_W ?_ | (with_reducible refine And.intro ?_ ?_; focus first | assumption | omega | decide | grind) | (with_reducible refine Br.mk ?_ ?_; focus (intros; omega)) | decide)
          refine And.intro ⟨by rw [flt_len]; omega, by rw [g3]; rfl⟩ (And.intro (by rw [List.length_drop, len_intsC, flt_len]; omega) (And.intro (by rw [g3]; rfl) ?_))
          simp only [g3, go_sem, ↓reduceIte, Nat.reduceEqDiff, Nat.reduceAdd, reduceCtorEq]
          change W _ _ _ _ _ _ _ _
          rw [show (T.getD j []).getD i T0 = tg T j i from rfl]
          generalize hx : tg T j i = x
          (repeat first | simp only [go_sem, ↓reduceIte, Nat.reduceEqDiff, Nat.reduceAdd, reduceCtorEq] | with_reducible refine V_W ?_ | (with_reducible refine And.intro ?_ ?_; focus first | assumption | omega | decide | grind) | (with_reducible refine Br.mk ?_ ?_; focus (intros; omega)) | decide)
          refine pureC (l01In_c x.1 0 (T.length - 1)) (by simp only [go_sem, ↓reduceIte, Nat.reduceEqDiff, Nat.reduceAdd, reduceCtorEq] <;> rfl) (by first | rfl | simp only [go_sem, ↓reduceIte, Nat.reduceEqDiff, Nat.reduceAdd, reduceCtorEq]) ?_
          (repeat first | simp only [go_sem, ↓reduceIte, Nat.reduceEqDiff, Nat.reduceAdd, reduceCtorEq] | with_reducible refine V_W ?_ | (with_reducible refine And.intro ?_ ?_; focus first | assumption | omega | decide | grind) | (with_reducible refine Br.mk ?_ ?_; focus (intros; omega)) | decide)
          refine ⟨bl (decide (-1 ≤ x.2) && decide (x.2 ≤ 2)) , fun hg => by first | exact pureC ( l01In_c x.2 (-1) 2) (by simp only [go_sem, ↓reduceIte, Nat.reduceEqDiff, Nat.reduceAdd, reduceCtorEq] <;> rfl) (by first | rfl | simp only [go_sem, ↓reduceIte, Nat.reduceEqDiff, Nat.reduceAdd, reduceCtorEq]) (by first | exact ⟨rfl, rfl⟩ | simp only [go_sem, ↓reduceIte, Nat.reduceEqDiff, Nat.reduceAdd, reduceCtorEq]) | exact ⟨hg, pureC ( l01In_c x.2 (-1) 2) (by simp only [go_sem, ↓reduceIte, Nat.reduceEqDiff, Nat.reduceAdd, reduceCtorEq] <;> rfl) (by first | rfl | simp only [go_sem, ↓reduceIte, Nat.reduceEqDiff, Nat.reduceAdd, reduceCtorEq]) (by first | exact ⟨rfl, rfl⟩ | simp only [go_sem, ↓reduceIte, Nat.reduceEqDiff, Nat.reduceAdd, reduceCtorEq])⟩ | exact ⟨by grind, pureC ( l01In_c x.2 (-1) 2) (by simp only [go_sem, ↓reduceIte, Nat.reduceEqDiff, Nat.reduceAdd, reduceCtorEq] <;> rfl) (by first | rfl | simp only [go_sem, ↓reduceIte, Nat.reduceEqDiff, Nat.reduceAdd, reduceCtorEq]) (by first | exact ⟨rfl, rfl⟩ | simp only [go_sem, ↓reduceIte, Nat.reduceEqDiff, Nat.reduceAdd, reduceCtorEq])⟩, ?_⟩
          (repeat first | simp only [go_sem, ↓reduceIte, Nat.reduceEqDiff, Nat.reduceAdd, reduceCtorEq] | with_reducible refine V_W ?_ | (with_reducible refine And.intro ?_ ?_; focus first | assumption | omega | decide | grind) | (with_reducible refine Br.mk ?_ ?_; focus (intros; omega)) | decide)
          refine ⟨fun hc4 => ?_, fun hc4 => ?_⟩
          · (repeat first | simp only [go_sem, ↓reduceIte, Nat.reduceEqDiff, Nat.reduceAdd, reduceCtorEq] | with_reducible refine V_W ?_ | (with_reducible refine And.intro ?_ ?_; focus first | assumption | omega | decide | grind) | (with_reducible refine Br.mk ?_ ?_; focus (intros; omega)) | decide)
            rw [decide_eq_false (fun h => ?_)]
            have hk := h.ok j i hlt (by omega)
            unfold TgOk at hk
            rw [hx] at hk
            try simp only [go_sem, ↓reduceIte, Nat.reduceEqDiff, Nat.reduceAdd, reduceCtorEq] at hc4
            omega
          · (repeat first | simp only [go_sem, ↓reduceIte, Nat.reduceEqDiff, Nat.reduceAdd, reduceCtorEq] | with_reducible refine V_W ?_ | (with_reducible refine And.intro ?_ ?_; focus first | assumption | omega | decide | grind) | (with_reducible refine Br.mk ?_ ?_; focus (intros; omega)) | decide)
            refine ⟨i + 1, ⟨by omega, fun k hk => ?_⟩, by omega, ?_⟩
            · rcases Nat.lt_or_ge k i with h | h
              · exact hok k h
              · obtain rfl : k = i := by omega
                unfold TgOk
                rw [hx]
                try simp only [go_sem, ↓reduceIte, Nat.reduceEqDiff, Nat.reduceAdd, reduceCtorEq] at hc4
                omega
            · exact Ref.gc [] rfl rfl (by simp [sub, fget, go_sem, ↓reduceIte, Nat.reduceEqDiff, Nat.reduceAdd, reduceCtorEq])
        · (repeat first | simp only [go_sem, ↓reduceIte, Nat.reduceEqDiff, Nat.reduceAdd, reduceCtorEq] | with_reducible refine V_W ?_ | (with_reducible refine And.intro ?_ ?_; focus first | assumption | omega | decide | grind) | (with_reducible refine Br.mk ?_ ?_; focus (intros; omega)) | decide)
          refine ⟨j + 1, ⟨by omega, fun k hk => ?_⟩, by omega, by exact Ref.frame (by simp [sub, fget])⟩
          rcases Nat.lt_or_ge k j with h | h
          · exact hall k h
          · obtain rfl : k = j := by omega
            exact ⟨h3, fun i' hi' => hok i' (by omega)⟩
    · have hlen : ∀ k, k < T.length → (T.getD k []).length = 3 := fun k hk => (hall k (by omega)).1
      have hok : ∀ k i, k < T.length → i < 3 → TgOk T k i := fun k i hk hi => (hall k (by omega)).2 i hi
      clear hall
      (repeat first | simp only [go_sem, ↓reduceIte, Nat.reduceEqDiff, Nat.reduceAdd, reduceCtorEq] | with_reducible refine V_W ?_ | (with_reducible refine And.intro ?_ ?_; focus first | assumption | omega | decide | grind) | (with_reducible refine Br.mk ?_ ?_; focus (intros; omega)) | decide)
      refine V_loop (α := Nat) (S := fun j => ([(1, .pto [tmt T] 0), (3, i64 T.length), (7, i64 j)], [])) (C := fun j => j ≤ T.length ∧ ∀ k, k < j → (∀ i, i < 3 → TgInv T k i) ∧ TgCom T k) (μ := fun j => T.length - j) 0 ⟨by omega, by omega⟩ (by exact Ref.frame (by simp [sub, fget])) ?_
      rintro j ⟨hj, hall⟩
      (repeat first | simp only [go_sem, ↓reduceIte, Nat.reduceEqDiff, Nat.reduceAdd, reduceCtorEq] | with_reducible refine V_W ?_ | (with_reducible refine And.intro ?_ ?_; focus first | assumption | omega | decide | grind) | (with_reducible refine Br.mk ?_ ?_; focus (intros; omega)) | decide)
      refine ⟨fun hc1 => ?_, fun hc1 => ?_⟩
      · have hlt : j < T.length := by omega
        have g1 := tmt_at T j hlt
        have g2 := tmt_any T j hlt
        have h3 := hlen j hlt
        (repeat first | simp only [go_sem, ↓reduceIte, Nat.reduceEqDiff, Nat.reduceAdd, reduceCtorEq] | with_reducible refine V_W ?_ | (with_reducible refine And.intro ?_ ?_; focus first | assumption | omega | decide | grind) | (with_reducible refine Br.mk ?_ ?_; focus (intros; omega)) | decide)
        refine V_loop (α := Nat) (S := fun i => ([(1, .pto [tmt T] 0), (3, i64 T.length), (7, i64 j), (8, i64 i)], [])) (C := fun i => i ≤ 3 ∧ ∀ k, k < i → TgInv T j k) (μ := fun i => 3 - i) 0 ⟨by omega, by omega⟩ (by exact Ref.frame (by simp [sub, fget])) ?_
        rintro i ⟨hi, hin⟩
        (repeat first | simp only [go_sem, ↓reduceIte, Nat.reduceEqDiff, Nat.reduceAdd, reduceCtorEq] | with_reducible refine V_W ?_ | (with_reducible refine And.intro ?_ ?_; focus first | assumption | omega | decide | grind) | (with_reducible refine Br.mk ?_ ?_; focus (intros; omega)) | decide)
        refine ⟨fun hc3 => ?_, fun hc3 => ?_⟩
        · have g3 := flt_two (T.getD j []) i (by omega)
          (repeat first | simp only [go_sem, ↓reduceIte, Nat.reduceEqDiff, Nat.reduceAdd, reduceCtorEq] | with_reducible refine V_W ?_ | (with_reducible refine And.intro ?_ ?_; focus first | assumption | omega | decide | grind) | (with_reducible refine Br.mk ?_ ?_; focus (intros; omega)) | decide)
          simp only [g1, g2, go_sem, ↓reduceIte, Nat.reduceEqDiff, Nat.reduceAdd, reduceCtorEq]
          (repeat first | simp only [go_sem, ↓reduceIte, Nat.reduceEqDiff, Nat.reduceAdd, reduceCtorEq] | with_reducible refine V_W ?_ | (with_reducible refine And.intro ?_ ?_; focus first | assumption | omega | decide | grind) | (with_reducible refine Br.mk ?_ ?_; focus (intros; omega)) | decide)
          refine And.intro ⟨by rw [flt_len]; omega, by rw [g3]; rfl⟩ (And.intro (by rw [List.length_drop, len_intsC, flt_len]; omega) (And.intro (by rw [g3]; rfl) ?_))
          simp only [g3, go_sem, ↓reduceIte, Nat.reduceEqDiff, Nat.reduceAdd, reduceCtorEq]
          change W _ _ _ _ _ _ _ _
          rw [show (T.getD j []).getD i T0 = tg T j i from rfl]
          obtain ⟨o1, o2, o3, o4, o5⟩ := hok j i hlt (by omega)
          generalize hx : tg T j i = x at *
          have hxt : x.1.toNat < T.length := by omega
          have g4 := tmt_at T x.1.toNat hxt
          have g5 := tmt_any T x.1.toNat hxt
          have h4 := hlen _ hxt
          have g6 := flt_two (T.getD x.1.toNat []) i (by omega)
          (repeat first | simp only [go_sem, ↓reduceIte, Nat.reduceEqDiff, Nat.reduceAdd, reduceCtorEq] | with_reducible refine V_W ?_ | (with_reducible refine And.intro ?_ ?_; focus first | assumption | omega | decide | grind) | (with_reducible refine Br.mk ?_ ?_; focus (intros; omega)) | decide)
          simp only [g4, g5, go_sem, ↓reduceIte, Nat.reduceEqDiff, Nat.reduceAdd, reduceCtorEq]
          (repeat first | simp only [go_sem, ↓reduceIte, Nat.reduceEqDiff, Nat.reduceAdd, reduceCtorEq] | with_reducible refine V_W ?_ | (with_reducible refine And.intro ?_ ?_; focus first | assumption | omega | decide | grind) | (with_reducible refine Br.mk ?_ ?_; focus (intros; omega)) | decide)
          refine And.intro ⟨by rw [flt_len]; omega, by rw [g6]; rfl⟩ (And.intro (by rw [List.length_drop, len_intsC, flt_len]; omega) (And.intro (by rw [g6]; rfl) ?_))
          simp only [g6, go_sem, ↓reduceIte, Nat.reduceEqDiff, Nat.reduceAdd, reduceCtorEq]
          change W _ _ _ _ _ _ _ _
          rw [show (T.getD x.1.toNat []).getD i T0 = tg T x.1.toNat i from rfl]
          generalize hy : tg T x.1.toNat i = y at *
          (repeat first | simp only [go_sem, ↓reduceIte, Nat.reduceEqDiff, Nat.reduceAdd, reduceCtorEq] | with_reducible refine V_W ?_ | (with_reducible refine And.intro ?_ ?_; focus first | assumption | omega | decide | grind) | (with_reducible refine Br.mk ?_ ?_; focus (intros; omega)) | decide)
          refine ⟨fun hc4 => ?_, fun hc4 => ?_⟩
          · (repeat first | simp only [go_sem, ↓reduceIte, Nat.reduceEqDiff, Nat.reduceAdd, reduceCtorEq] | with_reducible refine V_W ?_ | (with_reducible refine And.intro ?_ ?_; focus first | assumption | omega | decide | grind) | (with_reducible refine Br.mk ?_ ?_; focus (intros; omega)) | decide)
            rw [decide_eq_false (fun h => ?_)]
            have hk := h.inv j i hlt (by omega)
            unfold TgInv at hk
            rw [hx, hy] at hk
            try simp only [go_sem, ↓reduceIte, Nat.reduceEqDiff, Nat.reduceAdd, reduceCtorEq] at hc4
            rw [hk] at hc4
            simp at hc4
          · (repeat first | simp only [go_sem, ↓reduceIte, Nat.reduceEqDiff, Nat.reduceAdd, reduceCtorEq] | with_reducible refine V_W ?_ | (with_reducible refine And.intro ?_ ?_; focus first | assumption | omega | decide | grind) | (with_reducible refine Br.mk ?_ ?_; focus (intros; omega)) | decide)
            refine ⟨i + 1, ⟨by omega, fun k hk => ?_⟩, by omega, ?_⟩
            · rcases Nat.lt_or_ge k i with h | h
              · exact hin k h
              · obtain rfl : k = i := by omega
                unfold TgInv
                rw [hx, hy]
                try simp only [go_sem, ↓reduceIte, Nat.reduceEqDiff, Nat.reduceAdd, reduceCtorEq] at hc4
                refine Prod.ext ?_ ?_
                · exact hc4.1
                · exact hc4.2
            · exact Ref.gc [] rfl rfl (by simp [sub, fget, go_sem, ↓reduceIte, Nat.reduceEqDiff, Nat.reduceAdd, reduceCtorEq])
        · have hinv : ∀ k, k < 3 → TgInv T j k := fun k hk => hin k (by omega)
          clear hin
          have q0 := hok j 0 hlt (by omega)
          have q2 := hok j 2 hlt (by omega)
          have g30 := flt_two (T.getD j []) 0 (by omega)
          have g32 := flt_two (T.getD j []) 2 (by omega)
          rw [show (T.getD j []).getD 0 T0 = tg T j 0 from rfl] at g30
          rw [show (T.getD j []).getD 2 T0 = tg T j 2 from rfl] at g32
          generalize hx0 : tg T j 0 = x at *
          generalize hx2 : tg T j 2 = y at *
          (repeat first | simp only [go_sem, ↓reduceIte, Nat.reduceEqDiff, Nat.reduceAdd, reduceCtorEq] | with_reducible refine V_W ?_ | (with_reducible refine And.intro ?_ ?_; focus first | assumption | omega | decide | grind) | (with_reducible refine Br.mk ?_ ?_; focus (intros; omega)) | decide)
          refine V_altsS [(1, .pto [tmt T] 0), (3, i64 T.length), (7, i64 j), (11, .pto [i64 x.1, i64 x.2] 0), (12, .pto [i64 y.1, i64 y.2] 0)] [] ?_ ?_
          · (repeat' first | simp only [go_sem, ↓reduceIte, Nat.reduceEqDiff, Nat.reduceAdd, reduceCtorEq] | with_reducible refine LT_reg ?_ | with_reducible refine LT_regz (by simp only [zAd_load, zAd_loads, zPt_pto, go_sem, ↓reduceIte, Nat.reduceEqDiff, Nat.reduceAdd, reduceCtorEq]) ?_ | with_reducible refine LT_fin ?_ | with_reducible exact LT_tt | with_reducible refine LT_alt ?_ ?_ | (with_reducible refine And.intro ?_ ?_; focus first | assumption | omega | grind))
            simp only [g1, go_sem, ↓reduceIte, Nat.reduceEqDiff, Nat.reduceAdd, reduceCtorEq]
            (repeat' first | simp only [go_sem, ↓reduceIte, Nat.reduceEqDiff, Nat.reduceAdd, reduceCtorEq] | with_reducible refine LT_reg ?_ | with_reducible refine LT_regz (by simp only [zAd_load, zAd_loads, zPt_pto, go_sem, ↓reduceIte, Nat.reduceEqDiff, Nat.reduceAdd, reduceCtorEq]) ?_ | with_reducible refine LT_fin ?_ | with_reducible exact LT_tt | with_reducible refine LT_alt ?_ ?_ | (with_reducible refine And.intro ?_ ?_; focus first | assumption | omega | grind))
            rw [Nat.zero_mul, List.drop_zero] at g30
            refine And.intro ⟨by rw [flt_len]; omega, by rw [g30]; rfl⟩ ?_
            simp only [g30, go_sem, ↓reduceIte, Nat.reduceEqDiff, Nat.reduceAdd, reduceCtorEq]
            (repeat' first | simp only [go_sem, ↓reduceIte, Nat.reduceEqDiff, Nat.reduceAdd, reduceCtorEq] | with_reducible refine LT_reg ?_ | with_reducible refine LT_regz (by simp only [zAd_load, zAd_loads, zPt_pto, go_sem, ↓reduceIte, Nat.reduceEqDiff, Nat.reduceAdd, reduceCtorEq]) ?_ | with_reducible refine LT_fin ?_ | with_reducible exact LT_tt | with_reducible refine LT_alt ?_ ?_ | (with_reducible refine And.intro ?_ ?_; focus first | assumption | omega | grind))
            simp only [g1, go_sem, ↓reduceIte, Nat.reduceEqDiff, Nat.reduceAdd, reduceCtorEq]
            (repeat' first | simp only [go_sem, ↓reduceIte, Nat.reduceEqDiff, Nat.reduceAdd, reduceCtorEq] | with_reducible refine LT_reg ?_ | with_reducible refine LT_regz (by simp only [zAd_load, zAd_loads, zPt_pto, go_sem, ↓reduceIte, Nat.reduceEqDiff, Nat.reduceAdd, reduceCtorEq]) ?_ | with_reducible refine LT_fin ?_ | with_reducible exact LT_tt | with_reducible refine LT_alt ?_ ?_ | (with_reducible refine And.intro ?_ ?_; focus first | assumption | omega | grind))
            refine And.intro ⟨by rw [flt_len]; omega, by rw [g32]; rfl⟩ ?_
            simp only [g32, go_sem, ↓reduceIte, Nat.reduceEqDiff, Nat.reduceAdd, reduceCtorEq]
            (repeat' first | simp only [go_sem, ↓reduceIte, Nat.reduceEqDiff, Nat.reduceAdd, reduceCtorEq] | with_reducible refine LT_reg ?_ | with_reducible refine LT_regz (by simp only [zAd_load, zAd_loads, zPt_pto, go_sem, ↓reduceIte, Nat.reduceEqDiff, Nat.reduceAdd, reduceCtorEq]) ?_ | with_reducible refine LT_fin ?_ | with_reducible exact LT_tt | with_reducible refine LT_alt ?_ ?_ | (with_reducible refine And.intro ?_ ?_; focus first | assumption | omega | grind))
            all_goals exact (Ref.dead (F' := [(1, .pto [tmt T] 0), (3, i64 T.length), (7, i64 j), (11, .pto [i64 x.1, i64 x.2] 0), (12, .pto [i64 y.1, i64 y.2] 0)]) (by simp [sub, fget, frzF, go_sem, ↓reduceIte, Nat.reduceEqDiff, Nat.reduceAdd, reduceCtorEq])).trans (Ref.gc [] rfl rfl (by simp [sub, fget, go_sem, ↓reduceIte, Nat.reduceEqDiff, Nat.reduceAdd, reduceCtorEq]))
          obtain ⟨a1, a2, a3, a4, a5⟩ := q0
          obtain ⟨b1, b2, b3, b4, b5⟩ := q2
          rw [hx0] at a1 a2 a3 a4 a5
          rw [hx2] at b1 b2 b3 b4 b5
          have hxt : x.1.toNat < T.length := by omega
          have hyt : y.1.toNat < T.length := by omega
          have m1 := tmt_at T x.1.toNat hxt
          have m2 := tmt_any T x.1.toNat hxt
          have m3 := tmt_at T y.1.toNat hyt
          have m4 := tmt_any T y.1.toNat hyt
          have l1 := hlen _ hxt
          have l2 := hlen _ hyt
          have k1 := flt_two (T.getD x.1.toNat []) 2 (by omega)
          have k2 := flt_two (T.getD y.1.toNat []) 0 (by omega)
          rw [Nat.zero_mul, List.drop_zero] at k2
          rw [show (T.getD x.1.toNat []).getD 2 T0 = tg T x.1.toNat 2 from rfl] at k1
          rw [show (T.getD y.1.toNat []).getD 0 T0 = tg T y.1.toNat 0 from rfl] at k2
          generalize hu : tg T x.1.toNat 2 = u at *
          generalize hv : tg T y.1.toNat 0 = v at *
          (repeat first | simp only [go_sem, ↓reduceIte, Nat.reduceEqDiff, Nat.reduceAdd, reduceCtorEq] | with_reducible refine V_W ?_ | (with_reducible refine And.intro ?_ ?_; focus first | assumption | omega | decide | grind) | (with_reducible refine Br.mk ?_ ?_; focus (intros; omega)) | decide)
          refine V_altsS [(1, .pto [tmt T] 0), (3, i64 T.length), (7, i64 j), (11, .pto [i64 x.1, i64 x.2] 0), (12, .pto [i64 y.1, i64 y.2] 0), (13, .pto [i64 u.1, i64 u.2] 0), (14, .pto [i64 v.1, i64 v.2] 0)] [] ?_ ?_
          · (repeat' first | simp only [go_sem, ↓reduceIte, Nat.reduceEqDiff, Nat.reduceAdd, reduceCtorEq] | with_reducible refine LT_reg ?_ | with_reducible refine LT_regz (by simp only [zAd_load, zAd_loads, zPt_pto, go_sem, ↓reduceIte, Nat.reduceEqDiff, Nat.reduceAdd, reduceCtorEq]) ?_ | with_reducible refine LT_fin ?_ | with_reducible exact LT_tt | with_reducible refine LT_alt ?_ ?_ | (with_reducible refine And.intro ?_ ?_; focus first | assumption | omega | grind))
            simp only [m1, m2, go_sem, ↓reduceIte, Nat.reduceEqDiff, Nat.reduceAdd, reduceCtorEq]
            (repeat' first | simp only [go_sem, ↓reduceIte, Nat.reduceEqDiff, Nat.reduceAdd, reduceCtorEq] | with_reducible refine LT_reg ?_ | with_reducible refine LT_regz (by simp only [zAd_load, zAd_loads, zPt_pto, go_sem, ↓reduceIte, Nat.reduceEqDiff, Nat.reduceAdd, reduceCtorEq]) ?_ | with_reducible refine LT_fin ?_ | with_reducible exact LT_tt | with_reducible refine LT_alt ?_ ?_ | (with_reducible refine And.intro ?_ ?_; focus first | assumption | omega | grind))
            refine And.intro ⟨by rw [flt_len]; omega, by rw [k1]; rfl⟩ ?_
            simp only [k1, go_sem, ↓reduceIte, Nat.reduceEqDiff, Nat.reduceAdd, reduceCtorEq]
            (repeat' first | simp only [go_sem, ↓reduceIte, Nat.reduceEqDiff, Nat.reduceAdd, reduceCtorEq] | with_reducible refine LT_reg ?_ | with_reducible refine LT_regz (by simp only [zAd_load, zAd_loads, zPt_pto, go_sem, ↓reduceIte, Nat.reduceEqDiff, Nat.reduceAdd, reduceCtorEq]) ?_ | with_reducible refine LT_fin ?_ | with_reducible exact LT_tt | with_reducible refine LT_alt ?_ ?_ | (with_reducible refine And.intro ?_ ?_; focus first | assumption | omega | grind))
            simp only [m3, m4, go_sem, ↓reduceIte, Nat.reduceEqDiff, Nat.reduceAdd, reduceCtorEq]
            (repeat' first | simp only [go_sem, ↓reduceIte, Nat.reduceEqDiff, Nat.reduceAdd, reduceCtorEq] | with_reducible refine LT_reg ?_ | with_reducible refine LT_regz (by simp only [zAd_load, zAd_loads, zPt_pto, go_sem, ↓reduceIte, Nat.reduceEqDiff, Nat.reduceAdd, reduceCtorEq]) ?_ | with_reducible refine LT_fin ?_ | with_reducible exact LT_tt | with_reducible refine LT_alt ?_ ?_ | (with_reducible refine And.intro ?_ ?_; focus first | assumption | omega | grind))
            refine And.intro ⟨by rw [flt_len]; omega, by rw [k2]; rfl⟩ ?_
            simp only [k2, go_sem, ↓reduceIte, Nat.reduceEqDiff, Nat.reduceAdd, reduceCtorEq]
            (repeat' first | simp only [go_sem, ↓reduceIte, Nat.reduceEqDiff, Nat.reduceAdd, reduceCtorEq] | with_reducible refine LT_reg ?_ | with_reducible refine LT_regz (by simp only [zAd_load, zAd_loads, zPt_pto, go_sem, ↓reduceIte, Nat.reduceEqDiff, Nat.reduceAdd, reduceCtorEq]) ?_ | with_reducible refine LT_fin ?_ | with_reducible exact LT_tt | with_reducible refine LT_alt ?_ ?_ | (with_reducible refine And.intro ?_ ?_; focus first | assumption | omega | grind))
            all_goals exact (Ref.dead (F' := [(1, .pto [tmt T] 0), (3, i64 T.length), (7, i64 j), (11, .pto [i64 x.1, i64 x.2] 0), (12, .pto [i64 y.1, i64 y.2] 0), (13, .pto [i64 u.1, i64 u.2] 0), (14, .pto [i64 v.1, i64 v.2] 0)]) (by simp [sub, fget, frzF, go_sem, ↓reduceIte, Nat.reduceEqDiff, Nat.reduceAdd, reduceCtorEq])).trans (Ref.gc [] rfl rfl (by simp [sub, fget, go_sem, ↓reduceIte, Nat.reduceEqDiff, Nat.reduceAdd, reduceCtorEq]))
          (repeat first | simp only [go_sem, ↓reduceIte, Nat.reduceEqDiff, Nat.reduceAdd, reduceCtorEq] | with_reducible refine V_W ?_ | (with_reducible refine And.intro ?_ ?_; focus first | assumption | omega | decide | grind) | (with_reducible refine Br.mk ?_ ?_; focus (intros; omega)) | decide)
          refine ⟨bl (decide (Cmt x.2 y.2)) , fun hg => by first | exact pureC ( l14Commute_c x.2 y.2 ⟨a3, a4⟩ ⟨b3, b4⟩) (by simp only [go_sem, ↓reduceIte, Nat.reduceEqDiff, Nat.reduceAdd, reduceCtorEq] <;> rfl) (by first | rfl | simp only [go_sem, ↓reduceIte, Nat.reduceEqDiff, Nat.reduceAdd, reduceCtorEq]) (by first | exact ⟨rfl, rfl⟩ | simp only [go_sem, ↓reduceIte, Nat.reduceEqDiff, Nat.reduceAdd, reduceCtorEq]) | exact ⟨hg, pureC ( l14Commute_c x.2 y.2 ⟨a3, a4⟩ ⟨b3, b4⟩) (by simp only [go_sem, ↓reduceIte, Nat.reduceEqDiff, Nat.reduceAdd, reduceCtorEq] <;> rfl) (by first | rfl | simp only [go_sem, ↓reduceIte, Nat.reduceEqDiff, Nat.reduceAdd, reduceCtorEq]) (by first | exact ⟨rfl, rfl⟩ | simp only [go_sem, ↓reduceIte, Nat.reduceEqDiff, Nat.reduceAdd, reduceCtorEq])⟩ | exact ⟨by grind, pureC ( l14Commute_c x.2 y.2 ⟨a3, a4⟩ ⟨b3, b4⟩) (by simp only [go_sem, ↓reduceIte, Nat.reduceEqDiff, Nat.reduceAdd, reduceCtorEq] <;> rfl) (by first | rfl | simp only [go_sem, ↓reduceIte, Nat.reduceEqDiff, Nat.reduceAdd, reduceCtorEq]) (by first | exact ⟨rfl, rfl⟩ | simp only [go_sem, ↓reduceIte, Nat.reduceEqDiff, Nat.reduceAdd, reduceCtorEq])⟩, ?_⟩
          (repeat first | simp only [go_sem, ↓reduceIte, Nat.reduceEqDiff, Nat.reduceAdd, reduceCtorEq] | with_reducible refine V_W ?_ | (with_reducible refine And.intro ?_ ?_; focus first | assumption | omega | decide | grind) | (with_reducible refine Br.mk ?_ ?_; focus (intros; omega)) | decide)
          have hcm : TgCom T j ↔ (u.1 = v.1 ∧ u.2 = y.2 ∧ v.2 = x.2 ∧ Cmt x.2 y.2 ∧ ¬ (x.2 = y.2 ∧ u.1 = j)) := by
            unfold TgCom
            rw [hx0, hx2, hu, hv]
          refine ⟨fun hc4 => ?_, fun hc4 => ?_⟩
          · (repeat first | simp only [go_sem, ↓reduceIte, Nat.reduceEqDiff, Nat.reduceAdd, reduceCtorEq] | with_reducible refine V_W ?_ | (with_reducible refine And.intro ?_ ?_; focus first | assumption | omega | decide | grind) | (with_reducible refine Br.mk ?_ ?_; focus (intros; omega)) | decide)
            rw [decide_eq_false (fun h => ?_)]
            have hk := hcm.1 (h.com j hlt)
            try simp only [go_sem, ↓reduceIte, Nat.reduceEqDiff, Nat.reduceAdd, reduceCtorEq] at hc4
            grind
          · (repeat first | simp only [go_sem, ↓reduceIte, Nat.reduceEqDiff, Nat.reduceAdd, reduceCtorEq] | with_reducible refine V_W ?_ | (with_reducible refine And.intro ?_ ?_; focus first | assumption | omega | decide | grind) | (with_reducible refine Br.mk ?_ ?_; focus (intros; omega)) | decide)
            refine ⟨j + 1, ⟨by omega, fun k hk => ?_⟩, by omega, ?_⟩
            · rcases Nat.lt_or_ge k j with h | h
              · exact hall k h
              · obtain rfl : k = j := by omega
                refine ⟨fun i' hi' => hinv i' hi', hcm.2 ?_⟩
                try simp only [go_sem, ↓reduceIte, Nat.reduceEqDiff, Nat.reduceAdd, reduceCtorEq] at hc4
                grind
            · exact Ref.gc [] rfl rfl (by simp [sub, fget, go_sem, ↓reduceIte, Nat.reduceEqDiff, Nat.reduceAdd, reduceCtorEq])
      · (repeat first | simp only [go_sem, ↓reduceIte, Nat.reduceEqDiff, Nat.reduceAdd, reduceCtorEq] | with_reducible refine V_W ?_ | (with_reducible refine And.intro ?_ ?_; focus first | assumption | omega | decide | grind) | (with_reducible refine Br.mk ?_ ?_; focus (intros; omega)) | decide)
        rw [decide_eq_true ⟨hp1, hp2, hlen, hok, fun k i hk hi => (hall k (by omega)).1 i hi, fun k hk => (hall k (by omega)).2⟩]
end Go.Proofs.Ytkolabjcmephaaa
