/- FnOperators: the given statement. -/
import Derived.Test.YtcmahhfjpgoceaaRows
import Derived.Lib.SmallJoins
import Derived.OpenShut
import Derived.Test.YtcmahhfjpgoceaaZp
import Derived.Test.YtcmahhfjpgoceaaRb
import Derived.Test.YtcmahhfjpgoceaaRc
import Derived.Test.YtcmahhfjpgoceaaRd
set_option linter.unusedSimpArgs false
set_option linter.unusedVariables false
set_option maxRecDepth 100000
namespace Go.Proofs.Ytcmahhfjpgoceaa
open Go.Gov
open Classical

theorem rows_b {M : List (List Int)} (hM : IsMap M) {n : Nat} (h : fl M ≤ n) : ∀ p ∈ M, p.length ≤ n := fun p hp => by
  obtain ⟨k, hk, rfl⟩ := List.mem_iff_getElem.1 hp
  have h1 := (hM.1.rows k hk).1
  rw [show M.getD k [] = M[k] by simp [hk]] at h1
  omega
theorem sub1 (w : List UInt8) (i : Nat) (h : i < w.length) : (w.take (i + 1)).drop i = [w.getD i 0] := by
  rw [List.take_succ_eq_append_getElem h, List.drop_append]
  simp [h, Nat.min_eq_left (Nat.le_of_lt h)]
set_option maxHeartbeats 16000000 in
theorem lawFo_c (bs : List Int) (hl : bs.length ≤ 9223372036854775807) (h8 : ∀ k, k < bs.length → 0 ≤ bs.getD k 0 ∧ bs.getD k 0 ≤ 255) : Pure Try.prog 3 [bytA' bs] (bl true) [] := by
  have hbig := big_c bs hl
  unfold bytA' at *
  refine pureRV ok3 rfl ?_; unfold c3
  (refine RN ?_; try with_reducible exact trivial)
  refine pureC1 (hbig) ?_
  (refine RN ?_; try with_reducible exact trivial)
  refine ⟨fun hc => ?_, fun hc => ?_⟩
  · (refine RN ?_; try with_reducible exact trivial)
    exact Ref.gc1 []
  have hb : Byt bs := ⟨by omega, h8⟩
  have hdr := drawSurfaceOf_e bs hb
  unfold bytA' at hdr
  (refine RN ?_; try with_reducible exact trivial)
  refine pureEG hdr (by simp only [go_sem, ↓reduceIte, Nat.reduceEqDiff, Nat.reduceAdd, reduceCtorEq]) fun M hM => ?_
  obtain ⟨g1, g2⟩ := hM
  have gr : ∀ p ∈ M, p.length ≤ 1048576 := fun p hp => by have := g2 p hp; omega
  have hspec := specIsMap_c M (by omega) gr
  have himpl := implIsMap_c M (by omega) gr
  by_cases hm : ¬ IsMap M
  · rw [decide_eq_false hm] at hspec himpl
    by_cases hman : IsMan M
    · have hfc := faceCounts_y M hman
      (refine RN ?_; try with_reducible exact trivial)
      refine pureC1 (hfc) ?_
      (refine RN ?_; try with_reducible exact trivial)
      refine pureC1 (hspec) ?_
      (refine RN ?_; try with_reducible exact trivial)
      refine pureC1 (himpl) ?_
      (refine RN ?_; try with_reducible exact trivial)
      exact Ref.gc1 []
    · have hfc := faceCounts_n M (by omega) gr hman
      (refine RN ?_; try with_reducible exact trivial)
      refine pureC1 (hfc) ?_
      (refine RN ?_; try with_reducible exact trivial)
      refine pureC1 (hspec) ?_
      (refine RN ?_; try with_reducible exact trivial)
      refine pureC1 (himpl) ?_
      (refine RN ?_; try with_reducible exact trivial)
      exact Ref.gc1 []
  have hm := Classical.not_not.1 hm
  rw [decide_eq_true hm] at hspec himpl
  have hfc := faceCounts_y M hm.1
  have hM3 : M.length = 3 := hm.2
  have hfl := flags9_c M (by omega) (by omega) gr
  have f3 := fcV_three (n := fl M) hM3
  rw [hM3] at hfc f3
  rw [f3] at hfc
  (refine RN ?_; try with_reducible exact trivial)
  refine pureC1 (hfc) ?_
  (refine RN ?_; try with_reducible exact trivial)
  refine pureC1 (hspec) ?_
  (refine RN ?_; try with_reducible exact trivial)
  have e3 : (((3 : Nat) : Int) != 3) = false := rfl
  simp only [e3]
  refine GCall.on rfl ⟨rfl, ?_⟩
  refine pureC1 (himpl) ?_
  simp only [go_sem, ↓reduceIte, Nat.reduceEqDiff, Nat.reduceAdd, reduceCtorEq, e3]
  (refine RN ?_; try with_reducible exact trivial)
  refine GCall.on rfl ?_
  refine pureC1 (hfl) ?_
  (refine RN ?_; try with_reducible exact trivial)
  refine ⟨fun h60 => ?_, fun h60 => ?_⟩
  · (refine RN ?_; try with_reducible exact trivial)
    refine GCall.on rfl ?_
    refine pureC1 (hfl) ?_
    (refine RN ?_; try with_reducible exact trivial)
    rw [decide_eq_true h60]
    exact Ref.gc1 []
  · have hv : vN (fl M) M ≤ fl M := num_le _ _
    have he : eN (fl M) M ≤ fl M := num_le _ _
    have hf : fN (fl M) M ≤ fl M := num_le _ _
    have h60 : fl M ≤ 60 := by omega
    have hdue := due_ok hm
    have hD : dueL (vN (fl M) M) (eN (fl M) M) (fN (fl M) M) = [[(fN (fl M) M : Int), eN (fl M) M, vN (fl M) M], [(eN (fl M) M : Int), 2 * eN (fl M) M, vN (fl M) M + fN (fl M) M], [2 * (eN (fl M) M : Int), 3 * eN (fl M) M, vN (fl M) M + fN (fl M) M], [(vN (fl M) M : Int) + 2 * eN (fl M) M, 4 * eN (fl M) M, fN (fl M) M + eN (fl M) M]] := rfl
    generalize dueL (vN (fl M) M) (eN (fl M) M) (fN (fl M) M) = D at hdue hD
    have hD4 : D.length = 4 := by rw [hD]; rfl
    have hDr : ∀ i, i < 4 → (D.getD i []).length ≤ 3 := fun i hi => by
      match i, hi with
      | 0, _ => rw [hD]; exact Nat.le_refl _
      | 1, _ => rw [hD]; exact Nat.le_refl _
      | 2, _ => rw [hD]; exact Nat.le_refl _
      | 3, _ => rw [hD]; exact Nat.le_refl _
    (refine RN ?_; try with_reducible exact trivial)
    refine V_loop (α := Nat) (S := fun i => ([(0, .slc 1 bs.length (u8s bs)), (3, .ref 0 0), (9, mat D), (10, sV ltrs), (11, i64 (i : Int))], [some [mat M]])) (C := fun i => i ≤ 4) (μ := fun i => 4 - i) 0 (Nat.zero_le _) ?_ ?_
    · refine Ref.sel [0] rfl (by simp only [go_sem, ↓reduceIte, Nat.reduceEqDiff, Nat.reduceAdd, reduceCtorEq]) ?_
      rw [hD]
      simp [sub, fget, go_sem, ↓reduceIte, Nat.reduceEqDiff, Nat.reduceAdd, reduceCtorEq, mat, ints, intsC, ltrs]
    intro i hi
    (refine RN ?_; try with_reducible exact trivial)
    refine ⟨fun hc1 => ?_, fun hc1 => ?_⟩
    · have hi4 : i < 4 := by omega
      have hlt := ltrs_ok i hi4
      have hsub := sub1 ltrs i hi4
      obtain ⟨q1, q2⟩ := wT_ltr hlt
      have hnt := namedTemplate_c (ltrs.getD i 0) q2
      have hdi := hdue i hi4
      have hdr := hDr i hi4
      generalize ltrs.getD i 0 = b at hlt hsub hnt hdi q1 q2
      rw [q1] at hnt
      have hT := bT_ok hlt
      have hT2 := hT.p2
      have hTl : (bT b).length ≤ 4 := by rcases hlt with rfl | rfl | rfl | rfl <;> decide
      have hTr : ∀ xs ∈ bT b, xs.length ≤ 1048576 := fun xs hx => by
        obtain ⟨k, hk, rfl⟩ := List.mem_iff_getElem.1 hx
        have := hT.len k hk
        rw [show (bT b).getD k [] = (bT b)[k] by simp [hk]] at this
        omega
      have hmul : fl M * (bT b).length ≤ 60 * 4 := Nat.mul_le_mul h60 hTl
      obtain ⟨w1, w2, w3, w4⟩ := letter_ok hm hlt (by omega)
      have hat := implAt_c M (bT b) (by omega) gr (by omega) hTr
      rw [w1, w2] at hat
      have hfk := faceCounts_y _ w3.1
      rw [hdi] at hfk
      have hK3 : (apM M (bT b) 3).length = 3 := w3.2
      have hli := likeInts_c (D.getD i []) (D.getD i []) (by omega) (by omega)
      have hD3 : (D.getD i []).length = 3 := by rw [← hdi, fcV_len, hK3]
      rw [decide_eq_true rfl] at hli
      generalize bT b = T at *
      generalize apM M T 3 = K at *
      rw [hK3] at hfk hat
      (refine RN ?_; try with_reducible exact trivial)
      rw [hsub]
      refine pureC1 (hnt) ?_
      (refine RN ?_; try with_reducible exact trivial)
      refine pureC1 (hat) ?_
      (refine RN ?_; try with_reducible exact trivial)
      refine pureC hfk (by simp only [go_sem, ↓reduceIte, Nat.reduceEqDiff, Nat.reduceAdd, reduceCtorEq, frz_im _ _ K 3 hK3] <;> first | done | (simp only [maniA, mat, hK3] <;> rfl)) (by first | rfl | simp only [go_sem, ↓reduceIte, Nat.reduceEqDiff, Nat.reduceAdd, reduceCtorEq]) ?_
      (refine RN ?_; try with_reducible exact trivial)
      have tkD : (intsC (D.getD i [])).take 3 = intsC (D.getD i []) := List.take_of_length_le (by rw [len_intsC]; omega)
      have hIX : AV.slc 1 3 (intsC (D.getD i [])) = ints (D.getD i []) := by rw [ints, hD3, intsC]
      refine GCall.on rfl ?_
      refine pureC hli (by simp only [go_sem, ↓reduceIte, Nat.reduceEqDiff, Nat.reduceAdd, reduceCtorEq, tkD, hIX]) (by first | rfl | simp only [go_sem, ↓reduceIte, Nat.reduceEqDiff, Nat.reduceAdd, reduceCtorEq]) ?_
      (refine RN ?_; try with_reducible exact trivial)
      exact ⟨i + 1, by omega, by omega, Ref.gc [0] rfl (by simp only [go_sem, ↓reduceIte, Nat.reduceEqDiff, Nat.reduceAdd, reduceCtorEq] <;> rfl) (by simp [sub, fget, go_sem, ↓reduceIte, Nat.reduceEqDiff, Nat.reduceAdd, reduceCtorEq])⟩
    · have hro := roll_p bs hb 1141
      unfold bytA' at hro
      (refine RN ?_; try with_reducible exact trivial)
      refine pureEG hro (by simp only [go_sem, ↓reduceIte, Nat.reduceEqDiff, Nat.reduceAdd, reduceCtorEq]) fun h0 _ => ?_
      (refine RN ?_; try with_reducible exact trivial)
      refine wriEF (below_w bs hb 0 h0 (Nat.zero_le _) 8) [2] (by first | rfl | simp) (by simp only [go_sem, ↓reduceIte, Nat.reduceEqDiff, Nat.reduceAdd, reduceCtorEq] <;> rfl) (by simp only [go_sem, ↓reduceIte, Nat.reduceEqDiff, Nat.reduceAdd, reduceCtorEq] <;> rfl) fun o ho => ?_
      obtain ⟨a1, b1, k⟩ := o
      obtain ⟨q1, q2, q3⟩ := ho
      dsimp only at q1 q2 q3
      obtain ⟨k, rfl⟩ := Int.eq_ofNat_of_zero_le q2
      have hk8 : k < 8 := by omega
      obtain ⟨n1, n2, n3⟩ := nm_ok k hk8
      have hnL : nmL.length = 16 := rfl
      simp only [go_sem, ↓reduceIte, Nat.reduceEqDiff, Nat.reduceAdd, reduceCtorEq]
      refine And.intro (by omega) ?_
      refine W_ref (Ref.sel [0] (F' := [(3, .ref 0 0), (18, .slc 1 16 (nmL.map sV)), (19, i64 (2 * (k : Int)))]) (H' := [some [mat M]]) rfl (by simp only [go_sem, ↓reduceIte, Nat.reduceEqDiff, Nat.reduceAdd, reduceCtorEq]) ?_) ?_
      · simp [sub, fget, go_sem, ↓reduceIte, Nat.reduceEqDiff, Nat.reduceAdd, reduceCtorEq, nmL]
      have hnt := namedTemplate_c (nmB k) n3
      have hok := named_ok hm h60 n3
      have hwd := wd_ok _ n3
      have hs6 := wd_sz _ n3
      have ek : (2 * (k : Int)).toNat = 2 * k := by omega
      have ek2 : (2 * (k : Int) + 1).toNat = 2 * k + 1 := by omega
      have hcl : ∀ (j : Nat) (d : AV), j < 16 → (nmL.map sV).getD j d = sV (nmL.getD j []) := fun j d hj => by
        rw [List.getD_eq_getElem?_getD, List.getElem?_map, List.getElem?_eq_getElem (show j < nmL.length from hj)]
        simp [show j < nmL.length from hj]
      have hw1 : ∀ d : AV, (nmL.map sV).getD (2 * k) d = sV [nmB k] := fun d => by rw [hcl _ _ (by omega), n1]
      have hw2 : ∀ d : AV, (nmL.map sV).getD (2 * k + 1) d = sV (wdI (nmB k).toNat) := fun d => by rw [hcl _ _ (by omega), n2]
      have hkl : 2 * k < (nmL.map sV).length := by rw [List.length_map, hnL]; omega
      have hkl2 : 2 * k + 1 < (nmL.map sV).length := by rw [List.length_map, hnL]; omega
      generalize nmL.map sV = CS at hw1 hw2 hkl hkl2 ⊢
      (refine RN ?_; try with_reducible exact trivial)
      simp only [ek, ek2, hw1, hw2, go_sem, ↓reduceIte, Nat.reduceEqDiff, Nat.reduceAdd, reduceCtorEq]
      (refine RN ?_; try with_reducible exact trivial)
      generalize hw : wdI (nmB k).toNat = w at *
      obtain ⟨t1, t2, t3, t4, t5, t6⟩ := hwd
      obtain ⟨u1, u2, u3, u4⟩ := hok
      have hTr : ∀ xs ∈ wT w, xs.length ≤ 1048576 := fun xs hx => by
        obtain ⟨k, hk, rfl⟩ := List.mem_iff_getElem.1 hx
        have := t1.len k hk
        rw [show (wT w).getD k [] = (wT w)[k] by simp [hk]] at this
        omega
      have hat := implAt_c M (wT w) (by omega) gr (by omega) hTr
      rw [u1, u2] at hat
      have hW3 : (mm M w).length = 3 := u3.2
      rw [hW3] at hat
      generalize hT : wT w = T at hnt hat
      refine pureC1 (hnt) ?_
      (refine RN ?_; try with_reducible exact trivial)
      refine pureC1 (hat) ?_
      (refine RN ?_; try with_reducible exact trivial)
      (try simp only [ek, ek2, hw1, hw2, go_sem, ↓reduceIte, Nat.reduceEqDiff, Nat.reduceAdd, reduceCtorEq])
      (refine RN ?_; try with_reducible exact trivial)
      have hmm := fun i => mm_map (w.take i) M hm (fun x hx => mem_getD t5 x (List.mem_of_mem_take hx)) (by
        have h1 := szW_take (mem_getD t5) i
        have h2 : fl M * szW 1 (w.take i) ≤ 60 * 6 := Nat.mul_le_mul h60 (by omega)
        omega)
      have hmz := fun i => Nat.mul_le_mul h60 (Nat.le_trans (szW_take (mem_getD t5) i) hs6)
      refine V_loop (α := Nat) (S := fun j => ([(3, .ref 0 0), (22, .ref 1 0), (24, sV w), (25, i64 (j : Int))], [some [mat (mm M (w.take j))], some [mat (mm M w)]])) (C := fun j => j ≤ w.length) (μ := fun j => w.length - j) 0 (Nat.zero_le _) ?_ ?_
      · refine Ref.sel [0, 4] rfl ?_ ?_
        · simp only [go_sem, ↓reduceIte, Nat.reduceEqDiff, Nat.reduceAdd, reduceCtorEq, frz_im _ _ (mm M w) 3 hW3]
          rw [show mm M [] = M from rfl, mat, mat, hW3]
        · simp [sub, fget, go_sem, ↓reduceIte, Nat.reduceEqDiff, Nat.reduceAdd, reduceCtorEq]
      intro j hj
      (refine RN ?_; try with_reducible exact trivial)
      refine ⟨fun hc2 => ?_, fun hc2 => ?_⟩
      · have hjw : j < w.length := by omega
        have hlt := t5 j hjw
        have hsub := sub1 w j hjw
        have hms := mm_succ M hjw
        obtain ⟨p1, p2⟩ := hmm j
        obtain ⟨p3, p4⟩ := hmm (j + 1)
        have pz := hmz j
        have pz1 := hmz (j + 1)
        rw [hms] at p3 p4
        obtain ⟨q1, q2⟩ := wT_ltr hlt
        have hnt := namedTemplate_c (w.getD j 0) q2
        rw [q1] at hnt
        generalize w.getD j 0 = b at hlt hsub hnt p3 p4 hms q1 q2
        generalize mm M (w.take j) = m at p1 p2 p3 p4 hms ⊢
        have hT := bT_ok hlt
        have hT2 := hT.p2
        have hTr : ∀ xs ∈ bT b, xs.length ≤ 1048576 := fun xs hx => by
          obtain ⟨k, hk, rfl⟩ := List.mem_iff_getElem.1 hx
          have := hT.len k hk
          rw [show (bT b).getD k [] = (bT b)[k] by simp [hk]] at this
          omega
        have hm3 : m.length = 3 := p1.2
        have hA := at_ok p1 hT p3 (by
          have : fl (apM m (bT b) 3) = fl m * (bT b).length := (ap_mvi p1.mvi hT).row 0 (by omega)
          omega)
        have hat := implAt_c m (bT b) (by omega) (rows_b p1 (by omega)) (by omega) hTr
        rw [hA.1, hA.2] at hat
        have hK3 : (apM m (bT b) 3).length = 3 := p3.2
        generalize hT0 : bT b = T at *
        generalize hK0 : apM m T 3 = K at *
        rw [hK3] at hat
        (refine RN ?_; try with_reducible exact trivial)
        rw [hsub]
        refine pureC1 (hnt) ?_
        (refine RN ?_; try with_reducible exact trivial)
        refine pureC1 (hat) ?_
        (refine RN ?_; try with_reducible exact trivial)
        refine ⟨j + 1, by omega, by omega, ?_⟩
        rw [hms]
        refine Ref.sel [0, 1] rfl ?_ ?_
        · simp only [go_sem, ↓reduceIte, Nat.reduceEqDiff, Nat.reduceAdd, reduceCtorEq, frz_im _ _ K 3 hK3]
          rw [mat, hK3]
        · simp [sub, fget, go_sem, ↓reduceIte, Nat.reduceEqDiff, Nat.reduceAdd, reduceCtorEq]
      · obtain rfl : j = w.length := by omega
        rw [List.take_length]
        have heq := equal9_c (mm M w) (mm M w) (by omega) (by omega) (rows_b u3 (by omega)) (rows_b u3 (by omega))
        rw [decide_eq_true rfl] at heq
        (refine RN ?_; try with_reducible exact trivial)
        refine pureC1 (heq) ?_
        (refine RN ?_; try with_reducible exact trivial)
        exact Ref.gc1 []
end Go.Proofs.Ytcmahhfjpgoceaa
set_option maxRecDepth 100000
namespace Go.Proofs.Ytcmahhfjpgoceaa.JFo
open Go.Proofs.Ytcmahhfjpgoceaa
open Go.ChangeShapes Go.WideShapes Go.ChangeAt Go.RowKit Go.Gov

set_option maxRecDepth 100000 in
set_option maxHeartbeats 2000000 in
theorem lifted (os : Os) (started : os.Started) (H : Type) (enc : TypeId × Value → H) :
    ReturnsInHanded {} Try.checked os 3 .any (Rows.fnOperatorsSpec.pre6 enc Try.prog Try.f3 Rows.fnOperatorsRow.domain false) (Rows.fnOperatorsSpec.post enc Try.prog Try.f3 false true false false) := by
  refine returnsInHanded_of_change (C := Try.checked) Try.own started (by kernel_rfl) Try.func3
    (ChangeSpec.witness6 (enc := enc) (C := Try.checked) false ⟨#[], #[.slice none 0 0], []⟩ 8 (by kernel_rfl) (by kernel_rfl) (by kernel_rfl) (by kernel_rfl)) ?_
  intro W base args ds gs before hval0 hW hcnd _
  have hval : ∀ (j : Nat) t v, Try.f3.params[j]? = some t → args[j]? = some v → Value.okWide Try.prog W .any base t v := hval0
  have hW' := hW
  obtain ⟨p, q, hA0, hV, rfl, hfz, hnd⟩ := hW
  have hA : DataW.TrodAll enc Try.prog W 0 (fun _ => true) true Try.f3.params.toList args.toList ds p := hA0
  rw [Try.params3] at hA hval
  obtain ⟨v0, l0, d0, e0, p0, q0, ha0, rfl, rfl, h0, hA1⟩ := trodAll_cons hA
  obtain ⟨rfl, rfl, rfl⟩ := trodAll_nil hA1
  obtain rfl : args = #[v0] := by rw [← Array.toArray_toList (xs := args), ha0]
  have hv0 := hval 0 22 v0 rfl rfl
  obtain ⟨rfl, rfl⟩ := trodVars_none hV
  obtain ⟨a0, b0, c0, rfl⟩ := okWide_slice Try.underlying22 hv0
  obtain ⟨m0, t0⟩ := h0
  obtain ⟨s0, X0, hs0, hX0, hX80, rdX0⟩ := rd_bytes Try.underlying22 Try.underlying5 (by kernel_rfl) t0
  have h0 : DataW.Trod enc Try.prog W 0 (fun _ => true) true 22 (.slice a0 b0 c0) d0 p0 := ⟨m0, t0⟩
  obtain rfl : Value.slice a0 b0 c0 = s0 := by simpa [Value.cells] using hs0
  have hrd : ∀ m (h : m < ([bytA' X0] : List AV).length), Rd W ((g0 W).tr []) (g0 W).G ([bytA' X0] : List AV)[m] ((#[Value.slice a0 b0 c0] : Array Value).getD m undef) [] := fun m h => by
    match m, h with
    | 0, _ => exact rdX0 _
  refine (below_of (lawFo_c X0 (Nat.le_trans hX0 (by decide)) hX80) rfl hrd).mono fun e W' ⟨he, hb, hz⟩ => ?_
  simp only [List.append_nil] at hW'
  have hS0 : ∀ sp : Nat → Bool, (∀ x ∈ p0, sp x.block = true) → DataW.Trod enc Try.prog W' 0 sp true 22 (.slice a0 b0 c0) _ p0 := fun sp hsp =>
    WideElems.Trod_stays Try.laidOut (by kernel_rfl) (of_decide_eq_true (by kernel_rfl)) h0 (fun x hx => hb.same (hW'.lt x (by simp [hx]))) (fun x hx => hsp x (by simp [hx]))
  have hR1 : ∀ (b : Nat) (sp : Nat → Bool) (hd : Bool), DataW.Trod enc Try.prog W' b sp hd 4 (.bool true) (.lit (.bool true)) [] := fun _ _ _ => shut_bool Try.underlying4 true
  refine ⟨_, he, post_of_new (pa := p0) (pv := []) hW' (fun b sp hd => trodAll_mk1 (hR1 b sp hd)) (fun sp hsp => trodAll_mk1 (hS0 sp hsp)) (fun _ _ => ?_) ?_ ?_ hz ?_⟩
  · rfl
  · simp
  · exact hb.frame _
  · exact ok_one (by kernel_rfl) rfl (okWide_bool_mk Try.underlying4 true)

theorem holds : Rows.FnOperatorsSaid :=
  OpenClaim.holds_of_wide 3 Try.f3 rfl rfl rfl rfl rfl rfl rfl ⟨rfl, rfl, rfl, rfl, rfl⟩ rfl rfl rfl rfl rfl (by kernel_rfl) Try.func3 (by kernel_rfl)
    (of_decide_eq_true (by kernel_rfl)) (by unfold Func.isWrapper; first | (rw [if_pos (by decide +kernel)]; kernel_rfl) | (rw [if_neg (by decide +kernel)]; exact ⟨rfl, rfl⟩))
    (fun os started H enc _ => lifted os started H enc)

end Go.Proofs.Ytcmahhfjpgoceaa.JFo
