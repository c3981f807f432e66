/- FnTemplates: the given statement. -/
import Derived.Test.YtcmahhfjpgoceaaGreatRows
import Derived.Lib.SmallJoins
import Derived.OpenShut
import Derived.Test.YtcmahhfjpgoceaaGreatZp
import Derived.Test.YtcmahhfjpgoceaaGreatRb
import Derived.Test.YtcmahhfjpgoceaaGreatRd
import Derived.Test.YtcmahhfjpgoceaaGreatRh
set_option linter.unusedSimpArgs false
set_option linter.unusedVariables false
set_option maxRecDepth 100000
namespace Go.Proofs.YtcmahhfjpgoceaaGreat
open Go.Gov
open Classical

def nmA : List UInt8 := [100, 97, 116, 99, 98, 101, 106, 107, 109, 110, 111, 122]
theorem nmA_op : ∀ k, k < 12 → (((nmA.getD k 0).toNat : Nat) : Int) ∈ opL := by decide
noncomputable def nmd (T : List (List Tg)) (i : Nat) : Bool := (List.range i).any fun k => decide (wT (wdI ((nmA.getD k 0).toNat : Int)) = T)
theorem nmd_succ (T : List (List Tg)) (i : Nat) : nmd T (i + 1) = (nmd T i || decide (wT (wdI ((nmA.getD i 0).toNat : Int)) = T)) := by simp [nmd, List.range_succ, List.any_append]
theorem nmd_yes {T : List (List Tg)} {i : Nat} (hi : i ≤ 12) (h : nmd T i = true) : ∃ n, n ∈ opL ∧ wT (wdI n) = T := by
  unfold nmd at h
  obtain ⟨k, hk, he⟩ := List.any_eq_true.1 h
  have hk := List.mem_range.1 hk
  exact ⟨_, nmA_op k (by omega), of_decide_eq_true he⟩
theorem Td.b {T : List (List Tg)} (h : Td T) : T.length ≤ 1048576 ∧ ∀ xs ∈ T, xs.length ≤ 1048576 := ⟨by have := h.1; omega, fun xs hx => by have := h.2 xs hx; omega⟩
theorem sub2 (w : List UInt8) (i : Nat) (h : i < w.length) : (w.take (i + 1)).drop i = [w.getD i 0] := by
  rw [List.take_succ_eq_append_getElem h, List.drop_append]
  simp [h, Nat.min_eq_left (Nat.le_of_lt h)]
set_option maxHeartbeats 16000000 in
theorem lawFt_c (bs : List Int) (hl : bs.length ≤ 9223372036854775807) (h8 : ∀ k, k < bs.length → 0 ≤ bs.getD k 0 ∧ bs.getD k 0 ≤ 255) : Pure Tryz.prog 5 [bytA' bs] (bl true) [] := by
  have hbig := big_c bs hl
  unfold bytA' at *
  refine pureRV ok5 rfl ?_; unfold c5
  refine RN ?_
  refine pureC1 (hbig) ?_
  refine RN ?_
  refine ⟨fun hc => ?_, fun hc => ?_⟩
  · (refine RN ?_; try with_reducible exact trivial)
    exact Ref.gc1 []
  have hb : Byt bs := ⟨by omega, h8⟩
  have hdr := drawApplyTemplate_e bs hb
  have hdc := drawComposeTemplates_e bs hb
  unfold bytA' at hdr hdc
  refine RN ?_
  refine pureEG hdr (by simp only [go_sem, ↓reduceIte, Nat.reduceEqDiff, Nat.reduceAdd, reduceCtorEq]) fun o ho => ?_
  obtain ⟨M, T⟩ := o
  obtain ⟨⟨g1, g2⟩, hT⟩ := ho
  dsimp only at g1 g2 hT
  have gr : ∀ p ∈ M, p.length ≤ 1048576 := fun p hp => by have := g2 p hp; omega
  obtain ⟨tl, tr⟩ := hT.b
  have hia := implAt_c M T (by omega) gr tl tr
  have hsa := specAt_c M T (by omega) gr tl tr
  obtain ⟨k1, k2, k3⟩ := atV_b M T
  have k4 : ∀ p ∈ atV M T, p.length ≤ 1048576 := fun p hp => by have := k3 p hp; omega
  have heq := equal9_c (atV M T) (atV M T) (by omega) (by omega) k4 k4
  rw [decide_eq_true rfl] at heq
  have hit := implIsTpl_c T tl tr
  have hst := specIsTpl_c T tl tr
  have hy := @at_y M T
  have hn := @at_n M T
  have hcp := @at_comp M T
  generalize hK : atV M T = K at *
  generalize hcc : atC M T = c at *
  refine RN ?_
  refine pureC1 (hia) ?_
  refine RN ?_
  refine pureC1 (hsa) ?_
  refine RN ?_
  have fK : ∀ H : Heap, ((K.map oints).take K.length).map (frz H 4) = K.map ints := fun H => frz_im H 2 K K.length rfl
  refine GCall.on rfl ?_
  refine pureC heq (by simp only [go_sem, ↓reduceIte, Nat.reduceEqDiff, Nat.reduceAdd, reduceCtorEq, frz_im _ _ K K.length rfl] <;> first | done | (simp only [maniA, mat] <;> rfl)) (by first | rfl | simp only [go_sem, ↓reduceIte, Nat.reduceEqDiff, Nat.reduceAdd, reduceCtorEq]) ?_
  simp only [go_sem, ↓reduceIte, Nat.reduceEqDiff, Nat.reduceAdd, reduceCtorEq]
  refine RN ?_
  refine GCall.on rfl ?_
  refine pureC1 (hit) ?_
  refine RN ?_
  refine GCall.on rfl ?_
  refine pureC1 (hst) ?_
  (refine RN ?_; try with_reducible exact trivial)
  (try with_reducible refine fun _ => ?_)
  refine RN ?_
  refine pureEG hdc (by simp only [go_sem, ↓reduceIte, Nat.reduceEqDiff, Nat.reduceAdd, reduceCtorEq]) fun o ho => ?_
  obtain ⟨T', U⟩ := o
  obtain ⟨_, hU⟩ := ho
  dsimp only at hU
  obtain ⟨ul, ur⟩ := hU.b
  have hic := implCompose_c T U tl tr ul ur
  have hsc := specCompose_c T U tl tr ul ur
  obtain ⟨v1, v2⟩ := cpV_b T U
  generalize hV : cpV T U = V at *
  generalize hd : cpC T U = d at *
  refine RN ?_
  refine pureC1 (hic) ?_
  refine RN ?_
  refine pureC1 (hsc) ?_
  (refine RN ?_; try with_reducible exact trivial)
  (try with_reducible refine fun _ => ?_)
  refine RN ?_
  refine ⟨fun hc0 => ?_, fun hc0 => ?_⟩
  · have hK0 := hn hc0
    refine RN ?_
    rw [hK0]
    exact Ref.gc1 []
  obtain ⟨mM, mT, m4, mK, mv, mf⟩ := hy hc0
  rw [← mv] at mK mf
  refine RN ?_
  refine V_loop (α := Nat) (S := fun i => ([(0, .slc 1 bs.length (u8s bs)), (3, .ref 0 0), (4, .ref 1 0), (5, .ref 2 0), (6, i64 c), (10, .ref 3 0), (11, .ref 4 0), (12, i64 d), (15, bl (nmd T i)), (16, sV nmA), (17, i64 (i : Int))], [some [mat M], some [tmt T], some [mat K], some [tmt U], some [tmt V]])) (C := fun i => i ≤ 12) (μ := fun i => 12 - i) 0 (Nat.zero_le _) ?_ ?_
  · refine Ref.sel [0, 1, 3, 7, 9] rfl ?_ ?_
    · simp only [go_sem, ↓reduceIte, Nat.reduceEqDiff, Nat.reduceAdd, reduceCtorEq, frz_im _ _ K K.length rfl]
    · simp [sub, fget, go_sem, ↓reduceIte, Nat.reduceEqDiff, Nat.reduceAdd, reduceCtorEq, nmd, nmA]
  intro i hi
  refine RN ?_
  refine ⟨fun hc1 => ?_, fun hc1 => ?_⟩
  · have hi12 : i < 12 := by
      have : nmA.length = 12 := rfl
      omega
    have hop := nmA_op i hi12
    have hsub := sub2 nmA i hi12
    have hsn := nmd_succ T i
    have hno := specNamed_c (nmA.getD i 0) hop
    have hwd := wd_ok _ hop
    have hlt := likeTemplate9_c (wT (wdI ((nmA.getD i 0).toNat : Int))) T (by have := hwd.2.1; omega) (tpl_rows hwd.1) tl tr
    generalize wT (wdI ((nmA.getD i 0).toNat : Int)) = X at *
    generalize nmA.getD i 0 = b at *
    refine RN ?_
    rw [hsub]
    refine pureC1 (hno) ?_
    refine RN ?_
    refine GC1 (bl (decide (X = T)) ) (fun hg =>  hlt) ?_
    refine RN ?_
    refine ⟨i + 1, by omega, by omega, ?_⟩
    rw [hsn]
    exact Ref.gc [0, 1, 2, 3, 4] rfl (by simp only [go_sem, ↓reduceIte, Nat.reduceEqDiff, Nat.reduceAdd, reduceCtorEq] <;> rfl) (by simp [sub, fget, go_sem, ↓reduceIte, Nat.reduceEqDiff, Nat.reduceAdd, reduceCtorEq])
  · obtain rfl : i = 12 := by
      have : nmA.length = 12 := rfl
      omega
    have h1 := implSf_c M (by omega) gr
    have h2 := implSf_c K (by omega) k4
    have e1 : vdC M = 0 := by unfold vdC; rw [if_pos mM]
    have e2 : vdC K = 0 := by unfold vdC; rw [if_pos mK]
    rw [e1] at h1
    rw [e2] at h2
    have f1 := flags9_c M (by have := mM.2; omega) (by omega) gr
    have f2 := flags9_c K (by have := mK.2; omega) (by omega) k4
    have hnamed : nmd T 12 = true → sfB K = sfB M ∧ sfG K = sfG M := fun h => by
      obtain ⟨n, hn1, hn2⟩ := nmd_yes (Nat.le_refl _) h
      subst hn2
      rw [mv]
      exact sf_named mM hn1 m4
    have hfl : ((fl M : Nat) : Int) * (T.length : Int) = ((fl K : Nat) : Int) := by rw [mf]; simp
    have hflm : (fl K : Int) ≤ 400 := by rw [mf]; omega
    generalize sfB M = yB at *
    generalize sfG M = yG at *
    generalize sfB K = zB at *
    generalize sfG K = zG at *
    generalize nmd T 12 = nb at *
    generalize fl M = fM at *
    generalize fl K = fK' at *
    refine RN ?_
    refine pureC1 (h1) ?_
    refine RN ?_
    refine pureC1 (h2) ?_
    refine RN ?_
    have hz : (nb && (!yB == zB || yG != zG)) = false := by
      cases nb with
      | false => rfl
      | true =>
        obtain ⟨u1, u2⟩ := hnamed rfl
        subst u1 u2
        simp
    have hzp : (nb = false ∨ yB = zB ∧ yG = zG) = True := by
      refine eq_true ?_
      cases nb with
      | false => exact .inl rfl
      | true =>
        obtain ⟨u1, u2⟩ := hnamed rfl
        exact .inr ⟨u1.symm, u2.symm⟩
    simp only [hz, hzp, go_sem, ↓reduceIte, Nat.reduceEqDiff, Nat.reduceAdd, reduceCtorEq, Bool.not_false, true_implies]
    refine GCall.on rfl ?_
    refine pureC1 (f2) ?_
    simp only [hz, hzp, go_sem, ↓reduceIte, Nat.reduceEqDiff, Nat.reduceAdd, reduceCtorEq, Bool.not_false, true_implies]
    refine RN ?_
    refine GCall.on rfl ?_
    refine pureC1 (f1) ?_
    simp only [hz, hzp, go_sem, ↓reduceIte, Nat.reduceEqDiff, Nat.reduceAdd, reduceCtorEq, Bool.not_false, true_implies, hfl]
    refine RN ?_
    rcases Classical.em (¬ d = 0) with hd0 | hd0
    · have gd : (d != 0) = true := by simp [hd0]
      simp only [gd, Bool.not_true]
      refine GCall_no (bl false) rfl ?_
      simp only [hd0, false_implies, go_sem, ↓reduceIte, Nat.reduceEqDiff, Nat.reduceAdd, reduceCtorEq]
      refine RN ?_
      exact Ref.gc [] rfl (by simp only [go_sem, ↓reduceIte, Nat.reduceEqDiff, Nat.reduceAdd, reduceCtorEq]) (by simp [sub, fget, go_sem, ↓reduceIte, Nat.reduceEqDiff, Nat.reduceAdd, reduceCtorEq, hd0])
    have hd0 := Classical.not_not.1 hd0
    obtain ⟨z1, z2, z3⟩ := hcp hc0 (hd.trans hd0)
    have hVc : V = cmT T U := by rw [← hV]; unfold cpV; rw [if_pos (hd.trans hd0)]
    rw [← hVc] at z1 z2 z3
    have itv := implIsTpl_c V (by omega) v2
    rw [decide_eq_true z1] at itv
    have ap1 := implAt_c K U (by omega) k4 ul ur
    have ap2 := implAt_c M V (by omega) gr (by omega) v2
    have ap3 := specAt_c K U (by omega) k4 ul ur
    rw [z2, z3] at ap1 ap3
    obtain ⟨w1, w2, w3⟩ := atV_b M V
    have w4 : ∀ p ∈ atV M V, p.length ≤ 1048576 := fun p hp => by have := w3 p hp; omega
    have heq2 := equal9_c (atV M V) (atV M V) (by omega) (by omega) w4 w4
    rw [decide_eq_true rfl] at heq2
    generalize atV M V = Z at *
    generalize atC M V = zc at *
    subst hd0
    refine GCall.on rfl ⟨rfl, ?_⟩
    refine pureC1 (itv) ?_
    simp only [true_implies, go_sem, ↓reduceIte, Nat.reduceEqDiff, Nat.reduceAdd, reduceCtorEq]
    refine RN ?_
    refine pureC1 (ap1) ?_
    refine RN ?_
    refine pureC1 (ap2) ?_
    refine RN ?_
    refine pureC1 (ap3) ?_
    (refine RN ?_; try with_reducible exact trivial)
    (try with_reducible refine fun _ => ?_)
    refine RN ?_
    refine GCall.on rfl ?_
    refine pureC heq2 (by simp only [go_sem, ↓reduceIte, Nat.reduceEqDiff, Nat.reduceAdd, reduceCtorEq, frz_im _ _ Z Z.length rfl] <;> first | done | (simp only [maniA, mat] <;> rfl)) (by first | rfl | simp only [go_sem, ↓reduceIte, Nat.reduceEqDiff, Nat.reduceAdd, reduceCtorEq]) ?_
    refine RN ?_
    exact Ref.gc1 []
end Go.Proofs.YtcmahhfjpgoceaaGreat
set_option maxRecDepth 100000
namespace Go.Proofs.YtcmahhfjpgoceaaGreat.JFt
open Go.Proofs.YtcmahhfjpgoceaaGreat
open Go.ChangeShapes Go.WideShapes Go.ChangeAt Go.RowKit Go.Gov

set_option maxRecDepth 100000 in
set_option maxHeartbeats 2000000 in
theorem lifted (os : Os) (started : os.Started) (H : Type) (enc : TypeId × Value → H) :
    ReturnsInHanded {} Tryz.checked os 5 .any (Rows.fnTemplatesSpec.pre6 enc Tryz.prog Tryz.f5 Rows.fnTemplatesRow.domain false) (Rows.fnTemplatesSpec.post enc Tryz.prog Tryz.f5 false true false false) := by
  refine returnsInHanded_of_change (C := Tryz.checked) Tryz.own started (by kernel_rfl) Tryz.func5
    (ChangeSpec.witness6 (enc := enc) (C := Tryz.checked) false ⟨#[], #[.slice none 0 0], []⟩ 8 (by kernel_rfl) (by kernel_rfl) (by kernel_rfl) (by kernel_rfl)) ?_
  intro W base args ds gs before hval0 hW hcnd _
  have hval : ∀ (j : Nat) t v, Tryz.f5.params[j]? = some t → args[j]? = some v → Value.okWide Tryz.prog W .any base t v := hval0
  have hW' := hW
  obtain ⟨p, q, hA0, hV, rfl, hfz, hnd⟩ := hW
  have hA : DataW.TrodAll enc Tryz.prog W 0 (fun _ => true) true Tryz.f5.params.toList args.toList ds p := hA0
  rw [Tryz.params5] at hA hval
  obtain ⟨v0, l0, d0, e0, p0, q0, ha0, rfl, rfl, h0, hA1⟩ := trodAll_cons hA
  obtain ⟨rfl, rfl, rfl⟩ := trodAll_nil hA1
  obtain rfl : args = #[v0] := by rw [← Array.toArray_toList (xs := args), ha0]
  have hv0 := hval 0 22 v0 rfl rfl
  obtain ⟨rfl, rfl⟩ := trodVars_none hV
  obtain ⟨a0, b0, c0, rfl⟩ := okWide_slice Tryz.underlying22 hv0
  obtain ⟨m0, t0⟩ := h0
  obtain ⟨s0, X0, hs0, hX0, hX80, rdX0⟩ := rd_bytes Tryz.underlying22 Tryz.underlying5 (by kernel_rfl) t0
  have h0 : DataW.Trod enc Tryz.prog W 0 (fun _ => true) true 22 (.slice a0 b0 c0) d0 p0 := ⟨m0, t0⟩
  obtain rfl : Value.slice a0 b0 c0 = s0 := by simpa [Value.cells] using hs0
  have hrd : ∀ m (h : m < ([bytA' X0] : List AV).length), Rd W ((g0 W).tr []) (g0 W).G ([bytA' X0] : List AV)[m] ((#[Value.slice a0 b0 c0] : Array Value).getD m undef) [] := fun m h => by
    match m, h with
    | 0, _ => exact rdX0 _
  refine (below_of (lawFt_c X0 (Nat.le_trans hX0 (by decide)) hX80) rfl hrd).mono fun e W' ⟨he, hb, hz⟩ => ?_
  simp only [List.append_nil] at hW'
  have hS0 : ∀ sp : Nat → Bool, (∀ x ∈ p0, sp x.block = true) → DataW.Trod enc Tryz.prog W' 0 sp true 22 (.slice a0 b0 c0) _ p0 := fun sp hsp =>
    WideElems.Trod_stays Tryz.laidOut (by kernel_rfl) (of_decide_eq_true (by kernel_rfl)) h0 (fun x hx => hb.same (hW'.lt x (by simp [hx]))) (fun x hx => hsp x (by simp [hx]))
  have hR1 : ∀ (b : Nat) (sp : Nat → Bool) (hd : Bool), DataW.Trod enc Tryz.prog W' b sp hd 4 (.bool true) (.lit (.bool true)) [] := fun _ _ _ => shut_bool Tryz.underlying4 true
  refine ⟨_, he, post_of_new (pa := p0) (pv := []) hW' (fun b sp hd => trodAll_mk1 (hR1 b sp hd)) (fun sp hsp => trodAll_mk1 (hS0 sp hsp)) (fun _ _ => ?_) ?_ ?_ hz ?_⟩
  · rfl
  · simp
  · exact hb.frame _
  · exact ok_one (by kernel_rfl) rfl (okWide_bool_mk Tryz.underlying4 true)

theorem holds : Rows.FnTemplatesSaid :=
  OpenClaim.holds_of_wide 5 Tryz.f5 rfl rfl rfl rfl rfl rfl rfl ⟨rfl, rfl, rfl, rfl, rfl⟩ rfl rfl rfl rfl rfl (by kernel_rfl) Tryz.func5 (by kernel_rfl)
    (of_decide_eq_true (by kernel_rfl)) (by unfold Func.isWrapper; first | (rw [if_pos (by decide +kernel)]; kernel_rfl) | (rw [if_neg (by decide +kernel)]; exact ⟨rfl, rfl⟩))
    (fun os started H enc _ => lifted os started H enc)

end Go.Proofs.YtcmahhfjpgoceaaGreat.JFt
