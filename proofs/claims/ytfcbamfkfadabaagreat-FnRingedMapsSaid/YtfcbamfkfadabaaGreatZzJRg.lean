/- FnRingedMaps: the given statement. -/
import Derived.Test.YtfcbamfkfadabaaGreatRows
import Derived.Lib.SmallJoins
import Derived.OpenShut
import Derived.Test.YtfcbamfkfadabaaGreatZp
import Derived.Test.YtfcbamfkfadabaaGreatQ1
import Derived.Test.YtfcbamfkfadabaaGreatRb
import Derived.Test.YtfcbamfkfadabaaGreatRd
import Derived.Test.YtfcbamfkfadabaaGreatRp
import Derived.Test.YtfcbamfkfadabaaGreatS3
set_option linter.unusedSimpArgs false
set_option linter.unusedVariables false
set_option maxRecDepth 100000
namespace Go.Proofs.YtfcbamfkfadabaaGreat
open Go.Gov
open Classical

theorem rowsR_b {M : List (List Int)} (hM : IsMap M) {n : Nat} (h : fl M ≤ n) : ∀ p ∈ M, p.length ≤ n := fun p hp => by
  obtain ⟨k, hk, rfl⟩ := List.mem_iff_getElem.1 hp
  have h1 := (hM.1.rows k hk).1
  rw [show M.getD k [] = M[k] by simp [hk]] at h1
  omega
theorem subR (w : List UInt8) (i : Nat) (h : i < w.length) : (w.take (i + 1)).drop i = [w.getD i 0] := by
  rw [List.take_succ_eq_append_getElem h, List.drop_append]
  simp [h, Nat.min_eq_left (Nat.le_of_lt h)]
theorem uniR_ok {a b : Nat} (h : uniC a b = 0) : SmOk 3 (rls2 a b) ∧ IsMan (uniT a b) := by
  unfold uniC at h
  split at h
  · rename_i h1
    split at h
    · rename_i h2; exact ⟨h1, h2⟩
    · cases h
  · cases h
def nmT : List (List UInt8) := [[], [97], [116], [100], [101], [100, 116], [98]]
set_option maxHeartbeats 16000000 in
theorem lawRg_c (bs : List Int) (hl : bs.length ≤ 9223372036854775807) (h8 : ∀ k, k < bs.length → 0 ≤ bs.getD k 0 ∧ bs.getD k 0 ≤ 255) : Pure Tryz.prog 3 [bytA' bs] (bl true) [] := by
  have hbig := big_c bs hl
  unfold bytA' at *
  refine pureRV ok3 rfl ?_; unfold c3
  refine RN ?_
  refine pureC1 (hbig) ?_
  refine RN ?_
  refine ⟨fun hc => ?_, fun hc => ?_⟩
  · (refine RN ?_; try with_reducible exact trivial)
    exact Ref.gc1 []
  have hb : Byt bs := ⟨by omega, h8⟩
  have hro := roll_p bs hb 1131
  unfold bytA' at hro
  refine RN ?_
  refine pureEG hro (by simp only [go_sem, ↓reduceIte, Nat.reduceEqDiff, Nat.reduceAdd, reduceCtorEq]) fun h0 _ => ?_
  (repeat first | simp only [hc, go_sem, ↓reduceIte, Nat.reduceEqDiff, Nat.reduceAdd, reduceCtorEq] | (with_reducible refine And.intro ?_ ?_; focus first | assumption | omega | decide | grind))
  refine V_W ?_
  (repeat first | simp only [hc, go_sem, ↓reduceIte, Nat.reduceEqDiff, Nat.reduceAdd, reduceCtorEq] | (with_reducible refine And.intro ?_ ?_; focus first | assumption | omega | decide | grind))
  refine W_ref (Ref.sel [0] (F' := [(0, .slc 1 bs.length (u8s bs)), (3, .ref 0 0), (4, mat dgT)]) (H' := [some (srcC bs 0 h0)]) rfl (by simp only [go_sem, ↓reduceIte, Nat.reduceEqDiff, Nat.reduceAdd, reduceCtorEq]) ?_) ?_
  · simp [sub, fget, go_sem, ↓reduceIte, Nat.reduceEqDiff, Nat.reduceAdd, reduceCtorEq, mat, ints, intsC, dgT]
  refine V_W ?_
  refine RN ?_
  refine wriEF (below_w bs hb 0 h0 (Nat.zero_le _) 3) [0] (by first | rfl | simp) (by simp only [go_sem, ↓reduceIte, Nat.reduceEqDiff, Nat.reduceAdd, reduceCtorEq] <;> rfl) (by simp only [go_sem, ↓reduceIte, Nat.reduceEqDiff, Nat.reduceAdd, reduceCtorEq] <;> rfl) fun o ho => ?_
  obtain ⟨a1, b1, k⟩ := o
  obtain ⟨q1, q2, q3⟩ := ho
  dsimp only at q1 q2 q3
  obtain ⟨k, rfl⟩ := Int.eq_ofNat_of_zero_le q2
  have hk3 : k < 3 := by omega
  have hdl : dgT.length = 3 := rfl
  (repeat first | simp only [hdl, go_sem, ↓reduceIte, Nat.reduceEqDiff, Nat.reduceAdd, reduceCtorEq] | (with_reducible refine And.intro ?_ ?_; focus first | assumption | omega | decide | grind))
  refine V_W ?_
  (repeat first | simp only [hdl, go_sem, ↓reduceIte, Nat.reduceEqDiff, Nat.reduceAdd, reduceCtorEq] | (with_reducible refine And.intro ?_ ?_; focus first | assumption | omega | decide | grind))
  refine W_ref (Ref.sel [0] (F' := [(3, .ref 0 0), (5, ints (dgT.getD k [])), (6, .slc 1 7 (sVs nmT))]) (H' := [some (srcC bs a1 b1)]) rfl (by simp only [go_sem, ↓reduceIte, Nat.reduceEqDiff, Nat.reduceAdd, reduceCtorEq]) ?_) ?_
  · simp [sub, fget, go_sem, ↓reduceIte, Nat.reduceEqDiff, Nat.reduceAdd, reduceCtorEq, nmT, sVs]
  refine V_W ?_
  refine RN ?_
  refine wriEF (below_w bs hb a1 b1 q1 7) [0] (by first | rfl | simp) (by simp only [go_sem, ↓reduceIte, Nat.reduceEqDiff, Nat.reduceAdd, reduceCtorEq] <;> rfl) (by simp only [go_sem, ↓reduceIte, Nat.reduceEqDiff, Nat.reduceAdd, reduceCtorEq] <;> rfl) fun o ho => ?_
  obtain ⟨a2, b2, r0⟩ := o
  obtain ⟨q4, q5, q6⟩ := ho
  dsimp only at q4 q5 q6
  obtain ⟨r0, rfl⟩ := Int.eq_ofNat_of_zero_le q5
  have hr7 : r0 < 7 := by omega
  obtain ⟨r, hr⟩ : ∃ r, r = r0 + 1 := ⟨_, rfl⟩
  have er : 1 + (r0 : Int) = (r : Int) := by omega
  have er2 : ((r : Int) - 1).toNat = r0 := by omega
  have hw : nmT.getD r0 [] = rgN r := by rw [hr]; rfl
  obtain ⟨a, b, e, d1, d2, d3, d4, d5, d6, d7, d8⟩ := ring_ok k hk3 (r := r) (by omega) (by omega)
  obtain ⟨u1, u2⟩ := uniR_ok d3
  have hd2 := d2
  unfold Dg3 at hd2
  have hir := isRinged_c a b r d2 (by omega) (rgD_7 d7)
  have huni := universalI_p a b (by omega) (by omega) u1 u2
  have hwy := wythoff_c a b r d2 (by omega) d7
  obtain ⟨w1, w2, w3⟩ := rgN_ok r (by omega)
  rw [← d8] at hwy
  rw [d1]
  have hM3 : (uniT a b).length = 3 := d4.2
  have hmm := fun (j : Nat) (hj : j < 3) => mm_map (nmX ((rgN r).take j)) (uniT a b) d4 (w3 j hj).2 (by
    have h2 : fl (uniT a b) * szW 1 (nmX ((rgN r).take j)) ≤ 48 * 6 := Nat.mul_le_mul (by omega) (w3 j hj).1
    omega)
  have hvf := vef_word (nmX (rgN r)) (uniT a b) d4 (by have := (w3 2 (by omega)).2; rwa [List.take_of_length_le w1] at this) (by
    have h3 := (w3 2 (by omega)).1
    rw [List.take_of_length_le w1] at h3
    have h2 : fl (uniT a b) * szW 1 (nmX (rgN r)) ≤ 48 * 6 := Nat.mul_le_mul (by omega) h3
    omega)
  rw [← hvf] at hwy
  generalize uniT a b = M at *
  (repeat first | simp only [er, go_sem, ↓reduceIte, Nat.reduceEqDiff, Nat.reduceAdd, reduceCtorEq] | with_reducible refine V_W ?_ | (with_reducible refine And.intro ?_ ?_; focus first | assumption | omega | decide | grind) | (with_reducible refine Br.mk ?_ ?_; focus (intros; omega)) | decide)
  refine pureC1 (hir) ?_
  (repeat first | simp only [er, go_sem, ↓reduceIte, Nat.reduceEqDiff, Nat.reduceAdd, reduceCtorEq] | with_reducible refine V_W ?_ | (with_reducible refine And.intro ?_ ?_; focus first | assumption | omega | decide | grind) | (with_reducible refine Br.mk ?_ ?_; focus (intros; omega)) | decide)
  refine pureC1 (huni) ?_
  have hnl : nmT.length = 7 := rfl
  (repeat first | simp only [er, er2, hw, go_sem, ↓reduceIte, Nat.reduceEqDiff, Nat.reduceAdd, reduceCtorEq] | with_reducible refine V_W ?_ | (with_reducible refine And.intro ?_ ?_; focus first | assumption | omega | decide | grind) | (with_reducible refine Br.mk ?_ ?_; focus (intros; omega)) | decide)
  have hmX : ∀ j, (rgN r).length ≤ j → mm M (nmX ((rgN r).take j)) = mm M (nmX (rgN r)) := fun j hj => by rw [List.take_of_length_le hj]
  generalize rgN r = w at *
  refine V_loop (α := Nat) (S := fun j => ([(5, ints [(a : Int), (b : Int)]), (7, i64 (r : Int)), (10, .ref 0 0), (12, sV w), (13, i64 (j : Int))], [some [mat (mm M (nmX (w.take j)))]])) (C := fun j => j ≤ w.length) (μ := fun j => w.length - j) 0 (Nat.zero_le _) ?_ ?_
  · refine Ref.sel [2] rfl ?_ ?_
    · simp only [go_sem, ↓reduceIte, Nat.reduceEqDiff, Nat.reduceAdd, reduceCtorEq, frz_im _ _ M 3 hM3]
      rw [show mm M (nmX []) = M from rfl, mat, hM3]
    · simp [sub, fget, go_sem, ↓reduceIte, Nat.reduceEqDiff, Nat.reduceAdd, reduceCtorEq]
  intro j hj
  obtain ⟨p1, p2⟩ := hmm j (by omega)
  refine RN ?_
  refine ⟨fun hc2 => ?_, fun hc2 => ?_⟩
  · have hjw : j < w.length := by omega
    obtain ⟨n1, n2⟩ := w2 j hjw
    have hsub := subR w j hjw
    have hst : mm M (nmX (w.take (j + 1))) = mm (mm M (nmX (w.take j))) (wdI (w.getD j 0).toNat) := by rw [nmX_succ hjw, mm_app]
    have pz : fl (mm M (nmX (w.take j))) ≤ 48 := by
      have : fl M * szW 1 (nmX (w.take j)) ≤ 48 * 1 := Nat.mul_le_mul (by omega) n2
      omega
    have nO : ((w.getD j 0).toNat : Int) ∈ opL := by
      simp only [List.mem_cons, List.not_mem_nil, or_false] at n1
      unfold opL
      rcases n1 with h | h | h | h | h <;> rw [h] <;> decide
    have hnt := namedTemplate_c (w.getD j 0) nO
    generalize mm M (nmX (w.take j)) = m at p1 p2 pz hst ⊢
    have hok := named_ok p1 (by omega) nO
    have hwd := wd_ok _ nO
    generalize hW : wdI ((w.getD j 0).toNat : Int) = W at *
    obtain ⟨t1, t2, t3, t4, t5, t6⟩ := hwd
    obtain ⟨v1, v2, v3, v4⟩ := hok
    have hTr : ∀ xs ∈ wT W, xs.length ≤ 1048576 := fun xs hx => by
      obtain ⟨k, hk, rfl⟩ := List.mem_iff_getElem.1 hx
      have := t1.len k hk
      rw [show (wT W).getD k [] = (wT W)[k] by simp [hk]] at this
      omega
    have hm3 : m.length = 3 := p1.2
    have hat := implAt_c m (wT W) (by omega) (rowsR_b p1 (by omega)) (by omega) hTr
    rw [v1, v2] at hat
    have hW3 : (mm m W).length = 3 := v3.2
    rw [hW3] at hat
    generalize w.getD j 0 = bt at *
    generalize hT : wT W = T at hnt hat
    generalize mm m W = K at *
    refine RN ?_
    rw [hsub]
    refine pureC1 (hnt) ?_
    refine RN ?_
    refine pureC1 (hat) ?_
    refine RN ?_
    refine ⟨j + 1, by omega, by omega, ?_⟩
    rw [hst]
    refine Ref.sel [0] rfl ?_ ?_
    · simp only [go_sem, ↓reduceIte, Nat.reduceEqDiff, Nat.reduceAdd, reduceCtorEq, frz_im _ _ K 3 hW3]
      rw [mat, hW3]
    · simp [sub, fget, go_sem, ↓reduceIte, Nat.reduceEqDiff, Nat.reduceAdd, reduceCtorEq]
  · obtain rfl : j = w.length := by omega
    rw [hmX _ (Nat.le_refl _)] at p1 ⊢
    generalize mm M (nmX w) = K at *
    have hK3 : K.length = 3 := p1.2
    have hfc := faceCounts_y K p1.1
    rw [fc_vef p1, hK3] at hfc
    have hvl : (vefL (vef K)).length = 3 := rfl
    have hli := likeInts_c (vefL (vef K)) (vefL (vef K)) (by omega) (by omega)
    rw [decide_eq_true rfl] at hli
    generalize vefL (vef K) = L at *
    refine RN ?_
    refine pureC1 (hfc) ?_
    refine RN ?_
    refine pureC1 (hwy) ?_
    refine RN ?_
    have e33 : (((3 : Nat) : Int) == 3) = true := rfl
    have tkD : (intsC L).take 3 = intsC L := List.take_of_length_le (by rw [len_intsC]; omega)
    have hIX : AV.slc 1 3 (intsC L) = ints L := by rw [ints, hvl, intsC]
    simp only [e33]
    refine GCall.on rfl ⟨rfl, ?_⟩
    refine pureC hli (by simp only [go_sem, ↓reduceIte, Nat.reduceEqDiff, Nat.reduceAdd, reduceCtorEq, tkD, hIX]) (by first | rfl | simp only [go_sem, ↓reduceIte, Nat.reduceEqDiff, Nat.reduceAdd, reduceCtorEq]) ?_
    refine RN ?_
    exact Ref.gc1 []
end Go.Proofs.YtfcbamfkfadabaaGreat
set_option maxRecDepth 100000
namespace Go.Proofs.YtfcbamfkfadabaaGreat.JRg
open Go.Proofs.YtfcbamfkfadabaaGreat
open Go.ChangeShapes Go.WideShapes Go.ChangeAt Go.RowKit Go.Gov

set_option maxRecDepth 100000 in
set_option maxHeartbeats 2000000 in
theorem lifted (os : Os) (started : os.Started) (H : Type) (enc : TypeId × Value → H) :
    ReturnsInHanded {} Tryz.checked os 3 .any (Rows.fnRingedMapsSpec.pre6 enc Tryz.prog Tryz.f3 Rows.fnRingedMapsRow.domain false) (Rows.fnRingedMapsSpec.post enc Tryz.prog Tryz.f3 false true false false) := by
  refine returnsInHanded_of_change (C := Tryz.checked) Tryz.own started (by kernel_rfl) Tryz.func3
    (ChangeSpec.witness6 (enc := enc) (C := Tryz.checked) false ⟨#[], #[.slice none 0 0], []⟩ 8 (by kernel_rfl) (by kernel_rfl) (by kernel_rfl) (by kernel_rfl)) ?_
  intro W base args ds gs before hval0 hW hcnd _
  have hval : ∀ (j : Nat) t v, Tryz.f3.params[j]? = some t → args[j]? = some v → Value.okWide Tryz.prog W .any base t v := hval0
  have hW' := hW
  obtain ⟨p, q, hA0, hV, rfl, hfz, hnd⟩ := hW
  have hA : DataW.TrodAll enc Tryz.prog W 0 (fun _ => true) true Tryz.f3.params.toList args.toList ds p := hA0
  rw [Tryz.params3] at hA hval
  obtain ⟨v0, l0, d0, e0, p0, q0, ha0, rfl, rfl, h0, hA1⟩ := trodAll_cons hA
  obtain ⟨rfl, rfl, rfl⟩ := trodAll_nil hA1
  obtain rfl : args = #[v0] := by rw [← Array.toArray_toList (xs := args), ha0]
  have hv0 := hval 0 22 v0 rfl rfl
  obtain ⟨rfl, rfl⟩ := trodVars_none hV
  obtain ⟨a0, b0, c0, rfl⟩ := okWide_slice Tryz.underlying22 hv0
  obtain ⟨m0, t0⟩ := h0
  obtain ⟨s0, X0, hs0, hX0, hX80, rdX0⟩ := rd_bytes Tryz.underlying22 Tryz.underlying5 (by kernel_rfl) t0
  have h0 : DataW.Trod enc Tryz.prog W 0 (fun _ => true) true 22 (.slice a0 b0 c0) d0 p0 := ⟨m0, t0⟩
  obtain rfl : Value.slice a0 b0 c0 = s0 := by simpa [Value.cells] using hs0
  have hrd : ∀ m (h : m < ([bytA' X0] : List AV).length), Rd W ((g0 W).tr []) (g0 W).G ([bytA' X0] : List AV)[m] ((#[Value.slice a0 b0 c0] : Array Value).getD m undef) [] := fun m h => by
    match m, h with
    | 0, _ => exact rdX0 _
  refine (below_of (lawRg_c X0 (Nat.le_trans hX0 (by decide)) hX80) rfl hrd).mono fun e W' ⟨he, hb, hz⟩ => ?_
  simp only [List.append_nil] at hW'
  have hS0 : ∀ sp : Nat → Bool, (∀ x ∈ p0, sp x.block = true) → DataW.Trod enc Tryz.prog W' 0 sp true 22 (.slice a0 b0 c0) _ p0 := fun sp hsp =>
    WideElems.Trod_stays Tryz.laidOut (by kernel_rfl) (of_decide_eq_true (by kernel_rfl)) h0 (fun x hx => hb.same (hW'.lt x (by simp [hx]))) (fun x hx => hsp x (by simp [hx]))
  have hR1 : ∀ (b : Nat) (sp : Nat → Bool) (hd : Bool), DataW.Trod enc Tryz.prog W' b sp hd 4 (.bool true) (.lit (.bool true)) [] := fun _ _ _ => shut_bool Tryz.underlying4 true
  refine ⟨_, he, post_of_new (pa := p0) (pv := []) hW' (fun b sp hd => trodAll_mk1 (hR1 b sp hd)) (fun sp hsp => trodAll_mk1 (hS0 sp hsp)) (fun _ _ => ?_) ?_ ?_ hz ?_⟩
  · rfl
  · simp
  · exact hb.frame _
  · exact ok_one (by kernel_rfl) rfl (okWide_bool_mk Tryz.underlying4 true)

theorem holds : Rows.FnRingedMapsSaid :=
  OpenClaim.holds_of_wide 3 Tryz.f3 rfl rfl rfl rfl rfl rfl rfl ⟨rfl, rfl, rfl, rfl, rfl⟩ rfl rfl rfl rfl rfl (by kernel_rfl) Tryz.func3 (by kernel_rfl)
    (of_decide_eq_true (by kernel_rfl)) (by unfold Func.isWrapper; first | (rw [if_pos (by decide +kernel)]; kernel_rfl) | (rw [if_neg (by decide +kernel)]; exact ⟨rfl, rfl⟩))
    (fun os started H enc _ => lifted os started H enc)

end Go.Proofs.YtfcbamfkfadabaaGreat.JRg
