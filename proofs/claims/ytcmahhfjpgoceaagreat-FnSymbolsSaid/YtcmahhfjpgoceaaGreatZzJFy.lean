/- FnSymbols: the given statement. -/
import Derived.Test.YtcmahhfjpgoceaaGreatRows
import Derived.Lib.SmallJoins
import Derived.OpenShut
import Derived.Test.YtcmahhfjpgoceaaGreatZp
import Derived.Test.YtcmahhfjpgoceaaGreatRd
import Derived.Test.YtcmahhfjpgoceaaGreatRk
set_option linter.unusedSimpArgs false
set_option linter.unusedVariables false
set_option maxRecDepth 100000
namespace Go.Proofs.YtcmahhfjpgoceaaGreat
open Go.Gov
open Classical

noncomputable def smB (M : List (List Int)) (x i : Nat) : Bool := (List.range i).all fun g => decide (syV M g = syV M x)
theorem smB_succ (M : List (List Int)) (x i : Nat) : smB M x (i + 1) = (smB M x i && decide (syV M i = syV M x)) := by simp [smB, List.range_succ, List.all_append]
theorem smB_all (M : List (List Int)) {x : Nat} (hx : x < fl M) : (smB M x (fl M) = true ↔ csP M) := by
  unfold smB csP
  rw [List.all_eq_true]
  constructor
  · intro h y hy
    have h1 := of_decide_eq_true (h y (List.mem_range.2 hy))
    have h2 := of_decide_eq_true (h 0 (List.mem_range.2 (by omega)))
    rw [h1, h2]
  · intro h y hy
    refine decide_eq_true ?_
    rw [h y (List.mem_range.1 hy), h x hx]
set_option maxHeartbeats 64000000 in
theorem lawFy_c (bs : List Int) (hl : bs.length ≤ 9223372036854775807) (h8 : ∀ k, k < bs.length → 0 ≤ bs.getD k 0 ∧ bs.getD k 0 ≤ 255) : Pure Tryz.prog 3 [bytA' bs] (bl true) [] := by
  have hbig := big_c bs hl
  unfold bytA' at *
  refine pureRV ok3 rfl ?_; unfold c3
  refine RN ?_
  refine pureC1 (hbig) ?_
  refine RN ?_
  refine ⟨fun hc => ?_, fun hc => ?_⟩
  · (refine RN ?_; try with_reducible exact trivial)
    exact Ref.gc1 []
  have hb : Byt bs := ⟨by omega, h8⟩
  have hdr := drawSymbolAt_e bs hb
  unfold bytA' at hdr
  refine RN ?_
  refine pureEG hdr (by simp only [go_sem, ↓reduceIte, Nat.reduceEqDiff, Nat.reduceAdd, reduceCtorEq]) fun o ho => ?_
  obtain ⟨M, f⟩ := o
  obtain ⟨⟨g1, g2⟩, f1, f2⟩ := ho
  dsimp only at g1 g2 f1 f2
  have gr : ∀ p ∈ M, p.length ≤ 1048576 := fun p hp => by have := g2 p hp; omega
  have hia := implSa_c M f (by omega) gr
  have hsa := specSa_c M f (by omega) gr
  have hsl := saV_len M f
  have hli := likeInts_c (saV M f) (saV M f) (by omega) (by omega)
  rw [decide_eq_true rfl] at hli
  have tkS : (intsC (saV M f)).take (saV M f).length = intsC (saV M f) := List.take_of_length_le (by rw [len_intsC]; exact Nat.le_refl _)
  have hcase : saC M f ≠ 0 → saV M f = [] := fun h => by
    unfold saV; rw [if_neg]
    intro hh
    refine h ?_
    unfold saC; rw [if_pos hh.1, if_pos hh.2]
  have hyes : saC M f = 0 → IsMap M ∧ ∃ x : Nat, f = (x : Int) ∧ x < fl M ∧ saV M f = syV M x := fun h => by
    unfold saC at h
    split at h
    · rename_i hm
      split at h
      · rename_i hf
        obtain ⟨x, rfl⟩ := Int.eq_ofNat_of_zero_le hf.1
        refine ⟨hm, x, rfl, by have := hf.2; omega, ?_⟩
        unfold saV; rw [if_pos ⟨hm, hf⟩]; rfl
      · cases h
    · cases h
  generalize hS : saV M f = S at *
  generalize hcc : saC M f = c at *
  refine RN ?_
  refine pureC1 (hia) ?_
  refine RN ?_
  refine pureC1 (hsa) ?_
  refine RN ?_
  refine GCall.on rfl ?_
  refine pureC hli (by simp only [go_sem, ↓reduceIte, Nat.reduceEqDiff, Nat.reduceAdd, reduceCtorEq, tkS] <;> first | done | rfl) (by first | rfl | simp only [go_sem, ↓reduceIte, Nat.reduceEqDiff, Nat.reduceAdd, reduceCtorEq]) ?_
  refine RN ?_
  refine ⟨fun hc0 => ?_, fun hc0 => ?_⟩
  · have hS0 := hcase hc0
    refine RN ?_
    rw [hS0]
    exact Ref.gc1 []
  obtain ⟨hm, x, rfl, hx, hSx⟩ := hyes hc0
  have hM3 : M.length = 3 := hm.2
  have hf4 := hm.1.f4
  have q1 := faceSizes_y M hm
  have q2 := implVd_c M (by omega) gr
  have e2 : vdV M 0 = clV M 0 := by unfold vdV; rw [if_pos hm]
  have e2c : vdC M = 0 := by unfold vdC; rw [if_pos hm]
  rw [e2, e2c] at q2
  have q3 := faceLabels_y M hm
  have q4 := implCs_c M (by omega) gr
  have q5 := flags9_c M (by omega) (by omega) gr
  refine RN ?_
  refine pureC1 (q1) ?_
  refine RN ?_
  refine pureC1 (q2) ?_
  refine RN ?_
  refine pureC1 (q3) ?_
  refine RN ?_
  have hdl : (clV M 0).length = ncnt (oth M 0 M.length) (fl M) := by simp [clV, hlvs, cntL]
  have hzl : (clV M 2).length = ncnt (oth M 2 M.length) (fl M) := by simp [clV, hlvs, cntL]
  have hll := labs_len (fl M) (oth M 0 M.length)
  have hcs := csV_len M
  have hnd := ncnt_le (oth M 0 M.length) (fl M)
  have hnz := ncnt_le (oth M 2 M.length) (fl M)
  have hx2 := clV_sum hm (k := 2) (by omega) (i := 0) (j := 1) (by omega) (by omega) two2
  have hx0 := clV_sum hm (k := 0) (by omega) (i := 1) (j := 2) (by omega) (by omega) two0
  have r2 := sum_c (clV M 2) (by omega) (clV_b hm 2)
  have r0 := sum_c (clV M 0) (by omega) (clV_b hm 0)
  have hcx := syV_deg hm hx
  have hlab := labs_at (L := oth M 0 M.length) hx
  have hlaball := fun y (hy : y < fl M) => labs_at (L := oth M 0 M.length) hy
  have hlt := lab_lt (hm.mvo 0) hx
  have hver := fun y (hy : y < fl M) => syV_vertex hm hx hy
  have hall := smB_all M hx
  rw [← hzl] at q1
  generalize clV M 2 = Z at *
  generalize clV M 0 = D at *
  generalize labs (fl M) (oth M 0 M.length) = Lb at *
  refine pureC1 (q4) ?_
  simp only [go_sem, ↓reduceIte, Nat.reduceEqDiff, Nat.reduceAdd, reduceCtorEq]
  refine V_ref (Ref.sel [0] (F' := [(3, .ref 0 0), (4, i64 (x : Int)), (5, ints S), (6, i64 c), (9, ints Z), (10, i64 0), (11, ints D), (12, i64 0), (13, ints Lb), (14, i64 0), (15, ints (csV M)), (16, i64 (csC M))]) (H' := [some [mat M]]) rfl (by simp only [go_sem, ↓reduceIte, Nat.reduceEqDiff, Nat.reduceAdd, reduceCtorEq]) ?_) ?_
  · have t1 : ∀ X : List Int, (intsC X).take X.length = intsC X := fun X => List.take_of_length_le (by rw [len_intsC]; exact Nat.le_refl _)
    have t2 : (intsC Lb).take (fl M) = intsC Lb := by rw [← hll]; exact t1 Lb
    simp [sub, fget, go_sem, ↓reduceIte, Nat.reduceEqDiff, Nat.reduceAdd, reduceCtorEq, t1, t2, hll, ← hzl]
  have hcv : csP M → csV M = syV M 0 := fun h => by unfold csV; rw [if_pos ⟨hm, h⟩]
  have hcc2 : csC M = 0 ↔ csP M := by
    unfold csC
    rw [if_pos hm]
    by_cases h : csP M
    · rw [if_pos h]; exact ⟨fun _ => h, fun _ => rfl⟩
    · rw [if_neg h]; exact ⟨fun e => absurd e (by decide), fun e => absurd e h⟩
  generalize csV M = Q at *
  generalize csC M = qc at *
  (repeat first | simp (config := { maxSteps := 5000000 }) only [go_sem, ↓reduceIte, Nat.reduceEqDiff, Nat.reduceAdd, reduceCtorEq, hll, hx2, hx0] | with_reducible refine V_W ?_ | (with_reducible refine And.intro ?_ ?_; focus first | assumption | omega | decide | grind) | (with_reducible refine Br.mk ?_ ?_; focus (intros; omega)) | decide)
  refine GCall.on rfl ?_
  refine pureC1 (q5) ?_
  (repeat first | simp (config := { maxSteps := 5000000 }) only [go_sem, ↓reduceIte, Nat.reduceEqDiff, Nat.reduceAdd, reduceCtorEq, hll, hx2, hx0] | with_reducible refine V_W ?_ | (with_reducible refine And.intro ?_ ?_; focus first | assumption | omega | decide | grind) | (with_reducible refine Br.mk ?_ ?_; focus (intros; omega)) | decide)
  refine GCall.on rfl ?_
  refine pureC1 (r2) ?_
  (repeat first | simp (config := { maxSteps := 5000000 }) only [go_sem, ↓reduceIte, Nat.reduceEqDiff, Nat.reduceAdd, reduceCtorEq, hll, hx2, hx0] | with_reducible refine V_W ?_ | (with_reducible refine And.intro ?_ ?_; focus first | assumption | omega | decide | grind) | (with_reducible refine Br.mk ?_ ?_; focus (intros; omega)) | decide)
  refine GCall.on rfl ?_
  refine pureC1 (q5) ?_
  (repeat first | simp (config := { maxSteps := 5000000 }) only [go_sem, ↓reduceIte, Nat.reduceEqDiff, Nat.reduceAdd, reduceCtorEq, hll, hx2, hx0] | with_reducible refine V_W ?_ | (with_reducible refine And.intro ?_ ?_; focus first | assumption | omega | decide | grind) | (with_reducible refine Br.mk ?_ ?_; focus (intros; omega)) | decide)
  refine GCall.on rfl ?_
  refine pureC1 (r0) ?_
  (repeat first | simp (config := { maxSteps := 5000000 }) only [go_sem, ↓reduceIte, Nat.reduceEqDiff, Nat.reduceAdd, reduceCtorEq, hll, hx2, hx0] | with_reducible refine V_W ?_ | (with_reducible refine And.intro ?_ ?_; focus first | assumption | omega | decide | grind) | (with_reducible refine Br.mk ?_ ?_; focus (intros; omega)) | decide)
  refine GCall.on rfl ?_
  refine pureC1 (q5) ?_
  (repeat first | simp (config := { maxSteps := 5000000 }) only [go_sem, ↓reduceIte, Nat.reduceEqDiff, Nat.reduceAdd, reduceCtorEq, hll, hx2, hx0] | with_reducible refine V_W ?_ | (with_reducible refine And.intro ?_ ?_; focus first | assumption | omega | decide | grind) | (with_reducible refine Br.mk ?_ ?_; focus (intros; omega)) | decide)
  have hno : ¬ ((Lb.getD x 0 < 0 ∨ (D.length : Int) ≤ Lb.getD x 0) ∨ ¬ (S.length : Int) = D.getD (Lb.getD x 0).toNat 0) := by
    rw [hlab, Int.toNat_natCast, hcx, hSx]
    omega
  refine ⟨fun hh => absurd hh hno, fun _ => ?_⟩
  refine RN ?_
  refine V_loop (α := Nat) (S := fun g => ([(3, .ref 0 0), (4, i64 (x : Int)), (5, ints S), (13, ints Lb), (15, ints Q), (16, i64 qc), (17, bl (smB M x g)), (18, i64 (g : Int))], [some [mat M]])) (C := fun g => g ≤ fl M) (μ := fun g => fl M - g) 0 (Nat.zero_le _) (Ref.to rfl (by simp [sub, fget, smB])) ?_
  intro g hg
  refine RN ?_
  refine pureC1 (q5) ?_
  refine RN ?_
  refine ⟨fun hc2 => ?_, fun hc2 => ?_⟩
  · have hgl : g < fl M := by omega
    have hga := implSa_c M (g : Int) (by omega) gr
    have hv1 : saV M (g : Int) = syV M g := by unfold saV; rw [if_pos ⟨hm, by omega, by omega⟩]; rfl
    have hv2 : saC M (g : Int) = 0 := by unfold saC; rw [if_pos hm, if_pos (show isFl M (g : Int) from ⟨by omega, by omega⟩)]
    rw [hv1, hv2] at hga
    have hY : (syV M g).length ≤ 1048576 := by have := saV_len M (g : Int); rw [hv1] at this; omega
    have hlg := likeInts_c (syV M g) S hY (by omega)
    have hsu := smB_succ M x g
    have hvg := hver g hgl
    have hlabg : Lb.getD g 0 = ((lab (oth M 0 M.length) g : Nat) : Int) := hlaball g hgl
    rw [← hSx] at hsu hvg
    generalize syV M g = Y at *
    have tkY : (intsC Y).take Y.length = intsC Y := List.take_of_length_le (by rw [len_intsC]; exact Nat.le_refl _)
    refine RN ?_
    refine pureC1 (hga) ?_
    refine RN ?_
    by_cases e : Lb.getD g 0 = Lb.getD x 0
    · have hYS : Y = S := hvg (by rw [hlabg, hlab] at e; omega)
      have be : (Lb.getD g 0 == Lb.getD x 0) = true := beq_iff_eq.2 e
      rw [decide_eq_true hYS] at hlg hsu
      simp only [be]
      refine GCall.on rfl ⟨e, ?_⟩
      refine pureC hlg (by simp only [go_sem, ↓reduceIte, Nat.reduceEqDiff, Nat.reduceAdd, reduceCtorEq, tkY] <;> first | done | rfl) (by first | rfl | simp only [go_sem, ↓reduceIte, Nat.reduceEqDiff, Nat.reduceAdd, reduceCtorEq]) ?_
      simp only [go_sem, ↓reduceIte, Nat.reduceEqDiff, Nat.reduceAdd, reduceCtorEq, be, e, true_implies]
      refine RN ?_
      refine GCall.mk (bl true) (fun hg => by first | exact pureC hlg (by simp only [go_sem, ↓reduceIte, Nat.reduceEqDiff, Nat.reduceAdd, reduceCtorEq, tkY] <;> first | done | rfl) (by first | rfl | simp only [go_sem, ↓reduceIte, Nat.reduceEqDiff, Nat.reduceAdd, reduceCtorEq]) (by first | exact ⟨rfl, rfl⟩ | simp only [go_sem, ↓reduceIte, Nat.reduceEqDiff, Nat.reduceAdd, reduceCtorEq]) | exact ⟨hg, pureC hlg (by simp only [go_sem, ↓reduceIte, Nat.reduceEqDiff, Nat.reduceAdd, reduceCtorEq, tkY] <;> first | done | rfl) (by first | rfl | simp only [go_sem, ↓reduceIte, Nat.reduceEqDiff, Nat.reduceAdd, reduceCtorEq]) (by first | exact ⟨rfl, rfl⟩ | simp only [go_sem, ↓reduceIte, Nat.reduceEqDiff, Nat.reduceAdd, reduceCtorEq])⟩) ?_
      refine RN ?_
      refine ⟨g + 1, by omega, by omega, ?_⟩
      rw [hsu]
      exact Ref.gc [0] rfl (by simp only [go_sem, ↓reduceIte, Nat.reduceEqDiff, Nat.reduceAdd, reduceCtorEq] <;> rfl) (by simp [sub, fget, go_sem, ↓reduceIte, Nat.reduceEqDiff, Nat.reduceAdd, reduceCtorEq])
    · have be : (Lb.getD g 0 == Lb.getD x 0) = false := beq_eq_false_iff_ne.2 e
      have pe : (Lb.getD g 0 = Lb.getD x 0) = False := eq_false e
      simp only [be, pe, false_implies]
      refine GCall_no (bl false) rfl ?_
      simp only [go_sem, ↓reduceIte, Nat.reduceEqDiff, Nat.reduceAdd, reduceCtorEq, be, pe, false_implies]
      refine RN ?_
      refine GCall.mk (bl (decide (Y = S))) (fun hg => by first | exact pureC hlg (by simp only [go_sem, ↓reduceIte, Nat.reduceEqDiff, Nat.reduceAdd, reduceCtorEq, tkY] <;> first | done | rfl) (by first | rfl | simp only [go_sem, ↓reduceIte, Nat.reduceEqDiff, Nat.reduceAdd, reduceCtorEq]) (by first | exact ⟨rfl, rfl⟩ | simp only [go_sem, ↓reduceIte, Nat.reduceEqDiff, Nat.reduceAdd, reduceCtorEq]) | exact ⟨hg, pureC hlg (by simp only [go_sem, ↓reduceIte, Nat.reduceEqDiff, Nat.reduceAdd, reduceCtorEq, tkY] <;> first | done | rfl) (by first | rfl | simp only [go_sem, ↓reduceIte, Nat.reduceEqDiff, Nat.reduceAdd, reduceCtorEq]) (by first | exact ⟨rfl, rfl⟩ | simp only [go_sem, ↓reduceIte, Nat.reduceEqDiff, Nat.reduceAdd, reduceCtorEq])⟩) ?_
      refine RN ?_
      refine ⟨g + 1, by omega, by omega, ?_⟩
      rw [hsu]
      exact Ref.gc [0] rfl (by simp only [go_sem, ↓reduceIte, Nat.reduceEqDiff, Nat.reduceAdd, reduceCtorEq] <;> rfl) (by simp [sub, fget, go_sem, ↓reduceIte, Nat.reduceEqDiff, Nat.reduceAdd, reduceCtorEq])
  · obtain rfl : g = fl M := by omega
    by_cases hcp : csP M
    · have e1 := hall.2 hcp
      have e2 := hcc2.2 hcp
      have e3 : Q = S := by rw [hcv hcp, hSx, hcp x hx]
      subst e2
      rw [← e3] at hli
      generalize smB M x (fl M) = sb at *
      subst e1 e3
      refine RN ?_
      refine GCall.on rfl ?_
      refine pureC1 (hli) ?_
      refine RN ?_
      exact Ref.gc1 []
    · have e1 : smB M x (fl M) = false := by
        cases hh : smB M x (fl M) with
        | false => rfl
        | true => exact absurd (hall.1 hh) hcp
      have e2 : (qc == 0) = false := by
        have : ¬ qc = 0 := fun h => hcp (hcc2.1 h)
        simp [this]
      generalize smB M x (fl M) = sb at *
      subst e1
      refine RN ?_
      simp only [e2]
      refine GCall_no (bl false) rfl ?_
      simp only [go_sem, ↓reduceIte, Nat.reduceEqDiff, Nat.reduceAdd, reduceCtorEq, e2, true_implies, false_implies]
      refine RN ?_
      exact Ref.gc1 []
end Go.Proofs.YtcmahhfjpgoceaaGreat
set_option maxRecDepth 100000
namespace Go.Proofs.YtcmahhfjpgoceaaGreat.JFy
open Go.Proofs.YtcmahhfjpgoceaaGreat
open Go.ChangeShapes Go.WideShapes Go.ChangeAt Go.RowKit Go.Gov

set_option maxRecDepth 100000 in
set_option maxHeartbeats 2000000 in
theorem lifted (os : Os) (started : os.Started) (H : Type) (enc : TypeId × Value → H) :
    ReturnsInHanded {} Tryz.checked os 3 .any (Rows.fnSymbolsSpec.pre6 enc Tryz.prog Tryz.f3 Rows.fnSymbolsRow.domain false) (Rows.fnSymbolsSpec.post enc Tryz.prog Tryz.f3 false true false false) := by
  refine returnsInHanded_of_change (C := Tryz.checked) Tryz.own started (by kernel_rfl) Tryz.func3
    (ChangeSpec.witness6 (enc := enc) (C := Tryz.checked) false ⟨#[], #[.slice none 0 0], []⟩ 8 (by kernel_rfl) (by kernel_rfl) (by kernel_rfl) (by kernel_rfl)) ?_
  intro W base args ds gs before hval0 hW hcnd _
  have hval : ∀ (j : Nat) t v, Tryz.f3.params[j]? = some t → args[j]? = some v → Value.okWide Tryz.prog W .any base t v := hval0
  have hW' := hW
  obtain ⟨p, q, hA0, hV, rfl, hfz, hnd⟩ := hW
  have hA : DataW.TrodAll enc Tryz.prog W 0 (fun _ => true) true Tryz.f3.params.toList args.toList ds p := hA0
  rw [Tryz.params3] at hA hval
  obtain ⟨v0, l0, d0, e0, p0, q0, ha0, rfl, rfl, h0, hA1⟩ := trodAll_cons hA
  obtain ⟨rfl, rfl, rfl⟩ := trodAll_nil hA1
  obtain rfl : args = #[v0] := by rw [← Array.toArray_toList (xs := args), ha0]
  have hv0 := hval 0 22 v0 rfl rfl
  obtain ⟨rfl, rfl⟩ := trodVars_none hV
  obtain ⟨a0, b0, c0, rfl⟩ := okWide_slice Tryz.underlying22 hv0
  obtain ⟨m0, t0⟩ := h0
  obtain ⟨s0, X0, hs0, hX0, hX80, rdX0⟩ := rd_bytes Tryz.underlying22 Tryz.underlying5 (by kernel_rfl) t0
  have h0 : DataW.Trod enc Tryz.prog W 0 (fun _ => true) true 22 (.slice a0 b0 c0) d0 p0 := ⟨m0, t0⟩
  obtain rfl : Value.slice a0 b0 c0 = s0 := by simpa [Value.cells] using hs0
  have hrd : ∀ m (h : m < ([bytA' X0] : List AV).length), Rd W ((g0 W).tr []) (g0 W).G ([bytA' X0] : List AV)[m] ((#[Value.slice a0 b0 c0] : Array Value).getD m undef) [] := fun m h => by
    match m, h with
    | 0, _ => exact rdX0 _
  refine (below_of (lawFy_c X0 (Nat.le_trans hX0 (by decide)) hX80) rfl hrd).mono fun e W' ⟨he, hb, hz⟩ => ?_
  simp only [List.append_nil] at hW'
  have hS0 : ∀ sp : Nat → Bool, (∀ x ∈ p0, sp x.block = true) → DataW.Trod enc Tryz.prog W' 0 sp true 22 (.slice a0 b0 c0) _ p0 := fun sp hsp =>
    WideElems.Trod_stays Tryz.laidOut (by kernel_rfl) (of_decide_eq_true (by kernel_rfl)) h0 (fun x hx => hb.same (hW'.lt x (by simp [hx]))) (fun x hx => hsp x (by simp [hx]))
  have hR1 : ∀ (b : Nat) (sp : Nat → Bool) (hd : Bool), DataW.Trod enc Tryz.prog W' b sp hd 4 (.bool true) (.lit (.bool true)) [] := fun _ _ _ => shut_bool Tryz.underlying4 true
  refine ⟨_, he, post_of_new (pa := p0) (pv := []) hW' (fun b sp hd => trodAll_mk1 (hR1 b sp hd)) (fun sp hsp => trodAll_mk1 (hS0 sp hsp)) (fun _ _ => ?_) ?_ ?_ hz ?_⟩
  · rfl
  · simp
  · exact hb.frame _
  · exact ok_one (by kernel_rfl) rfl (okWide_bool_mk Tryz.underlying4 true)

theorem holds : Rows.FnSymbolsSaid :=
  OpenClaim.holds_of_wide 3 Tryz.f3 rfl rfl rfl rfl rfl rfl rfl ⟨rfl, rfl, rfl, rfl, rfl⟩ rfl rfl rfl rfl rfl (by kernel_rfl) Tryz.func3 (by kernel_rfl)
    (of_decide_eq_true (by kernel_rfl)) (by unfold Func.isWrapper; first | (rw [if_pos (by decide +kernel)]; kernel_rfl) | (rw [if_neg (by decide +kernel)]; exact ⟨rfl, rfl⟩))
    (fun os started H enc _ => lifted os started H enc)

end Go.Proofs.YtcmahhfjpgoceaaGreat.JFy
