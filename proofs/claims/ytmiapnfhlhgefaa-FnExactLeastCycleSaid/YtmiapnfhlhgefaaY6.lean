/- Texts that belong together. -/
import Derived.Test.YtmiapnfhlhgefaaY3
set_option linter.unusedSimpArgs false
set_option linter.unusedVariables false
set_option maxRecDepth 100000
namespace Go.Proofs.Ytmiapnfhlhgefaa
open Go.Gov
open Classical

/-- .. and whether it is another list now. -/
def RedH (ld : List Int → Option Int) (P : List Pr) (D0 : List Int) (o : Bool × Pr) : Prop := RedE ld P ([], D0) o.2 ∧ (o.1 = false → o.2.2 = D0)

set_option maxHeartbeats 4000000 in
theorem l16Reduce_h (P : List Pr) (D0 : List Int) (hP : P.length ≤ 500) (hok : PvOk P) (hD : sst D0) (bD : inB D0) :
    WriE Try.prog 61 [pvs P, .agg [nilS, .sl 0 1 0 D0.length]] [some (intsC D0)] (RedH List.head? P D0) (fun o => .agg [.sl 1 1 0 o.2.1.length, bif o.1 then .sl 2 1 0 o.2.2.length else .sl 0 1 0 D0.length]) (fun o => [some (intsC D0), some (intsC o.2.1), bif o.1 then some (intsC o.2.2) else none]) := by
  unfold RedH
  refine wriEV [0, 3, 4] ok61 rfl ?_; unfold c61
  (repeat first | simp only [go_sem, ↓reduceIte, Nat.reduceEqDiff, Nat.reduceAdd, reduceCtorEq] | with_reducible refine V_W ?_ | (with_reducible refine And.intro ?_ ?_; focus first | assumption | omega | decide | grind) | (with_reducible refine Br.mk ?_ ?_; focus (intros; omega)) | decide)
  refine V_loop (α := Bool × Nat × Pr) (S := fun p => ([(0, pvs P), (3, .ref 1 0), (4, .ref 2 0), (5, i64 p.2.1)], [some (intsC D0), some [.sl 3 1 0 p.2.2.1.length, bif p.1 then .sl 4 1 0 p.2.2.2.length else .sl 0 1 0 D0.length], some [nilS, nilS], some (intsC p.2.2.1), bif p.1 then some (intsC p.2.2.2) else none])) (C := fun p => (p.1 = false → p.2.2.2 = D0) ∧ p.2.1 ≤ P.length ∧ Adds P ([], D0) p.2.2 ∧ sst p.2.2.1 ∧ sst p.2.2.2 ∧ inB p.2.2.1 ∧ inB p.2.2.2 ∧ ∀ j, j < p.2.1 → (P.getD j P0).2.head? ≠ p.2.2.2.head?) (μ := fun p => hdM p.2.2.2 * (P.length + 1) + (P.length - p.2.1)) (false, 0, [], D0) ⟨fun _ => rfl, Nat.zero_le _, .refl _, sst_nil, hD, (fun e he => by simp at he), bD, fun j hj => absurd hj (Nat.not_lt_zero j)⟩ ?_ ?_
  · refine (Ref.nilC 1 0 1 (cs := [nilS, .sl 0 1 0 D0.length]) rfl rfl).trans ?_
    exact Ref.pad.trans (Ref.to rfl (by simp [sub, fget]))
  rintro ⟨b, i, C, D⟩ ⟨hb, hi, hA, sC, sD, bC', bD', hall⟩
  dsimp only at hb hi hA sC sD bC' bD' hall ⊢
  have lC := len_500 sC bC'
  have lD := len_500 sD bD'
  cases b
  all_goals simp only [cond_true, cond_false]
  · obtain rfl := hb rfl
    (repeat first | simp only [go_sem, ↓reduceIte, Nat.reduceEqDiff, Nat.reduceAdd, reduceCtorEq] | with_reducible refine V_W ?_ | (with_reducible refine And.intro ?_ ?_; focus first | assumption | omega | decide | grind) | (with_reducible refine Br.mk ?_ ?_; focus (intros; omega)) | decide)
    refine ⟨fun hc => ?_, fun hc => ?_⟩
    · have hi' : i < P.length := by omega
      have hp := hok _ (getD_pr P i hi')
      have hp2 : 0 < (P.getD i P0).2.length := List.length_pos_iff.2 hp.2.2.1
      have l1 := len_500 hp.1 hp.2.2.2.1
      have l2 := len_500 hp.2.1 hp.2.2.2.2
      have hD1 := head_at (c := D) (by omega)
      have hp1 := head_at hp2
      (repeat first | simp only [go_sem, ↓reduceIte, Nat.reduceEqDiff, Nat.reduceAdd, reduceCtorEq] | with_reducible refine V_W ?_ | (with_reducible refine And.intro ?_ ?_; focus first | assumption | omega | decide | grind) | (with_reducible refine Br.mk ?_ ?_; focus (intros; omega)) | decide)
      refine ⟨fun hc2 => ?_, fun hc2 => ?_⟩
      · (repeat first | simp only [go_sem, ↓reduceIte, Nat.reduceEqDiff, Nat.reduceAdd, reduceCtorEq] | with_reducible refine V_W ?_ | (with_reducible refine And.intro ?_ ?_; focus first | assumption | omega | decide | grind) | (with_reducible refine Br.mk ?_ ?_; focus (intros; omega)) | decide)
        refine pureC (l16Sum_p C (P.getD i P0).1 (by omega) (by omega)) (by simp only [go_sem, ↓reduceIte, Nat.reduceEqDiff, Nat.reduceAdd, reduceCtorEq] <;> rfl) (by first | rfl | simp only [go_sem, ↓reduceIte, Nat.reduceEqDiff, Nat.reduceAdd, reduceCtorEq]) ?_
        (repeat first | simp only [go_sem, ↓reduceIte, Nat.reduceEqDiff, Nat.reduceAdd, reduceCtorEq] | with_reducible refine V_W ?_ | (with_reducible refine And.intro ?_ ?_; focus first | assumption | omega | decide | grind) | (with_reducible refine Br.mk ?_ ?_; focus (intros; omega)) | decide)
        refine pureC (l16Sum_p D (P.getD i P0).2 (by omega) (by omega)) (by simp only [go_sem, ↓reduceIte, Nat.reduceEqDiff, Nat.reduceAdd, reduceCtorEq] <;> rfl) (by first | rfl | simp only [go_sem, ↓reduceIte, Nat.reduceEqDiff, Nat.reduceAdd, reduceCtorEq]) ?_
        (repeat first | simp only [go_sem, ↓reduceIte, Nat.reduceEqDiff, Nat.reduceAdd, reduceCtorEq] | with_reducible refine V_W ?_ | (with_reducible refine And.intro ?_ ?_; focus first | assumption | omega | decide | grind) | (with_reducible refine Br.mk ?_ ?_; focus (intros; omega)) | decide)
        have hm := hdM_lt sD hp.2.1 bD' hp.2.2.2.2 (by omega) hp2 hc2
        refine ⟨(true, 0, sumL C (P.getD i P0).1, sumL D (P.getD i P0).2), ⟨(by simp), Nat.zero_le _, hA.step (getD_pr P i hi'), sum_sst sC hp.1, sum_sst sD hp.2.1, inB_sum sC hp.1 bC' hp.2.2.2.1, inB_sum sD hp.2.1 bD' hp.2.2.2.2, fun j hj => absurd hj (Nat.not_lt_zero j)⟩, ?_, ?_⟩
        · dsimp only
          have h9 : (hdM (sumL D (P.getD i P0).2) + 1) * (P.length + 1) ≤ hdM D * (P.length + 1) := Nat.mul_le_mul_right _ hm
          rw [Nat.add_mul] at h9
          omega
        · exact Ref.gc [0, 1, 2, 5, 6] rfl (by simp only [go_sem, ↓reduceIte, Nat.reduceEqDiff, Nat.reduceAdd, reduceCtorEq]) (by simp [sub, fget, go_sem, ↓reduceIte, Nat.reduceEqDiff, Nat.reduceAdd, reduceCtorEq])
      · (repeat first | simp only [go_sem, ↓reduceIte, Nat.reduceEqDiff, Nat.reduceAdd, reduceCtorEq] | with_reducible refine V_W ?_ | (with_reducible refine And.intro ?_ ?_; focus first | assumption | omega | decide | grind) | (with_reducible refine Br.mk ?_ ?_; focus (intros; omega)) | decide)
        refine ⟨(false, i + 1, C, D), ⟨hb, hi', hA, sC, sD, bC', bD', fun j hj => ?_⟩, by dsimp only; omega, by exact Ref.frame (by simp [sub, fget])⟩
        have hj : j < i + 1 := hj
        rcases Nat.lt_or_ge j i with h | h
        · exact hall j h
        · obtain rfl : j = i := by omega
          dsimp only
          rw [hp1, hD1]
          exact fun h => hc2 (Option.some.inj h)
    · have hdone : Done List.head? P (C, D) := by
        rcases Nat.eq_zero_or_pos D.length with h | h
        · exact .inl (List.eq_nil_of_length_eq_zero h)
        · refine .inr fun p hp => ?_
          obtain ⟨j, hj, rfl⟩ := List.mem_iff_getElem.1 hp
          have := hall j (by omega)
          rwa [show P.getD j P0 = P[j] by simp [hj]] at this
      (repeat first | simp only [go_sem, ↓reduceIte, Nat.reduceEqDiff, Nat.reduceAdd, reduceCtorEq] | with_reducible refine V_W ?_ | (with_reducible refine And.intro ?_ ?_; focus first | assumption | omega | decide | grind) | (with_reducible refine Br.mk ?_ ?_; focus (intros; omega)) | decide)
      exact ⟨(false, C, D), ⟨⟨hA, hdone, sC, sD, bC', bD'⟩, hb⟩, rfl, rfl⟩
  · (repeat first | simp only [go_sem, ↓reduceIte, Nat.reduceEqDiff, Nat.reduceAdd, reduceCtorEq] | with_reducible refine V_W ?_ | (with_reducible refine And.intro ?_ ?_; focus first | assumption | omega | decide | grind) | (with_reducible refine Br.mk ?_ ?_; focus (intros; omega)) | decide)
    refine ⟨fun hc => ?_, fun hc => ?_⟩
    · have hi' : i < P.length := by omega
      have hp := hok _ (getD_pr P i hi')
      have hp2 : 0 < (P.getD i P0).2.length := List.length_pos_iff.2 hp.2.2.1
      have l1 := len_500 hp.1 hp.2.2.2.1
      have l2 := len_500 hp.2.1 hp.2.2.2.2
      have hD1 := head_at (c := D) (by omega)
      have hp1 := head_at hp2
      (repeat first | simp only [go_sem, ↓reduceIte, Nat.reduceEqDiff, Nat.reduceAdd, reduceCtorEq] | with_reducible refine V_W ?_ | (with_reducible refine And.intro ?_ ?_; focus first | assumption | omega | decide | grind) | (with_reducible refine Br.mk ?_ ?_; focus (intros; omega)) | decide)
      refine ⟨fun hc2 => ?_, fun hc2 => ?_⟩
      · (repeat first | simp only [go_sem, ↓reduceIte, Nat.reduceEqDiff, Nat.reduceAdd, reduceCtorEq] | with_reducible refine V_W ?_ | (with_reducible refine And.intro ?_ ?_; focus first | assumption | omega | decide | grind) | (with_reducible refine Br.mk ?_ ?_; focus (intros; omega)) | decide)
        refine pureC (l16Sum_p C (P.getD i P0).1 (by omega) (by omega)) (by simp only [go_sem, ↓reduceIte, Nat.reduceEqDiff, Nat.reduceAdd, reduceCtorEq] <;> rfl) (by first | rfl | simp only [go_sem, ↓reduceIte, Nat.reduceEqDiff, Nat.reduceAdd, reduceCtorEq]) ?_
        (repeat first | simp only [go_sem, ↓reduceIte, Nat.reduceEqDiff, Nat.reduceAdd, reduceCtorEq] | with_reducible refine V_W ?_ | (with_reducible refine And.intro ?_ ?_; focus first | assumption | omega | decide | grind) | (with_reducible refine Br.mk ?_ ?_; focus (intros; omega)) | decide)
        refine pureC (l16Sum_p D (P.getD i P0).2 (by omega) (by omega)) (by simp only [go_sem, ↓reduceIte, Nat.reduceEqDiff, Nat.reduceAdd, reduceCtorEq] <;> rfl) (by first | rfl | simp only [go_sem, ↓reduceIte, Nat.reduceEqDiff, Nat.reduceAdd, reduceCtorEq]) ?_
        (repeat first | simp only [go_sem, ↓reduceIte, Nat.reduceEqDiff, Nat.reduceAdd, reduceCtorEq] | with_reducible refine V_W ?_ | (with_reducible refine And.intro ?_ ?_; focus first | assumption | omega | decide | grind) | (with_reducible refine Br.mk ?_ ?_; focus (intros; omega)) | decide)
        have hm := hdM_lt sD hp.2.1 bD' hp.2.2.2.2 (by omega) hp2 hc2
        refine ⟨(true, 0, sumL C (P.getD i P0).1, sumL D (P.getD i P0).2), ⟨(by simp), Nat.zero_le _, hA.step (getD_pr P i hi'), sum_sst sC hp.1, sum_sst sD hp.2.1, inB_sum sC hp.1 bC' hp.2.2.2.1, inB_sum sD hp.2.1 bD' hp.2.2.2.2, fun j hj => absurd hj (Nat.not_lt_zero j)⟩, ?_, ?_⟩
        · dsimp only
          have h9 : (hdM (sumL D (P.getD i P0).2) + 1) * (P.length + 1) ≤ hdM D * (P.length + 1) := Nat.mul_le_mul_right _ hm
          rw [Nat.add_mul] at h9
          omega
        · exact Ref.gc [0, 1, 2, 5, 6] rfl (by simp only [go_sem, ↓reduceIte, Nat.reduceEqDiff, Nat.reduceAdd, reduceCtorEq]) (by simp [sub, fget, go_sem, ↓reduceIte, Nat.reduceEqDiff, Nat.reduceAdd, reduceCtorEq])
      · (repeat first | simp only [go_sem, ↓reduceIte, Nat.reduceEqDiff, Nat.reduceAdd, reduceCtorEq] | with_reducible refine V_W ?_ | (with_reducible refine And.intro ?_ ?_; focus first | assumption | omega | decide | grind) | (with_reducible refine Br.mk ?_ ?_; focus (intros; omega)) | decide)
        refine ⟨(true, i + 1, C, D), ⟨hb, hi', hA, sC, sD, bC', bD', fun j hj => ?_⟩, by dsimp only; omega, by exact Ref.frame (by simp [sub, fget])⟩
        have hj : j < i + 1 := hj
        rcases Nat.lt_or_ge j i with h | h
        · exact hall j h
        · obtain rfl : j = i := by omega
          dsimp only
          rw [hp1, hD1]
          exact fun h => hc2 (Option.some.inj h)
    · have hdone : Done List.head? P (C, D) := by
        rcases Nat.eq_zero_or_pos D.length with h | h
        · exact .inl (List.eq_nil_of_length_eq_zero h)
        · refine .inr fun p hp => ?_
          obtain ⟨j, hj, rfl⟩ := List.mem_iff_getElem.1 hp
          have := hall j (by omega)
          rwa [show P.getD j P0 = P[j] by simp [hj]] at this
      (repeat first | simp only [go_sem, ↓reduceIte, Nat.reduceEqDiff, Nat.reduceAdd, reduceCtorEq] | with_reducible refine V_W ?_ | (with_reducible refine And.intro ?_ ?_; focus first | assumption | omega | decide | grind) | (with_reducible refine Br.mk ?_ ?_; focus (intros; omega)) | decide)
      exact ⟨(true, C, D), ⟨⟨hA, hdone, sC, sD, bC', bD'⟩, hb⟩, rfl, rfl⟩

set_option maxHeartbeats 8000000 in
theorem reduce_h (m : List (Int × Pr)) (D0 : List Int) (hok : KepOk m) (hD : sst D0) (bD : inB D0) :
    WriE Try.prog 77 [.mpz (imap piF m), .agg [nilS, .sl 0 1 0 D0.length]] [some (intsC D0)] (RedH List.getLast? (m.map (·.2)) D0) (fun o => .agg [.sl 1 1 0 o.2.1.length, bif o.1 then .sl 2 1 0 o.2.2.length else .sl 0 1 0 D0.length]) (fun o => [some (intsC D0), some (intsC o.2.1), bif o.1 then some (intsC o.2.2) else none]) := by
  unfold RedH
  refine wriEV [0, 3, 4] ok77 rfl ?_; unfold c77
  (repeat first | simp only [go_sem, ↓reduceIte, Nat.reduceEqDiff, Nat.reduceAdd, reduceCtorEq] | with_reducible refine V_W ?_ | (with_reducible refine And.intro ?_ ?_; focus first | assumption | omega | decide | grind) | (with_reducible refine Br.mk ?_ ?_; focus (intros; omega)) | decide)
  refine V_loop (α := Bool × Pr) (S := fun o => ([(0, .mpz (imap piF m)), (3, .ref 1 0), (4, .ref 2 0)], [some (intsC D0), some [.sl 3 1 0 o.2.1.length, bif o.1 then .sl 4 1 0 o.2.2.length else .sl 0 1 0 D0.length], some [nilS, nilS], some (intsC o.2.1), bif o.1 then some (intsC o.2.2) else none])) (C := fun o => (o.1 = false → o.2.2 = D0) ∧ Adds (m.map (·.2)) ([], D0) o.2 ∧ sst o.2.1 ∧ sst o.2.2 ∧ inB o.2.1 ∧ inB o.2.2) (μ := fun o => lstM o.2.2) (false, [], D0) ⟨fun _ => rfl, .refl _, sst_nil, hD, (fun e he => by simp at he), bD⟩ ?_ ?_
  · refine (Ref.nilC 1 0 1 (cs := [nilS, .sl 0 1 0 D0.length]) rfl rfl).trans ?_
    exact Ref.pad.trans (Ref.to rfl (by simp [sub, fget]))
  rintro ⟨b, C, D⟩ ⟨hb, hA, sC, sD, bC', bD'⟩
  dsimp only at hb hA sC sD bC' bD' ⊢
  have lC := len_500 sC bC'
  have lD := len_500 sD bD'
  cases b
  all_goals simp only [cond_true, cond_false]
  · obtain rfl := hb rfl
    (repeat first | simp only [go_sem, ↓reduceIte, Nat.reduceEqDiff, Nat.reduceAdd, reduceCtorEq] | with_reducible refine V_W ?_ | (with_reducible refine And.intro ?_ ?_; focus first | assumption | omega | decide | grind) | (with_reducible refine Br.mk ?_ ?_; focus (intros; omega)) | decide)
    refine ⟨fun hc => ?_, fun hc => ?_⟩
    · have hD1 := last_at (c := D) (by omega)
      cases hlk : ilook (D.getD (D.length - 1) 0) m with
      | none =>
        (repeat first | simp only [go_sem, ↓reduceIte, Nat.reduceEqDiff, Nat.reduceAdd, reduceCtorEq] | with_reducible refine V_W ?_ | (with_reducible refine And.intro ?_ ?_; focus first | assumption | omega | decide | grind) | (with_reducible refine Br.mk ?_ ?_; focus (intros; omega)) | decide)
        simp only [hlk, go_sem, ↓reduceIte, Nat.reduceEqDiff, Nat.reduceAdd, reduceCtorEq]
        (repeat first | simp only [go_sem, ↓reduceIte, Nat.reduceEqDiff, Nat.reduceAdd, reduceCtorEq] | with_reducible refine V_W ?_ | (with_reducible refine And.intro ?_ ?_; focus first | assumption | omega | decide | grind) | (with_reducible refine Br.mk ?_ ?_; focus (intros; omega)) | decide)
        refine ⟨(false, C, D), ⟨⟨hA, .inr fun q hq => ?_, sC, sD, bC', bD'⟩, hb⟩, rfl, rfl⟩
        obtain ⟨z, hz, rfl⟩ := List.mem_map.1 hq
        rw [hok.1 z hz, hD1]
        intro h
        exact ilook_none.1 hlk (List.mem_map.2 ⟨z, hz, Option.some.inj h⟩)
      | some p =>
        (repeat first | simp only [go_sem, ↓reduceIte, Nat.reduceEqDiff, Nat.reduceAdd, reduceCtorEq] | with_reducible refine V_W ?_ | (with_reducible refine And.intro ?_ ?_; focus first | assumption | omega | decide | grind) | (with_reducible refine Br.mk ?_ ?_; focus (intros; omega)) | decide)
        simp only [hlk, piF_app, go_sem, ↓reduceIte, Nat.reduceEqDiff, Nat.reduceAdd, reduceCtorEq]
        (repeat first | simp only [go_sem, ↓reduceIte, Nat.reduceEqDiff, Nat.reduceAdd, reduceCtorEq] | with_reducible refine V_W ?_ | (with_reducible refine And.intro ?_ ?_; focus first | assumption | omega | decide | grind) | (with_reducible refine Br.mk ?_ ?_; focus (intros; omega)) | decide)
        have hpm : p ∈ m.map (·.2) := List.mem_map.2 ⟨_, ilook_mem hlk, rfl⟩
        have hp := hok.2 p hpm
        have hp2 : 0 < p.2.length := List.length_pos_iff.2 hp.2.2.1
        have l1 := len_500 hp.1 hp.2.2.2.1
        have l2 := len_500 hp.2.1 hp.2.2.2.2
        have hpl := hok.1 _ (ilook_mem hlk)
        rw [last_at hp2] at hpl
        have hm := lstM_lt sD hp.2.1 bD' (by omega) hp2 (Option.some.inj hpl)
        have hnx : Adds (m.map (·.2)) ([], D) (sumL C p.1, sumL D p.2) ∧ sst (sumL C p.1) ∧ sst (sumL D p.2) ∧ inB (sumL C p.1) ∧ inB (sumL D p.2) := ⟨hA.step hpm, sum_sst sC hp.1, sum_sst sD hp.2.1, inB_sum sC hp.1 bC' hp.2.2.2.1, inB_sum sD hp.2.1 bD' hp.2.2.2.2⟩
        have hc1 := concat_c [C, p.1] (by simp) (by simp [tot]; omega)
        have hc2 := concat_c [D, p.2] (by simp) (by simp [tot]; omega)
        have ho1 := oddOf_c [C, p.1].flatten (by simp; omega)
        have ho2 := oddOf_c [D, p.2].flatten (by simp; omega)
        have e1 : odd [C, p.1].flatten = sumL C p.1 := by simpa using odd_sum sC hp.1
        have e2 : odd [D, p.2].flatten = sumL D p.2 := by simpa using odd_sum sD hp.2.1
        rw [e1] at ho1
        rw [e2] at ho2
        refine V_alts (show LT _ _ _ _ _ _ from ?_)
        refine LT_thw ?_
        repeat' first
          | simp only [piF_app, go_sem, ↓reduceIte, Nat.reduceEqDiff, Nat.reduceAdd, reduceCtorEq]
          | with_reducible refine LT_reg ?_
          | (with_reducible refine LT_regz ?_ ?_; focus (simp only [zAd_load, zAd_loads, zPt_pto, go_sem, ↓reduceIte, Nat.reduceEqDiff, Nat.reduceAdd, reduceCtorEq]; done))
          | with_reducible refine LT_fin ?_
          | with_reducible exact LT_tt
          | with_reducible refine LT_alt ?_ ?_
          | (with_reducible refine And.intro ?_ ?_; focus first | assumption | omega | grind)
          | (refine pureC (hc1) ?_ ?_ ?_; (focus (simp only [go_sem, ↓reduceIte, Nat.reduceEqDiff, Nat.reduceAdd, reduceCtorEq] <;> rfl)); (focus first | rfl | simp only [go_sem, ↓reduceIte, Nat.reduceEqDiff, Nat.reduceAdd, reduceCtorEq]))
          | (refine pureC (hc2) ?_ ?_ ?_; (focus (simp only [go_sem, ↓reduceIte, Nat.reduceEqDiff, Nat.reduceAdd, reduceCtorEq] <;> rfl)); (focus first | rfl | simp only [go_sem, ↓reduceIte, Nat.reduceEqDiff, Nat.reduceAdd, reduceCtorEq]))
          | (refine wriC (ho1) [7] ?_ ?_ ?_ ?_ ?_; (focus first | rfl | simp); (focus (simp only [go_sem, ↓reduceIte, Nat.reduceEqDiff, Nat.reduceAdd, reduceCtorEq] <;> rfl)); (focus (simp only [go_sem, ↓reduceIte, Nat.reduceEqDiff, Nat.reduceAdd, reduceCtorEq] <;> rfl)); (focus first | rfl | simp only [go_sem, ↓reduceIte, Nat.reduceEqDiff, Nat.reduceAdd, reduceCtorEq]))
          | (refine wriC (ho2) [7] ?_ ?_ ?_ ?_ ?_; (focus first | rfl | simp); (focus (simp only [go_sem, ↓reduceIte, Nat.reduceEqDiff, Nat.reduceAdd, reduceCtorEq] <;> rfl)); (focus (simp only [go_sem, ↓reduceIte, Nat.reduceEqDiff, Nat.reduceAdd, reduceCtorEq] <;> rfl)); (focus first | rfl | simp only [go_sem, ↓reduceIte, Nat.reduceEqDiff, Nat.reduceAdd, reduceCtorEq]))
          | (refine wriC (ho1) [8] ?_ ?_ ?_ ?_ ?_; (focus first | rfl | simp); (focus (simp only [go_sem, ↓reduceIte, Nat.reduceEqDiff, Nat.reduceAdd, reduceCtorEq] <;> rfl)); (focus (simp only [go_sem, ↓reduceIte, Nat.reduceEqDiff, Nat.reduceAdd, reduceCtorEq] <;> rfl)); (focus first | rfl | simp only [go_sem, ↓reduceIte, Nat.reduceEqDiff, Nat.reduceAdd, reduceCtorEq]))
          | (refine wriC (ho2) [8] ?_ ?_ ?_ ?_ ?_; (focus first | rfl | simp); (focus (simp only [go_sem, ↓reduceIte, Nat.reduceEqDiff, Nat.reduceAdd, reduceCtorEq] <;> rfl)); (focus (simp only [go_sem, ↓reduceIte, Nat.reduceEqDiff, Nat.reduceAdd, reduceCtorEq] <;> rfl)); (focus first | rfl | simp only [go_sem, ↓reduceIte, Nat.reduceEqDiff, Nat.reduceAdd, reduceCtorEq]))
          | (refine wriC (ho1) [9] ?_ ?_ ?_ ?_ ?_; (focus first | rfl | simp); (focus (simp only [go_sem, ↓reduceIte, Nat.reduceEqDiff, Nat.reduceAdd, reduceCtorEq] <;> rfl)); (focus (simp only [go_sem, ↓reduceIte, Nat.reduceEqDiff, Nat.reduceAdd, reduceCtorEq] <;> rfl)); (focus first | rfl | simp only [go_sem, ↓reduceIte, Nat.reduceEqDiff, Nat.reduceAdd, reduceCtorEq]))
          | (refine wriC (ho2) [9] ?_ ?_ ?_ ?_ ?_; (focus first | rfl | simp); (focus (simp only [go_sem, ↓reduceIte, Nat.reduceEqDiff, Nat.reduceAdd, reduceCtorEq] <;> rfl)); (focus (simp only [go_sem, ↓reduceIte, Nat.reduceEqDiff, Nat.reduceAdd, reduceCtorEq] <;> rfl)); (focus first | rfl | simp only [go_sem, ↓reduceIte, Nat.reduceEqDiff, Nat.reduceAdd, reduceCtorEq]))
          | (refine wriC (ho1) [10] ?_ ?_ ?_ ?_ ?_; (focus first | rfl | simp); (focus (simp only [go_sem, ↓reduceIte, Nat.reduceEqDiff, Nat.reduceAdd, reduceCtorEq] <;> rfl)); (focus (simp only [go_sem, ↓reduceIte, Nat.reduceEqDiff, Nat.reduceAdd, reduceCtorEq] <;> rfl)); (focus first | rfl | simp only [go_sem, ↓reduceIte, Nat.reduceEqDiff, Nat.reduceAdd, reduceCtorEq]))
          | (refine wriC (ho2) [10] ?_ ?_ ?_ ?_ ?_; (focus first | rfl | simp); (focus (simp only [go_sem, ↓reduceIte, Nat.reduceEqDiff, Nat.reduceAdd, reduceCtorEq] <;> rfl)); (focus (simp only [go_sem, ↓reduceIte, Nat.reduceEqDiff, Nat.reduceAdd, reduceCtorEq] <;> rfl)); (focus first | rfl | simp only [go_sem, ↓reduceIte, Nat.reduceEqDiff, Nat.reduceAdd, reduceCtorEq]))
        all_goals (refine ⟨(true, sumL C p.1, sumL D p.2), ⟨(by simp), hnx⟩, hm, ?_⟩; first
          | (refine Ref.gc [0, 1, 2, 8, 11] rfl ?_ ?_ <;> first | (simp only [go_sem, ↓reduceIte, Nat.reduceEqDiff, Nat.reduceAdd, reduceCtorEq]; done) | (simp [sub, fget, go_sem, ↓reduceIte, Nat.reduceEqDiff, Nat.reduceAdd, reduceCtorEq]; done))
          | (refine Ref.gc [0, 1, 2, 9, 11] rfl ?_ ?_ <;> first | (simp only [go_sem, ↓reduceIte, Nat.reduceEqDiff, Nat.reduceAdd, reduceCtorEq]; done) | (simp [sub, fget, go_sem, ↓reduceIte, Nat.reduceEqDiff, Nat.reduceAdd, reduceCtorEq]; done))
          | (refine Ref.gc [0, 1, 2, 10, 11] rfl ?_ ?_ <;> first | (simp only [go_sem, ↓reduceIte, Nat.reduceEqDiff, Nat.reduceAdd, reduceCtorEq]; done) | (simp [sub, fget, go_sem, ↓reduceIte, Nat.reduceEqDiff, Nat.reduceAdd, reduceCtorEq]; done))
          | (refine Ref.gc [0, 1, 2, 11, 8] rfl ?_ ?_ <;> first | (simp only [go_sem, ↓reduceIte, Nat.reduceEqDiff, Nat.reduceAdd, reduceCtorEq]; done) | (simp [sub, fget, go_sem, ↓reduceIte, Nat.reduceEqDiff, Nat.reduceAdd, reduceCtorEq]; done))
          | (refine Ref.gc [0, 1, 2, 11, 9] rfl ?_ ?_ <;> first | (simp only [go_sem, ↓reduceIte, Nat.reduceEqDiff, Nat.reduceAdd, reduceCtorEq]; done) | (simp [sub, fget, go_sem, ↓reduceIte, Nat.reduceEqDiff, Nat.reduceAdd, reduceCtorEq]; done))
          | (refine Ref.gc [0, 1, 2, 11, 10] rfl ?_ ?_ <;> first | (simp only [go_sem, ↓reduceIte, Nat.reduceEqDiff, Nat.reduceAdd, reduceCtorEq]; done) | (simp [sub, fget, go_sem, ↓reduceIte, Nat.reduceEqDiff, Nat.reduceAdd, reduceCtorEq]; done)))
    · (repeat first | simp only [go_sem, ↓reduceIte, Nat.reduceEqDiff, Nat.reduceAdd, reduceCtorEq] | with_reducible refine V_W ?_ | (with_reducible refine And.intro ?_ ?_; focus first | assumption | omega | decide | grind) | (with_reducible refine Br.mk ?_ ?_; focus (intros; omega)) | decide)
      have hD0 : D = [] := List.eq_nil_of_length_eq_zero (by omega)
      exact ⟨(false, C, D), ⟨⟨hA, .inl hD0, sC, sD, bC', bD'⟩, hb⟩, rfl, rfl⟩
  · (repeat first | simp only [go_sem, ↓reduceIte, Nat.reduceEqDiff, Nat.reduceAdd, reduceCtorEq] | with_reducible refine V_W ?_ | (with_reducible refine And.intro ?_ ?_; focus first | assumption | omega | decide | grind) | (with_reducible refine Br.mk ?_ ?_; focus (intros; omega)) | decide)
    refine ⟨fun hc => ?_, fun hc => ?_⟩
    · have hD1 := last_at (c := D) (by omega)
      cases hlk : ilook (D.getD (D.length - 1) 0) m with
      | none =>
        (repeat first | simp only [go_sem, ↓reduceIte, Nat.reduceEqDiff, Nat.reduceAdd, reduceCtorEq] | with_reducible refine V_W ?_ | (with_reducible refine And.intro ?_ ?_; focus first | assumption | omega | decide | grind) | (with_reducible refine Br.mk ?_ ?_; focus (intros; omega)) | decide)
        simp only [hlk, go_sem, ↓reduceIte, Nat.reduceEqDiff, Nat.reduceAdd, reduceCtorEq]
        (repeat first | simp only [go_sem, ↓reduceIte, Nat.reduceEqDiff, Nat.reduceAdd, reduceCtorEq] | with_reducible refine V_W ?_ | (with_reducible refine And.intro ?_ ?_; focus first | assumption | omega | decide | grind) | (with_reducible refine Br.mk ?_ ?_; focus (intros; omega)) | decide)
        refine ⟨(true, C, D), ⟨⟨hA, .inr fun q hq => ?_, sC, sD, bC', bD'⟩, hb⟩, rfl, rfl⟩
        obtain ⟨z, hz, rfl⟩ := List.mem_map.1 hq
        rw [hok.1 z hz, hD1]
        intro h
        exact ilook_none.1 hlk (List.mem_map.2 ⟨z, hz, Option.some.inj h⟩)
      | some p =>
        (repeat first | simp only [go_sem, ↓reduceIte, Nat.reduceEqDiff, Nat.reduceAdd, reduceCtorEq] | with_reducible refine V_W ?_ | (with_reducible refine And.intro ?_ ?_; focus first | assumption | omega | decide | grind) | (with_reducible refine Br.mk ?_ ?_; focus (intros; omega)) | decide)
        simp only [hlk, piF_app, go_sem, ↓reduceIte, Nat.reduceEqDiff, Nat.reduceAdd, reduceCtorEq]
        (repeat first | simp only [go_sem, ↓reduceIte, Nat.reduceEqDiff, Nat.reduceAdd, reduceCtorEq] | with_reducible refine V_W ?_ | (with_reducible refine And.intro ?_ ?_; focus first | assumption | omega | decide | grind) | (with_reducible refine Br.mk ?_ ?_; focus (intros; omega)) | decide)
        have hpm : p ∈ m.map (·.2) := List.mem_map.2 ⟨_, ilook_mem hlk, rfl⟩
        have hp := hok.2 p hpm
        have hp2 : 0 < p.2.length := List.length_pos_iff.2 hp.2.2.1
        have l1 := len_500 hp.1 hp.2.2.2.1
        have l2 := len_500 hp.2.1 hp.2.2.2.2
        have hpl := hok.1 _ (ilook_mem hlk)
        rw [last_at hp2] at hpl
        have hm := lstM_lt sD hp.2.1 bD' (by omega) hp2 (Option.some.inj hpl)
        have hnx : Adds (m.map (·.2)) ([], D0) (sumL C p.1, sumL D p.2) ∧ sst (sumL C p.1) ∧ sst (sumL D p.2) ∧ inB (sumL C p.1) ∧ inB (sumL D p.2) := ⟨hA.step hpm, sum_sst sC hp.1, sum_sst sD hp.2.1, inB_sum sC hp.1 bC' hp.2.2.2.1, inB_sum sD hp.2.1 bD' hp.2.2.2.2⟩
        have hc1 := concat_c [C, p.1] (by simp) (by simp [tot]; omega)
        have hc2 := concat_c [D, p.2] (by simp) (by simp [tot]; omega)
        have ho1 := oddOf_c [C, p.1].flatten (by simp; omega)
        have ho2 := oddOf_c [D, p.2].flatten (by simp; omega)
        have e1 : odd [C, p.1].flatten = sumL C p.1 := by simpa using odd_sum sC hp.1
        have e2 : odd [D, p.2].flatten = sumL D p.2 := by simpa using odd_sum sD hp.2.1
        rw [e1] at ho1
        rw [e2] at ho2
        refine V_alts (show LT _ _ _ _ _ _ from ?_)
        refine LT_thw ?_
        repeat' first
          | simp only [piF_app, go_sem, ↓reduceIte, Nat.reduceEqDiff, Nat.reduceAdd, reduceCtorEq]
          | with_reducible refine LT_reg ?_
          | (with_reducible refine LT_regz ?_ ?_; focus (simp only [zAd_load, zAd_loads, zPt_pto, go_sem, ↓reduceIte, Nat.reduceEqDiff, Nat.reduceAdd, reduceCtorEq]; done))
          | with_reducible refine LT_fin ?_
          | with_reducible exact LT_tt
          | with_reducible refine LT_alt ?_ ?_
          | (with_reducible refine And.intro ?_ ?_; focus first | assumption | omega | grind)
          | (refine pureC (hc1) ?_ ?_ ?_; (focus (simp only [go_sem, ↓reduceIte, Nat.reduceEqDiff, Nat.reduceAdd, reduceCtorEq] <;> rfl)); (focus first | rfl | simp only [go_sem, ↓reduceIte, Nat.reduceEqDiff, Nat.reduceAdd, reduceCtorEq]))
          | (refine pureC (hc2) ?_ ?_ ?_; (focus (simp only [go_sem, ↓reduceIte, Nat.reduceEqDiff, Nat.reduceAdd, reduceCtorEq] <;> rfl)); (focus first | rfl | simp only [go_sem, ↓reduceIte, Nat.reduceEqDiff, Nat.reduceAdd, reduceCtorEq]))
          | (refine wriC (ho1) [7] ?_ ?_ ?_ ?_ ?_; (focus first | rfl | simp); (focus (simp only [go_sem, ↓reduceIte, Nat.reduceEqDiff, Nat.reduceAdd, reduceCtorEq] <;> rfl)); (focus (simp only [go_sem, ↓reduceIte, Nat.reduceEqDiff, Nat.reduceAdd, reduceCtorEq] <;> rfl)); (focus first | rfl | simp only [go_sem, ↓reduceIte, Nat.reduceEqDiff, Nat.reduceAdd, reduceCtorEq]))
          | (refine wriC (ho2) [7] ?_ ?_ ?_ ?_ ?_; (focus first | rfl | simp); (focus (simp only [go_sem, ↓reduceIte, Nat.reduceEqDiff, Nat.reduceAdd, reduceCtorEq] <;> rfl)); (focus (simp only [go_sem, ↓reduceIte, Nat.reduceEqDiff, Nat.reduceAdd, reduceCtorEq] <;> rfl)); (focus first | rfl | simp only [go_sem, ↓reduceIte, Nat.reduceEqDiff, Nat.reduceAdd, reduceCtorEq]))
          | (refine wriC (ho1) [8] ?_ ?_ ?_ ?_ ?_; (focus first | rfl | simp); (focus (simp only [go_sem, ↓reduceIte, Nat.reduceEqDiff, Nat.reduceAdd, reduceCtorEq] <;> rfl)); (focus (simp only [go_sem, ↓reduceIte, Nat.reduceEqDiff, Nat.reduceAdd, reduceCtorEq] <;> rfl)); (focus first | rfl | simp only [go_sem, ↓reduceIte, Nat.reduceEqDiff, Nat.reduceAdd, reduceCtorEq]))
          | (refine wriC (ho2) [8] ?_ ?_ ?_ ?_ ?_; (focus first | rfl | simp); (focus (simp only [go_sem, ↓reduceIte, Nat.reduceEqDiff, Nat.reduceAdd, reduceCtorEq] <;> rfl)); (focus (simp only [go_sem, ↓reduceIte, Nat.reduceEqDiff, Nat.reduceAdd, reduceCtorEq] <;> rfl)); (focus first | rfl | simp only [go_sem, ↓reduceIte, Nat.reduceEqDiff, Nat.reduceAdd, reduceCtorEq]))
          | (refine wriC (ho1) [9] ?_ ?_ ?_ ?_ ?_; (focus first | rfl | simp); (focus (simp only [go_sem, ↓reduceIte, Nat.reduceEqDiff, Nat.reduceAdd, reduceCtorEq] <;> rfl)); (focus (simp only [go_sem, ↓reduceIte, Nat.reduceEqDiff, Nat.reduceAdd, reduceCtorEq] <;> rfl)); (focus first | rfl | simp only [go_sem, ↓reduceIte, Nat.reduceEqDiff, Nat.reduceAdd, reduceCtorEq]))
          | (refine wriC (ho2) [9] ?_ ?_ ?_ ?_ ?_; (focus first | rfl | simp); (focus (simp only [go_sem, ↓reduceIte, Nat.reduceEqDiff, Nat.reduceAdd, reduceCtorEq] <;> rfl)); (focus (simp only [go_sem, ↓reduceIte, Nat.reduceEqDiff, Nat.reduceAdd, reduceCtorEq] <;> rfl)); (focus first | rfl | simp only [go_sem, ↓reduceIte, Nat.reduceEqDiff, Nat.reduceAdd, reduceCtorEq]))
          | (refine wriC (ho1) [10] ?_ ?_ ?_ ?_ ?_; (focus first | rfl | simp); (focus (simp only [go_sem, ↓reduceIte, Nat.reduceEqDiff, Nat.reduceAdd, reduceCtorEq] <;> rfl)); (focus (simp only [go_sem, ↓reduceIte, Nat.reduceEqDiff, Nat.reduceAdd, reduceCtorEq] <;> rfl)); (focus first | rfl | simp only [go_sem, ↓reduceIte, Nat.reduceEqDiff, Nat.reduceAdd, reduceCtorEq]))
          | (refine wriC (ho2) [10] ?_ ?_ ?_ ?_ ?_; (focus first | rfl | simp); (focus (simp only [go_sem, ↓reduceIte, Nat.reduceEqDiff, Nat.reduceAdd, reduceCtorEq] <;> rfl)); (focus (simp only [go_sem, ↓reduceIte, Nat.reduceEqDiff, Nat.reduceAdd, reduceCtorEq] <;> rfl)); (focus first | rfl | simp only [go_sem, ↓reduceIte, Nat.reduceEqDiff, Nat.reduceAdd, reduceCtorEq]))
        all_goals (refine ⟨(true, sumL C p.1, sumL D p.2), ⟨(by simp), hnx⟩, hm, ?_⟩; first
          | (refine Ref.gc [0, 1, 2, 8, 11] rfl ?_ ?_ <;> first | (simp only [go_sem, ↓reduceIte, Nat.reduceEqDiff, Nat.reduceAdd, reduceCtorEq]; done) | (simp [sub, fget, go_sem, ↓reduceIte, Nat.reduceEqDiff, Nat.reduceAdd, reduceCtorEq]; done))
          | (refine Ref.gc [0, 1, 2, 9, 11] rfl ?_ ?_ <;> first | (simp only [go_sem, ↓reduceIte, Nat.reduceEqDiff, Nat.reduceAdd, reduceCtorEq]; done) | (simp [sub, fget, go_sem, ↓reduceIte, Nat.reduceEqDiff, Nat.reduceAdd, reduceCtorEq]; done))
          | (refine Ref.gc [0, 1, 2, 10, 11] rfl ?_ ?_ <;> first | (simp only [go_sem, ↓reduceIte, Nat.reduceEqDiff, Nat.reduceAdd, reduceCtorEq]; done) | (simp [sub, fget, go_sem, ↓reduceIte, Nat.reduceEqDiff, Nat.reduceAdd, reduceCtorEq]; done))
          | (refine Ref.gc [0, 1, 2, 11, 8] rfl ?_ ?_ <;> first | (simp only [go_sem, ↓reduceIte, Nat.reduceEqDiff, Nat.reduceAdd, reduceCtorEq]; done) | (simp [sub, fget, go_sem, ↓reduceIte, Nat.reduceEqDiff, Nat.reduceAdd, reduceCtorEq]; done))
          | (refine Ref.gc [0, 1, 2, 11, 9] rfl ?_ ?_ <;> first | (simp only [go_sem, ↓reduceIte, Nat.reduceEqDiff, Nat.reduceAdd, reduceCtorEq]; done) | (simp [sub, fget, go_sem, ↓reduceIte, Nat.reduceEqDiff, Nat.reduceAdd, reduceCtorEq]; done))
          | (refine Ref.gc [0, 1, 2, 11, 10] rfl ?_ ?_ <;> first | (simp only [go_sem, ↓reduceIte, Nat.reduceEqDiff, Nat.reduceAdd, reduceCtorEq]; done) | (simp [sub, fget, go_sem, ↓reduceIte, Nat.reduceEqDiff, Nat.reduceAdd, reduceCtorEq]; done)))
    · (repeat first | simp only [go_sem, ↓reduceIte, Nat.reduceEqDiff, Nat.reduceAdd, reduceCtorEq] | with_reducible refine V_W ?_ | (with_reducible refine And.intro ?_ ?_; focus first | assumption | omega | decide | grind) | (with_reducible refine Br.mk ?_ ?_; focus (intros; omega)) | decide)
      have hD0 : D = [] := List.eq_nil_of_length_eq_zero (by omega)
      exact ⟨(true, C, D), ⟨⟨hA, .inl hD0, sC, sD, bC', bD'⟩, hb⟩, rfl, rfl⟩
end Go.Proofs.Ytmiapnfhlhgefaa
set_option maxRecDepth 100000
namespace Go.Proofs.Ytmiapnfhlhgefaa
open Go.Gov
open Classical

def bitC (m k : Nat) : Bool := bitsV .and .i64 (shV .shr .i64 (m : Int) (k : Int)) 1 == 1
theorem bitC_zero (k : Nat) (h : k < 15) : bitC 0 k = false := by
  have : ∀ k : Fin 15, bitC 0 k.val = false := by decide +kernel
  exact this ⟨k, h⟩
theorem shl_one (n : Nat) (h : n < 15) : shV .shl .i64 1 (n : Int) = (2 ^ n : Nat) := by
  have : ∀ n : Fin 15, shV .shl .i64 1 (n.val : Int) = (2 ^ n.val : Nat) := by decide +kernel
  exact this ⟨n, h⟩
theorem wrap_u64 (n : Nat) (h : n < 15) : IntKind.u64.wrap (n : Int) = n := by
  have : ∀ n : Fin 15, IntKind.u64.wrap (n.val : Int) = n.val := by decide +kernel
  exact this ⟨n, h⟩
theorem pow_14 {n : Nat} (h : n < 15) : 2 ^ n ≤ 16384 := by
  have : ∀ n : Fin 15, 2 ^ n.val ≤ 16384 := by decide +kernel
  exact this ⟨n, h⟩
/-- The chain that a number stands for, as far as the k-th element. -/
def chN (es : List Int) (m k : Nat) : List Int := ((List.range k).filter (bitC m)).map fun j : Nat => es.getD j 0
theorem chN_succ (es : List Int) (m k : Nat) : chN es m (k + 1) = if bitC m k then chN es m k ++ [es.getD k 0] else chN es m k := by
  unfold chN
  rw [List.range_succ, List.filter_append, List.map_append]
  by_cases h : bitC m k = true
  · rw [if_pos h, List.filter_cons_of_pos h]; rfl
  · rw [if_neg h, List.filter_cons_of_neg h]; simp
theorem chN_len (es : List Int) (m k : Nat) : (chN es m k).length ≤ k := by
  unfold chN
  rw [List.length_map]
  have := List.length_filter_le (bitC m) (List.range k)
  rwa [List.length_range] at this
theorem mem_chN {es : List Int} {m k : Nat} {e : Int} (h : e ∈ chN es m k) (hk : k ≤ es.length) : ∃ j, j < k ∧ e = es.getD j 0 := by
  unfold chN at h
  obtain ⟨j, hj, rfl⟩ := List.mem_map.1 h
  exact ⟨j, List.mem_range.1 (List.mem_filter.1 hj).1, rfl⟩
theorem chN_sst {es : List Int} (hs : sst es) (m : Nat) : ∀ k, k ≤ es.length → sst (chN es m k)
  | 0, _ => List.Pairwise.nil
  | k + 1, h => by
    rw [chN_succ]
    split
    · refine List.pairwise_append.2 ⟨chN_sst hs m k (by omega), List.pairwise_singleton _ _, fun a ha b hb => ?_⟩
      obtain ⟨j, hj, rfl⟩ := mem_chN ha (by omega)
      rw [List.mem_singleton.1 hb, getD_el es j (by omega), getD_el es k (by omega)]
      exact List.pairwise_iff_getElem.1 hs j k (by omega) (by omega) hj
    · exact chN_sst hs m k (by omega)

section
variable (R : List Int) (B : List (List Int)) (es : List Int)
/-- It is no sum of boundaries of elements of rank 2. -/
def NoB (c : List Int) : Prop := ¬ Sp (fun g => ∃ e ∈ (plc R 2).reverse, g = blw R B e) c
def isUps (best : Option (List Int)) (c : List Int) : Prop := (∀ b, best = some b → c.length < b.length ∨ (c.length = b.length ∧ lexL c b = true)) ∧ bdS R B c = [] ∧ NoB R B c
noncomputable def ups (best : Option (List Int)) (c : List Int) : Option (List Int) := if isUps R B best c then some c else best
noncomputable def bsts : Nat → Option (List Int)
  | 0 => none
  | m + 1 => ups R B (bsts m) (chN es m es.length)
end
noncomputable def lcO (R : List Int) (B : List (List Int)) : Option (List Int) := bsts R B (plc R 1) (2 ^ (plc R 1).length)
noncomputable def lcV (r : Int) (R : List Int) (B : List (List Int)) : List Int := if IsPos r R B ∧ IsEv R B ∧ (plc R 1).length ≤ 14 then (lcO R B).getD [] else []
noncomputable def lcC (r : Int) (R : List Int) (B : List (List Int)) : Int := if IsPos r R B then if IsEv R B then if (plc R 1).length ≤ 14 then if (lcO R B).isSome then 0 else 4 else 3 else 5 else 1
theorem ups_ne {R : List Int} {B : List (List Int)} {b : Option (List Int)} {c : List Int} (h : isUps R B b c) : c ≠ [] := fun e => h.2.2 (e ▸ Sp.zero)
theorem bsts_one (R : List Int) (B : List (List Int)) (es : List Int) (h : es.length < 15) : bsts R B es 1 = none := by
  have h0 : chN es 0 es.length = [] := by
    unfold chN
    rw [List.map_eq_nil_iff, List.filter_eq_nil_iff]
    intro k hk
    rw [bitC_zero k (by have := List.mem_range.1 hk; omega)]
    simp
  unfold bsts ups bsts
  rw [if_neg (fun hu => ups_ne hu h0)]

theorem bsts_ok (R : List Int) (B : List (List Int)) (es : List Int) (h : es.length ≤ 14) : ∀ m b, bsts R B es m = some b → b ≠ [] ∧ b.length ≤ 14
  | 0, b, hb => by simp [bsts] at hb
  | m + 1, b, hb => by
    unfold bsts ups at hb
    split at hb
    · rename_i hu
      obtain rfl := Option.some.inj hb
      exact ⟨ups_ne hu, Nat.le_trans (chN_len es m es.length) h⟩
    · exact bsts_ok R B es h m b hb
theorem noB_iff {R : List Int} {B : List (List Int)} {ld : List Int → Option Int} {P : List Pr} {c : List Int} {y : Pr} (hf : ∀ e, sst (blw R B e)) (hl : Lead ld) (hP : Piv ld (blw R B) (plc R 2).reverse P) (hc : sst c) (h : Adds P ([], c) y) (hd : Done ld P y) : NoB R B c ↔ y.2 ≠ [] := by
  have h3 : bd (blw R B) [] = sumL c c := by rw [bd_nil, sum_self hc]
  exact not_congr (h.zero hl hP hf sst_nil hc hc h3 hd).symm

set_option maxHeartbeats 4000000 in
theorem specLc_w (r : Int) (R : List Int) (B : List (List Int)) (s : Bool) (h1 : R.length ≤ 1048576) (hr : ∀ xs ∈ B, xs.length ≤ 1048576) (hp : IsPos r R B) (he : IsEv R B) (h14 : (plc R 1).length ≤ 14) (hs : (lcO R B).isSome = s) :
    Pure Try.prog 30 [posetA r R B] (.tup [bif s then .sl 0 1 0 ((lcO R B).getD []).length else nilS, i64 (bif s then 0 else 4)]) (bif s then [some (intsC ((lcO R B).getD []))] else []) := by
  have gr : ∀ xs ∈ B, xs.length ≤ 1099511627776 := fun xs hx => by have := hr xs hx; omega
  have hpd : decide (IsPos r R B) = true := decide_eq_true hp
  have hed : decide (IsEv R B) = true := decide_eq_true he
  obtain ⟨a1, a2, a3, a4, hrk⟩ := hp.rank
  obtain ⟨hro, hss⟩ := hp.rows
  have hes := l16Rank_p r R B 1 (by omega)
  have hem : ∀ k, k < (plc R 1).length → 0 ≤ (plc R 1).getD k 0 ∧ (plc R 1).getD k 0 < R.length := fun k hk => by
    have h1 : (plc R 1).getD k 0 ∈ plc R 1 := by rw [getD_el _ k hk]; exact List.getElem_mem hk
    have h2 := mem_plcN.1 h1
    exact ⟨h2.1, h2.2.1⟩
  have hesS : sst (plc R 1) := plcN_sst R 1 R.length
  unfold lcO at hs ⊢
  generalize hE : plc R 1 = es at hes hem hesS h14 hs ⊢
  have hb1 := bsts_one R B es (by omega)
  have hbS : ∀ m, bsts R B es (m + 1) = ups R B (bsts R B es m) (chN es m es.length) := fun m => rfl
  have hpw := pow_14 (n := es.length) (by omega)
  have hsl := shl_one es.length (by omega)
  refine pureVg (bif s then [2] else []) ok30 rfl ?_
  unfold c30
  (repeat first | simp only [go_sem, ↓reduceIte, Nat.reduceEqDiff, Nat.reduceAdd, reduceCtorEq] | with_reducible refine V_W ?_ | (with_reducible refine And.intro ?_ ?_; focus first | assumption | omega | decide | grind) | (with_reducible refine Br.mk ?_ ?_; focus (intros; omega)) | decide)
  refine pureC (l03Is_c r R B (by omega) (by omega) gr) (by simp only [go_sem, ↓reduceIte, Nat.reduceEqDiff, Nat.reduceAdd, reduceCtorEq] <;> rfl) (by first | rfl | simp only [go_sem, ↓reduceIte, Nat.reduceEqDiff, Nat.reduceAdd, reduceCtorEq]) ?_
  simp only [hpd, go_sem, ↓reduceIte, Nat.reduceEqDiff, Nat.reduceAdd, reduceCtorEq]
  (repeat first | simp only [go_sem, ↓reduceIte, Nat.reduceEqDiff, Nat.reduceAdd, reduceCtorEq] | with_reducible refine V_W ?_ | (with_reducible refine And.intro ?_ ?_; focus first | assumption | omega | decide | grind) | (with_reducible refine Br.mk ?_ ?_; focus (intros; omega)) | decide)
  refine pureC (l16Even_c r R B hp hr) (by simp only [go_sem, ↓reduceIte, Nat.reduceEqDiff, Nat.reduceAdd, reduceCtorEq] <;> rfl) (by first | rfl | simp only [go_sem, ↓reduceIte, Nat.reduceEqDiff, Nat.reduceAdd, reduceCtorEq]) ?_
  simp only [hed, go_sem, ↓reduceIte, Nat.reduceEqDiff, Nat.reduceAdd, reduceCtorEq]
  (repeat first | simp only [go_sem, ↓reduceIte, Nat.reduceEqDiff, Nat.reduceAdd, reduceCtorEq] | with_reducible refine V_W ?_ | (with_reducible refine And.intro ?_ ?_; focus first | assumption | omega | decide | grind) | (with_reducible refine Br.mk ?_ ?_; focus (intros; omega)) | decide)
  refine pureC (hes) (by simp only [go_sem, ↓reduceIte, Nat.reduceEqDiff, Nat.reduceAdd, reduceCtorEq] <;> rfl) (by first | rfl | simp only [go_sem, ↓reduceIte, Nat.reduceEqDiff, Nat.reduceAdd, reduceCtorEq]) ?_
  (repeat first | simp only [go_sem, ↓reduceIte, Nat.reduceEqDiff, Nat.reduceAdd, reduceCtorEq] | with_reducible refine V_W ?_ | (with_reducible refine And.intro ?_ ?_; focus first | assumption | omega | decide | grind) | (with_reducible refine Br.mk ?_ ?_; focus (intros; omega)) | decide)
  (try with_reducible refine fun _ => ?_)
  (repeat first | simp only [go_sem, ↓reduceIte, Nat.reduceEqDiff, Nat.reduceAdd, reduceCtorEq] | with_reducible refine V_W ?_ | (with_reducible refine And.intro ?_ ?_; focus first | assumption | omega | decide | grind) | (with_reducible refine Br.mk ?_ ?_; focus (intros; omega)) | decide)
  refine pureEC (l16Pivots_e r R B 2 hp hr) (by simp only [go_sem, ↓reduceIte, Nat.reduceEqDiff, Nat.reduceAdd, reduceCtorEq] <;> rfl) (fun P => (by first | rfl | simp only [go_sem, ↓reduceIte, Nat.reduceEqDiff, Nat.reduceAdd, reduceCtorEq])) fun P hP => ?_
  obtain ⟨hPv, hPo, hPl⟩ := hP
  (repeat first | simp only [go_sem, ↓reduceIte, Nat.reduceEqDiff, Nat.reduceAdd, reduceCtorEq] | with_reducible refine V_W ?_ | (with_reducible refine And.intro ?_ ?_; focus first | assumption | omega | decide | grind) | (with_reducible refine Br.mk ?_ ?_; focus (intros; omega)) | decide)
  have hbne : ∀ m b, bsts R B es m = some b → b ≠ [] ∧ b.length ≤ 14 := bsts_ok R B es h14
  generalize hbst : bsts R B es = T at hb1 hbS hbne hs ⊢
  refine V_loop (α := Nat) (S := fun m => ([(1, .ref 0 0), (4, .sl 1 1 0 es.length), (5, .sl 2 1 0 ((T m).getD []).length), (6, bl (T m).isSome), (7, .sl 3 2 0 P.length), (8, i64 m)], [some [i64 r, ints R, mat B], some (intsC es), some (intsC ((T m).getD [])), some ((flP P).map oints)])) (C := fun m => 1 ≤ m ∧ m ≤ 2 ^ es.length) (μ := fun m => 2 ^ es.length - m) 1 ⟨by omega, Nat.one_le_two_pow⟩ (Ref.to (by simp [hb1, intsC]) (by simp [sub, fget, hb1])) ?_
  rintro m ⟨hm1, hm2⟩
  have hTm := hbne m
  have hTs := hbS m
  have hw := wrap_u64 es.length (by omega)
  have hbl : ((T m).getD []).length ≤ 14 := by
    cases hT : T m with
    | none => simp
    | some b => exact (hTm b hT).2
  generalize hbe : T m = best at hTm hTs hbl ⊢
  (repeat first | simp only [go_sem, ↓reduceIte, Nat.reduceEqDiff, Nat.reduceAdd, reduceCtorEq] | with_reducible refine V_W ?_ | (with_reducible refine And.intro ?_ ?_; focus first | assumption | omega | decide | grind) | (with_reducible refine Br.mk ?_ ?_; focus (intros; omega)) | decide)
  simp only [hw, hsl, go_sem, ↓reduceIte, Nat.reduceEqDiff, Nat.reduceAdd, reduceCtorEq]
  refine ⟨fun hc => ?_, fun hc => ?_⟩
  · have hm3 : m < 2 ^ es.length := by omega
    (repeat first | simp only [go_sem, ↓reduceIte, Nat.reduceEqDiff, Nat.reduceAdd, reduceCtorEq] | with_reducible refine V_W ?_ | (with_reducible refine And.intro ?_ ?_; focus first | assumption | omega | decide | grind) | (with_reducible refine Br.mk ?_ ?_; focus (intros; omega)) | decide)
    refine V_loop (α := Nat) (S := fun k => ([(1, .ref 0 0), (4, .sl 1 1 0 es.length), (5, .sl 2 1 0 (best.getD []).length), (6, bl best.isSome), (7, .sl 3 2 0 P.length), (8, i64 m), (9, .sl 4 1 0 (chN es m k).length), (10, i64 k)], [some [i64 r, ints R, mat B], some (intsC es), some (intsC (best.getD [])), some ((flP P).map oints), some (intsC (chN es m k))])) (C := fun k => k ≤ es.length) (μ := fun k => es.length - k) 0 (by omega) (Ref.to (by simp [chN, intsC]) (by simp [sub, fget, chN])) ?_
    intro k hk
    have hcs := chN_succ es m k
    have hcl := chN_len es m k
    have hw := wrap_u64 k (by omega)
    have hbit : (bitsV .and .i64 (shV .shr .i64 (m : Int) (k : Int)) 1 == 1) = bitC m k := rfl
    generalize hL : chN es m k = L at hcs hcl ⊢
    (repeat first | simp only [go_sem, ↓reduceIte, Nat.reduceEqDiff, Nat.reduceAdd, reduceCtorEq] | with_reducible refine V_W ?_ | (with_reducible refine And.intro ?_ ?_; focus first | assumption | omega | decide | grind) | (with_reducible refine Br.mk ?_ ?_; focus (intros; omega)) | decide)
    refine ⟨fun hc2 => ?_, fun hc2 => ?_⟩
    · (repeat first | simp only [go_sem, ↓reduceIte, Nat.reduceEqDiff, Nat.reduceAdd, reduceCtorEq] | with_reducible refine V_W ?_ | (with_reducible refine And.intro ?_ ?_; focus first | assumption | omega | decide | grind) | (with_reducible refine Br.mk ?_ ?_; focus (intros; omega)) | decide)
      simp only [hw, go_sem, ↓reduceIte, Nat.reduceEqDiff, Nat.reduceAdd, reduceCtorEq]
      refine ⟨fun hc3 => ?_, fun hc3 => ?_⟩
      · have hbt : bitC m k = true := beq_iff_eq.2 hc3
        rw [hbt, if_pos rfl] at hcs
        (repeat first | simp only [go_sem, ↓reduceIte, Nat.reduceEqDiff, Nat.reduceAdd, reduceCtorEq] | with_reducible refine V_W ?_ | (with_reducible refine And.intro ?_ ?_; focus first | assumption | omega | decide | grind) | (with_reducible refine Br.mk ?_ ?_; focus (intros; omega)) | decide)
        refine ⟨k + 1, by omega, by omega, ?_⟩
        rw [hcs]
        refine Ref.gc [0, 1, 2, 3, 6] rfl ?_ (by simp [sub, fget, go_sem, ↓reduceIte, Nat.reduceEqDiff, Nat.reduceAdd, reduceCtorEq])
        (try simp only [go_sem, ↓reduceIte, Nat.reduceEqDiff, Nat.reduceAdd, reduceCtorEq, take_len, one_intsC, app_intsC])
      · have hbt : bitC m k = false := beq_eq_false_iff_ne.2 hc3
        rw [hbt, if_neg (by simp)] at hcs
        (repeat first | simp only [go_sem, ↓reduceIte, Nat.reduceEqDiff, Nat.reduceAdd, reduceCtorEq] | with_reducible refine V_W ?_ | (with_reducible refine And.intro ?_ ?_; focus first | assumption | omega | decide | grind) | (with_reducible refine Br.mk ?_ ?_; focus (intros; omega)) | decide)
        refine ⟨k + 1, by omega, by omega, ?_⟩
        rw [hcs]
        exact Ref.frame (by simp [sub, fget])
    · obtain rfl : k = es.length := by omega
      have sL : sst L := hL ▸ chN_sst hesS m es.length (Nat.le_refl _)
      have mL : ∀ e ∈ L, 0 ≤ e ∧ e < R.length := fun e he => by
        obtain ⟨j, hj, rfl⟩ := mem_chN (hL ▸ he) (Nat.le_refl _)
        exact hem j hj
      have iL : inB L := fun e he => by have := mL e he; omega
      have gL : ∀ j, j < L.length → 0 ≤ L.getD j 0 ∧ L.getD j 0 ≤ (R.length : Int) - 1 := fun j hj => by
        have := mL (L.getD j 0) (by rw [getD_el L j hj]; exact List.getElem_mem hj)
        omega
      rw [hL] at hTs
      (repeat first | simp only [go_sem, ↓reduceIte, Nat.reduceEqDiff, Nat.reduceAdd, reduceCtorEq] | with_reducible refine V_W ?_ | (with_reducible refine And.intro ?_ ?_; focus first | assumption | omega | decide | grind) | (with_reducible refine Br.mk ?_ ?_; focus (intros; omega)) | decide)
      refine GCall.mk (bl (lexL L (best.getD [])) ) (fun hg => by first | exact pureC ( less_c L (best.getD []) (by omega) (by omega)) (by simp only [go_sem, ↓reduceIte, Nat.reduceEqDiff, Nat.reduceAdd, reduceCtorEq] <;> rfl) (by first | rfl | simp only [go_sem, ↓reduceIte, Nat.reduceEqDiff, Nat.reduceAdd, reduceCtorEq]) (by first | exact ⟨rfl, rfl⟩ | simp only [go_sem, ↓reduceIte, Nat.reduceEqDiff, Nat.reduceAdd, reduceCtorEq]) | exact ⟨hg, pureC ( less_c L (best.getD []) (by omega) (by omega)) (by simp only [go_sem, ↓reduceIte, Nat.reduceEqDiff, Nat.reduceAdd, reduceCtorEq] <;> rfl) (by first | rfl | simp only [go_sem, ↓reduceIte, Nat.reduceEqDiff, Nat.reduceAdd, reduceCtorEq]) (by first | exact ⟨rfl, rfl⟩ | simp only [go_sem, ↓reduceIte, Nat.reduceEqDiff, Nat.reduceAdd, reduceCtorEq])⟩ | exact ⟨by grind, pureC ( less_c L (best.getD []) (by omega) (by omega)) (by simp only [go_sem, ↓reduceIte, Nat.reduceEqDiff, Nat.reduceAdd, reduceCtorEq] <;> rfl) (by first | rfl | simp only [go_sem, ↓reduceIte, Nat.reduceEqDiff, Nat.reduceAdd, reduceCtorEq]) (by first | exact ⟨rfl, rfl⟩ | simp only [go_sem, ↓reduceIte, Nat.reduceEqDiff, Nat.reduceAdd, reduceCtorEq])⟩) ?_
      (repeat first | simp only [go_sem, ↓reduceIte, Nat.reduceEqDiff, Nat.reduceAdd, reduceCtorEq] | with_reducible refine V_W ?_ | (with_reducible refine And.intro ?_ ?_; focus first | assumption | omega | decide | grind) | (with_reducible refine Br.mk ?_ ?_; focus (intros; omega)) | decide)
      refine GCall.mk (ints (bdS R B L) ) (fun hg => by first | exact call_fresh ( fresh_ints (l16Boundary_p r R B L h1 a4 hr hro (fun x hx => by have := hrk x hx; omega) (by omega) gL)) (by simp only [go_sem, ↓reduceIte, Nat.reduceEqDiff, Nat.reduceAdd, reduceCtorEq] <;> rfl) ⟨rfl, rfl⟩ | exact ⟨hg, call_fresh ( fresh_ints (l16Boundary_p r R B L h1 a4 hr hro (fun x hx => by have := hrk x hx; omega) (by omega) gL)) (by simp only [go_sem, ↓reduceIte, Nat.reduceEqDiff, Nat.reduceAdd, reduceCtorEq] <;> rfl) ⟨rfl, rfl⟩⟩ | exact ⟨by grind, call_fresh ( fresh_ints (l16Boundary_p r R B L h1 a4 hr hro (fun x hx => by have := hrk x hx; omega) (by omega) gL)) (by simp only [go_sem, ↓reduceIte, Nat.reduceEqDiff, Nat.reduceAdd, reduceCtorEq] <;> rfl) ⟨rfl, rfl⟩⟩) ?_
      (repeat first | simp only [go_sem, ↓reduceIte, Nat.reduceEqDiff, Nat.reduceAdd, reduceCtorEq] | with_reducible refine V_W ?_ | (with_reducible refine And.intro ?_ ?_; focus first | assumption | omega | decide | grind) | (with_reducible refine Br.mk ?_ ?_; focus (intros; omega)) | decide)
      refine ⟨fun hc4 => ?_, fun hc4 => ?_⟩
      · have hnu : T (m + 1) = best := by
          rw [hTs]
          unfold ups
          rw [if_neg]
          rintro ⟨u1, u2, u3⟩
          rw [u2] at hc4
          cases best with
          | none => simp at hc4
          | some b =>
            have u4 := u1 b rfl
            simp only [Option.getD_some, Option.isSome_some, true_and, List.length_nil] at hc4
            rcases hc4 with (hc4 | ⟨hc4, hc5⟩) | hc4
            · omega
            · rcases u4 with u4 | ⟨u4, u5⟩
              · omega
              · rw [u5] at hc5; cases hc5
            · omega
        (repeat first | simp only [go_sem, ↓reduceIte, Nat.reduceEqDiff, Nat.reduceAdd, reduceCtorEq] | with_reducible refine V_W ?_ | (with_reducible refine And.intro ?_ ?_; focus first | assumption | omega | decide | grind) | (with_reducible refine Br.mk ?_ ?_; focus (intros; omega)) | decide)
        refine ⟨m + 1, ⟨by omega, by omega⟩, by omega, ?_⟩
        rw [hnu]
        exact Ref.gc [0, 1, 2, 3] rfl (by simp only [go_sem, ↓reduceIte, Nat.reduceEqDiff, Nat.reduceAdd, reduceCtorEq]) (by simp [sub, fget, go_sem, ↓reduceIte, Nat.reduceEqDiff, Nat.reduceAdd, reduceCtorEq])
      · have hb0 : bdS R B L = [] := List.eq_nil_of_length_eq_zero (by omega)
        have hpre : ∀ b, best = some b → L.length < b.length ∨ (L.length = b.length ∧ lexL L b = true) := fun b hb => by
          subst hb
          have h6 := hc4.1
          simp only [Option.getD_some, Option.isSome_some, Bool.true_eq_false, false_or] at h6
          obtain ⟨h7, h8⟩ := h6
          rcases h8 with h8 | h8
          · left; omega
          · by_cases h9 : L.length = b.length
            · exact .inr ⟨h9, h8⟩
            · left; omega
        (repeat first | simp only [go_sem, ↓reduceIte, Nat.reduceEqDiff, Nat.reduceAdd, reduceCtorEq] | with_reducible refine V_W ?_ | (with_reducible refine And.intro ?_ ?_; focus first | assumption | omega | decide | grind) | (with_reducible refine Br.mk ?_ ?_; focus (intros; omega)) | decide)
        refine wriEC (l16Reduce_h P L hPl hPo sL iL) [4] (by first | rfl | simp) (by simp only [go_sem, ↓reduceIte, Nat.reduceEqDiff, Nat.reduceAdd, reduceCtorEq] <;> rfl) (by simp only [go_sem, ↓reduceIte, Nat.reduceEqDiff, Nat.reduceAdd, reduceCtorEq] <;> rfl) (fun o => by
          obtain ⟨b, C, D⟩ := o
          cases b <;> simp only [cond_true, cond_false, go_sem, ↓reduceIte, Nat.reduceEqDiff, Nat.reduceAdd, reduceCtorEq]) fun o ho => ?_
        obtain ⟨fl, C, D⟩ := o
        obtain ⟨⟨hA, hdn, sC, sD, bC, bD⟩, hfl⟩ := ho
        have hno := noB_iff (blw_sst hss) lead_head hPv sL hA hdn
        dsimp only at hA hdn sC sD bC bD hfl hno ⊢
        have lD := len_500 sD bD
        have hup : 0 < D.length → T (m + 1) = some L := fun h => by
          rw [hTs]
          unfold ups
          rw [if_pos ⟨hpre, hb0, hno.2 (List.length_pos_iff.1 h)⟩]
        have hnu : ¬ 0 < D.length → T (m + 1) = best := fun h => by
          rw [hTs]
          unfold ups
          rw [if_neg (fun hu => h (List.length_pos_iff.2 (hno.1 hu.2.2)))]
        cases fl
        · obtain rfl := hfl rfl
          simp only [cond_false]
          (repeat first | simp only [go_sem, ↓reduceIte, Nat.reduceEqDiff, Nat.reduceAdd, reduceCtorEq] | with_reducible refine V_W ?_ | (with_reducible refine And.intro ?_ ?_; focus first | assumption | omega | decide | grind) | (with_reducible refine Br.mk ?_ ?_; focus (intros; omega)) | decide)
          refine ⟨fun hc5 => ?_, fun hc5 => ?_⟩
          · (repeat first | simp only [go_sem, ↓reduceIte, Nat.reduceEqDiff, Nat.reduceAdd, reduceCtorEq] | with_reducible refine V_W ?_ | (with_reducible refine And.intro ?_ ?_; focus first | assumption | omega | decide | grind) | (with_reducible refine Br.mk ?_ ?_; focus (intros; omega)) | decide)
            refine ⟨m + 1, ⟨by omega, by omega⟩, by omega, ?_⟩
            rw [hup (by omega)]
            exact Ref.gc [0, 1, 4, 3] rfl (by simp only [Option.getD_some, go_sem, ↓reduceIte, Nat.reduceEqDiff, Nat.reduceAdd, reduceCtorEq]) (by simp [sub, fget, go_sem, ↓reduceIte, Nat.reduceEqDiff, Nat.reduceAdd, reduceCtorEq])
          · (repeat first | simp only [go_sem, ↓reduceIte, Nat.reduceEqDiff, Nat.reduceAdd, reduceCtorEq] | with_reducible refine V_W ?_ | (with_reducible refine And.intro ?_ ?_; focus first | assumption | omega | decide | grind) | (with_reducible refine Br.mk ?_ ?_; focus (intros; omega)) | decide)
            refine ⟨m + 1, ⟨by omega, by omega⟩, by omega, ?_⟩
            rw [hnu (by omega)]
            exact Ref.gc [0, 1, 2, 3] rfl (by simp only [go_sem, ↓reduceIte, Nat.reduceEqDiff, Nat.reduceAdd, reduceCtorEq]) (by simp [sub, fget, go_sem, ↓reduceIte, Nat.reduceEqDiff, Nat.reduceAdd, reduceCtorEq])
        · simp only [cond_true]
          (repeat first | simp only [go_sem, ↓reduceIte, Nat.reduceEqDiff, Nat.reduceAdd, reduceCtorEq] | with_reducible refine V_W ?_ | (with_reducible refine And.intro ?_ ?_; focus first | assumption | omega | decide | grind) | (with_reducible refine Br.mk ?_ ?_; focus (intros; omega)) | decide)
          refine ⟨fun hc5 => ?_, fun hc5 => ?_⟩
          · (repeat first | simp only [go_sem, ↓reduceIte, Nat.reduceEqDiff, Nat.reduceAdd, reduceCtorEq] | with_reducible refine V_W ?_ | (with_reducible refine And.intro ?_ ?_; focus first | assumption | omega | decide | grind) | (with_reducible refine Br.mk ?_ ?_; focus (intros; omega)) | decide)
            refine ⟨m + 1, ⟨by omega, by omega⟩, by omega, ?_⟩
            rw [hup (by omega)]
            exact Ref.gc [0, 1, 4, 3] rfl (by simp only [Option.getD_some, go_sem, ↓reduceIte, Nat.reduceEqDiff, Nat.reduceAdd, reduceCtorEq]) (by simp [sub, fget, go_sem, ↓reduceIte, Nat.reduceEqDiff, Nat.reduceAdd, reduceCtorEq])
          · (repeat first | simp only [go_sem, ↓reduceIte, Nat.reduceEqDiff, Nat.reduceAdd, reduceCtorEq] | with_reducible refine V_W ?_ | (with_reducible refine And.intro ?_ ?_; focus first | assumption | omega | decide | grind) | (with_reducible refine Br.mk ?_ ?_; focus (intros; omega)) | decide)
            refine ⟨m + 1, ⟨by omega, by omega⟩, by omega, ?_⟩
            rw [hnu (by omega)]
            exact Ref.gc [0, 1, 2, 3] rfl (by simp only [go_sem, ↓reduceIte, Nat.reduceEqDiff, Nat.reduceAdd, reduceCtorEq]) (by simp [sub, fget, go_sem, ↓reduceIte, Nat.reduceEqDiff, Nat.reduceAdd, reduceCtorEq])
  · obtain rfl : m = 2 ^ es.length := by omega
    rw [hbe] at hs ⊢
    cases best with
    | none =>
      obtain rfl : s = false := by rw [← hs]; rfl
      (repeat first | simp only [go_sem, ↓reduceIte, Nat.reduceEqDiff, Nat.reduceAdd, reduceCtorEq] | with_reducible refine V_W ?_ | (with_reducible refine And.intro ?_ ?_; focus first | assumption | omega | decide | grind) | (with_reducible refine Br.mk ?_ ?_; focus (intros; omega)) | decide)
      refine ⟨fun _ => ?_, fun h => (by cases h)⟩
      (repeat first | simp only [go_sem, ↓reduceIte, Nat.reduceEqDiff, Nat.reduceAdd, reduceCtorEq] | with_reducible refine V_W ?_ | (with_reducible refine And.intro ?_ ?_; focus first | assumption | omega | decide | grind) | (with_reducible refine Br.mk ?_ ?_; focus (intros; omega)) | decide)
    | some b =>
      obtain rfl : s = true := by rw [← hs]; rfl
      (repeat first | simp only [go_sem, ↓reduceIte, Nat.reduceEqDiff, Nat.reduceAdd, reduceCtorEq] | with_reducible refine V_W ?_ | (with_reducible refine And.intro ?_ ?_; focus first | assumption | omega | decide | grind) | (with_reducible refine Br.mk ?_ ?_; focus (intros; omega)) | decide)

theorem lcV_len (r : Int) (R : List Int) (B : List (List Int)) : (lcV r R B).length ≤ 1099511627776 := by
  unfold lcV
  split
  · rename_i h
    unfold lcO
    cases hb : bsts R B (plc R 1) (2 ^ (plc R 1).length) with
    | none => simp
    | some b =>
      have := (bsts_ok R B (plc R 1) h.2.2 _ b hb).2
      simp only [Option.getD_some]
      omega
  · simp

/-- The answer, from the ways that it comes about. -/
theorem lc_of {f : FuncId} {args : List AV} {r : Int} {R : List Int} {B : List (List Int)}
    (h1 : ¬ IsPos r R B → Gov.Pure Try.prog f args (.tup [nilS, i64 1]) [])
    (h2 : IsPos r R B → ¬ IsEv R B → Gov.Pure Try.prog f args (.tup [nilS, i64 5]) [])
    (h3 : IsPos r R B → IsEv R B → ¬ (plc R 1).length ≤ 14 → Gov.Pure Try.prog f args (.tup [nilS, i64 3]) [])
    (h4 : IsPos r R B → IsEv R B → (plc R 1).length ≤ 14 → Gov.Pure Try.prog f args (.tup [bif (lcO R B).isSome then .sl 0 1 0 ((lcO R B).getD []).length else nilS, i64 (bif (lcO R B).isSome then 0 else 4)]) (bif (lcO R B).isSome then [some (intsC ((lcO R B).getD []))] else [])) :
    Gov.Pure Try.prog f args (.tup [.sl 0 1 0 (lcV r R B).length, i64 (lcC r R B)]) [some (intsC (lcV r R B))] := by
  unfold lcV lcC
  by_cases hp : IsPos r R B
  · by_cases he : IsEv R B
    · by_cases hl : (plc R 1).length ≤ 14
      · rw [if_pos ⟨hp, he, hl⟩, if_pos hp, if_pos he, if_pos hl]
        have h := h4 hp he hl
        cases hO : lcO R B with
        | none =>
          rw [hO] at h
          simp only [Option.isSome_none, cond_false] at h
          exact pure_nil 1 h
        | some b =>
          rw [hO] at h
          simp only [Option.isSome_some, cond_true] at h
          exact h
      · rw [if_neg (fun h => hl h.2.2), if_pos hp, if_pos he, if_neg hl]
        exact pure_nil 1 (h3 hp he hl)
    · rw [if_neg (fun h => he h.2.1), if_pos hp, if_neg he]
      exact pure_nil 1 (h2 hp he)
  · rw [if_neg (fun h => hp h.1), if_neg hp]
    exact pure_nil 1 (h1 hp)

set_option maxHeartbeats 2000000 in
theorem specLc_c (r : Int) (R : List Int) (B : List (List Int)) (h1 : R.length ≤ 1048576) (hl : B.length ≤ 1048576) (hr : ∀ xs ∈ B, xs.length ≤ 1048576) : Pure Try.prog 30 [posetA r R B] (.tup [.sl 0 1 0 (lcV r R B).length, i64 (lcC r R B)]) [some (intsC (lcV r R B))] := by
  have gr : ∀ xs ∈ B, xs.length ≤ 1099511627776 := fun xs hx => by have := hr xs hx; omega
  refine lc_of (fun hp => ?_) (fun hp he => ?_) (fun hp he h14 => ?_) (fun hp he h14 => specLc_w r R B _ h1 hr hp he h14 rfl)
  · have hpd : decide (IsPos r R B) = false := decide_eq_false hp
    refine pureV0 ok30 rfl rfl ?_; unfold c30
    (repeat first | simp only [go_sem, ↓reduceIte, Nat.reduceEqDiff, Nat.reduceAdd, reduceCtorEq] | with_reducible refine V_W ?_ | (with_reducible refine And.intro ?_ ?_; focus first | assumption | omega | decide | grind) | (with_reducible refine Br.mk ?_ ?_; focus (intros; omega)) | decide)
    refine pureC (l03Is_c r R B (by omega) (by omega) gr) (by simp only [go_sem, ↓reduceIte, Nat.reduceEqDiff, Nat.reduceAdd, reduceCtorEq] <;> rfl) (by first | rfl | simp only [go_sem, ↓reduceIte, Nat.reduceEqDiff, Nat.reduceAdd, reduceCtorEq]) ?_
    simp only [hpd, go_sem, ↓reduceIte, Nat.reduceEqDiff, Nat.reduceAdd, reduceCtorEq]
    (repeat first | simp only [go_sem, ↓reduceIte, Nat.reduceEqDiff, Nat.reduceAdd, reduceCtorEq] | with_reducible refine V_W ?_ | (with_reducible refine And.intro ?_ ?_; focus first | assumption | omega | decide | grind) | (with_reducible refine Br.mk ?_ ?_; focus (intros; omega)) | decide)
  · have hpd : decide (IsPos r R B) = true := decide_eq_true hp
    have hed : decide (IsEv R B) = false := decide_eq_false he
    refine pureV0 ok30 rfl rfl ?_; unfold c30
    (repeat first | simp only [go_sem, ↓reduceIte, Nat.reduceEqDiff, Nat.reduceAdd, reduceCtorEq] | with_reducible refine V_W ?_ | (with_reducible refine And.intro ?_ ?_; focus first | assumption | omega | decide | grind) | (with_reducible refine Br.mk ?_ ?_; focus (intros; omega)) | decide)
    refine pureC (l03Is_c r R B (by omega) (by omega) gr) (by simp only [go_sem, ↓reduceIte, Nat.reduceEqDiff, Nat.reduceAdd, reduceCtorEq] <;> rfl) (by first | rfl | simp only [go_sem, ↓reduceIte, Nat.reduceEqDiff, Nat.reduceAdd, reduceCtorEq]) ?_
    simp only [hpd, go_sem, ↓reduceIte, Nat.reduceEqDiff, Nat.reduceAdd, reduceCtorEq]
    (repeat first | simp only [go_sem, ↓reduceIte, Nat.reduceEqDiff, Nat.reduceAdd, reduceCtorEq] | with_reducible refine V_W ?_ | (with_reducible refine And.intro ?_ ?_; focus first | assumption | omega | decide | grind) | (with_reducible refine Br.mk ?_ ?_; focus (intros; omega)) | decide)
    refine pureC (l16Even_c r R B hp hr) (by simp only [go_sem, ↓reduceIte, Nat.reduceEqDiff, Nat.reduceAdd, reduceCtorEq] <;> rfl) (by first | rfl | simp only [go_sem, ↓reduceIte, Nat.reduceEqDiff, Nat.reduceAdd, reduceCtorEq]) ?_
    simp only [hed, go_sem, ↓reduceIte, Nat.reduceEqDiff, Nat.reduceAdd, reduceCtorEq]
    (repeat first | simp only [go_sem, ↓reduceIte, Nat.reduceEqDiff, Nat.reduceAdd, reduceCtorEq] | with_reducible refine V_W ?_ | (with_reducible refine And.intro ?_ ?_; focus first | assumption | omega | decide | grind) | (with_reducible refine Br.mk ?_ ?_; focus (intros; omega)) | decide)
  · have hpd : decide (IsPos r R B) = true := decide_eq_true hp
    have hed : decide (IsEv R B) = true := decide_eq_true he
    have hes := l16Rank_p r R B 1 (by omega)
    have hel := plcN_len R 1 R.length
    change (plc R 1).length ≤ R.length at hel
    generalize plc R 1 = es at hes h14 hel
    refine pureV0 ok30 rfl rfl ?_; unfold c30
    (repeat first | simp only [go_sem, ↓reduceIte, Nat.reduceEqDiff, Nat.reduceAdd, reduceCtorEq] | with_reducible refine V_W ?_ | (with_reducible refine And.intro ?_ ?_; focus first | assumption | omega | decide | grind) | (with_reducible refine Br.mk ?_ ?_; focus (intros; omega)) | decide)
    refine pureC (l03Is_c r R B (by omega) (by omega) gr) (by simp only [go_sem, ↓reduceIte, Nat.reduceEqDiff, Nat.reduceAdd, reduceCtorEq] <;> rfl) (by first | rfl | simp only [go_sem, ↓reduceIte, Nat.reduceEqDiff, Nat.reduceAdd, reduceCtorEq]) ?_
    simp only [hpd, go_sem, ↓reduceIte, Nat.reduceEqDiff, Nat.reduceAdd, reduceCtorEq]
    (repeat first | simp only [go_sem, ↓reduceIte, Nat.reduceEqDiff, Nat.reduceAdd, reduceCtorEq] | with_reducible refine V_W ?_ | (with_reducible refine And.intro ?_ ?_; focus first | assumption | omega | decide | grind) | (with_reducible refine Br.mk ?_ ?_; focus (intros; omega)) | decide)
    refine pureC (l16Even_c r R B hp hr) (by simp only [go_sem, ↓reduceIte, Nat.reduceEqDiff, Nat.reduceAdd, reduceCtorEq] <;> rfl) (by first | rfl | simp only [go_sem, ↓reduceIte, Nat.reduceEqDiff, Nat.reduceAdd, reduceCtorEq]) ?_
    simp only [hed, go_sem, ↓reduceIte, Nat.reduceEqDiff, Nat.reduceAdd, reduceCtorEq]
    (repeat first | simp only [go_sem, ↓reduceIte, Nat.reduceEqDiff, Nat.reduceAdd, reduceCtorEq] | with_reducible refine V_W ?_ | (with_reducible refine And.intro ?_ ?_; focus first | assumption | omega | decide | grind) | (with_reducible refine Br.mk ?_ ?_; focus (intros; omega)) | decide)
    refine pureC (hes) (by simp only [go_sem, ↓reduceIte, Nat.reduceEqDiff, Nat.reduceAdd, reduceCtorEq] <;> rfl) (by first | rfl | simp only [go_sem, ↓reduceIte, Nat.reduceEqDiff, Nat.reduceAdd, reduceCtorEq]) ?_
    (repeat first | simp only [go_sem, ↓reduceIte, Nat.reduceEqDiff, Nat.reduceAdd, reduceCtorEq] | with_reducible refine V_W ?_ | (with_reducible refine And.intro ?_ ?_; focus first | assumption | omega | decide | grind) | (with_reducible refine Br.mk ?_ ?_; focus (intros; omega)) | decide)
    refine ⟨fun _ => ?_, fun hx => ?_⟩
    · (repeat first | simp only [go_sem, ↓reduceIte, Nat.reduceEqDiff, Nat.reduceAdd, reduceCtorEq] | with_reducible refine V_W ?_ | (with_reducible refine And.intro ?_ ?_; focus first | assumption | omega | decide | grind) | (with_reducible refine Br.mk ?_ ?_; focus (intros; omega)) | decide)
    · exact absurd hx (by omega)
end Go.Proofs.Ytmiapnfhlhgefaa
