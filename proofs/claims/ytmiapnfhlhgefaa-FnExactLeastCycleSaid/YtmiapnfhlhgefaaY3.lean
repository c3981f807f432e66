/- Texts that belong together. -/
import Derived.Test.YtmiapnfhlhgefaaZq
import Derived.Test.YtmiapnfhlhgefaaY2
set_option linter.unusedSimpArgs false
set_option linter.unusedVariables false
set_option maxRecDepth 100000
namespace Go.Gov
variable {P : Program} {N : Nat} {F : Frame} {H : Heap} {M : List Nat} {n0 : Nat}
/-- One object more, of which nothing is known. -/
theorem Ref.pad : Ref n0 F H F (H ++ [none]) := Ref.core fun g w hp => by
  have hal : ∀ (x : Nat) (c : List AV), (H ++ [none])[x]? = some (some c) → H[x]? = some (some c) := fun x c h => by
    rcases Nat.lt_or_ge x H.length with h' | h'
    · rwa [List.getElem?_append_left h'] at h
    · rw [List.getElem?_append_right h'] at h
      cases hx : x - H.length with
      | zero => rw [hx] at h; simp at h
      | succ k => rw [hx] at h; simp at h
  have htr : ∀ x d, g.tr H x = some d → g.tr (H ++ [none]) x = some d := fun x d hd => by
    have hxl := tr_lt hd
    unfold Gh.tr at *
    rwa [List.getElem?_append_left hxl]
  refine ⟨g, ⟨fun x c hx => (hp.obj x c (hal x c hx)).mono (fun _ h => h) (fun _ _ => rfl) (fun x d hd => .inl (htr x d hd)) (fun _ _ => rfl), fun x c hx => hp.nodup x c (hal x c hx), fun x y c d hx hy => hp.apart x y c d (hal x c hx) (hal y d hy), fun x c hx => hp.free x c (hal x c hx), hp.low⟩, fun b ⟨x, c, hx, hb⟩ => ⟨x, c, hal x c hx, hb⟩, rfl, fun x d hd => .inl (htr x d hd)⟩
end Go.Gov
namespace Go.Proofs.Ytmiapnfhlhgefaa
open Go.Gov
open Classical

def piF (p : Pr) : AV := .agg [ints p.1, ints p.2]
def piO (p : Pr) : AV := .oag [oints p.1, oints p.2]
theorem piF_app (p : Pr) : piF p = .agg [ints p.1, ints p.2] := rfl
theorem frz_piO (H : Heap) (d : Nat) (p : Pr) : frz H (d + 3) (piO p) = piF p := by
  simp only [piO, piF, frz, List.map_cons, List.map_nil]
  rw [map_frz_ints, map_frz_ints]
theorem frz_piF (H : Heap) (d : Nat) (p : Pr) : frz H (d + 3) (piF p) = piF p := by
  simp only [piF, frz, List.map_cons, List.map_nil]
  rw [map_frz_ints, map_frz_ints]
theorem rnm_piF (τ : Nat → Option Nat) (p : Pr) : rnm τ (piF p) = piF p := by simp [piF, rnm, rnmL, rnmL_ints]
theorem rnm_piO (τ : Nat → Option Nat) (p : Pr) : rnm τ (piO p) = piO p := by simp [piO, rnm, rnmL, rnmL_ints]
theorem imap_piF (l : List (Int × Pr)) : imap (fun x => piF x) l = imap piF l := rfl
theorem imap_piO (l : List (Int × Pr)) : imap (fun x => piO x) l = imap piO l := rfl
theorem plain_agg (cs : List AV) : plainC (.agg cs) = true := rfl
attribute [go_sem] plain_agg frz_piO frz_piF rnm_piF rnm_piO imap_piF imap_piO

def lstM (D : List Int) : Nat := match D.getLast? with
  | none => 0
  | some d => (d + 1).toNat
theorem last_at {c : List Int} (h : 0 < c.length) : c.getLast? = some (c.getD (c.length - 1) 0) := by
  rw [List.getLast?_eq_getElem?, getD_el c _ (by omega), List.getElem?_eq_getElem (by omega)]
theorem lstM_lt {a b : List Int} (ha : sst a) (hb : sst b) (ia : inB a) (h1 : 0 < a.length) (h2 : 0 < b.length) (h : b.getD (b.length - 1) 0 = a.getD (a.length - 1) 0) : lstM (sumL a b) < lstM a := by
  have hA : lstM a = (a.getD (a.length - 1) 0 + 1).toNat := by unfold lstM; rw [last_at h1]
  have ma := (last_max ha).1 (last_at h1)
  have mb := (last_max hb).1 (last_at h2)
  have hr := ia _ ma.1
  rw [hA]
  unfold lstM
  cases hs : (sumL a b).getLast? with
  | none => dsimp only; omega
  | some d =>
    dsimp only
    have hd := ((last_max (sum_sst ha hb)).1 hs).1
    have hm := (mem_sum ha hb d).1 hd
    have hne : d ≠ a.getD (a.length - 1) 0 := fun e => hm (iff_of_true (e ▸ ma.1) (by rw [e, ← h]; exact mb.1))
    by_cases h6 : d ∈ a
    · have := ma.2 d h6; omega
    · by_cases h7 : d ∈ b
      · have := mb.2 d h7; omega
      · exact absurd (iff_of_false h6 h7) hm

/-- The kept ones under the greatest elements of their boundaries. -/
def KepOk (m : List (Int × Pr)) : Prop := (∀ q ∈ m, q.2.2.getLast? = some q.1) ∧ PvOk (m.map (·.2))
theorem two_len (a b : List Int) : ([a, b].flatten).length = a.length + b.length := by simp

set_option maxHeartbeats 8000000 in
theorem reduce_w (m : List (Int × Pr)) (C0 D0 : List Int) (hok : KepOk m) (hC : sst C0) (hD : sst D0) (bC : inB C0) (bD : inB D0) :
    WriE Try.prog 77 [.mpz (imap piF m), .agg [.sl 0 1 0 C0.length, .sl 1 1 0 D0.length]] [some (intsC C0), some (intsC D0)] (RedE List.getLast? (m.map (·.2)) (C0, D0)) (fun y => .agg [.sl 2 1 0 y.1.length, .sl 3 1 0 y.2.length]) (fun y => [none, none, some (intsC y.1), some (intsC y.2)]) := by
  refine wriEV [0, 1, 4, 5] ok77 rfl ?_; unfold c77
  (repeat first | simp only [go_sem, ↓reduceIte, Nat.reduceEqDiff, Nat.reduceAdd, reduceCtorEq] | with_reducible refine V_W ?_ | (with_reducible refine And.intro ?_ ?_; focus first | assumption | omega | decide | grind) | (with_reducible refine Br.mk ?_ ?_; focus (intros; omega)) | decide)
  refine V_loop (α := Pr) (S := fun p => ([(0, .mpz (imap piF m)), (3, .ref 2 0), (4, .ref 3 0)], [none, none, some [.sl 4 1 0 p.1.length, .sl 5 1 0 p.2.length], some [nilS, nilS], some (intsC p.1), some (intsC p.2)])) (C := fun p => Adds (m.map (·.2)) (C0, D0) p ∧ sst p.1 ∧ sst p.2 ∧ inB p.1 ∧ inB p.2) (μ := fun p => lstM p.2) (C0, D0) ⟨.refl _, hC, hD, bC, bD⟩ ?_ ?_
  · refine (Ref.mv 0 (cs := intsC C0) rfl (F' := [(0, .mpz (imap piF m)), (3, .ref 2 0), (4, .ref 3 0)]) (H' := [none, some (intsC D0), some [.sl 4 1 0 C0.length, .sl 1 1 0 D0.length], some [nilS, nilS], some (intsC C0)]) (by simp only [go_sem, ↓reduceIte, Nat.reduceEqDiff, Nat.reduceAdd, reduceCtorEq]) (by simp [sub, fget, go_sem, ↓reduceIte, Nat.reduceEqDiff, Nat.reduceAdd, reduceCtorEq])).trans ?_
    refine (Ref.mv 1 (cs := intsC D0) rfl (F' := [(0, .mpz (imap piF m)), (3, .ref 2 0), (4, .ref 3 0)]) (H' := [none, none, some [.sl 4 1 0 C0.length, .sl 5 1 0 D0.length], some [nilS, nilS], some (intsC C0), some (intsC D0)]) (by simp only [go_sem, ↓reduceIte, Nat.reduceEqDiff, Nat.reduceAdd, reduceCtorEq]) (by simp [sub, fget, go_sem, ↓reduceIte, Nat.reduceEqDiff, Nat.reduceAdd, reduceCtorEq])).trans ?_
    exact Ref.to rfl (by simp [sub, fget])
  rintro ⟨C, D⟩ ⟨hA, sC, sD, bC', bD'⟩
  dsimp only at hA sC sD bC' bD' ⊢
  have lC := len_500 sC bC'
  have lD := len_500 sD bD'
  (repeat first | simp only [go_sem, ↓reduceIte, Nat.reduceEqDiff, Nat.reduceAdd, reduceCtorEq] | with_reducible refine V_W ?_ | (with_reducible refine And.intro ?_ ?_; focus first | assumption | omega | decide | grind) | (with_reducible refine Br.mk ?_ ?_; focus (intros; omega)) | decide)
  refine ⟨fun hc => ?_, fun hc => ?_⟩
  · have hD1 := last_at (c := D) (by omega)
    cases hlk : ilook (D.getD (D.length - 1) 0) m with
    | none =>
      (repeat first | simp only [go_sem, ↓reduceIte, Nat.reduceEqDiff, Nat.reduceAdd, reduceCtorEq] | with_reducible refine V_W ?_ | (with_reducible refine And.intro ?_ ?_; focus first | assumption | omega | decide | grind) | (with_reducible refine Br.mk ?_ ?_; focus (intros; omega)) | decide)
      simp only [hlk, go_sem, ↓reduceIte, Nat.reduceEqDiff, Nat.reduceAdd, reduceCtorEq]
      (repeat first | simp only [go_sem, ↓reduceIte, Nat.reduceEqDiff, Nat.reduceAdd, reduceCtorEq] | with_reducible refine V_W ?_ | (with_reducible refine And.intro ?_ ?_; focus first | assumption | omega | decide | grind) | (with_reducible refine Br.mk ?_ ?_; focus (intros; omega)) | decide)
      refine ⟨(C, D), ⟨hA, .inr fun q hq => ?_, sC, sD, bC', bD'⟩, rfl, rfl⟩
      obtain ⟨z, hz, rfl⟩ := List.mem_map.1 hq
      rw [hok.1 z hz, hD1]
      intro h
      exact ilook_none.1 hlk (List.mem_map.2 ⟨z, hz, Option.some.inj h⟩)
    | some p =>
      (repeat first | simp only [go_sem, ↓reduceIte, Nat.reduceEqDiff, Nat.reduceAdd, reduceCtorEq] | with_reducible refine V_W ?_ | (with_reducible refine And.intro ?_ ?_; focus first | assumption | omega | decide | grind) | (with_reducible refine Br.mk ?_ ?_; focus (intros; omega)) | decide)
      simp only [hlk, piF_app, go_sem, ↓reduceIte, Nat.reduceEqDiff, Nat.reduceAdd, reduceCtorEq]
      (repeat first | simp only [go_sem, ↓reduceIte, Nat.reduceEqDiff, Nat.reduceAdd, reduceCtorEq] | with_reducible refine V_W ?_ | (with_reducible refine And.intro ?_ ?_; focus first | assumption | omega | decide | grind) | (with_reducible refine Br.mk ?_ ?_; focus (intros; omega)) | decide)
      have hpm : p ∈ m.map (·.2) := List.mem_map.2 ⟨_, ilook_mem hlk, rfl⟩
      have hp := hok.2 p hpm
      have hp2 : 0 < p.2.length := List.length_pos_iff.2 hp.2.2.1
      have l1 := len_500 hp.1 hp.2.2.2.1
      have l2 := len_500 hp.2.1 hp.2.2.2.2
      have hpl := hok.1 _ (ilook_mem hlk)
      rw [last_at hp2] at hpl
      have hm := lstM_lt sD hp.2.1 bD' (by omega) hp2 (Option.some.inj hpl)
      have hnx : Adds (m.map (·.2)) (C0, D0) (sumL C p.1, sumL D p.2) ∧ sst (sumL C p.1) ∧ sst (sumL D p.2) ∧ inB (sumL C p.1) ∧ inB (sumL D p.2) := ⟨hA.step hpm, sum_sst sC hp.1, sum_sst sD hp.2.1, inB_sum sC hp.1 bC' hp.2.2.2.1, inB_sum sD hp.2.1 bD' hp.2.2.2.2⟩
      have hc1 := concat_c [C, p.1] (by simp) (by simp [tot]; omega)
      have hc2 := concat_c [D, p.2] (by simp) (by simp [tot]; omega)
      have ho1 := oddOf_c [C, p.1].flatten (by simp; omega)
      have ho2 := oddOf_c [D, p.2].flatten (by simp; omega)
      have e1 : odd [C, p.1].flatten = sumL C p.1 := by simpa using odd_sum sC hp.1
      have e2 : odd [D, p.2].flatten = sumL D p.2 := by simpa using odd_sum sD hp.2.1
      rw [e1] at ho1
      rw [e2] at ho2
      refine V_alts (show LT _ _ _ _ _ _ from ?_)
      refine LT_thw ?_
      repeat' first
        | simp only [piF_app, go_sem, ↓reduceIte, Nat.reduceEqDiff, Nat.reduceAdd, reduceCtorEq]
        | with_reducible refine LT_reg ?_
        | (with_reducible refine LT_regz ?_ ?_; focus (simp only [zAd_load, zAd_loads, zPt_pto, go_sem, ↓reduceIte, Nat.reduceEqDiff, Nat.reduceAdd, reduceCtorEq]; done))
        | with_reducible refine LT_fin ?_
        | with_reducible exact LT_tt
        | with_reducible refine LT_alt ?_ ?_
        | (with_reducible refine And.intro ?_ ?_; focus first | assumption | omega | grind)
        | (refine pureC (hc1) ?_ ?_ ?_; (focus (simp only [go_sem, ↓reduceIte, Nat.reduceEqDiff, Nat.reduceAdd, reduceCtorEq] <;> rfl)); (focus first | rfl | simp only [go_sem, ↓reduceIte, Nat.reduceEqDiff, Nat.reduceAdd, reduceCtorEq]))
        | (refine pureC (hc2) ?_ ?_ ?_; (focus (simp only [go_sem, ↓reduceIte, Nat.reduceEqDiff, Nat.reduceAdd, reduceCtorEq] <;> rfl)); (focus first | rfl | simp only [go_sem, ↓reduceIte, Nat.reduceEqDiff, Nat.reduceAdd, reduceCtorEq]))
        | (refine wriC (ho1) [8] ?_ ?_ ?_ ?_ ?_; (focus first | rfl | simp); (focus (simp only [go_sem, ↓reduceIte, Nat.reduceEqDiff, Nat.reduceAdd, reduceCtorEq] <;> rfl)); (focus (simp only [go_sem, ↓reduceIte, Nat.reduceEqDiff, Nat.reduceAdd, reduceCtorEq] <;> rfl)); (focus first | rfl | simp only [go_sem, ↓reduceIte, Nat.reduceEqDiff, Nat.reduceAdd, reduceCtorEq]))
        | (refine wriC (ho2) [8] ?_ ?_ ?_ ?_ ?_; (focus first | rfl | simp); (focus (simp only [go_sem, ↓reduceIte, Nat.reduceEqDiff, Nat.reduceAdd, reduceCtorEq] <;> rfl)); (focus (simp only [go_sem, ↓reduceIte, Nat.reduceEqDiff, Nat.reduceAdd, reduceCtorEq] <;> rfl)); (focus first | rfl | simp only [go_sem, ↓reduceIte, Nat.reduceEqDiff, Nat.reduceAdd, reduceCtorEq]))
        | (refine wriC (ho1) [9] ?_ ?_ ?_ ?_ ?_; (focus first | rfl | simp); (focus (simp only [go_sem, ↓reduceIte, Nat.reduceEqDiff, Nat.reduceAdd, reduceCtorEq] <;> rfl)); (focus (simp only [go_sem, ↓reduceIte, Nat.reduceEqDiff, Nat.reduceAdd, reduceCtorEq] <;> rfl)); (focus first | rfl | simp only [go_sem, ↓reduceIte, Nat.reduceEqDiff, Nat.reduceAdd, reduceCtorEq]))
        | (refine wriC (ho2) [9] ?_ ?_ ?_ ?_ ?_; (focus first | rfl | simp); (focus (simp only [go_sem, ↓reduceIte, Nat.reduceEqDiff, Nat.reduceAdd, reduceCtorEq] <;> rfl)); (focus (simp only [go_sem, ↓reduceIte, Nat.reduceEqDiff, Nat.reduceAdd, reduceCtorEq] <;> rfl)); (focus first | rfl | simp only [go_sem, ↓reduceIte, Nat.reduceEqDiff, Nat.reduceAdd, reduceCtorEq]))
        | (refine wriC (ho1) [10] ?_ ?_ ?_ ?_ ?_; (focus first | rfl | simp); (focus (simp only [go_sem, ↓reduceIte, Nat.reduceEqDiff, Nat.reduceAdd, reduceCtorEq] <;> rfl)); (focus (simp only [go_sem, ↓reduceIte, Nat.reduceEqDiff, Nat.reduceAdd, reduceCtorEq] <;> rfl)); (focus first | rfl | simp only [go_sem, ↓reduceIte, Nat.reduceEqDiff, Nat.reduceAdd, reduceCtorEq]))
        | (refine wriC (ho2) [10] ?_ ?_ ?_ ?_ ?_; (focus first | rfl | simp); (focus (simp only [go_sem, ↓reduceIte, Nat.reduceEqDiff, Nat.reduceAdd, reduceCtorEq] <;> rfl)); (focus (simp only [go_sem, ↓reduceIte, Nat.reduceEqDiff, Nat.reduceAdd, reduceCtorEq] <;> rfl)); (focus first | rfl | simp only [go_sem, ↓reduceIte, Nat.reduceEqDiff, Nat.reduceAdd, reduceCtorEq]))
        | (refine wriC (ho1) [11] ?_ ?_ ?_ ?_ ?_; (focus first | rfl | simp); (focus (simp only [go_sem, ↓reduceIte, Nat.reduceEqDiff, Nat.reduceAdd, reduceCtorEq] <;> rfl)); (focus (simp only [go_sem, ↓reduceIte, Nat.reduceEqDiff, Nat.reduceAdd, reduceCtorEq] <;> rfl)); (focus first | rfl | simp only [go_sem, ↓reduceIte, Nat.reduceEqDiff, Nat.reduceAdd, reduceCtorEq]))
        | (refine wriC (ho2) [11] ?_ ?_ ?_ ?_ ?_; (focus first | rfl | simp); (focus (simp only [go_sem, ↓reduceIte, Nat.reduceEqDiff, Nat.reduceAdd, reduceCtorEq] <;> rfl)); (focus (simp only [go_sem, ↓reduceIte, Nat.reduceEqDiff, Nat.reduceAdd, reduceCtorEq] <;> rfl)); (focus first | rfl | simp only [go_sem, ↓reduceIte, Nat.reduceEqDiff, Nat.reduceAdd, reduceCtorEq]))
      all_goals (refine ⟨(sumL C p.1, sumL D p.2), hnx, hm, ?_⟩; first
        | (refine Ref.gc [0, 1, 2, 3, 9, 12] rfl ?_ ?_ <;> first | (simp only [go_sem, ↓reduceIte, Nat.reduceEqDiff, Nat.reduceAdd, reduceCtorEq]; done) | (simp [sub, fget, go_sem, ↓reduceIte, Nat.reduceEqDiff, Nat.reduceAdd, reduceCtorEq]; done))
        | (refine Ref.gc [0, 1, 2, 3, 10, 12] rfl ?_ ?_ <;> first | (simp only [go_sem, ↓reduceIte, Nat.reduceEqDiff, Nat.reduceAdd, reduceCtorEq]; done) | (simp [sub, fget, go_sem, ↓reduceIte, Nat.reduceEqDiff, Nat.reduceAdd, reduceCtorEq]; done))
        | (refine Ref.gc [0, 1, 2, 3, 11, 12] rfl ?_ ?_ <;> first | (simp only [go_sem, ↓reduceIte, Nat.reduceEqDiff, Nat.reduceAdd, reduceCtorEq]; done) | (simp [sub, fget, go_sem, ↓reduceIte, Nat.reduceEqDiff, Nat.reduceAdd, reduceCtorEq]; done))
        | (refine Ref.gc [0, 1, 2, 3, 12, 9] rfl ?_ ?_ <;> first | (simp only [go_sem, ↓reduceIte, Nat.reduceEqDiff, Nat.reduceAdd, reduceCtorEq]; done) | (simp [sub, fget, go_sem, ↓reduceIte, Nat.reduceEqDiff, Nat.reduceAdd, reduceCtorEq]; done))
        | (refine Ref.gc [0, 1, 2, 3, 12, 10] rfl ?_ ?_ <;> first | (simp only [go_sem, ↓reduceIte, Nat.reduceEqDiff, Nat.reduceAdd, reduceCtorEq]; done) | (simp [sub, fget, go_sem, ↓reduceIte, Nat.reduceEqDiff, Nat.reduceAdd, reduceCtorEq]; done))
        | (refine Ref.gc [0, 1, 2, 3, 12, 11] rfl ?_ ?_ <;> first | (simp only [go_sem, ↓reduceIte, Nat.reduceEqDiff, Nat.reduceAdd, reduceCtorEq]; done) | (simp [sub, fget, go_sem, ↓reduceIte, Nat.reduceEqDiff, Nat.reduceAdd, reduceCtorEq]; done)))
  · (repeat first | simp only [go_sem, ↓reduceIte, Nat.reduceEqDiff, Nat.reduceAdd, reduceCtorEq] | with_reducible refine V_W ?_ | (with_reducible refine And.intro ?_ ?_; focus first | assumption | omega | decide | grind) | (with_reducible refine Br.mk ?_ ?_; focus (intros; omega)) | decide)
    have hD0 : D = [] := List.eq_nil_of_length_eq_zero (by omega)
    exact ⟨(C, D), ⟨hA, .inl hD0, sC, sD, bC', bD'⟩, rfl, rfl⟩

set_option maxHeartbeats 8000000 in
theorem reduce_e (m : List (Int × Pr)) (D0 : List Int) (hok : KepOk m) (hD : sst D0) (bD : inB D0) :
    PureE Try.prog 77 [.mpz (imap piF m), .agg [nilS, ints D0]] (fun o : Bool × Pr => RedE List.getLast? (m.map (·.2)) ([], D0) o.2) (fun o => .agg [.sl 0 1 0 o.2.1.length, bif o.1 then .sl 1 1 0 o.2.2.length else ints o.2.2]) (fun o => [some (intsC o.2.1), bif o.1 then some (intsC o.2.2) else none]) := by
  refine pureEV [2, 3] ok77 rfl ?_; unfold c77
  (repeat first | simp only [go_sem, ↓reduceIte, Nat.reduceEqDiff, Nat.reduceAdd, reduceCtorEq] | with_reducible refine V_W ?_ | (with_reducible refine And.intro ?_ ?_; focus first | assumption | omega | decide | grind) | (with_reducible refine Br.mk ?_ ?_; focus (intros; omega)) | decide)
  refine V_loop (α := Bool × Pr) (S := fun o => ([(0, .mpz (imap piF m)), (3, .ref 0 0), (4, .ref 1 0)], [some [.sl 2 1 0 o.2.1.length, bif o.1 then .sl 3 1 0 o.2.2.length else ints o.2.2], some [nilS, nilS], some (intsC o.2.1), bif o.1 then some (intsC o.2.2) else none])) (C := fun o => Adds (m.map (·.2)) ([], D0) o.2 ∧ sst o.2.1 ∧ sst o.2.2 ∧ inB o.2.1 ∧ inB o.2.2) (μ := fun o => lstM o.2.2) (false, [], D0) ⟨.refl _, sst_nil, hD, (fun e he => by simp at he), bD⟩ ?_ ?_
  · refine (Ref.nilC 0 0 1 (cs := [nilS, ints D0]) rfl rfl).trans ?_
    exact Ref.pad.trans (Ref.to rfl (by simp [sub, fget]))
  rintro ⟨b, C, D⟩ ⟨hA, sC, sD, bC', bD'⟩
  dsimp only at hA sC sD bC' bD' ⊢
  have lC := len_500 sC bC'
  have lD := len_500 sD bD'
  cases b
  all_goals simp only [cond_true, cond_false]
  · (repeat first | simp only [go_sem, ↓reduceIte, Nat.reduceEqDiff, Nat.reduceAdd, reduceCtorEq] | with_reducible refine V_W ?_ | (with_reducible refine And.intro ?_ ?_; focus first | assumption | omega | decide | grind) | (with_reducible refine Br.mk ?_ ?_; focus (intros; omega)) | decide)
    refine ⟨fun hc => ?_, fun hc => ?_⟩
    · have hD1 := last_at (c := D) (by omega)
      cases hlk : ilook (D.getD (D.length - 1) 0) m with
      | none =>
        (repeat first | simp only [go_sem, ↓reduceIte, Nat.reduceEqDiff, Nat.reduceAdd, reduceCtorEq] | with_reducible refine V_W ?_ | (with_reducible refine And.intro ?_ ?_; focus first | assumption | omega | decide | grind) | (with_reducible refine Br.mk ?_ ?_; focus (intros; omega)) | decide)
        simp only [hlk, go_sem, ↓reduceIte, Nat.reduceEqDiff, Nat.reduceAdd, reduceCtorEq]
        (repeat first | simp only [go_sem, ↓reduceIte, Nat.reduceEqDiff, Nat.reduceAdd, reduceCtorEq] | with_reducible refine V_W ?_ | (with_reducible refine And.intro ?_ ?_; focus first | assumption | omega | decide | grind) | (with_reducible refine Br.mk ?_ ?_; focus (intros; omega)) | decide)
        refine ⟨(false, C, D), ⟨hA, .inr fun q hq => ?_, sC, sD, bC', bD'⟩, rfl, rfl⟩
        obtain ⟨z, hz, rfl⟩ := List.mem_map.1 hq
        rw [hok.1 z hz, hD1]
        intro h
        exact ilook_none.1 hlk (List.mem_map.2 ⟨z, hz, Option.some.inj h⟩)
      | some p =>
        (repeat first | simp only [go_sem, ↓reduceIte, Nat.reduceEqDiff, Nat.reduceAdd, reduceCtorEq] | with_reducible refine V_W ?_ | (with_reducible refine And.intro ?_ ?_; focus first | assumption | omega | decide | grind) | (with_reducible refine Br.mk ?_ ?_; focus (intros; omega)) | decide)
        simp only [hlk, piF_app, go_sem, ↓reduceIte, Nat.reduceEqDiff, Nat.reduceAdd, reduceCtorEq]
        (repeat first | simp only [go_sem, ↓reduceIte, Nat.reduceEqDiff, Nat.reduceAdd, reduceCtorEq] | with_reducible refine V_W ?_ | (with_reducible refine And.intro ?_ ?_; focus first | assumption | omega | decide | grind) | (with_reducible refine Br.mk ?_ ?_; focus (intros; omega)) | decide)
        have hpm : p ∈ m.map (·.2) := List.mem_map.2 ⟨_, ilook_mem hlk, rfl⟩
        have hp := hok.2 p hpm
        have hp2 : 0 < p.2.length := List.length_pos_iff.2 hp.2.2.1
        have l1 := len_500 hp.1 hp.2.2.2.1
        have l2 := len_500 hp.2.1 hp.2.2.2.2
        have hpl := hok.1 _ (ilook_mem hlk)
        rw [last_at hp2] at hpl
        have hm := lstM_lt sD hp.2.1 bD' (by omega) hp2 (Option.some.inj hpl)
        have hnx : Adds (m.map (·.2)) ([], D0) (sumL C p.1, sumL D p.2) ∧ sst (sumL C p.1) ∧ sst (sumL D p.2) ∧ inB (sumL C p.1) ∧ inB (sumL D p.2) := ⟨hA.step hpm, sum_sst sC hp.1, sum_sst sD hp.2.1, inB_sum sC hp.1 bC' hp.2.2.2.1, inB_sum sD hp.2.1 bD' hp.2.2.2.2⟩
        have hc1 := concat_c [C, p.1] (by simp) (by simp [tot]; omega)
        have hc2 := concat_c [D, p.2] (by simp) (by simp [tot]; omega)
        have ho1 := oddOf_c [C, p.1].flatten (by simp; omega)
        have ho2 := oddOf_c [D, p.2].flatten (by simp; omega)
        have e1 : odd [C, p.1].flatten = sumL C p.1 := by simpa using odd_sum sC hp.1
        have e2 : odd [D, p.2].flatten = sumL D p.2 := by simpa using odd_sum sD hp.2.1
        rw [e1] at ho1
        rw [e2] at ho2
        refine V_alts (show LT _ _ _ _ _ _ from ?_)
        refine LT_thw ?_
        repeat' first
          | simp only [piF_app, go_sem, ↓reduceIte, Nat.reduceEqDiff, Nat.reduceAdd, reduceCtorEq]
          | with_reducible refine LT_reg ?_
          | (with_reducible refine LT_regz ?_ ?_; focus (simp only [zAd_load, zAd_loads, zPt_pto, go_sem, ↓reduceIte, Nat.reduceEqDiff, Nat.reduceAdd, reduceCtorEq]; done))
          | with_reducible refine LT_fin ?_
          | with_reducible exact LT_tt
          | with_reducible refine LT_alt ?_ ?_
          | (with_reducible refine And.intro ?_ ?_; focus first | assumption | omega | grind)
          | (refine pureC (hc1) ?_ ?_ ?_; (focus (simp only [go_sem, ↓reduceIte, Nat.reduceEqDiff, Nat.reduceAdd, reduceCtorEq] <;> rfl)); (focus first | rfl | simp only [go_sem, ↓reduceIte, Nat.reduceEqDiff, Nat.reduceAdd, reduceCtorEq]))
          | (refine pureC (hc2) ?_ ?_ ?_; (focus (simp only [go_sem, ↓reduceIte, Nat.reduceEqDiff, Nat.reduceAdd, reduceCtorEq] <;> rfl)); (focus first | rfl | simp only [go_sem, ↓reduceIte, Nat.reduceEqDiff, Nat.reduceAdd, reduceCtorEq]))
          | (refine wriC (ho1) [6] ?_ ?_ ?_ ?_ ?_; (focus first | rfl | simp); (focus (simp only [go_sem, ↓reduceIte, Nat.reduceEqDiff, Nat.reduceAdd, reduceCtorEq] <;> rfl)); (focus (simp only [go_sem, ↓reduceIte, Nat.reduceEqDiff, Nat.reduceAdd, reduceCtorEq] <;> rfl)); (focus first | rfl | simp only [go_sem, ↓reduceIte, Nat.reduceEqDiff, Nat.reduceAdd, reduceCtorEq]))
          | (refine wriC (ho2) [6] ?_ ?_ ?_ ?_ ?_; (focus first | rfl | simp); (focus (simp only [go_sem, ↓reduceIte, Nat.reduceEqDiff, Nat.reduceAdd, reduceCtorEq] <;> rfl)); (focus (simp only [go_sem, ↓reduceIte, Nat.reduceEqDiff, Nat.reduceAdd, reduceCtorEq] <;> rfl)); (focus first | rfl | simp only [go_sem, ↓reduceIte, Nat.reduceEqDiff, Nat.reduceAdd, reduceCtorEq]))
          | (refine wriC (ho1) [7] ?_ ?_ ?_ ?_ ?_; (focus first | rfl | simp); (focus (simp only [go_sem, ↓reduceIte, Nat.reduceEqDiff, Nat.reduceAdd, reduceCtorEq] <;> rfl)); (focus (simp only [go_sem, ↓reduceIte, Nat.reduceEqDiff, Nat.reduceAdd, reduceCtorEq] <;> rfl)); (focus first | rfl | simp only [go_sem, ↓reduceIte, Nat.reduceEqDiff, Nat.reduceAdd, reduceCtorEq]))
          | (refine wriC (ho2) [7] ?_ ?_ ?_ ?_ ?_; (focus first | rfl | simp); (focus (simp only [go_sem, ↓reduceIte, Nat.reduceEqDiff, Nat.reduceAdd, reduceCtorEq] <;> rfl)); (focus (simp only [go_sem, ↓reduceIte, Nat.reduceEqDiff, Nat.reduceAdd, reduceCtorEq] <;> rfl)); (focus first | rfl | simp only [go_sem, ↓reduceIte, Nat.reduceEqDiff, Nat.reduceAdd, reduceCtorEq]))
          | (refine wriC (ho1) [8] ?_ ?_ ?_ ?_ ?_; (focus first | rfl | simp); (focus (simp only [go_sem, ↓reduceIte, Nat.reduceEqDiff, Nat.reduceAdd, reduceCtorEq] <;> rfl)); (focus (simp only [go_sem, ↓reduceIte, Nat.reduceEqDiff, Nat.reduceAdd, reduceCtorEq] <;> rfl)); (focus first | rfl | simp only [go_sem, ↓reduceIte, Nat.reduceEqDiff, Nat.reduceAdd, reduceCtorEq]))
          | (refine wriC (ho2) [8] ?_ ?_ ?_ ?_ ?_; (focus first | rfl | simp); (focus (simp only [go_sem, ↓reduceIte, Nat.reduceEqDiff, Nat.reduceAdd, reduceCtorEq] <;> rfl)); (focus (simp only [go_sem, ↓reduceIte, Nat.reduceEqDiff, Nat.reduceAdd, reduceCtorEq] <;> rfl)); (focus first | rfl | simp only [go_sem, ↓reduceIte, Nat.reduceEqDiff, Nat.reduceAdd, reduceCtorEq]))
          | (refine wriC (ho1) [9] ?_ ?_ ?_ ?_ ?_; (focus first | rfl | simp); (focus (simp only [go_sem, ↓reduceIte, Nat.reduceEqDiff, Nat.reduceAdd, reduceCtorEq] <;> rfl)); (focus (simp only [go_sem, ↓reduceIte, Nat.reduceEqDiff, Nat.reduceAdd, reduceCtorEq] <;> rfl)); (focus first | rfl | simp only [go_sem, ↓reduceIte, Nat.reduceEqDiff, Nat.reduceAdd, reduceCtorEq]))
          | (refine wriC (ho2) [9] ?_ ?_ ?_ ?_ ?_; (focus first | rfl | simp); (focus (simp only [go_sem, ↓reduceIte, Nat.reduceEqDiff, Nat.reduceAdd, reduceCtorEq] <;> rfl)); (focus (simp only [go_sem, ↓reduceIte, Nat.reduceEqDiff, Nat.reduceAdd, reduceCtorEq] <;> rfl)); (focus first | rfl | simp only [go_sem, ↓reduceIte, Nat.reduceEqDiff, Nat.reduceAdd, reduceCtorEq]))
        all_goals (refine ⟨(true, sumL C p.1, sumL D p.2), hnx, hm, ?_⟩; first
          | (refine Ref.gc [0, 1, 7, 10] rfl ?_ ?_ <;> first | (simp only [go_sem, ↓reduceIte, Nat.reduceEqDiff, Nat.reduceAdd, reduceCtorEq]; done) | (simp [sub, fget, go_sem, ↓reduceIte, Nat.reduceEqDiff, Nat.reduceAdd, reduceCtorEq]; done))
          | (refine Ref.gc [0, 1, 8, 10] rfl ?_ ?_ <;> first | (simp only [go_sem, ↓reduceIte, Nat.reduceEqDiff, Nat.reduceAdd, reduceCtorEq]; done) | (simp [sub, fget, go_sem, ↓reduceIte, Nat.reduceEqDiff, Nat.reduceAdd, reduceCtorEq]; done))
          | (refine Ref.gc [0, 1, 9, 10] rfl ?_ ?_ <;> first | (simp only [go_sem, ↓reduceIte, Nat.reduceEqDiff, Nat.reduceAdd, reduceCtorEq]; done) | (simp [sub, fget, go_sem, ↓reduceIte, Nat.reduceEqDiff, Nat.reduceAdd, reduceCtorEq]; done))
          | (refine Ref.gc [0, 1, 10, 7] rfl ?_ ?_ <;> first | (simp only [go_sem, ↓reduceIte, Nat.reduceEqDiff, Nat.reduceAdd, reduceCtorEq]; done) | (simp [sub, fget, go_sem, ↓reduceIte, Nat.reduceEqDiff, Nat.reduceAdd, reduceCtorEq]; done))
          | (refine Ref.gc [0, 1, 10, 8] rfl ?_ ?_ <;> first | (simp only [go_sem, ↓reduceIte, Nat.reduceEqDiff, Nat.reduceAdd, reduceCtorEq]; done) | (simp [sub, fget, go_sem, ↓reduceIte, Nat.reduceEqDiff, Nat.reduceAdd, reduceCtorEq]; done))
          | (refine Ref.gc [0, 1, 10, 9] rfl ?_ ?_ <;> first | (simp only [go_sem, ↓reduceIte, Nat.reduceEqDiff, Nat.reduceAdd, reduceCtorEq]; done) | (simp [sub, fget, go_sem, ↓reduceIte, Nat.reduceEqDiff, Nat.reduceAdd, reduceCtorEq]; done)))
    · (repeat first | simp only [go_sem, ↓reduceIte, Nat.reduceEqDiff, Nat.reduceAdd, reduceCtorEq] | with_reducible refine V_W ?_ | (with_reducible refine And.intro ?_ ?_; focus first | assumption | omega | decide | grind) | (with_reducible refine Br.mk ?_ ?_; focus (intros; omega)) | decide)
      have hD0 : D = [] := List.eq_nil_of_length_eq_zero (by omega)
      exact ⟨(false, C, D), ⟨hA, .inl hD0, sC, sD, bC', bD'⟩, rfl, rfl⟩
  · (repeat first | simp only [go_sem, ↓reduceIte, Nat.reduceEqDiff, Nat.reduceAdd, reduceCtorEq] | with_reducible refine V_W ?_ | (with_reducible refine And.intro ?_ ?_; focus first | assumption | omega | decide | grind) | (with_reducible refine Br.mk ?_ ?_; focus (intros; omega)) | decide)
    refine ⟨fun hc => ?_, fun hc => ?_⟩
    · have hD1 := last_at (c := D) (by omega)
      cases hlk : ilook (D.getD (D.length - 1) 0) m with
      | none =>
        (repeat first | simp only [go_sem, ↓reduceIte, Nat.reduceEqDiff, Nat.reduceAdd, reduceCtorEq] | with_reducible refine V_W ?_ | (with_reducible refine And.intro ?_ ?_; focus first | assumption | omega | decide | grind) | (with_reducible refine Br.mk ?_ ?_; focus (intros; omega)) | decide)
        simp only [hlk, go_sem, ↓reduceIte, Nat.reduceEqDiff, Nat.reduceAdd, reduceCtorEq]
        (repeat first | simp only [go_sem, ↓reduceIte, Nat.reduceEqDiff, Nat.reduceAdd, reduceCtorEq] | with_reducible refine V_W ?_ | (with_reducible refine And.intro ?_ ?_; focus first | assumption | omega | decide | grind) | (with_reducible refine Br.mk ?_ ?_; focus (intros; omega)) | decide)
        refine ⟨(true, C, D), ⟨hA, .inr fun q hq => ?_, sC, sD, bC', bD'⟩, rfl, rfl⟩
        obtain ⟨z, hz, rfl⟩ := List.mem_map.1 hq
        rw [hok.1 z hz, hD1]
        intro h
        exact ilook_none.1 hlk (List.mem_map.2 ⟨z, hz, Option.some.inj h⟩)
      | some p =>
        (repeat first | simp only [go_sem, ↓reduceIte, Nat.reduceEqDiff, Nat.reduceAdd, reduceCtorEq] | with_reducible refine V_W ?_ | (with_reducible refine And.intro ?_ ?_; focus first | assumption | omega | decide | grind) | (with_reducible refine Br.mk ?_ ?_; focus (intros; omega)) | decide)
        simp only [hlk, piF_app, go_sem, ↓reduceIte, Nat.reduceEqDiff, Nat.reduceAdd, reduceCtorEq]
        (repeat first | simp only [go_sem, ↓reduceIte, Nat.reduceEqDiff, Nat.reduceAdd, reduceCtorEq] | with_reducible refine V_W ?_ | (with_reducible refine And.intro ?_ ?_; focus first | assumption | omega | decide | grind) | (with_reducible refine Br.mk ?_ ?_; focus (intros; omega)) | decide)
        have hpm : p ∈ m.map (·.2) := List.mem_map.2 ⟨_, ilook_mem hlk, rfl⟩
        have hp := hok.2 p hpm
        have hp2 : 0 < p.2.length := List.length_pos_iff.2 hp.2.2.1
        have l1 := len_500 hp.1 hp.2.2.2.1
        have l2 := len_500 hp.2.1 hp.2.2.2.2
        have hpl := hok.1 _ (ilook_mem hlk)
        rw [last_at hp2] at hpl
        have hm := lstM_lt sD hp.2.1 bD' (by omega) hp2 (Option.some.inj hpl)
        have hnx : Adds (m.map (·.2)) ([], D0) (sumL C p.1, sumL D p.2) ∧ sst (sumL C p.1) ∧ sst (sumL D p.2) ∧ inB (sumL C p.1) ∧ inB (sumL D p.2) := ⟨hA.step hpm, sum_sst sC hp.1, sum_sst sD hp.2.1, inB_sum sC hp.1 bC' hp.2.2.2.1, inB_sum sD hp.2.1 bD' hp.2.2.2.2⟩
        have hc1 := concat_c [C, p.1] (by simp) (by simp [tot]; omega)
        have hc2 := concat_c [D, p.2] (by simp) (by simp [tot]; omega)
        have ho1 := oddOf_c [C, p.1].flatten (by simp; omega)
        have ho2 := oddOf_c [D, p.2].flatten (by simp; omega)
        have e1 : odd [C, p.1].flatten = sumL C p.1 := by simpa using odd_sum sC hp.1
        have e2 : odd [D, p.2].flatten = sumL D p.2 := by simpa using odd_sum sD hp.2.1
        rw [e1] at ho1
        rw [e2] at ho2
        refine V_alts (show LT _ _ _ _ _ _ from ?_)
        refine LT_thw ?_
        repeat' first
          | simp only [piF_app, go_sem, ↓reduceIte, Nat.reduceEqDiff, Nat.reduceAdd, reduceCtorEq]
          | with_reducible refine LT_reg ?_
          | (with_reducible refine LT_regz ?_ ?_; focus (simp only [zAd_load, zAd_loads, zPt_pto, go_sem, ↓reduceIte, Nat.reduceEqDiff, Nat.reduceAdd, reduceCtorEq]; done))
          | with_reducible refine LT_fin ?_
          | with_reducible exact LT_tt
          | with_reducible refine LT_alt ?_ ?_
          | (with_reducible refine And.intro ?_ ?_; focus first | assumption | omega | grind)
          | (refine pureC (hc1) ?_ ?_ ?_; (focus (simp only [go_sem, ↓reduceIte, Nat.reduceEqDiff, Nat.reduceAdd, reduceCtorEq] <;> rfl)); (focus first | rfl | simp only [go_sem, ↓reduceIte, Nat.reduceEqDiff, Nat.reduceAdd, reduceCtorEq]))
          | (refine pureC (hc2) ?_ ?_ ?_; (focus (simp only [go_sem, ↓reduceIte, Nat.reduceEqDiff, Nat.reduceAdd, reduceCtorEq] <;> rfl)); (focus first | rfl | simp only [go_sem, ↓reduceIte, Nat.reduceEqDiff, Nat.reduceAdd, reduceCtorEq]))
          | (refine wriC (ho1) [6] ?_ ?_ ?_ ?_ ?_; (focus first | rfl | simp); (focus (simp only [go_sem, ↓reduceIte, Nat.reduceEqDiff, Nat.reduceAdd, reduceCtorEq] <;> rfl)); (focus (simp only [go_sem, ↓reduceIte, Nat.reduceEqDiff, Nat.reduceAdd, reduceCtorEq] <;> rfl)); (focus first | rfl | simp only [go_sem, ↓reduceIte, Nat.reduceEqDiff, Nat.reduceAdd, reduceCtorEq]))
          | (refine wriC (ho2) [6] ?_ ?_ ?_ ?_ ?_; (focus first | rfl | simp); (focus (simp only [go_sem, ↓reduceIte, Nat.reduceEqDiff, Nat.reduceAdd, reduceCtorEq] <;> rfl)); (focus (simp only [go_sem, ↓reduceIte, Nat.reduceEqDiff, Nat.reduceAdd, reduceCtorEq] <;> rfl)); (focus first | rfl | simp only [go_sem, ↓reduceIte, Nat.reduceEqDiff, Nat.reduceAdd, reduceCtorEq]))
          | (refine wriC (ho1) [7] ?_ ?_ ?_ ?_ ?_; (focus first | rfl | simp); (focus (simp only [go_sem, ↓reduceIte, Nat.reduceEqDiff, Nat.reduceAdd, reduceCtorEq] <;> rfl)); (focus (simp only [go_sem, ↓reduceIte, Nat.reduceEqDiff, Nat.reduceAdd, reduceCtorEq] <;> rfl)); (focus first | rfl | simp only [go_sem, ↓reduceIte, Nat.reduceEqDiff, Nat.reduceAdd, reduceCtorEq]))
          | (refine wriC (ho2) [7] ?_ ?_ ?_ ?_ ?_; (focus first | rfl | simp); (focus (simp only [go_sem, ↓reduceIte, Nat.reduceEqDiff, Nat.reduceAdd, reduceCtorEq] <;> rfl)); (focus (simp only [go_sem, ↓reduceIte, Nat.reduceEqDiff, Nat.reduceAdd, reduceCtorEq] <;> rfl)); (focus first | rfl | simp only [go_sem, ↓reduceIte, Nat.reduceEqDiff, Nat.reduceAdd, reduceCtorEq]))
          | (refine wriC (ho1) [8] ?_ ?_ ?_ ?_ ?_; (focus first | rfl | simp); (focus (simp only [go_sem, ↓reduceIte, Nat.reduceEqDiff, Nat.reduceAdd, reduceCtorEq] <;> rfl)); (focus (simp only [go_sem, ↓reduceIte, Nat.reduceEqDiff, Nat.reduceAdd, reduceCtorEq] <;> rfl)); (focus first | rfl | simp only [go_sem, ↓reduceIte, Nat.reduceEqDiff, Nat.reduceAdd, reduceCtorEq]))
          | (refine wriC (ho2) [8] ?_ ?_ ?_ ?_ ?_; (focus first | rfl | simp); (focus (simp only [go_sem, ↓reduceIte, Nat.reduceEqDiff, Nat.reduceAdd, reduceCtorEq] <;> rfl)); (focus (simp only [go_sem, ↓reduceIte, Nat.reduceEqDiff, Nat.reduceAdd, reduceCtorEq] <;> rfl)); (focus first | rfl | simp only [go_sem, ↓reduceIte, Nat.reduceEqDiff, Nat.reduceAdd, reduceCtorEq]))
          | (refine wriC (ho1) [9] ?_ ?_ ?_ ?_ ?_; (focus first | rfl | simp); (focus (simp only [go_sem, ↓reduceIte, Nat.reduceEqDiff, Nat.reduceAdd, reduceCtorEq] <;> rfl)); (focus (simp only [go_sem, ↓reduceIte, Nat.reduceEqDiff, Nat.reduceAdd, reduceCtorEq] <;> rfl)); (focus first | rfl | simp only [go_sem, ↓reduceIte, Nat.reduceEqDiff, Nat.reduceAdd, reduceCtorEq]))
          | (refine wriC (ho2) [9] ?_ ?_ ?_ ?_ ?_; (focus first | rfl | simp); (focus (simp only [go_sem, ↓reduceIte, Nat.reduceEqDiff, Nat.reduceAdd, reduceCtorEq] <;> rfl)); (focus (simp only [go_sem, ↓reduceIte, Nat.reduceEqDiff, Nat.reduceAdd, reduceCtorEq] <;> rfl)); (focus first | rfl | simp only [go_sem, ↓reduceIte, Nat.reduceEqDiff, Nat.reduceAdd, reduceCtorEq]))
        all_goals (refine ⟨(true, sumL C p.1, sumL D p.2), hnx, hm, ?_⟩; first
          | (refine Ref.gc [0, 1, 7, 10] rfl ?_ ?_ <;> first | (simp only [go_sem, ↓reduceIte, Nat.reduceEqDiff, Nat.reduceAdd, reduceCtorEq]; done) | (simp [sub, fget, go_sem, ↓reduceIte, Nat.reduceEqDiff, Nat.reduceAdd, reduceCtorEq]; done))
          | (refine Ref.gc [0, 1, 8, 10] rfl ?_ ?_ <;> first | (simp only [go_sem, ↓reduceIte, Nat.reduceEqDiff, Nat.reduceAdd, reduceCtorEq]; done) | (simp [sub, fget, go_sem, ↓reduceIte, Nat.reduceEqDiff, Nat.reduceAdd, reduceCtorEq]; done))
          | (refine Ref.gc [0, 1, 9, 10] rfl ?_ ?_ <;> first | (simp only [go_sem, ↓reduceIte, Nat.reduceEqDiff, Nat.reduceAdd, reduceCtorEq]; done) | (simp [sub, fget, go_sem, ↓reduceIte, Nat.reduceEqDiff, Nat.reduceAdd, reduceCtorEq]; done))
          | (refine Ref.gc [0, 1, 10, 7] rfl ?_ ?_ <;> first | (simp only [go_sem, ↓reduceIte, Nat.reduceEqDiff, Nat.reduceAdd, reduceCtorEq]; done) | (simp [sub, fget, go_sem, ↓reduceIte, Nat.reduceEqDiff, Nat.reduceAdd, reduceCtorEq]; done))
          | (refine Ref.gc [0, 1, 10, 8] rfl ?_ ?_ <;> first | (simp only [go_sem, ↓reduceIte, Nat.reduceEqDiff, Nat.reduceAdd, reduceCtorEq]; done) | (simp [sub, fget, go_sem, ↓reduceIte, Nat.reduceEqDiff, Nat.reduceAdd, reduceCtorEq]; done))
          | (refine Ref.gc [0, 1, 10, 9] rfl ?_ ?_ <;> first | (simp only [go_sem, ↓reduceIte, Nat.reduceEqDiff, Nat.reduceAdd, reduceCtorEq]; done) | (simp [sub, fget, go_sem, ↓reduceIte, Nat.reduceEqDiff, Nat.reduceAdd, reduceCtorEq]; done)))
    · (repeat first | simp only [go_sem, ↓reduceIte, Nat.reduceEqDiff, Nat.reduceAdd, reduceCtorEq] | with_reducible refine V_W ?_ | (with_reducible refine And.intro ?_ ?_; focus first | assumption | omega | decide | grind) | (with_reducible refine Br.mk ?_ ?_; focus (intros; omega)) | decide)
      have hD0 : D = [] := List.eq_nil_of_length_eq_zero (by omega)
      exact ⟨(true, C, D), ⟨hA, .inl hD0, sC, sD, bC', bD'⟩, rfl, rfl⟩
end Go.Proofs.Ytmiapnfhlhgefaa
set_option maxRecDepth 100000
namespace Go.Proofs.Ytmiapnfhlhgefaa
open Go.Gov
open Classical

theorem bdS_one (R : List Int) (B : List (List Int)) (e : Int) : bdS R B [e] = blw R B e := by simp [bdS, nil_sum]
theorem mput_new (m : List (Int × Pr)) (k : Int) (x : AV) (h : ilook k m = none) : mput (.int .i64 k) x (imap piO m) = mpC ((m.map fun p => (.int .i64 p.1, piO p.2)) ++ [(.int .i64 k, x)]) := by
  unfold mput
  rw [mfind_imap]
  have h1 : ifind k m = none := by
    unfold ilook at h
    rwa [Option.map_eq_none_iff] at h
  rw [h1]
  exact madd_mpC _ _ _
theorem mpC_at (l : List (Value × AV)) (k : Value) (x : AV) : (mpC (l ++ [(k, x)]))[l.length + 1]? = some (.ent l.length k x) := by
  simp only [mpC, List.getElem?_cons_succ, entsF_app, Nat.zero_add]
  rw [List.getElem?_append_right (by rw [entsF_len]; exact Nat.le_refl _), entsF_len]
  simp [entsF]
theorem mpC_set (l : List (Value × AV)) (k : Value) (x y : AV) : (mpC (l ++ [(k, x)])).set (l.length + 1) (.ent l.length k y) = mpC (l ++ [(k, y)]) := by
  simp only [mpC, List.set_cons_succ, entsF_app, Nat.zero_add, List.length_append, List.length_cons, List.length_nil]
  rw [List.set_append_right _ _ (by rw [entsF_len]; exact Nat.le_refl _), entsF_len]
  simp [entsF]
theorem imap_snoc (m : List (Int × Pr)) (k : Int) (p : Pr) : mpC ((m.map fun p => ((.int .i64 p.1, piO p.2) : Value × AV)) ++ [(.int .i64 k, piO p)]) = imap piO (m ++ [(k, p)]) := by simp [imap]

def ImPiv (R : List Int) (B : List (List Int)) (i : Int) (m : List (Int × Pr)) : Prop := Piv List.getLast? (blw R B) (plc R i).reverse (m.map (·.2)) ∧ KepOk m ∧ m.length ≤ 500

set_option maxHeartbeats 4000000 in
theorem keptOf_e (r : Int) (R : List Int) (B : List (List Int)) (i : Int) (hp : IsPos r R B) (hr : ∀ xs ∈ B, xs.length ≤ 1048576) :
    PureE Try.prog 76 [.pto [i64 r, ints R, mat B] 0, i64 i] (ImPiv R B i) (fun _ => .mp 0) (fun m => [some [.mpc (imap piO m)]]) := by
  obtain ⟨a1, a2, a3, a4, a5⟩ := hp.rank
  obtain ⟨hok, hs⟩ := hp.rows
  have hR : ∀ x, x < R.length → 0 ≤ R.getD x 0 ∧ R.getD x 0 ≤ 1048576 := fun x hx => by
    have := a5 x hx
    omega
  have hel : (plc R i).length ≤ 500 := Nat.le_trans (plcN_len R i R.length) a3
  have hem : ∀ k, k < (plc R i).length → 0 ≤ (plc R i).getD k 0 ∧ (plc R i).getD k 0 < R.length := fun k hk => by
    have h1 : (plc R i).getD k 0 ∈ plc R i := by rw [getD_el _ k hk]; exact List.getElem_mem hk
    have h2 := mem_plcN.1 h1
    exact ⟨h2.1, h2.2.1⟩
  unfold ImPiv
  have hrank := placesOf_p R i (by omega)
  generalize plc R i = es at hel hem hrank ⊢
  refine pureEV [0] ok76 rfl ?_; unfold c76
  (repeat first | simp only [go_sem, ↓reduceIte, Nat.reduceEqDiff, Nat.reduceAdd, reduceCtorEq] | with_reducible refine V_W ?_ | (with_reducible refine And.intro ?_ ?_; focus first | assumption | omega | decide | grind) | (with_reducible refine Br.mk ?_ ?_; focus (intros; omega)) | decide)
  refine pureC (hrank) (by simp only [go_sem, ↓reduceIte, Nat.reduceEqDiff, Nat.reduceAdd, reduceCtorEq] <;> rfl) (by first | rfl | simp only [go_sem, ↓reduceIte, Nat.reduceEqDiff, Nat.reduceAdd, reduceCtorEq]) ?_
  (repeat first | simp only [go_sem, ↓reduceIte, Nat.reduceEqDiff, Nat.reduceAdd, reduceCtorEq] | with_reducible refine V_W ?_ | (with_reducible refine And.intro ?_ ?_; focus first | assumption | omega | decide | grind) | (with_reducible refine Br.mk ?_ ?_; focus (intros; omega)) | decide)
  refine V_loop (α := Nat × List (Int × Pr)) (S := fun p => ([(0, .pto [i64 r, ints R, mat B] 0), (5, .mp 0), (15, .sl 1 1 0 es.length), (16, i64 es.length), (17, i64 p.1)], [some [.mpc (imap piO p.2)], some (intsC es)])) (C := fun p => p.1 ≤ es.length ∧ Piv List.getLast? (blw R B) (es.take p.1).reverse (p.2.map (·.2)) ∧ KepOk p.2) (μ := fun p => es.length - p.1) (0, []) ⟨Nat.zero_le _, Piv.nil, ⟨fun q hq => by simp at hq, fun p hp => by simp at hp⟩⟩ (Ref.to rfl (by simp [sub, fget])) ?_
  rintro ⟨k, m⟩ ⟨hk, hP, hPo⟩
  dsimp only at hk hP hPo ⊢
  have hPl : m.length ≤ 500 := by
    have h1 := hP.len
    have h2 := NR_len (blw R B) (es.take k).reverse
    rw [List.length_reverse, List.length_take] at h2
    rw [List.length_map] at h1
    omega
  (repeat first | simp only [go_sem, ↓reduceIte, Nat.reduceEqDiff, Nat.reduceAdd, reduceCtorEq] | with_reducible refine V_W ?_ | (with_reducible refine And.intro ?_ ?_; focus first | assumption | omega | decide | grind) | (with_reducible refine Br.mk ?_ ?_; focus (intros; omega)) | decide)
  refine ⟨fun hc => ?_, fun hc => ?_⟩
  · have hk' : k < es.length := by omega
    obtain ⟨e1, e2⟩ := hem k hk'
    have hrw := reduce_w m [es.getD k 0] (blw R B (es.getD k 0)) hPo (sst_one _) (blw_sst hs _) (inB_one hp e1 e2) (blw_inB hp _)
    have hbl := boundary_p r R B [es.getD k 0] (by omega) a4 hr hok hR hs (by simp) (fun j hj => by
      obtain rfl : j = 0 := by simpa using hj
      simp only [List.getD_cons_zero]
      omega)
    rw [bdS_one] at hbl
    have hb5 := rows_500 hp (es.getD k 0)
    (repeat first | simp only [go_sem, ↓reduceIte, Nat.reduceEqDiff, Nat.reduceAdd, reduceCtorEq] | with_reducible refine V_W ?_ | (with_reducible refine And.intro ?_ ?_; focus first | assumption | omega | decide | grind) | (with_reducible refine Br.mk ?_ ?_; focus (intros; omega)) | decide)
    refine pureC (hbl) (by simp only [go_sem, ↓reduceIte, Nat.reduceEqDiff, Nat.reduceAdd, reduceCtorEq] <;> rfl) (by first | rfl | simp only [go_sem, ↓reduceIte, Nat.reduceEqDiff, Nat.reduceAdd, reduceCtorEq]) ?_
    (repeat first | simp only [go_sem, ↓reduceIte, Nat.reduceEqDiff, Nat.reduceAdd, reduceCtorEq] | with_reducible refine V_W ?_ | (with_reducible refine And.intro ?_ ?_; focus first | assumption | omega | decide | grind) | (with_reducible refine Br.mk ?_ ?_; focus (intros; omega)) | decide)
    refine wriEC (hrw) [2, 4] (by first | rfl | simp) (by simp only [go_sem, ↓reduceIte, Nat.reduceEqDiff, Nat.reduceAdd, reduceCtorEq] <;> rfl) (by simp only [go_sem, ↓reduceIte, Nat.reduceEqDiff, Nat.reduceAdd, reduceCtorEq] <;> rfl) (fun o => by first | rfl | simp only [go_sem, ↓reduceIte, Nat.reduceEqDiff, Nat.reduceAdd, reduceCtorEq]) fun o ho => ?_
    obtain ⟨C, D⟩ := o
    obtain ⟨hA, hdn, sC, sD, bC, bD⟩ := ho
    dsimp only at hdn sC sD bC bD ⊢
    have lC := len_500 sC bC
    have lD := len_500 sD bD
    have hnx := hP.next lead_last hA (blw_sst hs) hdn
    have htr := take_rev es k hk'
    (repeat first | simp only [go_sem, ↓reduceIte, Nat.reduceEqDiff, Nat.reduceAdd, reduceCtorEq] | with_reducible refine V_W ?_ | (with_reducible refine And.intro ?_ ?_; focus first | assumption | omega | decide | grind) | (with_reducible refine Br.mk ?_ ?_; focus (intros; omega)) | decide)
    refine ⟨fun hc2 => ?_, fun hc2 => ?_⟩
    · have hD0 : D ≠ [] := List.length_pos_iff.1 (by omega)
      have hD1 := last_at (c := D) (by omega)
      have hnew : ilook (D.getD (D.length - 1) 0) m = none := ilook_none.2 fun h => by
        obtain ⟨q, hq, hqe⟩ := List.mem_map.1 h
        rcases hdn with hdn | hdn
        · exact hD0 hdn
        · refine hdn q.2 (List.mem_map.2 ⟨q, hq, rfl⟩) ?_
          rw [hPo.1 q hq, hqe, hD1]
      (repeat first | simp only [go_sem, ↓reduceIte, Nat.reduceEqDiff, Nat.reduceAdd, reduceCtorEq] | with_reducible refine V_W ?_ | (with_reducible refine And.intro ?_ ?_; focus first | assumption | omega | decide | grind) | (with_reducible refine Br.mk ?_ ?_; focus (intros; omega)) | decide)
      refine ⟨(k + 1, m ++ [(D.getD (D.length - 1) 0, (C, D))]), ⟨hk', ?_, ?_, ?_⟩, by dsimp only; omega, ?_⟩
      · dsimp only
        rw [htr, List.map_append]; exact hnx.2 hD0
      · intro q hq
        rcases List.mem_append.1 hq with h | h
        · exact hPo.1 q h
        · rw [List.mem_singleton.1 h]; exact hD1
      · intro q hq
        dsimp only at hq
        rw [List.map_append] at hq
        rcases List.mem_append.1 hq with h | h
        · exact hPo.2 q h
        · obtain rfl : q = (C, D) := by simpa using h
          exact ⟨sC, sD, hD0, bC, bD⟩
      · rw [mput_new m _ _ hnew]
        have hat := mpC_at (m.map fun p => ((.int .i64 p.1, piO p.2) : Value × AV)) (.int .i64 (D.getD (D.length - 1) 0)) (.agg [.sl 5 1 0 C.length, .sl 6 1 0 D.length])
        rw [List.length_map] at hat
        refine (Ref.closeP 0 (m.length + 1) 5 6 (c2 := intsC C) (c3 := intsC D) rfl hat rfl rfl (by omega) (len_intsC _) (len_intsC _)).trans ?_
        have hset := mpC_set (m.map fun p => ((.int .i64 p.1, piO p.2) : Value × AV)) (.int .i64 (D.getD (D.length - 1) 0)) (.agg [.sl 5 1 0 C.length, .sl 6 1 0 D.length]) (piO (C, D))
        rw [imap_snoc, List.length_map] at hset
        have hset' : (mpC ((m.map fun p => ((.int .i64 p.1, piO p.2) : Value × AV)) ++ [(.int .i64 (D.getD (D.length - 1) 0), .agg [.sl 5 1 0 C.length, .sl 6 1 0 D.length])])).set (m.length + 1) (.ent m.length (.int .i64 (D.getD (D.length - 1) 0)) (.oag [.osl 1 C.length (intsC C), .osl 1 D.length (intsC D)])) = imap piO (m ++ [(D.getD (D.length - 1) 0, (C, D))]) := hset
        rw [hset']
        refine Ref.gc [0, 1] rfl ?_ (by simp [sub, fget, go_sem, ↓reduceIte, Nat.reduceEqDiff, Nat.reduceAdd, reduceCtorEq])
        simp only [killL, List.set_cons_zero, List.set_cons_succ, go_sem, ↓reduceIte, Nat.reduceEqDiff, Nat.reduceAdd, reduceCtorEq]
    · have hD0 : D = [] := List.eq_nil_of_length_eq_zero (by omega)
      (repeat first | simp only [go_sem, ↓reduceIte, Nat.reduceEqDiff, Nat.reduceAdd, reduceCtorEq] | with_reducible refine V_W ?_ | (with_reducible refine And.intro ?_ ?_; focus first | assumption | omega | decide | grind) | (with_reducible refine Br.mk ?_ ?_; focus (intros; omega)) | decide)
      refine ⟨(k + 1, m), ⟨hk', by rw [htr]; exact hnx.1 hD0, hPo⟩, by dsimp only; omega, ?_⟩
      exact Ref.gc [0, 1] rfl (by simp only [go_sem, ↓reduceIte, Nat.reduceEqDiff, Nat.reduceAdd, reduceCtorEq]) (by simp [sub, fget, go_sem, ↓reduceIte, Nat.reduceEqDiff, Nat.reduceAdd, reduceCtorEq])
  · obtain rfl : k = es.length := by omega
    rw [List.take_length] at hP
    (repeat first | simp only [go_sem, ↓reduceIte, Nat.reduceEqDiff, Nat.reduceAdd, reduceCtorEq] | with_reducible refine V_W ?_ | (with_reducible refine And.intro ?_ ?_; focus first | assumption | omega | decide | grind) | (with_reducible refine Br.mk ?_ ?_; focus (intros; omega)) | decide)
    exact ⟨m, ⟨hP, hPo, hPl⟩, rfl⟩
end Go.Proofs.Ytmiapnfhlhgefaa
set_option maxRecDepth 100000
namespace Go.Proofs.Ytmiapnfhlhgefaa
open Go.Gov
open Classical

theorem nf_piO (p : Pr) : nf 4 (piO p) = true := by
  have h : ∀ xs : List Int, (intsC xs).all (nf 2) = true := fun xs => by simp [intsC, nf]
  simp only [piO, nf, List.all_cons, List.all_nil, h, Bool.and_self]
theorem nf5_piO (m : List (Int × Pr)) : (imap piO m).all (nf 5) = true := nf_imap 4 piO m nf_piO
theorem shf_piO (n d : Nat) (p : Pr) : shf n d (piO p) = piO p := by
  have h : ∀ (d : Nat) (xs : List Int), (intsC xs).map (shf n d) = intsC xs := fun d xs => by
    cases d with
    | zero => simp [intsC, shf]
    | succ d => simp [intsC, shf]
  match d with
  | 0 => rfl
  | 1 => simp [piO, shf]
  | d + 2 => simp only [piO, shf, List.map_cons, List.map_nil, h]
attribute [go_sem] nf5_piO shf_piO
/-- The rank of the boundaries of a rank. -/
noncomputable def rkN (R : List Int) (B : List (List Int)) (i : Int) : Nat := (NR (blw R B) (plc R i).reverse).length
theorem rkN_le {r : Int} {R : List Int} {B : List (List Int)} (h : IsPos r R B) (i : Int) : rkN R B i ≤ 500 := by
  obtain ⟨_, _, a3, _⟩ := h.rank
  have h1 := NR_len (blw R B) (plc R i).reverse
  have h2 := plcN_len R i R.length
  unfold rkN plc at *
  rw [List.length_reverse] at h1
  omega
/-- .. of the ranks 1 to k. -/
noncomputable def brV (R : List Int) (B : List (List Int)) (k : Nat) : List Int := (List.range k).map fun j : Nat => (rkN R B (j + 1) : Int)
theorem brV_len (R : List Int) (B : List (List Int)) (k : Nat) : (brV R B k).length = k := by simp [brV]
theorem brV_succ (R : List Int) (B : List (List Int)) (k : Nat) : brV R B (k + 1) = brV R B k ++ [(rkN R B (k + 1) : Int)] := by simp [brV, List.range_succ]

/-- .. with 0 ahead. -/
noncomputable def rkL (R : List Int) (B : List (List Int)) (k : Nat) : List Int := 0 :: brV R B k
theorem rkL_len (R : List Int) (B : List (List Int)) (k : Nat) : (rkL R B k).length = k + 1 := by simp [rkL, brV]
theorem rkL_succ (R : List Int) (B : List (List Int)) (k : Nat) : rkL R B (k + 1) = rkL R B k ++ [(rkN R B (k + 1) : Int)] := by simp [rkL, brV_succ]
theorem rkL_zero (R : List Int) (B : List (List Int)) : rkL R B 0 = [0] := rfl

set_option maxHeartbeats 2000000 in
theorem l16Ranks_p (r : Int) (R : List Int) (B : List (List Int)) (hp : IsPos r R B) (hr : ∀ xs ∈ B, xs.length ≤ 1048576) :
    Pure Try.prog 44 [posetA r R B] (.sl 0 1 0 (rkL R B (r.toNat - 1) ++ [0]).length) [some (intsC (rkL R B (r.toNat - 1) ++ [0]))] := by
  obtain ⟨a1, a2, a3, a4, a5⟩ := hp.rank
  refine pureVg [3] ok44 rfl ?_; unfold c44
  (repeat first | simp only [go_sem, ↓reduceIte, Nat.reduceEqDiff, Nat.reduceAdd, reduceCtorEq] | with_reducible refine V_W ?_ | (with_reducible refine And.intro ?_ ?_; focus first | assumption | omega | decide | grind) | (with_reducible refine Br.mk ?_ ?_; focus (intros; omega)) | decide)
  refine V_loop (α := Nat) (S := fun k => ([(1, .ref 0 0), (3, .sl 1 1 0 (rkL R B k).length), (4, i64 ((k : Int) + 1))], [some [i64 r, ints R, mat B], some (intsC (rkL R B k))])) (C := fun k => k + 1 ≤ r.toNat) (μ := fun k => r.toNat - k) 0 (by omega) (Ref.to (by simp [rkL_zero, intsC]) (by simp [sub, fget, rkL_zero])) ?_
  intro k hk
  have hst := rkL_succ R B k
  have hln := rkL_len R B k
  have hrk := rkN_le hp ((k : Int) + 1)
  generalize hL : rkL R B k = L at hst hln ⊢
  (repeat first | simp only [go_sem, ↓reduceIte, Nat.reduceEqDiff, Nat.reduceAdd, reduceCtorEq] | with_reducible refine V_W ?_ | (with_reducible refine And.intro ?_ ?_; focus first | assumption | omega | decide | grind) | (with_reducible refine Br.mk ?_ ?_; focus (intros; omega)) | decide)
  refine ⟨fun hc => ?_, fun hc => ?_⟩
  · (repeat first | simp only [go_sem, ↓reduceIte, Nat.reduceEqDiff, Nat.reduceAdd, reduceCtorEq] | with_reducible refine V_W ?_ | (with_reducible refine And.intro ?_ ?_; focus first | assumption | omega | decide | grind) | (with_reducible refine Br.mk ?_ ?_; focus (intros; omega)) | decide)
    refine pureEC (l16Pivots_e r R B ((k : Int) + 1) hp hr) (by simp only [go_sem, ↓reduceIte, Nat.reduceEqDiff, Nat.reduceAdd, reduceCtorEq] <;> rfl) (fun o => by first | rfl | simp only [go_sem, ↓reduceIte, Nat.reduceEqDiff, Nat.reduceAdd, reduceCtorEq]) fun o ho => ?_
    have hol : o.length = rkN R B ((k : Int) + 1) := by
      have := ho.1.len
      unfold rkN
      exact this
    (repeat first | simp only [go_sem, ↓reduceIte, Nat.reduceEqDiff, Nat.reduceAdd, reduceCtorEq] | with_reducible refine V_W ?_ | (with_reducible refine And.intro ?_ ?_; focus first | assumption | omega | decide | grind) | (with_reducible refine Br.mk ?_ ?_; focus (intros; omega)) | decide)
    refine ⟨k + 1, by omega, by omega, ?_⟩
    rw [hst, hol]
    refine Ref.gc [0, 4] rfl ?_ (by simp [sub, fget, go_sem, ↓reduceIte, Nat.reduceEqDiff, Nat.reduceAdd, reduceCtorEq])
    (try simp only [go_sem, ↓reduceIte, Nat.reduceEqDiff, Nat.reduceAdd, reduceCtorEq, take_len, one_intsC, app_intsC])
  · obtain rfl : k = r.toNat - 1 := by omega
    subst hL
    (repeat first | simp only [go_sem, ↓reduceIte, Nat.reduceEqDiff, Nat.reduceAdd, reduceCtorEq] | with_reducible refine V_W ?_ | (with_reducible refine And.intro ?_ ?_; focus first | assumption | omega | decide | grind) | (with_reducible refine Br.mk ?_ ?_; focus (intros; omega)) | decide)
    (try simp only [go_sem, ↓reduceIte, Nat.reduceEqDiff, Nat.reduceAdd, reduceCtorEq, take_len, one_intsC, app_intsC, and_self, List.length_append, List.length_cons, List.length_nil])

set_option maxHeartbeats 2000000 in
theorem boundaryRanks_p (r : Int) (R : List Int) (B : List (List Int)) (hp : IsPos r R B) (hr : ∀ xs ∈ B, xs.length ≤ 1048576) :
    Pure Try.prog 46 [.pto [i64 r, ints R, mat B] 0] (.sl 0 1 0 (brV R B (r.toNat - 1)).length) [some (intsC (brV R B (r.toNat - 1)))] := by
  obtain ⟨a1, a2, a3, a4, a5⟩ := hp.rank
  refine pureVg [0] ok46 rfl ?_; unfold c46
  (repeat first | simp only [go_sem, ↓reduceIte, Nat.reduceEqDiff, Nat.reduceAdd, reduceCtorEq] | with_reducible refine V_W ?_ | (with_reducible refine And.intro ?_ ?_; focus first | assumption | omega | decide | grind) | (with_reducible refine Br.mk ?_ ?_; focus (intros; omega)) | decide)
  refine V_loop (α := Nat) (S := fun k => ([(0, .pto [i64 r, ints R, mat B] 0), (3, .sl 0 1 0 (brV R B k).length), (4, i64 ((k : Int) + 1))], [some (intsC (brV R B k))])) (C := fun k => k + 1 ≤ r.toNat) (μ := fun k => r.toNat - k) 0 (by omega) ((Ref.nil 3 1 (by simp [fget])).trans (Ref.to (by simp [brV, intsC]) (by simp [sub, fget, brV]))) ?_
  intro k hk
  have hst := brV_succ R B k
  have hln := brV_len R B k
  have hrk := rkN_le hp ((k : Int) + 1)
  generalize hL : brV R B k = L at hst hln ⊢
  (repeat first | simp only [go_sem, ↓reduceIte, Nat.reduceEqDiff, Nat.reduceAdd, reduceCtorEq] | with_reducible refine V_W ?_ | (with_reducible refine And.intro ?_ ?_; focus first | assumption | omega | decide | grind) | (with_reducible refine Br.mk ?_ ?_; focus (intros; omega)) | decide)
  refine ⟨fun hc => ?_, fun hc => ?_⟩
  · (repeat first | simp only [go_sem, ↓reduceIte, Nat.reduceEqDiff, Nat.reduceAdd, reduceCtorEq] | with_reducible refine V_W ?_ | (with_reducible refine And.intro ?_ ?_; focus first | assumption | omega | decide | grind) | (with_reducible refine Br.mk ?_ ?_; focus (intros; omega)) | decide)
    refine pureEC (keptOf_e r R B ((k : Int) + 1) hp hr) (by simp only [go_sem, ↓reduceIte, Nat.reduceEqDiff, Nat.reduceAdd, reduceCtorEq] <;> rfl) (fun o => by first | rfl | simp only [go_sem, ↓reduceIte, Nat.reduceEqDiff, Nat.reduceAdd, reduceCtorEq]) fun o ho => ?_
    have hol : o.length = rkN R B ((k : Int) + 1) := by
      have := ho.1.len
      rw [List.length_map] at this
      unfold rkN
      exact this
    (repeat first | simp only [go_sem, ↓reduceIte, Nat.reduceEqDiff, Nat.reduceAdd, reduceCtorEq] | with_reducible refine V_W ?_ | (with_reducible refine And.intro ?_ ?_; focus first | assumption | omega | decide | grind) | (with_reducible refine Br.mk ?_ ?_; focus (intros; omega)) | decide)
    refine ⟨k + 1, by omega, by omega, ?_⟩
    rw [hst, hol]
    refine Ref.gc [3] rfl ?_ (by simp [sub, fget, go_sem, ↓reduceIte, Nat.reduceEqDiff, Nat.reduceAdd, reduceCtorEq])
    (try simp only [go_sem, ↓reduceIte, Nat.reduceEqDiff, Nat.reduceAdd, reduceCtorEq, take_len, one_intsC, app_intsC])
  · obtain rfl : k = r.toNat - 1 := by omega
    subst hL
    (repeat first | simp only [go_sem, ↓reduceIte, Nat.reduceEqDiff, Nat.reduceAdd, reduceCtorEq] | with_reducible refine V_W ?_ | (with_reducible refine And.intro ?_ ?_; focus first | assumption | omega | decide | grind) | (with_reducible refine Br.mk ?_ ?_; focus (intros; omega)) | decide)
    (try simp only [go_sem, ↓reduceIte, Nat.reduceEqDiff, Nat.reduceAdd, reduceCtorEq, and_self])
end Go.Proofs.Ytmiapnfhlhgefaa
