/- Texts that belong together. -/
import Derived.Test.YtcmahhfjpgoceaaGreatZm
import Derived.Test.YtcmahhfjpgoceaaGreatR6
set_option linter.unusedSimpArgs false
set_option linter.unusedVariables false
set_option maxRecDepth 100000
namespace Go.Gov
variable {P : Program} {N : Nat} {F : Frame} {H : Heap} {M : List Nat} {n0 : Nat}
theorem Ref.nilA (j k : Nat) (h : fget F j = .agg [nilS]) : Ref n0 F H ((j, .agg [.slc k 0 []]) :: F) H := fun N g a w hR => by
  refine ⟨g, ⟨fun i => ?_, hR.hp, hR.size, hR.defers⟩, .refl hR.hp⟩
  simp only [get_put]
  by_cases e : j = i
  · subst e
    rw [if_pos rfl]
    have h1 := hR.fr j
    rw [h] at h1
    generalize a.tmps.getD j undef = v at h1 ⊢
    cases h1 with
    | agg hl hr =>
      refine .agg (by simpa using hl) fun m hm => ?_
      obtain rfl : m = 0 := by simp at hm; omega
      have h2 := hr 0 (by simp)
      simp only [List.getElem_cons_zero] at h2 ⊢
      rw [h2.val_inv.1]
      exact .slc0 (by unfold maxLen; omega)
  · rw [if_neg e]; exact hR.fr i
end Go.Gov
namespace Go.Proofs.YtcmahhfjpgoceaaGreat
open Go.Gov Go.Ce
open Classical

set_option maxHeartbeats 2000000 in
theorem l14DrawRotation_w (bs : List Int) (hb : Byt bs) (a : Nat) (h : Int) (hs : a ≤ bs.length) (most : Nat) (hm1 : 1 ≤ most) (hm2 : most ≤ 1000) :
    WriE Tryz.prog 98 [.ref 0 0, i64 (most : Int)] [some (srcC bs a h)] (fun o : Nat × Int × List Int => o.1 ≤ bs.length ∧ o.2.2.length ≤ 2 * most) (fun o => .sl 1 1 0 o.2.2.length) (fun o => [some (srcC bs o.1 o.2.1), some (intsC o.2.2)]) := by
  refine wriREV ok98 rfl ?_; unfold c98
  refine RN ?_
  have hmx : (if (1 : Int) < (most : Int) then (most : Int) else 1) = most := by split <;> omega
  (try simp only [hmx])
  refine wriEF (l01Next_w bs hb a h hs (most : Int)) [0] (by first | rfl | simp) (by simp only [go_sem, ↓reduceIte, Nat.reduceEqDiff, Nat.reduceAdd, reduceCtorEq] <;> rfl) (by simp only [go_sem, ↓reduceIte, Nat.reduceEqDiff, Nat.reduceAdd, reduceCtorEq] <;> rfl) fun o ho => ?_
  obtain ⟨a1, b1, p⟩ := o
  obtain ⟨q1, q2, q3⟩ := ho
  dsimp only at q1 q2 q3
  obtain ⟨p, rfl⟩ := Int.eq_ofNat_of_zero_le q2
  refine RN ?_
  refine V_loop (α := Nat × Int × List Int) (S := fun o => ([(0, .ref 0 0), (5, i64 (2 * (1 + (p : Int)))), (6, .sl 1 1 0 o.2.2.length), (7, i64 (o.2.2.length : Int))], [some (srcC bs o.1 o.2.1), some (intsC o.2.2)])) (C := fun o => o.1 ≤ bs.length ∧ o.2.2.length ≤ 2 * (1 + p)) (μ := fun o => 2 * (1 + p) - o.2.2.length) (a1, b1, []) ⟨q1, Nat.zero_le _⟩ (Ref.to rfl (by simp [sub, fget])) ?_
  rintro ⟨a2, b2, x⟩ ⟨h1, h2⟩
  dsimp only at h1 h2 ⊢
  refine RN ?_
  refine ⟨fun hc => ?_, fun hc => ?_⟩
  · (refine RN ?_; try with_reducible exact trivial)
    refine wriEF (l01Next_w bs hb a2 b2 h1 ((x.length : Int) + 1)) [0] (by first | rfl | simp) (by simp only [go_sem, ↓reduceIte, Nat.reduceEqDiff, Nat.reduceAdd, reduceCtorEq] <;> rfl) (by simp only [go_sem, ↓reduceIte, Nat.reduceEqDiff, Nat.reduceAdd, reduceCtorEq] <;> rfl) fun o ho => ?_
    obtain ⟨a3, b3, k⟩ := o
    obtain ⟨r1, r2, r3⟩ := ho
    dsimp only at r1 r2 r3
    obtain ⟨k, rfl⟩ := Int.eq_ofNat_of_zero_le r2
    refine RN ?_
    have e1 : ((x.length : Int) - k).toNat = x.length - k := by omega
    have tk1 : ((intsC x).drop k).take (x.length - k) = intsC (x.drop k) := by rw [drop_intsC]; exact List.take_of_length_le (by rw [len_intsC, List.length_drop]; exact Nat.le_refl _)
    simp only [e1, tk1, go_sem, ↓reduceIte, Nat.reduceEqDiff, Nat.reduceAdd, reduceCtorEq]
    refine RN ?_
    have e2 : ((k : Int) - 0).toNat = k := by omega
    have tk2 : (intsC x).take k = intsC (x.take k) := take_intsC x k
    have tk3 : (i64 (x.length : Int) :: intsC (x.drop k)).take (1 + (x.length - k)) = intsC ((x.length : Int) :: x.drop k) := by
      rw [List.take_of_length_le (by simp [len_intsC]; omega)]; simp [intsC]
    simp only [e2, tk2, tk3, go_sem, ↓reduceIte, Nat.reduceEqDiff, Nat.reduceAdd, reduceCtorEq]
    refine RN ?_
    have hkx : k ≤ x.length := by omega
    have hln : (x.take k ++ ((x.length : Int) :: x.drop k)).length = x.length + 1 := by simp; omega
    have tk4 : (intsC (x.take k)).take k = intsC (x.take k) := List.take_of_length_le (by rw [len_intsC]; simp; omega)
    refine ⟨(a3, b3, x.take k ++ ((x.length : Int) :: x.drop k)), ⟨r1, by dsimp only; rw [hln]; omega⟩, by dsimp only; rw [hln]; omega, ?_⟩
    dsimp only
    rw [hln]
    refine Ref.gc [0, 6] rfl ?_ ?_
    · simp only [go_sem, ↓reduceIte, Nat.reduceEqDiff, Nat.reduceAdd, reduceCtorEq]
      rw [tk4, rnmL_ints, app_intsC]
    · have e3 : k + (1 + (x.length - k)) = x.length + 1 := by omega
      simp [sub, fget, go_sem, ↓reduceIte, Nat.reduceEqDiff, Nat.reduceAdd, reduceCtorEq, e3]
  · (refine RN ?_; try with_reducible exact trivial)
    exact ⟨(a2, b2, x), ⟨h1, by dsimp only; omega⟩, Ref.gc1 [0, 1]⟩
def IsRot (r : List Int) : Prop := 2 ≤ r.length ∧ r.length % 2 = 0 ∧ r.length ≤ 200 ∧ IsPrm r
theorem isRotation_c (r : List Int) (hl : r.length ≤ 1048576) : Pure Tryz.prog 22 [ints r] (bl (decide (IsRot r))) [] := by
  have hp := l01Perm_c r (by omega)
  have e3 : ((r.length : Int)).tmod 2 = ((r.length % 2 : Nat) : Int) := by rw [Int.tmod_eq_emod_of_nonneg (by omega)]; rfl
  refine pureV0 ok22 rfl rfl ?_; unfold c22
  (refine RN ?_; try with_reducible exact trivial)
  (try simp only [e3, go_sem, ↓reduceIte, Nat.reduceEqDiff, Nat.reduceAdd, reduceCtorEq])
  refine GC1 (bl (decide (IsPrm r)) ) (fun hg =>  hp) ?_
  refine RN ?_
  congr 2
  rw [Bool.eq_iff_iff, decide_eq_true_eq]
  simp only [IsRot, Bool.and_eq_true, decide_eq_true_eq, beq_iff_eq]
  constructor
  · rintro ⟨⟨⟨h1, h2⟩, h3⟩, h4⟩
    exact ⟨by omega, by omega, by omega, h4⟩
  · rintro ⟨h1, h2, h3, h4⟩
    exact ⟨⟨⟨by omega, by omega⟩, by omega⟩, h4⟩
set_option maxHeartbeats 4000000 in
theorem mapOfRotation_c (r : List Int) (hl : r.length ≤ 1048576) : PureE Tryz.prog 19 [ints r] (fun o : List (List Int) × Int => (o.2 = 0 → o.1.length = 3 ∧ ∀ p ∈ o.1, p.length = 2 * r.length)) (fun o => .tup [if o.2 = 0 then maniA o.1 else .agg [nilS], i64 o.2]) (fun _ => []) := by
  have hi := isRotation_c r hl
  refine pureREV ok19 rfl ?_; unfold c19
  refine RN ?_
  refine pureC1 (hi) ?_
  refine RN ?_
  refine ⟨fun hr => ?_, fun hr => ?_⟩
  · (refine RN ?_; try with_reducible exact trivial)
    exact ⟨([], 1), fun h => absurd h (by decide), Ref.gc1 []⟩
  · obtain ⟨h2, hev, h200, hprm⟩ := hr
    have hc2 : (2 * (r.length : Int)).toNat = 2 * r.length := by omega
    refine RN ?_
    refine V_altsS [(0, ints r), (2, .ref 0 0), (3, i64 0), (4, i64 (r.length : Int)), (5, .ref 1 0)] [some [nilS], some [.sl 5 1 0 3], some (intsC (List.replicate (2 * r.length) 0)), some (intsC (List.replicate (2 * r.length) 0)), some (intsC (List.replicate (2 * r.length) 0)), some [.sl 2 1 0 (2 * r.length), .sl 3 1 0 (2 * r.length), .sl 4 1 0 (2 * r.length)]] ?_ ?_
    · (repeat' first | simp only [go_sem, ↓reduceIte, Nat.reduceEqDiff, Nat.reduceAdd, reduceCtorEq] | with_reducible refine LT_reg ?_ | with_reducible refine LT_regz (by simp only [zAd_load, zAd_loads, zPt_pto, go_sem, ↓reduceIte, Nat.reduceEqDiff, Nat.reduceAdd, reduceCtorEq]) ?_ | with_reducible refine LT_fin ?_ | with_reducible exact LT_tt | with_reducible refine LT_alt ?_ ?_ | (with_reducible refine And.intro ?_ ?_; focus first | assumption | omega | grind))
      all_goals rw [hc2]
      all_goals first
        | (refine Ref.gc [0, 1, 2, 3, 4, 5] rfl ?_ ?_; (focus simp only [go_sem, ↓reduceIte, Nat.reduceEqDiff, Nat.reduceAdd, reduceCtorEq] <;> rfl); (simp [sub, fget, go_sem, ↓reduceIte, Nat.reduceEqDiff, Nat.reduceAdd, reduceCtorEq]; done))
        | (refine Ref.gc [0, 1, 2, 4, 3, 5] rfl ?_ ?_; (focus simp only [go_sem, ↓reduceIte, Nat.reduceEqDiff, Nat.reduceAdd, reduceCtorEq] <;> rfl); (simp [sub, fget, go_sem, ↓reduceIte, Nat.reduceEqDiff, Nat.reduceAdd, reduceCtorEq]; done))
        | (refine Ref.gc [0, 1, 3, 2, 4, 5] rfl ?_ ?_; (focus simp only [go_sem, ↓reduceIte, Nat.reduceEqDiff, Nat.reduceAdd, reduceCtorEq] <;> rfl); (simp [sub, fget, go_sem, ↓reduceIte, Nat.reduceEqDiff, Nat.reduceAdd, reduceCtorEq]; done))
        | (refine Ref.gc [0, 1, 3, 4, 2, 5] rfl ?_ ?_; (focus simp only [go_sem, ↓reduceIte, Nat.reduceEqDiff, Nat.reduceAdd, reduceCtorEq] <;> rfl); (simp [sub, fget, go_sem, ↓reduceIte, Nat.reduceEqDiff, Nat.reduceAdd, reduceCtorEq]; done))
        | (refine Ref.gc [0, 1, 4, 2, 3, 5] rfl ?_ ?_; (focus simp only [go_sem, ↓reduceIte, Nat.reduceEqDiff, Nat.reduceAdd, reduceCtorEq] <;> rfl); (simp [sub, fget, go_sem, ↓reduceIte, Nat.reduceEqDiff, Nat.reduceAdd, reduceCtorEq]; done))
        | (refine Ref.gc [0, 1, 4, 3, 2, 5] rfl ?_ ?_; (focus simp only [go_sem, ↓reduceIte, Nat.reduceEqDiff, Nat.reduceAdd, reduceCtorEq] <;> rfl); (simp [sub, fget, go_sem, ↓reduceIte, Nat.reduceEqDiff, Nat.reduceAdd, reduceCtorEq]; done))
        | (refine Ref.gc [0, 2, 1, 3, 4, 5] rfl ?_ ?_; (focus simp only [go_sem, ↓reduceIte, Nat.reduceEqDiff, Nat.reduceAdd, reduceCtorEq] <;> rfl); (simp [sub, fget, go_sem, ↓reduceIte, Nat.reduceEqDiff, Nat.reduceAdd, reduceCtorEq]; done))
        | (refine Ref.gc [0, 2, 1, 4, 3, 5] rfl ?_ ?_; (focus simp only [go_sem, ↓reduceIte, Nat.reduceEqDiff, Nat.reduceAdd, reduceCtorEq] <;> rfl); (simp [sub, fget, go_sem, ↓reduceIte, Nat.reduceEqDiff, Nat.reduceAdd, reduceCtorEq]; done))
        | (refine Ref.gc [0, 2, 3, 1, 4, 5] rfl ?_ ?_; (focus simp only [go_sem, ↓reduceIte, Nat.reduceEqDiff, Nat.reduceAdd, reduceCtorEq] <;> rfl); (simp [sub, fget, go_sem, ↓reduceIte, Nat.reduceEqDiff, Nat.reduceAdd, reduceCtorEq]; done))
        | (refine Ref.gc [0, 2, 3, 4, 1, 5] rfl ?_ ?_; (focus simp only [go_sem, ↓reduceIte, Nat.reduceEqDiff, Nat.reduceAdd, reduceCtorEq] <;> rfl); (simp [sub, fget, go_sem, ↓reduceIte, Nat.reduceEqDiff, Nat.reduceAdd, reduceCtorEq]; done))
        | (refine Ref.gc [0, 2, 4, 1, 3, 5] rfl ?_ ?_; (focus simp only [go_sem, ↓reduceIte, Nat.reduceEqDiff, Nat.reduceAdd, reduceCtorEq] <;> rfl); (simp [sub, fget, go_sem, ↓reduceIte, Nat.reduceEqDiff, Nat.reduceAdd, reduceCtorEq]; done))
        | (refine Ref.gc [0, 2, 4, 3, 1, 5] rfl ?_ ?_; (focus simp only [go_sem, ↓reduceIte, Nat.reduceEqDiff, Nat.reduceAdd, reduceCtorEq] <;> rfl); (simp [sub, fget, go_sem, ↓reduceIte, Nat.reduceEqDiff, Nat.reduceAdd, reduceCtorEq]; done))
        | (refine Ref.gc [0, 3, 1, 2, 4, 5] rfl ?_ ?_; (focus simp only [go_sem, ↓reduceIte, Nat.reduceEqDiff, Nat.reduceAdd, reduceCtorEq] <;> rfl); (simp [sub, fget, go_sem, ↓reduceIte, Nat.reduceEqDiff, Nat.reduceAdd, reduceCtorEq]; done))
        | (refine Ref.gc [0, 3, 1, 4, 2, 5] rfl ?_ ?_; (focus simp only [go_sem, ↓reduceIte, Nat.reduceEqDiff, Nat.reduceAdd, reduceCtorEq] <;> rfl); (simp [sub, fget, go_sem, ↓reduceIte, Nat.reduceEqDiff, Nat.reduceAdd, reduceCtorEq]; done))
        | (refine Ref.gc [0, 3, 2, 1, 4, 5] rfl ?_ ?_; (focus simp only [go_sem, ↓reduceIte, Nat.reduceEqDiff, Nat.reduceAdd, reduceCtorEq] <;> rfl); (simp [sub, fget, go_sem, ↓reduceIte, Nat.reduceEqDiff, Nat.reduceAdd, reduceCtorEq]; done))
        | (refine Ref.gc [0, 3, 2, 4, 1, 5] rfl ?_ ?_; (focus simp only [go_sem, ↓reduceIte, Nat.reduceEqDiff, Nat.reduceAdd, reduceCtorEq] <;> rfl); (simp [sub, fget, go_sem, ↓reduceIte, Nat.reduceEqDiff, Nat.reduceAdd, reduceCtorEq]; done))
        | (refine Ref.gc [0, 3, 4, 1, 2, 5] rfl ?_ ?_; (focus simp only [go_sem, ↓reduceIte, Nat.reduceEqDiff, Nat.reduceAdd, reduceCtorEq] <;> rfl); (simp [sub, fget, go_sem, ↓reduceIte, Nat.reduceEqDiff, Nat.reduceAdd, reduceCtorEq]; done))
        | (refine Ref.gc [0, 3, 4, 2, 1, 5] rfl ?_ ?_; (focus simp only [go_sem, ↓reduceIte, Nat.reduceEqDiff, Nat.reduceAdd, reduceCtorEq] <;> rfl); (simp [sub, fget, go_sem, ↓reduceIte, Nat.reduceEqDiff, Nat.reduceAdd, reduceCtorEq]; done))
        | (refine Ref.gc [0, 4, 1, 2, 3, 5] rfl ?_ ?_; (focus simp only [go_sem, ↓reduceIte, Nat.reduceEqDiff, Nat.reduceAdd, reduceCtorEq] <;> rfl); (simp [sub, fget, go_sem, ↓reduceIte, Nat.reduceEqDiff, Nat.reduceAdd, reduceCtorEq]; done))
        | (refine Ref.gc [0, 4, 1, 3, 2, 5] rfl ?_ ?_; (focus simp only [go_sem, ↓reduceIte, Nat.reduceEqDiff, Nat.reduceAdd, reduceCtorEq] <;> rfl); (simp [sub, fget, go_sem, ↓reduceIte, Nat.reduceEqDiff, Nat.reduceAdd, reduceCtorEq]; done))
        | (refine Ref.gc [0, 4, 2, 1, 3, 5] rfl ?_ ?_; (focus simp only [go_sem, ↓reduceIte, Nat.reduceEqDiff, Nat.reduceAdd, reduceCtorEq] <;> rfl); (simp [sub, fget, go_sem, ↓reduceIte, Nat.reduceEqDiff, Nat.reduceAdd, reduceCtorEq]; done))
        | (refine Ref.gc [0, 4, 2, 3, 1, 5] rfl ?_ ?_; (focus simp only [go_sem, ↓reduceIte, Nat.reduceEqDiff, Nat.reduceAdd, reduceCtorEq] <;> rfl); (simp [sub, fget, go_sem, ↓reduceIte, Nat.reduceEqDiff, Nat.reduceAdd, reduceCtorEq]; done))
        | (refine Ref.gc [0, 4, 3, 1, 2, 5] rfl ?_ ?_; (focus simp only [go_sem, ↓reduceIte, Nat.reduceEqDiff, Nat.reduceAdd, reduceCtorEq] <;> rfl); (simp [sub, fget, go_sem, ↓reduceIte, Nat.reduceEqDiff, Nat.reduceAdd, reduceCtorEq]; done))
        | (refine Ref.gc [0, 4, 3, 2, 1, 5] rfl ?_ ?_; (focus simp only [go_sem, ↓reduceIte, Nat.reduceEqDiff, Nat.reduceAdd, reduceCtorEq] <;> rfl); (simp [sub, fget, go_sem, ↓reduceIte, Nat.reduceEqDiff, Nat.reduceAdd, reduceCtorEq]; done))
        | (refine Ref.gc [0, 5, 1, 2, 3, 4] rfl ?_ ?_; (focus simp only [go_sem, ↓reduceIte, Nat.reduceEqDiff, Nat.reduceAdd, reduceCtorEq] <;> rfl); (simp [sub, fget, go_sem, ↓reduceIte, Nat.reduceEqDiff, Nat.reduceAdd, reduceCtorEq]; done))
        | (refine Ref.gc [0, 5, 1, 3, 2, 4] rfl ?_ ?_; (focus simp only [go_sem, ↓reduceIte, Nat.reduceEqDiff, Nat.reduceAdd, reduceCtorEq] <;> rfl); (simp [sub, fget, go_sem, ↓reduceIte, Nat.reduceEqDiff, Nat.reduceAdd, reduceCtorEq]; done))
        | (refine Ref.gc [0, 5, 2, 1, 3, 4] rfl ?_ ?_; (focus simp only [go_sem, ↓reduceIte, Nat.reduceEqDiff, Nat.reduceAdd, reduceCtorEq] <;> rfl); (simp [sub, fget, go_sem, ↓reduceIte, Nat.reduceEqDiff, Nat.reduceAdd, reduceCtorEq]; done))
        | (refine Ref.gc [0, 5, 2, 3, 1, 4] rfl ?_ ?_; (focus simp only [go_sem, ↓reduceIte, Nat.reduceEqDiff, Nat.reduceAdd, reduceCtorEq] <;> rfl); (simp [sub, fget, go_sem, ↓reduceIte, Nat.reduceEqDiff, Nat.reduceAdd, reduceCtorEq]; done))
        | (refine Ref.gc [0, 5, 3, 1, 2, 4] rfl ?_ ?_; (focus simp only [go_sem, ↓reduceIte, Nat.reduceEqDiff, Nat.reduceAdd, reduceCtorEq] <;> rfl); (simp [sub, fget, go_sem, ↓reduceIte, Nat.reduceEqDiff, Nat.reduceAdd, reduceCtorEq]; done))
        | (refine Ref.gc [0, 5, 3, 2, 1, 4] rfl ?_ ?_; (focus simp only [go_sem, ↓reduceIte, Nat.reduceEqDiff, Nat.reduceAdd, reduceCtorEq] <;> rfl); (simp [sub, fget, go_sem, ↓reduceIte, Nat.reduceEqDiff, Nat.reduceAdd, reduceCtorEq]; done))
    refine RN ?_
    refine V_loop (α := Nat × List Int × List Int × List Int) (S := fun o => ([(0, ints r), (2, .ref 0 0), (3, i64 0), (4, i64 (r.length : Int)), (5, .ref 1 0), (6, i64 (o.1 : Int))], [some [nilS], some [.sl 5 1 0 3], some (intsC o.2.1), some (intsC o.2.2.1), some (intsC o.2.2.2), some [.sl 2 1 0 (2 * r.length), .sl 3 1 0 (2 * r.length), .sl 4 1 0 (2 * r.length)]])) (C := fun o => o.1 ≤ r.length ∧ o.2.1.length = 2 * r.length ∧ o.2.2.1.length = 2 * r.length ∧ o.2.2.2.length = 2 * r.length) (μ := fun o => r.length - o.1) (0, List.replicate (2 * r.length) 0, List.replicate (2 * r.length) 0, List.replicate (2 * r.length) 0) ⟨Nat.zero_le _, by simp, by simp, by simp⟩ (Ref.to rfl (by simp [sub, fget])) ?_
    rintro ⟨d, A, B, C⟩ ⟨g1, g2, g3, g4⟩
    dsimp only at g1 g2 g3 g4 ⊢
    refine RN ?_
    refine ⟨fun hc => ?_, fun hc => ?_⟩
    · have hat := hprm.at (k := d) (by omega)
      have e3 : (d : Int).tmod 2 = (d : Int) % 2 := Int.tmod_eq_emod_of_nonneg (by omega)
      have e4 : ((2 * (d : Int) + 1)).toNat = 2 * d + 1 := by omega
      have e5 : ((2 * (d : Int))).toNat = 2 * d := by omega
      refine RN ?_
      exact ⟨(d + 1, _, _, _), ⟨by dsimp only; omega, by simp [g2], by simp [g3], by simp [g4]⟩, by dsimp only; omega, Ref.to rfl (by simp [sub, fget])⟩
    · obtain rfl : d = r.length := by omega
      have tA : (intsC A).take (2 * r.length) = intsC A := List.take_of_length_le (by rw [len_intsC]; omega)
      have tB : (intsC B).take (2 * r.length) = intsC B := List.take_of_length_le (by rw [len_intsC]; omega)
      have tC : (intsC C).take (2 * r.length) = intsC C := List.take_of_length_le (by rw [len_intsC]; omega)
      have hM : AV.agg [.slc 1 3 [.slc 1 (2 * r.length) (intsC A), .slc 1 (2 * r.length) (intsC B), .slc 1 (2 * r.length) (intsC C)]] = maniA [A, B, C] := by simp [maniA, mat, ints, intsC, g2, g3, g4]
      refine RN ?_
      refine pureC (l14Is_c [A, B, C] (by simp) (by intro p hp; simp at hp; rcases hp with rfl | rfl | rfl <;> omega)) (by simp only [go_sem, ↓reduceIte, Nat.reduceEqDiff, Nat.reduceAdd, reduceCtorEq, tA, tB, tC, hM] <;> rfl) (by first | rfl | simp only [go_sem, ↓reduceIte, Nat.reduceEqDiff, Nat.reduceAdd, reduceCtorEq]) ?_
      refine RN ?_
      refine ⟨fun hm => ?_, fun hm => ?_⟩
      · (refine RN ?_; try with_reducible exact trivial)
        exact ⟨([], 5), fun h => absurd h (by decide), Ref.gc1 []⟩
      · (refine RN ?_; try with_reducible exact trivial)
        refine ⟨([A, B, C], 0), fun _ => ⟨rfl, by intro p hp; simp at hp; rcases hp with rfl | rfl | rfl <;> omega⟩, Ref.sel [] rfl (by simp only [go_sem, ↓reduceIte, Nat.reduceEqDiff, Nat.reduceAdd, reduceCtorEq]) ?_⟩
        simp [sub, fget, go_sem, ↓reduceIte, Nat.reduceEqDiff, Nat.reduceAdd, reduceCtorEq, tA, tB, tC, hM]
end Go.Proofs.YtcmahhfjpgoceaaGreat
set_option maxRecDepth 100000
namespace Go.Proofs.YtcmahhfjpgoceaaGreat
open Go.Gov Go.Ce
open Classical

theorem Gd.mono {m n : Nat} {M : List (List Int)} (h : Gd m M) (hn : m ≤ n) : Gd n M := ⟨h.1, fun p hp => Nat.le_trans (h.2 p hp) (by omega)⟩
theorem Gd.nil (n : Nat) : Gd n [] := ⟨by simp, fun p hp => by simp at hp⟩
theorem gd_man {M : List (List Int)} (h : IsMan M) : Gd 400 M := by
  refine ⟨by have := h.r5; omega, fun p hp => ?_⟩
  obtain ⟨k, hk, rfl⟩ := List.mem_iff_getElem.1 hp
  have h1 := (h.rows k hk).1
  rw [show M.getD k [] = M[k] by simp [hk]] at h1
  have := h.f4
  omega
theorem up_gd {a b : Nat} (h : uniC a b = 0) : IsMan (uniT a b) := by
  unfold uniC at h
  split at h
  · split at h
    · rename_i h2; exact h2
    · cases h
  · cases h
theorem up_ex (a b : Nat) (ha : 2 ≤ a ∧ a ≤ 32) (hb : 2 ≤ b ∧ b ≤ 32) : ∃ (M : List (List Int)) (c : Int), (c = 0 → IsMan M) ∧ Pure Tryz.prog 112 [ints [(a : Int), (b : Int)], nilS] (.tup [if c = 0 then maniA M else .agg [nilS], i64 c]) [] :=
  ⟨uniT a b, uniC a b, up_gd, universalPolytope_p a b ha hb⟩
set_option maxHeartbeats 8000000 in
theorem l14DrawSolid_w (bs : List Int) (hb : Byt bs) (a : Nat) (h : Int) (hs : a ≤ bs.length) (most : Nat) (hm1 : 16 ≤ most) (hm2 : most ≤ 400) :
    WriE Tryz.prog 82 [.ref 0 0, i64 (most : Int)] [some (srcC bs a h)] (fun o : Nat × Int × List (List Int) => o.1 ≤ bs.length ∧ Gd 400 o.2.2) (fun o => maniA o.2.2) (fun o => [some (srcC bs o.1 o.2.1)]) := by
  refine wriREV ok82 rfl ?_; unfold c82
  refine RN ?_
  refine wriEF (l01Next_w bs hb a h hs 4) [0] (by first | rfl | simp) (by simp only [go_sem, ↓reduceIte, Nat.reduceEqDiff, Nat.reduceAdd, reduceCtorEq] <;> rfl) (by simp only [go_sem, ↓reduceIte, Nat.reduceEqDiff, Nat.reduceAdd, reduceCtorEq] <;> rfl) fun o ho => ?_
  obtain ⟨a1, b1, k⟩ := o
  obtain ⟨h1, h2, h3⟩ := ho
  dsimp only at h1 h2 h3
  obtain ⟨k, rfl⟩ := Int.eq_ofNat_of_zero_le h2
  simp only [go_sem, ↓reduceIte, Nat.reduceEqDiff, Nat.reduceAdd, reduceCtorEq]
  refine W_joinQ (fun o : Nat × Int => o.1 ≤ bs.length) (fun o => [(0, .ref 0 0), (1, i64 (most : Int)), (4, .ref 1 0)]) (fun o => [some (srcC bs o.1 o.2), some [nilS]]) ?_ ?_
  · (refine RN ?_; try with_reducible exact trivial)
    refine ⟨fun c0 => ?_, fun c0 => ?_⟩
    · (refine RN ?_; try with_reducible exact trivial)
      refine wriEF (l01Next_w bs hb a1 b1 h1 8) [0] (by first | rfl | simp) (by simp only [go_sem, ↓reduceIte, Nat.reduceEqDiff, Nat.reduceAdd, reduceCtorEq] <;> rfl) (by simp only [go_sem, ↓reduceIte, Nat.reduceEqDiff, Nat.reduceAdd, reduceCtorEq] <;> rfl) fun o ho => ?_
      obtain ⟨a2, b2, j⟩ := o
      obtain ⟨q1, q2, q3⟩ := ho
      dsimp only at q1 q2 q3
      obtain ⟨j, rfl⟩ := Int.eq_ofNat_of_zero_le q2
      have hj : j = 0 ∨ j = 1 ∨ j = 2 ∨ j = 3 ∨ j = 4 ∨ j = 5 ∨ j = 6 ∨ j = 7 := by omega
      rcases hj with rfl | rfl | rfl | rfl | rfl | rfl | rfl | rfl
      all_goals (refine RN ?_; try with_reducible exact trivial)
      all_goals first
        | (obtain ⟨M, c, hMc, hu⟩ := up_ex 3 3 (by decide) (by decide); refine CallsX.ice 2 ?_; refine call_pureG hu ?_ ?_; (focus (simp only [go_sem, ↓reduceIte, Nat.reduceEqDiff, Nat.reduceAdd, reduceCtorEq] <;> rfl)))
        | (obtain ⟨M, c, hMc, hu⟩ := up_ex 3 3 (by decide) (by decide); refine CallsX.ice 3 ?_; refine call_pureG hu ?_ ?_; (focus (simp only [go_sem, ↓reduceIte, Nat.reduceEqDiff, Nat.reduceAdd, reduceCtorEq] <;> rfl)))
        | (obtain ⟨M, c, hMc, hu⟩ := up_ex 4 3 (by decide) (by decide); refine CallsX.ice 4 ?_; refine call_pureG hu ?_ ?_; (focus (simp only [go_sem, ↓reduceIte, Nat.reduceEqDiff, Nat.reduceAdd, reduceCtorEq] <;> rfl)))
        | (obtain ⟨M, c, hMc, hu⟩ := up_ex 3 4 (by decide) (by decide); refine CallsX.ice 5 ?_; refine call_pureG hu ?_ ?_; (focus (simp only [go_sem, ↓reduceIte, Nat.reduceEqDiff, Nat.reduceAdd, reduceCtorEq] <;> rfl)))
        | (obtain ⟨M, c, hMc, hu⟩ := up_ex 2 3 (by decide) (by decide); refine CallsX.ice 6 ?_; refine call_pureG hu ?_ ?_; (focus (simp only [go_sem, ↓reduceIte, Nat.reduceEqDiff, Nat.reduceAdd, reduceCtorEq] <;> rfl)))
        | (obtain ⟨M, c, hMc, hu⟩ := up_ex 4 2 (by decide) (by decide); refine CallsX.ice 7 ?_; refine call_pureG hu ?_ ?_; (focus (simp only [go_sem, ↓reduceIte, Nat.reduceEqDiff, Nat.reduceAdd, reduceCtorEq] <;> rfl)))
        | (obtain ⟨M, c, hMc, hu⟩ := up_ex 5 2 (by decide) (by decide); refine CallsX.ice 8 ?_; refine call_pureG hu ?_ ?_; (focus (simp only [go_sem, ↓reduceIte, Nat.reduceEqDiff, Nat.reduceAdd, reduceCtorEq] <;> rfl)))
        | (obtain ⟨M, c, hMc, hu⟩ := up_ex 2 6 (by decide) (by decide); refine CallsX.ice 9 ?_; refine call_pureG hu ?_ ?_; (focus (simp only [go_sem, ↓reduceIte, Nat.reduceEqDiff, Nat.reduceAdd, reduceCtorEq] <;> rfl)))
      all_goals
        rcases Classical.em (c = 0) with e | e
        · have hman := hMc e
          rw [if_pos e, e]
          have m1 := hman.r1
          have m5 := hman.r5
          have f4 := hman.f4
          unfold fl at f4
          have hf := l02Flags_c M (by omega) (by omega) (by omega)
          refine RN ?_
          refine GCall.on rfl ?_
          refine pureC1 (hf) ?_
          refine RN ?_
          refine ⟨fun c9 => ?_, fun c9 => ?_⟩
          · (refine RN ?_; try with_reducible exact trivial)
            exact ⟨(a2, b2, M), ⟨q1, gd_man hman⟩, Ref.gc [0] rfl (by simp only [go_sem, ↓reduceIte, Nat.reduceEqDiff, Nat.reduceAdd, reduceCtorEq] <;> rfl) (by simp [sub, fget, go_sem, ↓reduceIte, Nat.reduceEqDiff, Nat.reduceAdd, reduceCtorEq])⟩
          · (refine RN ?_; try with_reducible exact trivial)
            exact ⟨(a2, b2), q1, Ref.gc [0, 1] rfl (by simp only [go_sem, ↓reduceIte, Nat.reduceEqDiff, Nat.reduceAdd, reduceCtorEq] <;> rfl) (by simp [sub, fget, go_sem, ↓reduceIte, Nat.reduceEqDiff, Nat.reduceAdd, reduceCtorEq])⟩
        · rw [if_neg e]
          have dc : (c == 0) = false := by simp [e]
          have nc : (c = 0) = False := eq_false e
          refine RN ?_
          simp only [dc]
          refine GCall_no (i64 0) rfl ?_
          simp only [go_sem, ↓reduceIte, Nat.reduceEqDiff, Nat.reduceAdd, reduceCtorEq, dc, nc, false_implies]
          refine RN ?_
          exact ⟨(a2, b2), q1, Ref.gc [0, 1] rfl (by simp only [go_sem, ↓reduceIte, Nat.reduceEqDiff, Nat.reduceAdd, reduceCtorEq] <;> rfl) (by simp [sub, fget, go_sem, ↓reduceIte, Nat.reduceEqDiff, Nat.reduceAdd, reduceCtorEq])⟩
    · (refine RN ?_; try with_reducible exact trivial)
      refine ⟨fun c1 => ?_, fun c1 => ?_⟩
      · have hq : ∃ q : Nat, 1 ≤ q ∧ q ≤ 8 ∧ (if (8 : Int) < (most : Int).tdiv 4 then 8 else (most : Int).tdiv 4) = (q : Int) := by
          have eq4 : (most : Int).tdiv 4 = ((most / 4 : Nat) : Int) := by rw [Int.tdiv_eq_ediv_of_nonneg (by omega)]; rfl
          rw [eq4]
          split
          · exact ⟨8, by omega, by omega, rfl⟩
          · exact ⟨most / 4, by omega, by omega, rfl⟩
        obtain ⟨q, q1, q2, hq⟩ := hq
        refine RN ?_
        simp only [hq]
        refine wriEF (l14DrawRotation_w bs hb a1 b1 h1 q q1 (by omega)) [0] (by first | rfl | simp) (by simp only [go_sem, ↓reduceIte, Nat.reduceEqDiff, Nat.reduceAdd, reduceCtorEq] <;> rfl) (by simp only [go_sem, ↓reduceIte, Nat.reduceEqDiff, Nat.reduceAdd, reduceCtorEq] <;> rfl) fun o ho => ?_
        obtain ⟨a2, b2, x⟩ := o
        obtain ⟨r1, r2⟩ := ho
        dsimp only at r1 r2
        refine RN ?_
        refine CallsX.ice 2 ?_
        have hxl : (intsC x).take x.length = intsC x := List.take_of_length_le (by rw [len_intsC]; omega)
        refine pureEG (mapOfRotation_c x (by omega)) (by simp only [go_sem, ↓reduceIte, Nat.reduceEqDiff, Nat.reduceAdd, reduceCtorEq, hxl] <;> rfl) fun o ho => ?_
        obtain ⟨M, c⟩ := o
        dsimp only at ho ⊢
        rcases Classical.em (c = 0) with e | e
        · subst e
          obtain ⟨m3, mr⟩ := ho rfl
          rw [if_pos rfl]
          refine RN ?_
          refine ⟨(a2, b2, M), ⟨r1, by dsimp only; omega, fun p hp => ?_⟩, Ref.gc [0] rfl (by simp only [go_sem, ↓reduceIte, Nat.reduceEqDiff, Nat.reduceAdd, reduceCtorEq] <;> rfl) (by simp [sub, fget, go_sem, ↓reduceIte, Nat.reduceEqDiff, Nat.reduceAdd, reduceCtorEq])⟩
          have := mr p hp
          omega
        · have dc : (c == 0) = false := by simp [e]
          have nc : (c = 0) = False := eq_false e
          rw [if_neg e]
          refine RN ?_
          simp only [dc, nc]
          refine RN ?_
          exact ⟨(a2, b2), r1, Ref.gc [0, 1] rfl (by simp only [go_sem, ↓reduceIte, Nat.reduceEqDiff, Nat.reduceAdd, reduceCtorEq] <;> rfl) (by simp [sub, fget, go_sem, ↓reduceIte, Nat.reduceEqDiff, Nat.reduceAdd, reduceCtorEq])⟩
      · (refine RN ?_; try with_reducible exact trivial)
        exact ⟨(a1, b1), h1, Ref.to rfl (by simp [sub, fget])⟩
  · rintro ⟨a2, b2⟩ q1
    dsimp only at q1 ⊢
    refine RN ?_
    refine V_loop (α := Nat × Nat × Int) (S := fun o => ([(0, .ref 0 0), (1, i64 (most : Int)), (4, .ref 1 0), (11, i64 (o.1 : Int))], [some (srcC bs o.2.1 o.2.2), some [nilS]])) (C := fun o => o.1 ≤ 20 ∧ o.2.1 ≤ bs.length) (μ := fun o => 20 - o.1) (0, a2, b2) ⟨Nat.zero_le _, q1⟩ (Ref.to rfl (by simp [sub, fget])) ?_
    clear a2 b2 q1
    rintro ⟨i, a2, b2⟩ ⟨h4, q1⟩
    dsimp only at h4 q1 ⊢
    refine RN ?_
    refine ⟨fun hc => ?_, fun hc => ?_⟩
    · (refine RN ?_; try with_reducible exact trivial)
      refine wriEF (l02Draw_w bs hb a2 b2 q1 most hm1 (by omega)) [0] (by first | rfl | simp) (by simp only [go_sem, ↓reduceIte, Nat.reduceEqDiff, Nat.reduceAdd, reduceCtorEq] <;> rfl) (by simp only [go_sem, ↓reduceIte, Nat.reduceEqDiff, Nat.reduceAdd, reduceCtorEq] <;> rfl) fun o ho => ?_
      obtain ⟨a3, b3, n, L⟩ := o
      obtain ⟨g1, g2, g3, g4, g5, g6⟩ := ho
      dsimp only at g1 g2 g3 g4 g5 g6 ⊢
      have hrow : ∀ p ∈ L, p.length = n := fun p hp => by
        obtain ⟨k, hk, rfl⟩ := List.mem_iff_getElem.1 hp
        have := (g6 k hk).1
        rwa [show L.getD k [] = L[k] by simp [hk]] at this
      have his := l14Is_c L (by omega) (fun p hp => by rw [hrow p hp]; omega)
      refine RN ?_
      refine pureC his (by simp only [go_sem, ↓reduceIte, Nat.reduceEqDiff, Nat.reduceAdd, reduceCtorEq, frz_im _ _ L L.length rfl] <;> first | done | (simp only [maniA, mat] <;> rfl)) (by first | rfl | simp only [go_sem, ↓reduceIte, Nat.reduceEqDiff, Nat.reduceAdd, reduceCtorEq]) ?_
      refine RN ?_
      refine ⟨fun hm => ?_, fun hm => ?_⟩
      · (refine RN ?_; try with_reducible exact trivial)
        refine ⟨(a3, b3, L), ⟨g1, by dsimp only; omega, fun p hp => by rw [hrow p hp]; omega⟩, Ref.sel [0] rfl (by simp only [go_sem, ↓reduceIte, Nat.reduceEqDiff, Nat.reduceAdd, reduceCtorEq]) ?_⟩
        simp only [sub, List.all_cons, List.all_nil, go_sem, ↓reduceIte, Nat.reduceEqDiff, Nat.reduceAdd, reduceCtorEq]
        (try rw [List.take_of_length_le (show (List.map oints L).length ≤ L.length by simp), map_frz_orows])
        (try simp [maniA, mat])
      · (refine RN ?_; try with_reducible exact trivial)
        exact ⟨(i + 1, a3, b3), ⟨by dsimp only; omega, g1⟩, by dsimp only; omega, Ref.gc [0, 1] rfl (by simp only [go_sem, ↓reduceIte, Nat.reduceEqDiff, Nat.reduceAdd, reduceCtorEq] <;> rfl) (by simp [sub, fget, go_sem, ↓reduceIte, Nat.reduceEqDiff, Nat.reduceAdd, reduceCtorEq])⟩
    · (refine RN ?_; try with_reducible exact trivial)
      have hu := universalPolytope_p 2 2 (by decide) (by decide)
      refine CallsX.ice 2 ?_
      refine call_pureG (hu) (by simp only [go_sem, ↓reduceIte, Nat.reduceEqDiff, Nat.reduceAdd, reduceCtorEq] <;> rfl) ?_
      rcases Classical.em (uniC 2 2 = 0) with e | e
      · have hman := up_gd e
        rw [if_pos e]
        refine RN ?_
        exact ⟨(a2, b2, uniT 2 2), ⟨q1, gd_man hman⟩, Ref.gc [0] rfl (by simp only [go_sem, ↓reduceIte, Nat.reduceEqDiff, Nat.reduceAdd, reduceCtorEq] <;> rfl) (by simp [sub, fget, go_sem, ↓reduceIte, Nat.reduceEqDiff, Nat.reduceAdd, reduceCtorEq])⟩
      · rw [if_neg e]
        refine RN ?_
        refine ⟨(a2, b2, []), ⟨q1, Gd.nil _⟩, (Ref.nilA 0 1 rfl).trans (Ref.gc [0] rfl (by simp only [go_sem, ↓reduceIte, Nat.reduceEqDiff, Nat.reduceAdd, reduceCtorEq] <;> rfl) ?_)⟩
        simp [sub, fget, go_sem, ↓reduceIte, Nat.reduceEqDiff, Nat.reduceAdd, reduceCtorEq, maniA, mat]
theorem l14Draw_w (bs : List Int) (hb : Byt bs) (a : Nat) (h : Int) (hs : a ≤ bs.length) (most : Nat) (hm1 : 16 ≤ most) (hm2 : most ≤ 400) :
    WriE Tryz.prog 42 [.ref 0 0, i64 (most : Int)] [some (srcC bs a h)] (fun o : Nat × Int × List (List Int) => o.1 ≤ bs.length ∧ Gd 401 o.2.2) (fun o => maniA o.2.2) (fun o => [some (srcC bs o.1 o.2.1)]) := by
  refine wriREV ok42 rfl ?_; unfold c42
  refine RN ?_
  refine wriEF (l01Next_w bs hb a h hs 12) [0] (by first | rfl | simp) (by simp only [go_sem, ↓reduceIte, Nat.reduceEqDiff, Nat.reduceAdd, reduceCtorEq] <;> rfl) (by simp only [go_sem, ↓reduceIte, Nat.reduceEqDiff, Nat.reduceAdd, reduceCtorEq] <;> rfl) fun o ho => ?_
  obtain ⟨a1, b1, k⟩ := o
  obtain ⟨h1, h2, h3⟩ := ho
  dsimp only at h1 h2 h3
  refine RN ?_
  refine ⟨fun c0 => ?_, fun c0 => ?_⟩
  · (refine RN ?_; try with_reducible exact trivial)
    refine wriEF (l02Spoil_w bs hb a1 b1 h1 most hm1 (by omega)) [0] (by first | rfl | simp) (by simp only [go_sem, ↓reduceIte, Nat.reduceEqDiff, Nat.reduceAdd, reduceCtorEq] <;> rfl) (by simp only [go_sem, ↓reduceIte, Nat.reduceEqDiff, Nat.reduceAdd, reduceCtorEq] <;> rfl) fun o ho => ?_
    obtain ⟨a2, b2, M⟩ := o
    obtain ⟨g1, g2⟩ := ho
    dsimp only at g1 g2
    refine RN ?_
    exact ⟨(a2, b2, M), ⟨g1, g2.mono (by omega)⟩, Ref.gc [0] rfl (by simp only [go_sem, ↓reduceIte, Nat.reduceEqDiff, Nat.reduceAdd, reduceCtorEq] <;> rfl) (by simp [sub, fget, go_sem, ↓reduceIte, Nat.reduceEqDiff, Nat.reduceAdd, reduceCtorEq])⟩
  · (refine RN ?_; try with_reducible exact trivial)
    refine wriEF (l14DrawSolid_w bs hb a1 b1 h1 most hm1 hm2) [0] (by first | rfl | simp) (by simp only [go_sem, ↓reduceIte, Nat.reduceEqDiff, Nat.reduceAdd, reduceCtorEq] <;> rfl) (by simp only [go_sem, ↓reduceIte, Nat.reduceEqDiff, Nat.reduceAdd, reduceCtorEq] <;> rfl) fun o ho => ?_
    obtain ⟨a2, b2, M⟩ := o
    obtain ⟨g1, g2⟩ := ho
    dsimp only at g1 g2
    refine RN ?_
    exact ⟨(a2, b2, M), ⟨g1, g2.mono (by omega)⟩, Ref.gc [0] rfl (by simp only [go_sem, ↓reduceIte, Nat.reduceEqDiff, Nat.reduceAdd, reduceCtorEq] <;> rfl) (by simp [sub, fget, go_sem, ↓reduceIte, Nat.reduceEqDiff, Nat.reduceAdd, reduceCtorEq])⟩
end Go.Proofs.YtcmahhfjpgoceaaGreat
