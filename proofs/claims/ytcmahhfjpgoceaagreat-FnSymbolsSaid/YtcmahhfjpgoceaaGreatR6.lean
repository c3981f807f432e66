/- Texts that belong together. -/
import Derived.Test.YtcmahhfjpgoceaaGreatR5
set_option linter.unusedSimpArgs false
set_option linter.unusedVariables false
set_option maxRecDepth 100000
namespace Go.Gov
variable {P : Program} {N : Nat} {F : Frame} {H : Heap} {M : List Nat} {n0 : Nat}
theorem W_joinQ {x z : ACode} {Q : Exit → Frame → Heap → Prop} {α : Type} (C : α → Prop) (F1 : α → Frame) (H1 : α → Heap) (hx : W P M N n0 x (thenA (fun F' H' => ∃ o, C o ∧ Ref n0 F' H' (F1 o) (H1 o)) Q) F H) (hn : ∀ o, C o → W P M N n0 z Q (F1 o) (H1 o)) : W P M N n0 x (thenA (W P M N n0 z Q) Q) F H :=
  W_mono hx fun e F' H' h => by
    cases e with
    | normal => obtain ⟨o, ho, hr⟩ := h; exact W_ref hr (hn o ho)
    | _ => exact h
end Go.Gov
namespace Go.Proofs.YtcmahhfjpgoceaaGreat
open Go.Gov Go.Ce
open Classical

theorem rgs_edge : Rgs 2 [[1, 0]] := fun k hk => by
  obtain rfl : k = 0 := by simp at hk; omega
  refine ⟨rfl, fun j hj => ?_⟩
  match j, hj with
  | 0, _ => decide
  | 1, _ => decide
set_option maxHeartbeats 4000000 in
theorem l02Any_w (bs : List Int) (hb : Byt bs) (a : Nat) (h : Int) (hs : a ≤ bs.length) (most : Nat) (hm1 : 16 ≤ most) (hm2 : most ≤ 1000) :
    WriE Tryz.prog 128 [.ref 0 0, i64 (most : Int)] [some (srcC bs a h)] (fun o : Nat × Int × Nat × List (List Int) => o.1 ≤ bs.length ∧ 1 ≤ o.2.2.1 ∧ o.2.2.1 ≤ most ∧ 1 ≤ o.2.2.2.length ∧ o.2.2.2.length ≤ 5 ∧ Rgs o.2.2.1 o.2.2.2) (fun o => .agg [.sl 1 1 0 o.2.2.2.length]) (fun o => [some (srcC bs o.1 o.2.1), some (o.2.2.2.map oints)]) := by
  refine wriREV ok128 rfl ?_; unfold c128
  refine RN ?_
  refine wriEF (l01Next_w bs hb a h hs 7) [0] (by first | rfl | simp) (by simp only [go_sem, ↓reduceIte, Nat.reduceEqDiff, Nat.reduceAdd, reduceCtorEq] <;> rfl) (by simp only [go_sem, ↓reduceIte, Nat.reduceEqDiff, Nat.reduceAdd, reduceCtorEq] <;> rfl) fun o ho => ?_
  obtain ⟨a1, b1, k⟩ := o
  obtain ⟨h1, h2, h3⟩ := ho
  dsimp only at h1 h2 h3
  obtain ⟨k, rfl⟩ := Int.eq_ofNat_of_zero_le h2
  simp only [go_sem, ↓reduceIte, Nat.reduceEqDiff, Nat.reduceAdd, reduceCtorEq]
  have eq2 : (most : Int).tdiv 2 = ((most / 2 : Nat) : Int) := by rw [Int.tdiv_eq_ediv_of_nonneg (by omega)]; rfl
  have eq4 : (most : Int).tdiv 4 = ((most / 4 : Nat) : Int) := by rw [Int.tdiv_eq_ediv_of_nonneg (by omega)]; rfl
  have hcl : Ref 1 [(13, AV.val (Value.int IntKind.i64 k)), (6, AV.ref 5 0), (5, AV.ref 4 0), (4, AV.ref 1 0), (0, AV.ref 0 0), (1, i64 most)]
    [some (srcC bs a1 b1), some [nilS], some (intsC [1, 0]), some [AV.sl 2 1 0 2], some [AV.sl 3 1 0 1], some [AV.sl 3 1 0 1]]
    [(13, AV.val (Value.int IntKind.i64 k)), (6, AV.ref 4 0), (5, AV.ref 3 0), (4, AV.ref 1 0), (0, AV.ref 0 0), (1, i64 most)]
    [some (srcC bs a1 b1), some [nilS], some ([[1, 0]].map oints), some [AV.sl 2 1 0 1], some [AV.sl 2 1 0 1]] := by
    refine (Ref.close 3 0 2 (k := 1) (n := 2) (cs2 := intsC [1, 0]) rfl rfl rfl (by decide) rfl).trans ?_
    exact Ref.gc [0, 1, 3, 4, 5] rfl (by simp only [go_sem, ↓reduceIte, Nat.reduceEqDiff, Nat.reduceAdd, reduceCtorEq] <;> rfl) (by simp [sub, fget, go_sem, ↓reduceIte, Nat.reduceEqDiff, Nat.reduceAdd, reduceCtorEq])
  refine W_ref ((Ref.to rfl (by simp [sub, fget])).trans hcl) ?_
  refine W_joinQ (fun o : Nat × Int × Nat × List (List Int) => o.1 ≤ bs.length ∧ 1 ≤ o.2.2.1 ∧ o.2.2.1 ≤ most ∧ 1 ≤ o.2.2.2.length ∧ o.2.2.2.length ≤ 5 ∧ Rgs o.2.2.1 o.2.2.2) (fun o => [(0, .ref 0 0), (1, i64 (most : Int)), (4, .ref 1 0), (5, .ref 3 0), (6, .ref 4 0)]) (fun o => [some (srcC bs o.1 o.2.1), some [nilS], some ([[1, 0]].map oints), some [.sl 2 1 0 1], some [.sl 5 1 0 o.2.2.2.length], some (o.2.2.2.map oints)]) ?_ ?_
  · (refine RN ?_; try with_reducible exact trivial)
    simp only [eq2, eq4]
    refine ⟨fun c0 => ?_, fun c0 => ?_⟩
    · (refine RN ?_; try with_reducible exact trivial)
      (try simp only [eq2, eq4])
      refine wriEF (l01Next_w bs hb a1 b1 h1 ((most / 2 : Nat) : Int)) [0] (by first | rfl | simp) (by simp only [go_sem, ↓reduceIte, Nat.reduceEqDiff, Nat.reduceAdd, reduceCtorEq] <;> rfl) (by simp only [go_sem, ↓reduceIte, Nat.reduceEqDiff, Nat.reduceAdd, reduceCtorEq] <;> rfl) fun o ho => ?_
      obtain ⟨a2, b2, p⟩ := o
      obtain ⟨q1, q2, q3⟩ := ho
      dsimp only at q1 q2 q3
      obtain ⟨p, rfl⟩ := Int.eq_ofNat_of_zero_le q2
      have hp := l02Polygon_p (1 + p) (by omega) (by omega)
      rw [show ((1 + p : Nat) : Int) = 1 + (p : Int) from by omega] at hp
      refine RN ?_
      refine pureEC (hp) (by simp only [go_sem, ↓reduceIte, Nat.reduceEqDiff, Nat.reduceAdd, reduceCtorEq] <;> rfl) (fun o => by first | rfl | simp only [go_sem, ↓reduceIte, Nat.reduceEqDiff, Nat.reduceAdd, reduceCtorEq]) fun o ho => ?_
      obtain ⟨o1, o2⟩ := ho
      refine RN ?_
      exact ⟨(a2, b2, 2 * (1 + p), o), ⟨q1, by dsimp only; omega, by dsimp only; omega, by dsimp only; omega, by dsimp only; omega, o2⟩, Ref.to (by simp [o1]) (by simp [sub, fget])⟩
    · (refine RN ?_; try with_reducible exact trivial)
      refine ⟨fun c1 => ?_, fun c1 => ?_⟩
      · (refine RN ?_; try with_reducible exact trivial)
        refine ⟨(a1, b1, 2, [[1, 0]]), ⟨h1, by dsimp only; omega, by dsimp only; omega, by simp, by simp, rgs_edge⟩, ?_⟩
        exact Ref.gc [0, 2] rfl (by simp only [go_sem, ↓reduceIte, Nat.reduceEqDiff, Nat.reduceAdd, reduceCtorEq] <;> rfl) (by simp [sub, fget, go_sem, ↓reduceIte, Nat.reduceEqDiff, Nat.reduceAdd, reduceCtorEq])
      · (refine RN ?_; try with_reducible exact trivial)
        refine ⟨fun c2 => ?_, fun c2 => ?_⟩
        · (refine RN ?_; try with_reducible exact trivial)
          (try simp only [eq2, eq4])
          refine wriEF (l01Next_w bs hb a1 b1 h1 ((most / 4 : Nat) : Int)) [0] (by first | rfl | simp) (by simp only [go_sem, ↓reduceIte, Nat.reduceEqDiff, Nat.reduceAdd, reduceCtorEq] <;> rfl) (by simp only [go_sem, ↓reduceIte, Nat.reduceEqDiff, Nat.reduceAdd, reduceCtorEq] <;> rfl) fun o ho => ?_
          obtain ⟨a2, b2, p⟩ := o
          obtain ⟨q1, q2, q3⟩ := ho
          dsimp only at q1 q2 q3
          obtain ⟨p, rfl⟩ := Int.eq_ofNat_of_zero_le q2
          have hp := l02Polygon_p (1 + p) (by omega) (by omega)
          rw [show ((1 + p : Nat) : Int) = 1 + (p : Int) from by omega] at hp
          refine RN ?_
          refine pureEC (hp) (by simp only [go_sem, ↓reduceIte, Nat.reduceEqDiff, Nat.reduceAdd, reduceCtorEq] <;> rfl) (fun o => by first | rfl | simp only [go_sem, ↓reduceIte, Nat.reduceEqDiff, Nat.reduceAdd, reduceCtorEq]) fun o ho => ?_
          obtain ⟨o1, o2⟩ := ho
          have hbe := l02Beside_c (2 * (1 + p)) 2 (by omega) (by omega) (by omega) o [[1, 0]] o2 rgs_edge (by omega) (by decide)
          refine RN ?_
          refine pureEC hbe (by simp only [go_sem, ↓reduceIte, Nat.reduceEqDiff, Nat.reduceAdd, reduceCtorEq, frz_im _ _ o 2 o1] <;> first | done | (simp only [maniA, mat, o1] <;> rfl)) (fun o => by first | rfl | simp only [go_sem, ↓reduceIte, Nat.reduceEqDiff, Nat.reduceAdd, reduceCtorEq]) fun o' ho' => ?_
          obtain ⟨o3, o4⟩ := ho'
          have o5 : o'.length = 3 := by rw [o3, o1]; rfl
          refine RN ?_
          exact ⟨(a2, b2, 2 * (1 + p) * 2, o'), ⟨q1, by dsimp only; omega, by dsimp only; omega, by dsimp only; omega, by dsimp only; omega, o4⟩, Ref.gc [0, 1, 2, 3, 4, 6] rfl (by simp only [go_sem, ↓reduceIte, Nat.reduceEqDiff, Nat.reduceAdd, reduceCtorEq] <;> rfl) (by simp [sub, fget, go_sem, ↓reduceIte, Nat.reduceEqDiff, Nat.reduceAdd, reduceCtorEq])⟩
        · (refine RN ?_; try with_reducible exact trivial)
          refine ⟨fun c3 => ?_, fun c3 => ?_⟩
          · (refine RN ?_; try with_reducible exact trivial)
            refine wriEF (l01Next_w bs hb a1 b1 h1 4) [0] (by first | rfl | simp) (by simp only [go_sem, ↓reduceIte, Nat.reduceEqDiff, Nat.reduceAdd, reduceCtorEq] <;> rfl) (by simp only [go_sem, ↓reduceIte, Nat.reduceEqDiff, Nat.reduceAdd, reduceCtorEq] <;> rfl) fun o ho => ?_
            obtain ⟨a2, b2, p⟩ := o
            obtain ⟨q1, q2, q3⟩ := ho
            dsimp only at q1 q2 q3
            obtain ⟨p, rfl⟩ := Int.eq_ofNat_of_zero_le q2
            have hp := l02Polygon_p (1 + p) (by omega) (by omega)
            rw [show ((1 + p : Nat) : Int) = 1 + (p : Int) from by omega] at hp
            have eq5 : (most : Int).tdiv (4 * (1 + (p : Int))) = ((most / (4 * (1 + p)) : Nat) : Int) := by
              rw [Int.tdiv_eq_ediv_of_nonneg (by omega)]
              have : (4 * (1 + (p : Int))) = ((4 * (1 + p) : Nat) : Int) := by omega
              rw [this]; rfl
            have hD : (4 * (1 + p)) * (most / (4 * (1 + p))) ≤ most := Nat.mul_div_le _ _
            have hD1 : 1 ≤ most / (4 * (1 + p)) := (Nat.le_div_iff_mul_le (by omega)).2 (by omega)
            generalize most / (4 * (1 + p)) = D at eq5 hD hD1
            refine RN ?_
            intro _
            refine RN ?_
            refine pureEC (hp) (by simp only [go_sem, ↓reduceIte, Nat.reduceEqDiff, Nat.reduceAdd, reduceCtorEq] <;> rfl) (fun o => by first | rfl | simp only [go_sem, ↓reduceIte, Nat.reduceEqDiff, Nat.reduceAdd, reduceCtorEq]) fun o ho => ?_
            obtain ⟨o1, o2⟩ := ho
            simp only [go_sem, ↓reduceIte, Nat.reduceEqDiff, Nat.reduceAdd, reduceCtorEq, eq5]
            refine RN ?_
            refine wriEF (l01Next_w bs hb a2 b2 q1 (D : Int)) [0] (by first | rfl | simp) (by simp only [go_sem, ↓reduceIte, Nat.reduceEqDiff, Nat.reduceAdd, reduceCtorEq] <;> rfl) (by simp only [go_sem, ↓reduceIte, Nat.reduceEqDiff, Nat.reduceAdd, reduceCtorEq] <;> rfl) fun o' ho' => ?_
            obtain ⟨a3, b3, r⟩ := o'
            obtain ⟨y1, y2, y3⟩ := ho'
            dsimp only at y1 y2 y3
            obtain ⟨r, rfl⟩ := Int.eq_ofNat_of_zero_le y2
            have hrD : (4 * (1 + p)) * (1 + r) ≤ most := Nat.le_trans (Nat.mul_le_mul_left _ (by omega)) hD
            have hrr : 2 * (1 + p) * (2 * (1 + r)) = (4 * (1 + p)) * (1 + r) := by
              rw [show 2 * (1 + p) * (2 * (1 + r)) = (2 * (1 + p) * 2) * (1 + r) by rw [Nat.mul_assoc, Nat.mul_assoc, Nat.mul_assoc]]
              congr 1
              omega
            have hp2 := l02Polygon_p (1 + r) (by omega) (by
              have : 1 + r ≤ (4 * (1 + p)) * (1 + r) := Nat.le_mul_of_pos_left _ (by omega)
              omega)
            rw [show ((1 + r : Nat) : Int) = 1 + (r : Int) from by omega] at hp2
            have hr1 : 1 + r ≤ (4 * (1 + p)) * (1 + r) := Nat.le_mul_of_pos_left _ (by omega)
            refine RN ?_
            refine pureEC hp2 (by simp only [go_sem, ↓reduceIte, Nat.reduceEqDiff, Nat.reduceAdd, reduceCtorEq] <;> rfl) (fun o => by first | rfl | simp only [go_sem, ↓reduceIte, Nat.reduceEqDiff, Nat.reduceAdd, reduceCtorEq]) fun o' ho' => ?_
            obtain ⟨o3, o4⟩ := ho'
            have hbe := l02Beside_c (2 * (1 + p)) (2 * (1 + r)) (by omega) (by omega) (by omega) o o' o2 o4 (by omega) (by omega)
            refine RN ?_
            refine pureEC hbe (by simp only [go_sem, ↓reduceIte, Nat.reduceEqDiff, Nat.reduceAdd, reduceCtorEq, frz_im _ _ o 2 o1, frz_im _ _ o' 2 o3] <;> first | done | (simp only [maniA, mat, o1, o3] <;> rfl)) (fun o => by first | rfl | simp only [go_sem, ↓reduceIte, Nat.reduceEqDiff, Nat.reduceAdd, reduceCtorEq]) fun o2' ho2' => ?_
            obtain ⟨o5, o6⟩ := ho2'
            have o7 : o2'.length = 4 := by rw [o5, o1, o3]
            refine RN ?_
            exact ⟨(a3, b3, 2 * (1 + p) * (2 * (1 + r)), o2'), ⟨y1, by dsimp only; omega, by dsimp only; omega, by dsimp only; omega, by dsimp only; omega, o6⟩, Ref.gc [0, 1, 2, 3, 4, 7] rfl (by simp only [go_sem, ↓reduceIte, Nat.reduceEqDiff, Nat.reduceAdd, reduceCtorEq] <;> rfl) (by simp [sub, fget, go_sem, ↓reduceIte, Nat.reduceEqDiff, Nat.reduceAdd, reduceCtorEq])⟩
          · (refine RN ?_; try with_reducible exact trivial)
            (try simp only [eq2, eq4])
            refine wriEF (l01Next_w bs hb a1 b1 h1 ((most / 4 : Nat) : Int)) [0] (by first | rfl | simp) (by simp only [go_sem, ↓reduceIte, Nat.reduceEqDiff, Nat.reduceAdd, reduceCtorEq] <;> rfl) (by simp only [go_sem, ↓reduceIte, Nat.reduceEqDiff, Nat.reduceAdd, reduceCtorEq] <;> rfl) fun o ho => ?_
            obtain ⟨a2, b2, p⟩ := o
            obtain ⟨q1, q2, q3⟩ := ho
            dsimp only at q1 q2 q3
            obtain ⟨p, rfl⟩ := Int.eq_ofNat_of_zero_le q2
            have hp := l02Map_w bs hb a2 b2 q1 (1 + p) (by omega) (by omega)
            rw [show ((1 + p : Nat) : Int) = 1 + (p : Int) from by omega] at hp
            refine RN ?_
            refine wriEF (hp) [0] (by first | rfl | simp) (by simp only [go_sem, ↓reduceIte, Nat.reduceEqDiff, Nat.reduceAdd, reduceCtorEq] <;> rfl) (by simp only [go_sem, ↓reduceIte, Nat.reduceEqDiff, Nat.reduceAdd, reduceCtorEq] <;> rfl) fun o ho => ?_
            obtain ⟨a3, b3, n, L⟩ := o
            obtain ⟨t1, t2, t3, t4, t5⟩ := ho
            dsimp only at t1 t2 t3 t4 t5 ⊢
            refine RN ?_
            exact ⟨(a3, b3, n, L), ⟨t1, t2, by dsimp only; omega, by dsimp only; omega, by dsimp only; omega, t5⟩, Ref.to (by simp [t4]) (by simp [sub, fget])⟩
  · rintro ⟨a2, b2, n, L⟩ ⟨g1, g2, g3, g4, g5, g6⟩
    dsimp only at g1 g2 g3 g4 g5 g6 ⊢
    refine RN ?_
    refine V_loop (α := Nat × Int × Nat × List (List Int)) (S := fun o => ([(0, .ref 0 0), (1, i64 (most : Int)), (4, .ref 1 0), (5, .ref 3 0), (6, .ref 4 0)], [some (srcC bs o.1 o.2.1), some [nilS], some [oints [1, 0]], some [.sl 2 1 0 1], some [.sl 5 1 0 o.2.2.2.length], some (o.2.2.2.map oints)])) (C := fun o => o.1 ≤ bs.length ∧ 1 ≤ o.2.2.1 ∧ o.2.2.1 ≤ most ∧ 1 ≤ o.2.2.2.length ∧ o.2.2.2.length ≤ 5 ∧ Rgs o.2.2.1 o.2.2.2) (μ := fun o => 5 - o.2.2.2.length) (a2, b2, n, L) ⟨g1, g2, g3, g4, g5, g6⟩ (Ref.to rfl (by simp [sub, fget])) ?_
    clear g1 g2 g3 g4 g5 g6
    clear a2 b2 n L
    rintro ⟨a2, b2, n, L⟩ ⟨g1, g2, g3, g4, g5, g6⟩
    dsimp only at g1 g2 g3 g4 g5 g6 ⊢
    have hfl := l02Flags_c L (by omega) (by omega) (by rw [(g6 0 (by omega)).1]; omega)
    rw [(g6 0 (by omega)).1] at hfl
    by_cases hA : L.length < 5
    · have pA : ((L.length : Int) < 5) = True := eq_true (by omega)
      have dA : decide ((L.length : Int) < 5) = true := decide_eq_true (by omega)
      by_cases hB : n * 2 ≤ most
      · have pB : ((n : Int) * 2 ≤ most) = True := eq_true (by omega)
        have dB : decide ((n : Int) * 2 ≤ most) = true := decide_eq_true (by omega)
        refine RN ?_
        rw [dA]
        refine GCall.on rfl ⟨by first | trivial | omega | simp, ?_⟩
        refine pureC hfl (by simp only [go_sem, ↓reduceIte, Nat.reduceEqDiff, Nat.reduceAdd, reduceCtorEq, frz_im _ _ L L.length rfl] <;> first | done | (simp only [maniA, mat] <;> rfl)) (by first | rfl | simp only [go_sem, ↓reduceIte, Nat.reduceEqDiff, Nat.reduceAdd, reduceCtorEq]) ?_
        simp only [go_sem, ↓reduceIte, Nat.reduceEqDiff, Nat.reduceAdd, reduceCtorEq, pA, pB, dA, dB, true_implies]
        refine RN ?_
        refine GCall.on rfl ?_
        refine wriEF (l01Next_w bs hb a2 b2 g1 3) [0] (by first | rfl | simp) (by simp only [go_sem, ↓reduceIte, Nat.reduceEqDiff, Nat.reduceAdd, reduceCtorEq] <;> rfl) (by simp only [go_sem, ↓reduceIte, Nat.reduceEqDiff, Nat.reduceAdd, reduceCtorEq] <;> rfl) fun o ho => ?_
        obtain ⟨a3, b3, r⟩ := o
        obtain ⟨y1, y2, y3⟩ := ho
        dsimp only at y1 y2 y3
        simp only [go_sem, ↓reduceIte, Nat.reduceEqDiff, Nat.reduceAdd, reduceCtorEq, pA, pB, dA, dB, true_implies]
        refine RN ?_
        refine ⟨fun c6 => ?_, fun c6 => ?_⟩
        · have hb1 := l02Beside_c n 2 g2 (by decide) (by omega) L [[1, 0]] g6 rgs_edge (by omega) (by decide)
          have hb2 := l02Beside_c 2 n (by decide) g2 (by omega) [[1, 0]] L rgs_edge g6 (by decide) (by omega)
          refine RN ?_
          refine wriEF (l01Next_w bs hb a3 b3 y1 2) [0] (by first | rfl | simp) (by simp only [go_sem, ↓reduceIte, Nat.reduceEqDiff, Nat.reduceAdd, reduceCtorEq] <;> rfl) (by simp only [go_sem, ↓reduceIte, Nat.reduceEqDiff, Nat.reduceAdd, reduceCtorEq] <;> rfl) fun o ho => ?_
          obtain ⟨a4, b4, r2⟩ := o
          obtain ⟨z1, z2, z3⟩ := ho
          dsimp only at z1 z2 z3
          refine RN ?_
          refine ⟨fun c7 => ?_, fun c7 => ?_⟩
          · (refine RN ?_; try with_reducible exact trivial)
            refine pureEC hb1 (by simp only [go_sem, ↓reduceIte, Nat.reduceEqDiff, Nat.reduceAdd, reduceCtorEq, frz_im _ _ L L.length rfl] <;> first | done | (simp only [maniA, mat] <;> rfl)) (fun o => by first | rfl | simp only [go_sem, ↓reduceIte, Nat.reduceEqDiff, Nat.reduceAdd, reduceCtorEq]) fun o' ho' => ?_
            obtain ⟨o3, o4⟩ := ho'
            have o5 : o'.length = L.length + 1 := o3
            refine RN ?_
            exact ⟨(a4, b4, n * 2, o'), ⟨z1, by dsimp only; omega, by dsimp only; omega, by dsimp only; omega, by dsimp only; omega, o4⟩, by dsimp only; omega, Ref.gc [0, 1, 2, 3, 4, 6] rfl (by simp only [go_sem, ↓reduceIte, Nat.reduceEqDiff, Nat.reduceAdd, reduceCtorEq] <;> rfl) (by simp [sub, fget, go_sem, ↓reduceIte, Nat.reduceEqDiff, Nat.reduceAdd, reduceCtorEq])⟩
          · (refine RN ?_; try with_reducible exact trivial)
            refine pureEC hb2 (by simp only [go_sem, ↓reduceIte, Nat.reduceEqDiff, Nat.reduceAdd, reduceCtorEq, frz_im _ _ L L.length rfl] <;> first | done | (simp only [maniA, mat] <;> rfl)) (fun o => by first | rfl | simp only [go_sem, ↓reduceIte, Nat.reduceEqDiff, Nat.reduceAdd, reduceCtorEq]) fun o' ho' => ?_
            obtain ⟨o3, o4⟩ := ho'
            have o5 : o'.length = 1 + L.length := o3
            refine RN ?_
            exact ⟨(a4, b4, 2 * n, o'), ⟨z1, by dsimp only; omega, by dsimp only; omega, by dsimp only; omega, by dsimp only; omega, o4⟩, by dsimp only; omega, Ref.gc [0, 1, 2, 3, 4, 6] rfl (by simp only [go_sem, ↓reduceIte, Nat.reduceEqDiff, Nat.reduceAdd, reduceCtorEq] <;> rfl) (by simp [sub, fget, go_sem, ↓reduceIte, Nat.reduceEqDiff, Nat.reduceAdd, reduceCtorEq])⟩
        · (refine RN ?_; try with_reducible exact trivial)
          exact ⟨(a3, b3, n, L), ⟨y1, g2, g3, g4, g5, g6⟩, Ref.gc1 [0, 5]⟩
      · have nB : ((n : Int) * 2 ≤ most) = False := eq_false (by omega)
        have dB : decide ((n : Int) * 2 ≤ most) = false := decide_eq_false (by omega)
        refine RN ?_
        rw [dA]
        refine GCall.on rfl ⟨by first | trivial | omega | simp, ?_⟩
        refine pureC hfl (by simp only [go_sem, ↓reduceIte, Nat.reduceEqDiff, Nat.reduceAdd, reduceCtorEq, frz_im _ _ L L.length rfl] <;> first | done | (simp only [maniA, mat] <;> rfl)) (by first | rfl | simp only [go_sem, ↓reduceIte, Nat.reduceEqDiff, Nat.reduceAdd, reduceCtorEq]) ?_
        simp only [go_sem, ↓reduceIte, Nat.reduceEqDiff, Nat.reduceAdd, reduceCtorEq, pA, nB, dA, dB, true_implies]
        refine RN ?_
        refine GCall_no (i64 0) rfl ?_
        simp only [go_sem, ↓reduceIte, Nat.reduceEqDiff, Nat.reduceAdd, reduceCtorEq, pA, nB, dA, dB, true_implies, false_implies]
        refine RN ?_
        exact ⟨(a2, b2, n, L), ⟨g1, g2, g3, g4, g5, g6⟩, Ref.gc1 [0, 5]⟩
    · have dA : decide ((L.length : Int) < 5) = false := decide_eq_false (by omega)
      refine RN ?_
      rw [dA]
      refine GCall_no (i64 0) rfl ?_
      have nA : ((L.length : Int) < 5) = False := eq_false (by omega)
      simp only [go_sem, ↓reduceIte, Nat.reduceEqDiff, Nat.reduceAdd, reduceCtorEq, nA, dA, false_implies]
      refine RN ?_
      refine GCall_no (i64 0) rfl ?_
      simp only [go_sem, ↓reduceIte, Nat.reduceEqDiff, Nat.reduceAdd, reduceCtorEq, nA, dA, false_implies]
      refine RN ?_
      exact ⟨(a2, b2, n, L), ⟨g1, g2, g3, g4, g5, g6⟩, Ref.gc1 [0, 5]⟩
end Go.Proofs.YtcmahhfjpgoceaaGreat
set_option maxRecDepth 100000
namespace Go.Proofs.YtcmahhfjpgoceaaGreat
open Go.Gov Go.Ce
open Classical

theorem l01Pick_w2 (bs : List Int) (hb : Byt bs) (a : Nat) (h : Int) (hs : a ≤ bs.length) (w : List Int) (hw : w.length ≤ 1048576) (hw1 : 1 ≤ w.length) :
    WriE Tryz.prog 110 [.ref 0 0, .sl 1 1 0 w.length] [some (srcC bs a h), some (intsC w)] (fun o : Nat × Int × Nat => o.1 ≤ bs.length ∧ o.2.2 < w.length) (fun o => i64 (w.getD o.2.2 0)) (fun o => [some (srcC bs o.1 o.2.1), some (intsC w)]) := by
  refine wriREV ok110 rfl ?_; unfold c110
  refine RN ?_
  refine wriEF (l01Next_w bs hb a h hs (w.length : Int)) [0] (by first | rfl | simp) (by simp only [go_sem, ↓reduceIte, Nat.reduceEqDiff, Nat.reduceAdd, reduceCtorEq] <;> rfl) (by simp only [go_sem, ↓reduceIte, Nat.reduceEqDiff, Nat.reduceAdd, reduceCtorEq] <;> rfl) fun o ho => ?_
  obtain ⟨a', h', k⟩ := o
  obtain ⟨h1, h2, h3⟩ := ho
  dsimp only at h1 h2 h3
  obtain ⟨k, rfl⟩ := Int.eq_ofNat_of_zero_le h2
  have hk : k < w.length := by omega
  refine RN ?_
  exact ⟨(a', h', k), ⟨h1, hk⟩, Ref.gc [0, 1] rfl (by simp only [go_sem, ↓reduceIte, Nat.reduceEqDiff, Nat.reduceAdd, reduceCtorEq] <;> rfl) (by simp [sub, fget, go_sem, ↓reduceIte, Nat.reduceEqDiff, Nat.reduceAdd, reduceCtorEq])⟩
set_option maxHeartbeats 2000000 in
theorem l02Draw_w (bs : List Int) (hb : Byt bs) (a : Nat) (h : Int) (hs : a ≤ bs.length) (most : Nat) (hm1 : 16 ≤ most) (hm2 : most ≤ 1000) :
    WriE Tryz.prog 109 [.ref 0 0, i64 (most : Int)] [some (srcC bs a h)] (fun o : Nat × Int × Nat × List (List Int) => o.1 ≤ bs.length ∧ 1 ≤ o.2.2.1 ∧ o.2.2.1 ≤ most ∧ 1 ≤ o.2.2.2.length ∧ o.2.2.2.length ≤ 5 ∧ Rgs o.2.2.1 o.2.2.2) (fun o => .agg [.sl 1 1 0 o.2.2.2.length]) (fun o => [some (srcC bs o.1 o.2.1), some (o.2.2.2.map oints)]) := by
  refine wriREV ok109 rfl ?_; unfold c109
  refine RN ?_
  refine wriEF (l02Any_w bs hb a h hs most hm1 hm2) [0] (by first | rfl | simp) (by simp only [go_sem, ↓reduceIte, Nat.reduceEqDiff, Nat.reduceAdd, reduceCtorEq] <;> rfl) (by simp only [go_sem, ↓reduceIte, Nat.reduceEqDiff, Nat.reduceAdd, reduceCtorEq] <;> rfl) fun o ho => ?_
  obtain ⟨a1, b1, n, L⟩ := o
  obtain ⟨h1, h2, h3, h4, h5, h6⟩ := ho
  dsimp only at h1 h2 h3 h4 h5 h6 ⊢
  have hfl := l02Flags_c L (by omega) (by omega) (by rw [(h6 0 (by omega)).1]; omega)
  rw [(h6 0 (by omega)).1] at hfl
  refine RN ?_
  refine wriEF (l01Next_w bs hb a1 b1 h1 4) [0] (by first | rfl | simp) (by simp only [go_sem, ↓reduceIte, Nat.reduceEqDiff, Nat.reduceAdd, reduceCtorEq] <;> rfl) (by simp only [go_sem, ↓reduceIte, Nat.reduceEqDiff, Nat.reduceAdd, reduceCtorEq] <;> rfl) fun o ho => ?_
  obtain ⟨a2, b2, k⟩ := o
  obtain ⟨q1, q2, q3⟩ := ho
  dsimp only at q1 q2 q3
  have hdr := l01Draw_w bs hb a2 b2 q1 n (by omega)
  have hrn := fun p hp => l02Renumber_c n (by omega) L h6 (by omega) p hp
  refine RN ?_
  refine ⟨fun c1 => ?_, fun c1 => ?_⟩
  · refine V_W ?_
    refine V_altsD (fun o : Nat × Int × List (List Int) => o.1 ≤ bs.length ∧ o.2.2.length = L.length ∧ Rgs n o.2.2) (fun o => [(4, .ref 1 0)]) (fun o => [some (srcC bs o.1 o.2.1), some [.sl 2 1 0 o.2.2.length], some (o.2.2.map oints)]) ?_ ?_
    · repeat' first
        | simp only [go_sem, ↓reduceIte, Nat.reduceEqDiff, Nat.reduceAdd, reduceCtorEq]
        | with_reducible refine LT_reg ?_
        | with_reducible refine LT_fin ?_
        | with_reducible exact LT_tt
        | with_reducible refine LT_alt ?_ ?_
        | (with_reducible refine And.intro ?_ ?_; focus first | assumption | omega | grind)
        | (refine pureC hfl ?_ ?_ ?_; (simp only [go_sem, ↓reduceIte, Nat.reduceEqDiff, Nat.reduceAdd, reduceCtorEq, frz_im _ _ L L.length rfl] <;> first | done | (simp only [maniA, mat] <;> rfl)); (focus first | rfl | simp only [go_sem, ↓reduceIte, Nat.reduceEqDiff, Nat.reduceAdd, reduceCtorEq]))
        | refine wriEF (hdr) [0] (by first | rfl | simp) (by simp only [go_sem, ↓reduceIte, Nat.reduceEqDiff, Nat.reduceAdd, reduceCtorEq] <;> rfl) (by simp only [go_sem, ↓reduceIte, Nat.reduceEqDiff, Nat.reduceAdd, reduceCtorEq] <;> rfl) fun o ho => ?_
      all_goals
        have htk : (intsC o.2.2).take n = intsC o.2.2 := List.take_of_length_le (by rw [len_intsC, ho.2.1]; exact Nat.le_refl _)
        have hin : ints o.2.2 = .slc 1 n (intsC o.2.2) := by rw [ints, ho.2.1]
        refine pureEC (hrn o.2.2 ho.2) (by simp only [go_sem, ↓reduceIte, Nat.reduceEqDiff, Nat.reduceAdd, reduceCtorEq, frz_im _ _ L L.length rfl, htk, map_frz_ints, hin] <;> first | done | (simp only [maniA, mat] <;> rfl)) (fun o => by first | rfl | simp only [go_sem, ↓reduceIte, Nat.reduceEqDiff, Nat.reduceAdd, reduceCtorEq]) fun o' ho' => ?_
        (repeat' first | simp only [go_sem, ↓reduceIte, Nat.reduceEqDiff, Nat.reduceAdd, reduceCtorEq] | with_reducible refine LT_reg ?_ | with_reducible refine LT_regz (by simp only [zAd_load, zAd_loads, zPt_pto, go_sem, ↓reduceIte, Nat.reduceEqDiff, Nat.reduceAdd, reduceCtorEq]) ?_ | with_reducible refine LT_fin ?_ | with_reducible exact LT_tt | with_reducible refine LT_alt ?_ ?_ | (with_reducible refine And.intro ?_ ?_; focus first | assumption | omega | grind))
        exact ⟨(o.1, o.2.1, o'), ⟨ho.1, ho'.1, ho'.2⟩, Ref.gc [0, 1, 5] rfl (by simp only [go_sem, ↓reduceIte, Nat.reduceEqDiff, Nat.reduceAdd, reduceCtorEq] <;> rfl) (by simp [sub, fget, go_sem, ↓reduceIte, Nat.reduceEqDiff, Nat.reduceAdd, reduceCtorEq])⟩
    · rintro ⟨a3, b3, K⟩ ⟨g1, g2, g3⟩
      dsimp only at g1 g2 g3 ⊢
      refine RN ?_
      exact ⟨(a3, b3, n, K), ⟨g1, h2, h3, by dsimp only; omega, by dsimp only; omega, g3⟩, Ref.gc1 [0, 2]⟩
  · (refine RN ?_; try with_reducible exact trivial)
    exact ⟨(a2, b2, n, L), ⟨q1, h2, h3, h4, h5, h6⟩, Ref.gc1 [0, 2]⟩
end Go.Proofs.YtcmahhfjpgoceaaGreat
set_option maxRecDepth 100000
namespace Go.Gov
variable {P : Program} {N : Nat} {F : Frame} {H : Heap} {M : List Nat} {n0 : Nat}
theorem V_altsDB {α : Type} (C : α → Prop) (F1 : α → Frame) (H1 : α → Heap) {t : GT} {y : ACode} {id : Nat} {Q Q' : Exit → Frame → Heap → Prop} (hE : LT P false t (fun F' H' => ∃ o, C o ∧ Ref n0 F' H' (F1 o) (H1 o)) F H) (hy : ∀ o, C o → W P M N n0 y Q (F1 o) (H1 o)) : V P M N n0 (.alts t) (blockA id (thenA (W P M N n0 y Q) Q')) F H :=
  W_alts (EvT_mono (fun F' H' ⟨o, ho, h⟩ => W_ref h (hy o ho)) t false F H hE)
end Go.Gov
namespace Go.Proofs.YtcmahhfjpgoceaaGreat
open Go.Gov Go.Ce
open Classical

def Gd (most : Nat) (M : List (List Int)) : Prop := M.length ≤ 6 ∧ ∀ p ∈ M, p.length ≤ most + 1
set_option maxHeartbeats 4000000 in
theorem l02Spoil_w (bs : List Int) (hb : Byt bs) (a : Nat) (h : Int) (hs : a ≤ bs.length) (most : Nat) (hm1 : 16 ≤ most) (hm2 : most ≤ 1000) :
    WriE Tryz.prog 81 [.ref 0 0, i64 (most : Int)] [some (srcC bs a h)] (fun o : Nat × Int × List (List Int) => o.1 ≤ bs.length ∧ Gd most o.2.2) (fun o => maniA o.2.2) (fun o => [some (srcC bs o.1 o.2.1)]) := by
  refine wriREV ok81 rfl ?_; unfold c81
  refine RN ?_
  refine wriEF (l02Draw_w bs hb a h hs most hm1 hm2) [0] (by first | rfl | simp) (by simp only [go_sem, ↓reduceIte, Nat.reduceEqDiff, Nat.reduceAdd, reduceCtorEq] <;> rfl) (by simp only [go_sem, ↓reduceIte, Nat.reduceEqDiff, Nat.reduceAdd, reduceCtorEq] <;> rfl) fun o ho => ?_
  obtain ⟨a1, b1, n, L⟩ := o
  obtain ⟨h1, h2, h3, h4, h5, h6⟩ := ho
  dsimp only at h1 h2 h3 h4 h5 h6 ⊢
  have hfl := l02Flags_c L (by omega) (by omega) (by rw [(h6 0 (by omega)).1]; omega)
  rw [(h6 0 (by omega)).1] at hfl
  refine RN ?_
  refine pureC hfl (by simp only [go_sem, ↓reduceIte, Nat.reduceEqDiff, Nat.reduceAdd, reduceCtorEq, frz_im _ _ L L.length rfl] <;> first | done | (simp only [maniA, mat] <;> rfl)) (by first | rfl | simp only [go_sem, ↓reduceIte, Nat.reduceEqDiff, Nat.reduceAdd, reduceCtorEq]) ?_
  refine RN ?_
  refine wriEF (l01Next_w bs hb a1 b1 h1 40) [0] (by first | rfl | simp) (by simp only [go_sem, ↓reduceIte, Nat.reduceEqDiff, Nat.reduceAdd, reduceCtorEq] <;> rfl) (by simp only [go_sem, ↓reduceIte, Nat.reduceEqDiff, Nat.reduceAdd, reduceCtorEq] <;> rfl) fun o ho => ?_
  obtain ⟨a2, b2, k⟩ := o
  obtain ⟨q1, q2, q3⟩ := ho
  dsimp only at q1 q2 q3
  obtain ⟨r0, J, rfl⟩ : ∃ r0 J, L = r0 :: J := by
    cases L with
    | nil => simp at h4
    | cons a J => exact ⟨a, J, rfl⟩
  have hr0 : r0.length = n := by simpa using (h6 0 (by simp)).1
  simp only [go_sem, ↓reduceIte, Nat.reduceEqDiff, Nat.reduceAdd, reduceCtorEq]
  have hJ : ∀ p ∈ J, p.length ≤ most + 1 := fun p hp => by
    obtain ⟨j, hj, rfl⟩ := List.mem_iff_getElem.1 hp
    have := (h6 (j + 1) (by simpa using hj)).1
    rw [show (r0 :: J).getD (j + 1) [] = J[j] by simp [hj]] at this
    omega
  have hJl : J.length ≤ 4 := by simp at h5; exact h5
  refine W_ref ((Ref.open 2 0 (cs := (r0 :: J).map oints) (cs2 := intsC r0) (k := 1) (n := r0.length) rfl rfl).trans (Ref.to (F' := [(0, .ref 0 0), (13, i64 k), (4, .ref 1 0), (5, .ref 3 0), (6, i64 (n : Int))]) (H' := [some (srcC bs a2 b2), some [nilS], some (.sl 4 1 0 n :: J.map oints), some [.sl 2 1 0 (J.length + 1)], some (intsC r0)]) (by rw [hr0]; rfl) (by simp [sub, fget]))) ?_
  refine RN ?_
  refine ⟨fun c0 => ?_, fun c0 => ?_⟩
  · refine V_W ?_
    refine V_altsDB (fun o : Nat × Int × List Int => o.1 ≤ bs.length ∧ o.2.2.length = n) (fun o => [(0, .ref 0 0), (4, .ref 1 0), (5, .ref 3 0)]) (fun o => [some (srcC bs o.1 o.2.1), some [nilS], some (.sl 4 1 0 n :: J.map oints), some [.sl 2 1 0 (J.length + 1)], some (intsC o.2.2)]) ?_ ?_
    · repeat' first
        | simp only [go_sem, ↓reduceIte, Nat.reduceEqDiff, Nat.reduceAdd, reduceCtorEq]
        | with_reducible refine LT_reg ?_
        | with_reducible refine LT_fin ?_
        | with_reducible exact LT_tt
        | with_reducible refine LT_alt ?_ ?_
        | (with_reducible refine And.intro ?_ ?_; focus first | assumption | omega | grind)
        | refine wriEF (l01Next_w bs hb a2 b2 q1 (n : Int)) [0] (by first | rfl | simp) (by simp only [go_sem, ↓reduceIte, Nat.reduceEqDiff, Nat.reduceAdd, reduceCtorEq] <;> rfl) (by simp only [go_sem, ↓reduceIte, Nat.reduceEqDiff, Nat.reduceAdd, reduceCtorEq] <;> rfl) fun o ho => ?_
        | refine wriEF (l01Pick_w2 bs hb _ _ ho.1 [-1, (n : Int), 0] (by simp) (by simp)) [0, 5] (by first | rfl | simp) (by simp only [go_sem, ↓reduceIte, Nat.reduceEqDiff, Nat.reduceAdd, reduceCtorEq] <;> rfl) (by simp only [go_sem, ↓reduceIte, Nat.reduceEqDiff, Nat.reduceAdd, reduceCtorEq] <;> rfl) fun o ho => ?_
      all_goals
        rename_i o1 ho1
        exact ⟨(o.1, o.2.1, r0.set o1.2.2.toNat ([-1, (n : Int), 0].getD o.2.2 0)), ⟨ho.1, by simp [hr0]⟩, Ref.gc [0, 1, 2, 3, 4] rfl (by simp only [go_sem, ↓reduceIte, Nat.reduceEqDiff, Nat.reduceAdd, reduceCtorEq] <;> rfl) (by simp [sub, fget, go_sem, ↓reduceIte, Nat.reduceEqDiff, Nat.reduceAdd, reduceCtorEq])⟩
    · rintro ⟨a3, b3, r⟩ ⟨g1, g2⟩
      dsimp only at g1 g2 ⊢
      refine RN ?_
      refine ⟨(a3, b3, r :: J), ⟨g1, by simp; omega, fun p hp => ?_⟩, ?_⟩
      · rcases List.mem_cons.1 hp with rfl | hp
        · omega
        · exact hJ p hp
      · refine Ref.sel [0] rfl (by simp only [go_sem, ↓reduceIte, Nat.reduceEqDiff, Nat.reduceAdd, reduceCtorEq]) ?_
        simp only [sub, List.all_cons, List.all_nil, go_sem, ↓reduceIte, Nat.reduceEqDiff, Nat.reduceAdd, reduceCtorEq]
        rw [List.take_of_length_le (show (intsC r).length ≤ n by rw [len_intsC]; omega), map_frz_ints]
        simp [maniA, mat, ints, g2]
  · (refine RN ?_; try with_reducible exact trivial)
    refine ⟨fun c1 => ?_, fun c1 => ?_⟩
    · refine V_W ?_
      refine V_altsDB (fun o : Nat × Int × List Int => o.1 ≤ bs.length ∧ o.2.2.length = n) (fun o => [(0, .ref 0 0), (4, .ref 1 0), (5, .ref 2 0)]) (fun o => [some (srcC bs o.1 o.2.1), some [nilS], some [.sl 3 1 0 (J.length + 2)], some ((.sl 4 1 0 n :: J.map oints) ++ [.sl 5 1 0 n]), some (intsC r0), some (intsC o.2.2)]) ?_ ?_
      · repeat' first
          | simp only [go_sem, ↓reduceIte, Nat.reduceEqDiff, Nat.reduceAdd, reduceCtorEq]
          | with_reducible refine LT_reg ?_
          | with_reducible refine LT_fin ?_
          | with_reducible exact LT_tt
          | with_reducible refine LT_alt ?_ ?_
          | (with_reducible refine And.intro ?_ ?_; focus first | assumption | omega | grind)
          | refine wriEF (l01Matching_w bs hb a2 b2 q1 n (by omega)) [0] (by first | rfl | simp) (by simp only [go_sem, ↓reduceIte, Nat.reduceEqDiff, Nat.reduceAdd, reduceCtorEq] <;> rfl) (by simp only [go_sem, ↓reduceIte, Nat.reduceEqDiff, Nat.reduceAdd, reduceCtorEq] <;> rfl) fun o ho => ?_
        all_goals
          exact ⟨(o.1, o.2.1, o.2.2), ⟨ho.1, ho.2.1⟩, Ref.gc [0, 1, 3, 7, 4, 5] rfl (by simp only [go_sem, ↓reduceIte, Nat.reduceEqDiff, Nat.reduceAdd, reduceCtorEq] <;> rfl) (by simp [sub, fget, go_sem, ↓reduceIte, Nat.reduceEqDiff, Nat.reduceAdd, reduceCtorEq])⟩
      · rintro ⟨a3, b3, r⟩ ⟨g1, g2⟩
        dsimp only at g1 g2 ⊢
        refine RN ?_
        refine ⟨(a3, b3, r0 :: (J ++ [r])), ⟨g1, by simp; omega, fun p hp => ?_⟩, ?_⟩
        · rcases List.mem_cons.1 hp with rfl | hp
          · omega
          · rcases List.mem_append.1 hp with hp | hp
            · exact hJ p hp
            · have : p = r := by simpa using hp
              subst this; omega
        · refine Ref.sel [0] rfl (by simp only [go_sem, ↓reduceIte, Nat.reduceEqDiff, Nat.reduceAdd, reduceCtorEq]) ?_
          simp only [sub, List.all_cons, List.all_nil, go_sem, ↓reduceIte, Nat.reduceEqDiff, Nat.reduceAdd, reduceCtorEq]
          rw [List.take_of_length_le (show (intsC r0).length ≤ n by rw [len_intsC]; omega), map_frz_ints, List.take_of_length_le (show (List.map oints J ++ [AV.sl 5 1 0 n]).length ≤ J.length + 1 by simp), List.map_append, map_frz_orows]
          have tk2 : (intsC r).take n = intsC r := List.take_of_length_le (by rw [len_intsC]; omega)
          simp [maniA, mat, ints, hr0, g2, frz, tk2, map_frz_ints]
    · (refine RN ?_; try with_reducible exact trivial)
      refine ⟨fun c2 => ?_, fun c2 => ?_⟩
      · (refine RN ?_; try with_reducible exact trivial)
        refine ⟨(a2, b2, []), ⟨q1, by simp, fun p hp => by simp at hp⟩, ?_⟩
        refine Ref.sel [0] rfl (by simp only [go_sem, ↓reduceIte, Nat.reduceEqDiff, Nat.reduceAdd, reduceCtorEq]) ?_
        simp only [sub, List.all_cons, List.all_nil, go_sem, ↓reduceIte, Nat.reduceEqDiff, Nat.reduceAdd, reduceCtorEq]
        rfl
      · (refine RN ?_; try with_reducible exact trivial)
        refine ⟨fun c3 => ?_, fun c3 => ?_⟩
        · refine V_W ?_
          refine V_altsDB (fun o : Unit => True) (fun o => [(0, .ref 0 0), (4, .ref 1 0), (5, .ref 3 0)]) (fun o => [some (srcC bs a2 b2), some [nilS], some (.sl 4 1 0 (n + 1) :: J.map oints), some [.sl 2 1 0 (J.length + 1)], some (intsC (r0 ++ [(n : Int)]))]) ?_ ?_
          · have tk1 : (intsC r0).take n = intsC r0 := List.take_of_length_le (by rw [len_intsC]; omega)
            (repeat' first | simp only [go_sem, ↓reduceIte, Nat.reduceEqDiff, Nat.reduceAdd, reduceCtorEq] | with_reducible refine LT_reg ?_ | with_reducible refine LT_regz (by simp only [zAd_load, zAd_loads, zPt_pto, go_sem, ↓reduceIte, Nat.reduceEqDiff, Nat.reduceAdd, reduceCtorEq]) ?_ | with_reducible refine LT_fin ?_ | with_reducible exact LT_tt | with_reducible refine LT_alt ?_ ?_ | (with_reducible refine And.intro ?_ ?_; focus first | assumption | omega | grind))
            all_goals
              refine ⟨(), Ref.gc [0, 1, 2, 3, 6] rfl ?_ (by simp [sub, fget, go_sem, ↓reduceIte, Nat.reduceEqDiff, Nat.reduceAdd, reduceCtorEq])⟩
              simp only [go_sem, ↓reduceIte, Nat.reduceEqDiff, Nat.reduceAdd, reduceCtorEq]
              rw [tk1, rnmL_ints]
              simp [intsC]
          · rintro _ _
            refine RN ?_
            refine ⟨(a2, b2, (r0 ++ [(n : Int)]) :: J), ⟨q1, by simp; omega, fun p hp => ?_⟩, ?_⟩
            · rcases List.mem_cons.1 hp with rfl | hp
              · simp; omega
              · exact hJ p hp
            · refine Ref.sel [0] rfl (by simp only [go_sem, ↓reduceIte, Nat.reduceEqDiff, Nat.reduceAdd, reduceCtorEq]) ?_
              simp only [sub, List.all_cons, List.all_nil, go_sem, ↓reduceIte, Nat.reduceEqDiff, Nat.reduceAdd, reduceCtorEq]
              rw [List.take_of_length_le (show (intsC (r0 ++ [(n : Int)])).length ≤ n + 1 by rw [len_intsC]; simp; omega), map_frz_ints]
              simp [maniA, mat, ints, hr0]
        · (refine RN ?_; try with_reducible exact trivial)
          refine ⟨fun c4 => ?_, fun c4 => ?_⟩
          · (refine RN ?_; try with_reducible exact trivial)
            refine ⟨(a2, b2, J), ⟨q1, by simp; omega, hJ⟩, ?_⟩
            refine Ref.sel [0] rfl (by simp only [go_sem, ↓reduceIte, Nat.reduceEqDiff, Nat.reduceAdd, reduceCtorEq]) ?_
            simp only [sub, List.all_cons, List.all_nil, go_sem, ↓reduceIte, Nat.reduceEqDiff, Nat.reduceAdd, reduceCtorEq]
            rw [List.take_of_length_le (show (List.map oints J).length ≤ J.length + 1 - 1 by simp), map_frz_orows]
            simp [maniA, mat]
          · (refine RN ?_; try with_reducible exact trivial)
            refine ⟨(a2, b2, r0 :: J), ⟨q1, by simp; omega, fun p hp => ?_⟩, ?_⟩
            · rcases List.mem_cons.1 hp with rfl | hp
              · omega
              · exact hJ p hp
            · refine Ref.sel [0] rfl (by simp only [go_sem, ↓reduceIte, Nat.reduceEqDiff, Nat.reduceAdd, reduceCtorEq]) ?_
              simp only [sub, List.all_cons, List.all_nil, go_sem, ↓reduceIte, Nat.reduceEqDiff, Nat.reduceAdd, reduceCtorEq]
              rw [List.take_of_length_le (show (intsC r0).length ≤ n by rw [len_intsC]; omega), map_frz_ints]
              simp [maniA, mat, ints, hr0]
end Go.Proofs.YtcmahhfjpgoceaaGreat
