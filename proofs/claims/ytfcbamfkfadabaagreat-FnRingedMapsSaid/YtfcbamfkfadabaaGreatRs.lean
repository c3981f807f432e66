/- Texts that belong together. -/
import Derived.Test.YtfcbamfkfadabaaGreatR1
import Derived.Test.YtfcbamfkfadabaaGreatR4
import Derived.Test.YtfcbamfkfadabaaGreatR9
set_option linter.unusedSimpArgs false
set_option linter.unusedVariables false
set_option maxRecDepth 100000
namespace Go.Proofs.YtfcbamfkfadabaaGreat
open Go.Gov Go.Ce
open Classical

theorem beqN {a b : Nat} : Nat.beq a b = true ↔ a = b := ⟨Nat.eq_of_beq_eq_true, beq_t⟩
theorem bleN {a b : Nat} : Nat.ble a b = true ↔ a ≤ b := ⟨Nat.le_of_ble_eq_true, Nat.ble_eq_true_of_le⟩
theorem map_of_ck {M : List (List Int)} {t : Nat → Nat → Nat} {m : Nat} (hl : M.length = 3) (hr : ∀ g, g < 3 → (M.getD g []).length = m)
    (ht : ∀ g j, g < 3 → j < m → (M.getD g []).getD j 0 = (t g j : Nat) ∧ t g j < m) (h2 : 2 ≤ m) (h4 : m ≤ 400) (hc : ckT t m = true) : IsMap M := by
  have hck : ∀ j, j < m → (∀ g, g < 3 → t g (t g j) = j ∧ t g j ≠ j) ∧ t 2 (t 0 j) = t 0 (t 2 j) ∧ t 0 j ≠ t 2 j ∧ (j = 0 ∨ t 0 j < j ∨ t 1 j < j ∨ t 2 j < j) := fun j hj => by
    have h := allB_at hc hj
    simp only [Bool.and_eq_true, Bool.or_eq_true, Bool.not_eq_true', beqN, bleN] at h
    obtain ⟨h1, h2, h3, h4⟩ := h
    refine ⟨fun g hg => ?_, h2, (fun e => by rw [beq_t e] at h3; cases h3), by omega⟩
    have := allB_at h1 hg
    simp only [Bool.and_eq_true, Bool.not_eq_true', beqN] at this
    exact ⟨this.1, fun e => by rw [beq_t e] at this; cases this.2⟩
  have hmv : ∀ g j, g < 3 → j < m → mv M g j = t g j := fun g j hg hj => by
    unfold mv
    rw [(ht g j hg hj).1, Int.toNat_natCast]
  have hI : MvI m M := by
    refine ⟨hl, hr, fun i x hi hx => ?_, fun i x hi hx => ?_, fun i x hi hx => ?_, fun i x hi hx => ?_, fun x hx => ?_, fun x hx => ?_⟩
    · rw [hmv i x hi hx]; exact (ht i x hi hx).1
    · rw [hmv i x hi hx]; exact (ht i x hi hx).2
    · rw [hmv i x hi hx, hmv i _ hi (ht i x hi hx).2]; exact ((hck x hx).1 i hi).1
    · rw [hmv i x hi hx]; exact ((hck x hx).1 i hi).2
    · rw [hmv 0 x (by omega) hx, hmv 2 x (by omega) hx, hmv 2 _ (by omega) (ht 0 x (by omega) hx).2, hmv 0 _ (by omega) (ht 2 x (by omega) hx).2]; exact (hck x hx).2.1
    · rw [hmv 0 x (by omega) hx, hmv 2 x (by omega) hx]; exact (hck x hx).2.2.1
  refine IsMap.of hI h2 h4 fun x => ?_
  induction x using Nat.strongRecOn with
  | _ x ih =>
    intro hx
    have hstep : ∀ g, g < 3 → t g x < x → Rch M 0 x := fun g hg hlt => by
      have h1 := ih (t g x) hlt (by omega)
      have h3 := h1.step (p := M.getD g []) (by
        rw [List.getD_eq_getElem?_getD, List.getElem?_eq_getElem (by omega)]
        exact List.getElem_mem _)
      rw [(ht g _ hg (by omega)).1, Int.toNat_natCast, ((hck x hx).1 g hg).1] at h3
      exact h3
    rcases (hck x hx).2.2.2 with h | h | h | h
    · subst h; exact .refl
    · exact hstep 0 (by omega) h
    · exact hstep 1 (by omega) h
    · exact hstep 2 (by omega) h
theorem uni_ck {a b e : Nat} (ha : a ≤ 32) (hb : b ≤ 32) (h1 : 1 ≤ e) (h2 : e ≤ 100) (h : ckN a b e = true) : uniC a b = 0 ∧ IsMap (uniT a b) ∧ fl (uniT a b) = 4 * e := by
  unfold ckN at h
  rw [show rlS a b = rls2 a b from rfl] at h
  simp only [Bool.and_eq_true, Bool.not_eq_true', beqN] at h
  obtain ⟨c1, c2, c3⟩ := h
  have hlet : ∀ k, k < (rls2 a b).length → Let 3 ((rls2 a b).getD k []) := fun k hk => (rls2_rows a b ha hb k hk).1
  have hR := enumN_eq (G := 3) (by omega) hlet
  have hbad : (enum 3 (rls2 a b)).bad = false := by rw [← hR.bad]; exact c1
  have hE := enum_ed (G := 3) (by omega) hlet hbad
  have hO := ordN_eq hE hR
  have hm : (ord 3 (enum 3 (rls2 a b))).length = 4 * e := by rw [← hO.m]; exact c2
  have hM : IsMap (uniT a b) := by
    refine map_of_ck (tbl_len _ _) (fun g hg => by rw [← hm]; exact tbl_row hg) (fun g j hg hj => ?_) (by omega) (by omega) c3
    have := tbN_eq hE hR (g := g) (j := j) hg (by omega)
    rw [hm] at this
    exact this
  refine ⟨?_, hM, by rw [← hm]; exact tbl_row (by omega)⟩
  unfold uniC
  rw [if_pos ⟨hbad, by omega⟩, if_pos hM.1]
theorem uni_t {a b e : Nat} (ha : a ≤ 32) (hb : b ≤ 32) (h1 : 1 ≤ e) (h2 : e ≤ 100) (h : ckN a b e = true) : ∀ i x, i < 3 → x < 4 * e → mv (uniT a b) i x = tbN 3 (enumN 3 (rlS a b)) (ordN 3 (enumN 3 (rlS a b))) i x := fun i x hi hx => by
  unfold ckN at h
  rw [show rlS a b = rls2 a b from rfl] at h ⊢
  simp only [Bool.and_eq_true, Bool.not_eq_true', beqN] at h
  obtain ⟨c1, c2, c3⟩ := h
  have hlet : ∀ k, k < (rls2 a b).length → Let 3 ((rls2 a b).getD k []) := fun k hk => (rls2_rows a b ha hb k hk).1
  have hR := enumN_eq (G := 3) (by omega) hlet
  have hbad : (enum 3 (rls2 a b)).bad = false := by rw [← hR.bad]; exact c1
  have hE := enum_ed (G := 3) (by omega) hlet hbad
  have hO := ordN_eq hE hR
  have hm : (ord 3 (enum 3 (rls2 a b))).length = 4 * e := by rw [← hO.m]; exact c2
  unfold mv uniT
  rw [(tbN_eq hE hR (g := i) (j := x) hi (by omega)).1, Int.toNat_natCast]
end Go.Proofs.YtfcbamfkfadabaaGreat
