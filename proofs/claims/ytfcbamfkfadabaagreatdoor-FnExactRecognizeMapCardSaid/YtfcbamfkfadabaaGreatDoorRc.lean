/- Texts that belong together. -/
import Derived.Test.YtfcbamfkfadabaaGreatDoorRa
set_option linter.unusedSimpArgs false
set_option linter.unusedVariables false
set_option maxRecDepth 100000
namespace Go.Proofs.YtfcbamfkfadabaaGreatDoor
open Go.Cl
open Classical
def Ltr (b : UInt8) : Prop := b = 100 ∨ b = 97 ∨ b = 116 ∨ b = 99
theorem bT_nice {b : UInt8} (h : Ltr b) : ∃ d, Nice (bT b) d := by
 rcases h with rfl | rfl | rfl | rfl
 ·exact ⟨_, tD_n⟩
 ·exact ⟨_, tA_n⟩
 ·exact ⟨_, tT_n⟩
 ·exact ⟨_, tC_n⟩
noncomputable def mm (M : List (List Int)) (w : List UInt8) : List (List Int) := w.foldl (fun m x => apM m (bT x) 3) M
def szW (n : Nat) (w : List UInt8) : Nat := w.foldl (fun n x => n * (bT x).length) n
theorem szW_mul (n : Nat) : ∀ w : List UInt8, szW n w = n * szW 1 w
 | [] => by simp [szW]
 | b :: w => by
  have h1 : szW n (b :: w) = szW (n * (bT b).length) w := rfl
  have h2 : szW 1 (b :: w) = szW (1 * (bT b).length) w := rfl
  rw [h1, h2, szW_mul (n * (bT b).length) w, szW_mul (1 * (bT b).length) w, Nat.one_mul, Nat.mul_assoc]
theorem szW_pos : ∀ w : List UInt8, (∀ x ∈ w, Ltr x) → 1 ≤ szW 1 w
 | [], _ => Nat.le_refl _
 | b :: w, h => by
  have h2 : szW 1 (b :: w) = szW (1 * (bT b).length) w := rfl
  rw [h2, szW_mul]
  have hb := (bT_ok (h b (by simp))).p1
  have := szW_pos w fun x hx => h x (by simp [hx])
  exact Nat.mul_pos (by omega) this
theorem mm_map : ∀ (w : List UInt8) (M : List (List Int)), IsMap M → (∀ x ∈ w, Ltr x) → fl M * szW 1 w ≤ 400 → IsMap (mm M w) ∧ fl (mm M w) = fl M * szW 1 w
 | [], M, hM, _, _ => ⟨hM, by simp [mm, szW]⟩
 | b :: w, M, hM, hw, h4 => by
  have hb := hw b (by simp)
  have hr : ∀ x ∈ w, Ltr x := fun x hx => hw x (by simp [hx])
  have h2 : szW 1 (b :: w) = szW (1 * (bT b).length) w := rfl
  rw [h2, szW_mul, Nat.one_mul, ← Nat.mul_assoc] at h4 ⊢
  have hp := szW_pos w hr
  obtain ⟨d, hn⟩ := bT_nice hb
  obtain ⟨a1, a2⟩ := ap_map hM hn (Nat.le_trans (Nat.le_mul_of_pos_right _ hp) h4)
  have ih := mm_map w (apM M (bT b) 3) a1 hr (by rw [a2]; exact h4)
  rw [a2] at ih
  exact ih
theorem mm_succ (M : List (List Int)) {w : List UInt8} {i : Nat} (hi : i < w.length) : mm M (w.take (i + 1)) = apM (mm M (w.take i)) (bT (w.getD i 0)) 3 := by
 rw [List.take_succ_eq_append_getElem hi]
 unfold mm
 rw [List.foldl_append]
 simp [hi]
theorem mm_wT {M : List (List Int)} (hM : IsMap M) {w : List UInt8} (hw : ∀ i, i < w.length → Ltr (w.getD i 0)) (hok : ∀ i, 1 ≤ i → i < w.length → IsTpl (wT (w.take i))) : ∀ i, 1 ≤ i → i ≤ w.length → mm M (w.take i) = apM M (wT (w.take i)) 3
 | 0, h, _ => by omega
 | 1, _, h => by
  rw [wT_one h, mm_succ M (i := 0) h]
  simp [mm]
 | i + 2, _, h => by
  rw [mm_succ M (i := i + 1) h, mm_wT hM hw hok (i + 1) (by omega) (by omega), wT_succ (i := i + 1) (by omega) (by omega)]
  exact ap_comp hM.mvi (hok (i + 1) (by omega) (by omega)) (bT_ok (hw (i + 1) (by omega)))
theorem mem_getD {α : Type} {P : α → Prop} {w : List α} {d : α} (h : ∀ i, i < w.length → P (w.getD i d)) : ∀ x ∈ w, P x := fun x hx => by
 obtain ⟨i, hi, rfl⟩ := List.mem_iff_getElem.1 hx
 have := h i hi
 rwa [show w.getD i d = w[i] by simp [hi]] at this
end Go.Proofs.YtfcbamfkfadabaaGreatDoor
