/- Texts that belong together. -/
import Derived.Test.YtcmahhfjpgoceaaGreatRc
set_option linter.unusedSimpArgs false
set_option linter.unusedVariables false
set_option maxRecDepth 100000
namespace Go.Proofs.YtcmahhfjpgoceaaGreat
open Go.Cl
open Classical

theorem wT_len0 : ∀ (r : List UInt8) (T : List (List Tg)), (r.foldl (fun T x => cmT T (bT x)) T).length = szW T.length r
  | [], T => rfl
  | b :: r, T => by
    rw [List.foldl_cons, wT_len0 r, cmT_len]
    rfl
theorem wT_len {w : List UInt8} (h : 1 ≤ w.length) : (wT w).length = szW 1 w := by
  cases w with
  | nil => simp at h
  | cons c r =>
    rw [wT, wT_len0]
    show _ = szW (1 * (bT c).length) r
    rw [Nat.one_mul]
theorem alt_three (a b c : Int) : altN [a, b, c] 3 = a - b + c := by
  simp [altN]
theorem sf_letter {M : List (List Int)} (hM : IsMap M) {b : UInt8} (hb : Ltr b) (h4 : fl M * (bT b).length ≤ 400) : sfB (apM M (bT b) 3) = sfB M ∧ sfG (apM M (bT b) 3) = sfG M := by
  obtain ⟨d, hn⟩ := bT_nice hb
  obtain ⟨a1, a2⟩ := ap_map hM hn h4
  have h2 := hM.1.f2
  have hp := hn.ok.p1
  have hpos : 0 < fl M * (bT b).length := Nat.mul_pos (by omega) (by omega)
  have hA := ap_mvi hM.mvi hn.ok
  have hbip : BipE (fl (apM M (bT b) 3)) (apM M (bT b) 3) ↔ BipE (fl M) M := by
    rw [a2, bip_col hpos hA, bip_col (by omega) hM.mvi]
    exact ap_col (by omega) hM.mvi hn
  have hK3 : (apM M (bT b) 3).length = 3 := a1.2
  have hM3 : M.length = 3 := hM.2
  have halt : altN (fcV (fl (apM M (bT b) 3)) (apM M (bT b) 3) (apM M (bT b) 3).length) (apM M (bT b) 3).length = altN (fcV (fl M) M M.length) M.length := by
    have f3 := fcV_three (n := fl M) hM3
    rw [f3, hK3, hM3, alt_three]
    have key : ∀ i, i < 4 → bT b = bT (ltrs.getD i 0) → altN (fcV (fl (apM M (bT b) 3)) (apM M (bT b) 3) 3) 3 = (vN (fl M) M : Int) - eN (fl M) M + fN (fl M) M := fun i hi e => by
      have hd := due_ok hM i hi
      rw [← e, hK3] at hd
      rw [hd]
      match i, hi with
      | 0, _ => simp only [dueL, List.getD_cons_zero, alt_three]; omega
      | 1, _ => simp only [dueL, List.getD_cons_succ, List.getD_cons_zero, alt_three]; omega
      | 2, _ => simp only [dueL, List.getD_cons_succ, List.getD_cons_zero, alt_three]; omega
      | 3, _ => simp only [dueL, List.getD_cons_succ, List.getD_cons_zero, alt_three]; omega
    rcases hb with rfl | rfl | rfl | rfl
    · exact key 0 (by decide) rfl
    · exact key 1 (by decide) rfl
    · exact key 2 (by decide) rfl
    · exact key 3 (by decide) rfl
  refine ⟨?_, ?_⟩
  · unfold sfB
    exact decide_eq_decide.2 ⟨fun h => ⟨hM, hbip.1 h.2⟩, fun h => ⟨a1, hbip.2 h.2⟩⟩
  · unfold sfG
    rw [if_pos a1, if_pos hM, halt]
    by_cases h : BipE (fl M) M
    · rw [if_pos h, if_pos (hbip.2 h)]
    · rw [if_neg h, if_neg (fun x => h (hbip.1 x))]
theorem sf_mm : ∀ (w : List UInt8) (M : List (List Int)), IsMap M → (∀ x ∈ w, Ltr x) → fl M * szW 1 w ≤ 400 → sfB (mm M w) = sfB M ∧ sfG (mm M w) = sfG M
  | [], M, _, _, _ => ⟨rfl, rfl⟩
  | b :: w, M, hM, hw, h4 => by
    have hb := hw b (by simp)
    have hr : ∀ x ∈ w, Ltr x := fun x hx => hw x (by simp [hx])
    have h2 : szW 1 (b :: w) = szW (1 * (bT b).length) w := rfl
    rw [h2, szW_mul, Nat.one_mul, ← Nat.mul_assoc] at h4
    have hp := szW_pos w hr
    obtain ⟨d, hn⟩ := bT_nice hb
    have h5 := Nat.le_trans (Nat.le_mul_of_pos_right _ hp) h4
    obtain ⟨a1, a2⟩ := ap_map hM hn h5
    obtain ⟨s1, s2⟩ := sf_letter hM hb h5
    obtain ⟨t1, t2⟩ := sf_mm w (apM M (bT b) 3) a1 hr (by rw [a2]; exact h4)
    exact ⟨t1.trans s1, t2.trans s2⟩
theorem sf_named {M : List (List Int)} (hM : IsMap M) {n : Int} (h : n ∈ opL) (h4 : fl M * (wT (wdI n)).length ≤ 400) : sfB (apM M (wT (wdI n)) 3) = sfB M ∧ sfG (apM M (wT (wdI n)) 3) = sfG M := by
  obtain ⟨h1, h2, h3, _, h5, h6⟩ := wd_ok n h
  have he := mm_wT hM h5 h6 (wdI n).length h3 (Nat.le_refl _)
  rw [List.take_length] at he
  rw [← he]
  exact sf_mm (wdI n) M hM (mem_getD h5) (by rw [← wT_len h3]; exact h4)
theorem at_n {M : List (List Int)} {T : List (List Tg)} (h : atC M T ≠ 0) : atV M T = [] := by
  unfold atV
  rw [if_neg]
  intro ha
  refine h ?_
  unfold atC
  rw [if_pos ha.1, if_neg ha.2.1, if_pos ha.2.2]
theorem at_y {M : List (List Int)} {T : List (List Tg)} (h : atC M T = 0) : IsMap M ∧ IsTpl T ∧ fl M * T.length ≤ 400 ∧ IsMap (apM M T 3) ∧ atV M T = apM M T 3 ∧ fl (apM M T 3) = fl M * T.length := by
  have ha : AtOk M T := by
    unfold atC at h
    split at h
    · rename_i h1
      split at h
      · cases h
      · rename_i h2
        split at h
        · rename_i h3; exact ⟨h1, h2, h3⟩
        · cases h
    · cases h
  refine ⟨ha.1.1, ha.1.2, by have := ha.2.1; omega, ha.2.2, by unfold atV; rw [if_pos ha], ?_⟩
  exact (ap_mvi ha.1.1.mvi ha.1.2).row 0 (by omega)
noncomputable def cpC (T U : List (List Tg)) : Int := if IsTpl T ∧ IsTpl U then (if T.length * U.length > 12 then 3 else 0) else 1
theorem at_comp {M : List (List Int)} {T U : List (List Tg)} (h : atC M T = 0) (hc : cpC T U = 0) : IsTpl (cmT T U) ∧ atC (atV M T) U = atC M (cmT T U) ∧ atV (atV M T) U = atV M (cmT T U) := by
  obtain ⟨hM, hT, h4, hK, hv, hf⟩ := at_y h
  have hU : IsTpl U ∧ T.length * U.length ≤ 12 := by
    unfold cpC at hc
    split at hc
    · rename_i h1
      split at hc
      · cases hc
      · exact ⟨h1.2, by omega⟩
    · cases hc
  have hCU := cm_tpl hT hU.1 hU.2
  have hcomp := ap_comp hM.mvi hT hU.1
  have hlen : fl (apM M T 3) * U.length = fl M * (cmT T U).length := by rw [hf, cmT_len, Nat.mul_assoc]
  rw [hv]
  refine ⟨hCU, ?_, ?_⟩
  · unfold atC
    rw [hcomp, hlen, if_pos (show IsMap (apM M T 3) ∧ IsTpl U from ⟨hK, hU.1⟩), if_pos (show IsMap M ∧ IsTpl (cmT T U) from ⟨hM, hCU⟩)]
  · unfold atV AtOk
    rw [hcomp, hlen]
    by_cases hx : ¬ (fl M * (cmT T U).length > 400) ∧ IsMap (apM M (cmT T U) 3)
    · rw [if_pos ⟨⟨hK, hU.1⟩, hx⟩, if_pos ⟨⟨hM, hCU⟩, hx⟩]
    · rw [if_neg (fun k => hx k.2), if_neg (fun k => hx k.2)]
end Go.Proofs.YtcmahhfjpgoceaaGreat
