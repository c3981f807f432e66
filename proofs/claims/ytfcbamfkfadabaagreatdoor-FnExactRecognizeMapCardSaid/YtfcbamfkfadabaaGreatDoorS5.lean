/- Texts that belong together. -/
import Derived.Test.YtfcbamfkfadabaaGreatDoorS4
set_option linter.unusedSimpArgs false
set_option linter.unusedVariables false
set_option maxRecDepth 100000
namespace Go.Proofs.YtfcbamfkfadabaaGreatDoor
section
open Go.Gov Go.Nt
open Classical
theorem rowsM_b {M : List (List Int)} (hM : IsMap M) : ∀ p ∈ M, p.length ≤ 400 := fun p hp => by
 obtain ⟨k, hk, rfl⟩ := List.mem_iff_getElem.1 hp
 have h1 := (hM.1.rows k hk).1
 have := hM.1.f4
 rw [show M.getD k [] = M[k] by simp [hk]] at h1
 omega
theorem txt_ok {n : Nat} (hn : n ≤ 2) {o s : List UInt8} (ho : o ∈ opT n) (hs : s ∈ seedsT) : (o ++ s).length ≤ 5 ∧ o.length = n ∧ NtOk (o ++ s) ∧ ntO (o ++ s) = o ∧ ntS (o ++ s) = s ∧ SeedOk s ∧ s.length ≤ 3 ∧ s ≠ [] := by
 obtain ⟨h1, h2, h3⟩ := nt_ok2 (n := n) (by omega) ho hs
 obtain ⟨s1, s2, _⟩ := seedsT_ok s hs
 have h4 := (opT_ok n o ho).1
 refine ⟨by rw [List.length_append]; omega, h4, h1, h2, h3, s1, s2, fun e => ?_⟩
 subst e
 rcases s1 with ⟨b, h, _⟩ | ⟨b, r, h, _⟩ <;> cases h
theorem cL_of {o s : List UInt8} (h1 : ntO (o ++ s) = o) (h2 : ntS (o ++ s) = s) : cL (o ++ s) = [(cnt (basL o) (seedC s)).1, (cnt (basL o) (seedC s)).2.1, (cnt (basL o) (seedC s)).2.2] := by
 unfold cL
 rw [h1, h2]
theorem lsL_ok {l : List UInt8} (h : moC l = 0) : IsMap (moM l) ∧ (lsF (moM l)).length = 3 ∧ ∀ k, k < (lsF (moM l)).length → ((lsF (moM l)).getD k []).length ≤ 1048576 := by
 have hM := (mo_map h).1
 obtain ⟨h1, h2⟩ := lfK_ok hM (fl (moM l)) (Nat.le_refl _)
 have h4 := hM.1.f4
 refine ⟨hM, h1, fun k hk => ?_⟩
 have := h2 k (by unfold lsF at hk; omega)
 unfold lsF
 omega
theorem recP_y {M : List (List Int)} {l : List UInt8} {C : List Int} (hC : fcV (fl M) M 3 = C) (h1 : cL l = C) (h0 : moC l = 0) : recP M l = decide (lsF (moM l) = lsF M) := by
 unfold recP
 rw [hC, decide_eq_true h1, decide_eq_true h0]; rfl
theorem recP_c {M : List (List Int)} {l : List UInt8} {C : List Int} (hC : fcV (fl M) M 3 = C) (h1 : ¬ cL l = C) : recP M l = false := by
 unfold recP
 rw [hC, decide_eq_false h1]; rfl
theorem recP_0 {M : List (List Int)} {l : List UInt8} (h0 : ¬ moC l = 0) : recP M l = false := by
 unfold recP
 rw [decide_eq_false h0]; simp
theorem find_no {α : Type} {P : α → Bool} {x : α} {L R : List α} {r : Option α} (h : r = ((x :: L) ++ R).find? P) (hx : P x = false) : r = (L ++ R).find? P := by
 rw [h, List.cons_append, List.find?_cons_of_neg (by simp [hx])]
theorem find_yes {α : Type} {P : α → Bool} {x : α} {L R : List α} {r : Option α} (h : r = ((x :: L) ++ R).find? P) (hx : P x = true) : r = some x := by
 rw [h, List.cons_append, List.find?_cons_of_pos hx]
set_option maxHeartbeats 16000000 in
theorem specRc_y (M : List (List Int)) (hM : IsMap M) : Pure Tryz.prog 22 [maniA M] (.tup [sV ((recV M).getD []), i64 (if (recV M).isSome then 0 else 4)]) [] := by
 have hM3 : M.length = 3 := hM.2
 have hMr : ∀ p ∈ M, p.length ≤ 1048576 := fun p hp => by have := rowsM_b hM p hp; omega
 have h4 := hM.1.f4
 have hli := l14Is_c M (by omega) hMr
 rw [decide_eq_true hM] at hli
 have hfc := l02Counts_c (fl M) M hM.1.mv rfl (by omega) (by omega)
 have hll := l02Least_p M hM
 have hsd := l15Seeds_p
 obtain ⟨a1, a2⟩ := lfK_ok hM (fl M) (Nat.le_refl _)
 change (lsF M).length = 3 at a1
 have a3 : ∀ k, k < (lsF M).length → ((lsF M).getD k []).length ≤ 1048576 := fun k hk => by
  have := a2 k (by omega)
  unfold lsF
  omega
 obtain ⟨C, hC⟩ : ∃ C, fcV (fl M) M 3 = C := ⟨_, rfl⟩
 have hCl : C.length = 3 := by rw [← hC, fcV_len]
 rw [hM3, hC] at hfc
 have hP1 := fun l h1 h0 => recP_y (M := M) (l := l) hC h1 h0
 have hP2 := fun l h1 => recP_c (M := M) (l := l) hC h1
 have hP3 := fun l h0 => recP_0 (M := M) (l := l) h0
 have hr0 : recV M = (rs3 0).find? (recP M) := rfl
 have hSl := seedsT_len
 generalize hA : lsF M = A at *
 generalize recV M = r at *
 generalize recP M = P at *
 refine pureV0 ok22 rfl rfl ?_; unfold c22
 refine RN ?_
 refine pureC1 (hli) ?_
 refine RN ?_
 refine V_altsS [(4, .slc 1 3 (intsC C)), (5, .pto [.slc 1 3 (A.map ints)] 0), (6, .slc 1 63 (sVs seedsT))] [] ?_ ?_
 ·have tkC : (intsC C).take 3 = intsC C := List.take_of_length_le (by rw [len_intsC]; omega)
  have tkS : (sVs seedsT).take 63 = sVs seedsT := List.take_of_length_le (by rw [len_sVs]; omega)
  (repeat' first | simp only [go_sem, ↓reduceIte, Nat.reduceEqDiff, Nat.reduceAdd, reduceCtorEq] | with_reducible refine LT_reg ?_ | with_reducible refine LT_regz (by simp only [zAd_load, zAd_loads, zPt_pto, go_sem, ↓reduceIte, Nat.reduceEqDiff, Nat.reduceAdd, reduceCtorEq]) ?_ | with_reducible refine LT_fin ?_ | with_reducible exact LT_tt | with_reducible refine LT_alt ?_ ?_ | (with_reducible refine And.intro ?_ ?_; focus first | assumption | omega | grind))
  all_goals refine pureC1 (hfc) ?_
  all_goals (repeat' first | simp only [go_sem, ↓reduceIte, Nat.reduceEqDiff, Nat.reduceAdd, reduceCtorEq] | with_reducible refine LT_reg ?_ | with_reducible refine LT_regz (by simp only [zAd_load, zAd_loads, zPt_pto, go_sem, ↓reduceIte, Nat.reduceEqDiff, Nat.reduceAdd, reduceCtorEq]) ?_ | with_reducible refine LT_fin ?_ | with_reducible exact LT_tt | with_reducible refine LT_alt ?_ ?_ | (with_reducible refine And.intro ?_ ?_; focus first | assumption | omega | grind))
  all_goals refine pureC1 (hll) ?_
  all_goals (repeat' first | simp only [go_sem, ↓reduceIte, Nat.reduceEqDiff, Nat.reduceAdd, reduceCtorEq] | with_reducible refine LT_reg ?_ | with_reducible refine LT_regz (by simp only [zAd_load, zAd_loads, zPt_pto, go_sem, ↓reduceIte, Nat.reduceEqDiff, Nat.reduceAdd, reduceCtorEq]) ?_ | with_reducible refine LT_fin ?_ | with_reducible exact LT_tt | with_reducible refine LT_alt ?_ ?_ | (with_reducible refine And.intro ?_ ?_; focus first | assumption | omega | grind))
  all_goals refine pureC1 (hsd) ?_
  all_goals (repeat' first | simp only [go_sem, ↓reduceIte, Nat.reduceEqDiff, Nat.reduceAdd, reduceCtorEq] | with_reducible refine LT_reg ?_ | with_reducible refine LT_regz (by simp only [zAd_load, zAd_loads, zPt_pto, go_sem, ↓reduceIte, Nat.reduceEqDiff, Nat.reduceAdd, reduceCtorEq]) ?_ | with_reducible refine LT_fin ?_ | with_reducible exact LT_tt | with_reducible refine LT_alt ?_ ?_ | (with_reducible refine And.intro ?_ ?_; focus first | assumption | omega | grind))
  all_goals exact Ref.sel [] rfl (by simp only [go_sem, ↓reduceIte, Nat.reduceEqDiff, Nat.reduceAdd, reduceCtorEq]) (by simp [sub, fget, go_sem, ↓reduceIte, Nat.reduceEqDiff, Nat.reduceAdd, reduceCtorEq, frz_im _ _ A 3 a1, tkC, tkS])
 refine RN ?_
 refine V_loop (α := Nat) (S := fun n => ([(4, .slc 1 3 (intsC C)), (5, .pto [.slc 1 3 (A.map ints)] 0), (6, .slc 1 63 (sVs seedsT)), (7, i64 (n : Int))], [])) (C := fun n => n ≤ 3 ∧ r = (rs3 n).find? P) (μ := fun n => 3 - n) 0 ⟨by omega, hr0⟩ (Ref.to1) ?_
 rintro n ⟨hn, hr⟩
 refine RN ?_
 refine ⟨fun hc => ?_, fun hc => ?_⟩
 ·have hn3 : n < 3 := by omega
  have hop := l15Operators_p n (by omega)
  have hLo := fun o s (ho : o ∈ opT n) hs => txt_ok (n := n) (o := o) (s := s) (by omega) ho hs
  rw [rs3_s hn3] at hr
  have hTl := opT_len n
  have hT12 : 12 ^ n ≤ 12 ^ 2 := Nat.pow_le_pow_right (by omega) (by omega)
  obtain ⟨R3, hR3⟩ : ∃ R3, R3 = rs3 (n + 1) := ⟨_, rfl⟩
  rw [← hR3] at hr
  generalize opT n = L at *
  have tkL : (sVs L).take L.length = sVs L := take_sVs_len L
  refine RN ?_
  refine pureC1 (hop) ?_
  refine RN ?_
  refine V_loop (α := Nat) (S := fun i => ([(4, .slc 1 3 (intsC C)), (5, .pto [.slc 1 3 (A.map ints)] 0), (6, .slc 1 63 (sVs seedsT)), (7, i64 (n : Int)), (8, .slc 1 L.length (sVs L)), (9, i64 (i : Int))], [])) (C := fun i => i ≤ L.length ∧ r = (rs2 L i ++ R3).find? P) (μ := fun i => L.length - i) 0 ⟨by omega, hr⟩ ?_ ?_
  ·exact Ref.sel [] rfl (by simp only [go_sem, ↓reduceIte, Nat.reduceEqDiff, Nat.reduceAdd, reduceCtorEq]) (by simp [sub, fget, go_sem, ↓reduceIte, Nat.reduceEqDiff, Nat.reduceAdd, reduceCtorEq, tkL])
  rintro i ⟨hi, hr2⟩
  refine RN ?_
  refine ⟨fun hc1 => ?_, fun hc1 => ?_⟩
  ·have hil : i < L.length := by omega
   rw [rs2_s hil, List.append_assoc] at hr2
   have ho : L.getD i [] ∈ L := by
    rw [List.getD_eq_getElem?_getD, List.getElem?_eq_getElem hil]
    exact List.getElem_mem hil
   obtain ⟨R2, hR2⟩ : ∃ R2, R2 = rs2 L (i + 1) ++ R3 := ⟨_, rfl⟩
   rw [← hR2] at hr2
   refine RN ?_
   refine V_loop (α := Nat) (S := fun k => ([(4, .slc 1 3 (intsC C)), (5, .pto [.slc 1 3 (A.map ints)] 0), (6, .slc 1 63 (sVs seedsT)), (7, i64 (n : Int)), (8, .slc 1 L.length (sVs L)), (9, i64 (i : Int)), (10, i64 (k : Int))], [])) (C := fun k => k ≤ 63 ∧ r = (rs1 (L.getD i []) k ++ R2).find? P) (μ := fun k => 63 - k) 0 ⟨by omega, hr2⟩ (Ref.to1) ?_
   rintro k ⟨hk, hr3⟩
   refine RN ?_
   refine ⟨fun hc2 => ?_, fun hc2 => ?_⟩
   ·have hk63 : k < 63 := by omega
    rw [rs1_s _ hk63] at hr3
    have hsm : seedsT.getD k [] ∈ seedsT := by
     rw [List.getD_eq_getElem?_getD, List.getElem?_eq_getElem (show k < seedsT.length by omega)]
     exact List.getElem_mem _
    obtain ⟨f1, f2, f3, f4, f5, f6, f7, f8⟩ := hLo _ _ ho hsm
    have hmx : 1099511627776000 ≤ maxLen := by decide
    obtain ⟨R1, hR1⟩ : ∃ R1, R1 = rs1 (L.getD i []) (k + 1) := ⟨_, rfl⟩
    rw [← hR1] at hr3
    generalize hse : seedsT.getD k [] = s at *
    generalize hoe : L.getD i [] = o at *
    have hbs := l15Basic_c (o ++ s) n (by rw [List.length_append]; omega) (by omega)
    rw [show (o ++ s).take n = o from List.take_left' f2, show (o ++ s).drop n = s from List.drop_left' f2] at hbs
    have hct := l15Counts_p o s (by omega) f6 (by omega)
    have hct2 : Pure Tryz.prog 54 [sV (basL o ++ s)] (.sl 0 1 0 3) [some (intsC (cL (o ++ s)))] := by rw [cL_of f4 f5]; exact hct
    have hcl3 : (cL (o ++ s)).length = 3 := rfl
    have hsc := same_c (cL (o ++ s)) C (by omega) (by omega)
    have hmp := l15Map_c (o ++ s) (by omega)
    unfold moA at hmp
    have hN := find_no hr3
    have hY := find_yes hr3
    rw [hR1] at hN
    have tk3 : (intsC (cL (o ++ s))).take 3 = intsC (cL (o ++ s)) := List.take_of_length_le (by rw [len_intsC]; omega)
    have ix3 : AV.slc 1 3 (intsC (cL (o ++ s))) = ints (cL (o ++ s)) := rfl
    have ixC : AV.slc 1 3 (intsC C) = ints C := by rw [ints, hCl]
    by_cases hcC : cL (o ++ s) = C
    ·rw [decide_eq_true hcC] at hsc
     by_cases h0 : moC (o ++ s) = 0
     ·obtain ⟨m1, m2, m3⟩ := lsL_ok h0
      have hP := hP1 (o ++ s) hcC h0
      have hlm := l02Least_p (moM (o ++ s)) m1
      have hss := l02Same_c (lsF (moM (o ++ s))) A (by omega) (by omega) m3 a3
      rw [h0] at hmp
      generalize cL (o ++ s) = c at *
      generalize lsF (moM (o ++ s)) = B at *
      generalize moM (o ++ s) = K at *
      have hK3 : K.length = 3 := m1.2
      by_cases hBA : B = A
      ·rw [decide_eq_true hBA] at hss hP
       have hrr := hY hP
       rw [hrr]
       (repeat first | simp only [hoe, hse, go_sem, ↓reduceIte, Nat.reduceEqDiff, Nat.reduceAdd, reduceCtorEq] | refine RX ?_ | decide)
       refine pureC1 (hbs) ?_
       refine RN ?_
       refine pureC1 (hct2) ?_
       refine RN ?_
       refine pureC hsc (by simp only [go_sem, ↓reduceIte, Nat.reduceEqDiff, Nat.reduceAdd, reduceCtorEq, tk3, ix3, ixC]) (by first | rfl | simp only [go_sem, ↓reduceIte, Nat.reduceEqDiff, Nat.reduceAdd, reduceCtorEq]) ?_
       refine RN ?_
       refine call_pureG (hmp) (by simp only [go_sem, ↓reduceIte, Nat.reduceEqDiff, Nat.reduceAdd, reduceCtorEq] <;> rfl) ?_
       refine RN ?_
       refine GCall.on rfl ?_
       refine pureC hlm (by simp only [go_sem, ↓reduceIte, Nat.reduceEqDiff, Nat.reduceAdd, reduceCtorEq] <;> rfl) (by first | rfl | simp only [go_sem, ↓reduceIte, Nat.reduceEqDiff, Nat.reduceAdd, reduceCtorEq]) ?_
       refine RN ?_
       refine GCall.on rfl ?_
       (try simp only [go_sem, ↓reduceIte, Nat.reduceEqDiff, Nat.reduceAdd, reduceCtorEq])
       (try refine And.intro trivial ?_)
       refine pureC hss (by simp only [go_sem, ↓reduceIte, Nat.reduceEqDiff, Nat.reduceAdd, reduceCtorEq, frz_im _ _ B 3 m2]; first | done | (simp only [maniA, mat, m2, a1]; done) | (simp only [maniA, mat, m2, a1]; rfl)) (by first | rfl | simp only [go_sem, ↓reduceIte, Nat.reduceEqDiff, Nat.reduceAdd, reduceCtorEq]) ?_
       (refine RN ?_; try with_reducible exact trivial)
      ·rw [decide_eq_false hBA] at hss hP
       have hrr := hN hP
       (repeat first | simp only [hoe, hse, go_sem, ↓reduceIte, Nat.reduceEqDiff, Nat.reduceAdd, reduceCtorEq] | refine RX ?_ | decide)
       refine pureC1 (hbs) ?_
       refine RN ?_
       refine pureC1 (hct2) ?_
       refine RN ?_
       refine pureC hsc (by simp only [go_sem, ↓reduceIte, Nat.reduceEqDiff, Nat.reduceAdd, reduceCtorEq, tk3, ix3, ixC]) (by first | rfl | simp only [go_sem, ↓reduceIte, Nat.reduceEqDiff, Nat.reduceAdd, reduceCtorEq]) ?_
       refine RN ?_
       refine call_pureG (hmp) (by simp only [go_sem, ↓reduceIte, Nat.reduceEqDiff, Nat.reduceAdd, reduceCtorEq] <;> rfl) ?_
       refine RN ?_
       refine GCall.on rfl ?_
       refine pureC hlm (by simp only [go_sem, ↓reduceIte, Nat.reduceEqDiff, Nat.reduceAdd, reduceCtorEq] <;> rfl) (by first | rfl | simp only [go_sem, ↓reduceIte, Nat.reduceEqDiff, Nat.reduceAdd, reduceCtorEq]) ?_
       refine RN ?_
       refine GCall.on rfl ?_
       (try simp only [go_sem, ↓reduceIte, Nat.reduceEqDiff, Nat.reduceAdd, reduceCtorEq])
       (try refine And.intro trivial ?_)
       refine pureC hss (by simp only [go_sem, ↓reduceIte, Nat.reduceEqDiff, Nat.reduceAdd, reduceCtorEq, frz_im _ _ B 3 m2]; first | done | (simp only [maniA, mat, m2, a1]; done) | (simp only [maniA, mat, m2, a1]; rfl)) (by first | rfl | simp only [go_sem, ↓reduceIte, Nat.reduceEqDiff, Nat.reduceAdd, reduceCtorEq]) ?_
       refine RN ?_
       exact ⟨k + 1, ⟨by omega, hrr⟩, by omega, Ref.gc1 []⟩
     ·have hP := hP3 (o ++ s) h0
      have hrr := hN hP
      have h0b : (moC (o ++ s) == 0) = false := by simpa using h0
      generalize cL (o ++ s) = c at *
      generalize moM (o ++ s) = K at *
      generalize moC (o ++ s) = z at *
      (repeat first | simp only [hoe, hse, go_sem, ↓reduceIte, Nat.reduceEqDiff, Nat.reduceAdd, reduceCtorEq] | refine RX ?_ | decide)
      refine pureC1 (hbs) ?_
      refine RN ?_
      refine pureC1 (hct2) ?_
      refine RN ?_
      refine pureC hsc (by simp only [go_sem, ↓reduceIte, Nat.reduceEqDiff, Nat.reduceAdd, reduceCtorEq, tk3, ix3, ixC]) (by first | rfl | simp only [go_sem, ↓reduceIte, Nat.reduceEqDiff, Nat.reduceAdd, reduceCtorEq]) ?_
      refine RN ?_
      refine call_pureG (hmp) (by simp only [go_sem, ↓reduceIte, Nat.reduceEqDiff, Nat.reduceAdd, reduceCtorEq] <;> rfl) ?_
      (repeat first | simp only [h0b, go_sem, ↓reduceIte, Nat.reduceEqDiff, Nat.reduceAdd, reduceCtorEq] | refine RX ?_ | decide)
      refine GCall_no (bl false) rfl ?_
      refine RN ?_
      refine GCall_no (bl false) rfl ?_
      refine RN ?_
      exact ⟨k + 1, ⟨by omega, hrr⟩, by omega, Ref.gc1 []⟩
    ·rw [decide_eq_false hcC] at hsc
     have hrr := hN (hP2 (o ++ s) hcC)
     generalize cL (o ++ s) = c at *
     (repeat first | simp only [hoe, hse, go_sem, ↓reduceIte, Nat.reduceEqDiff, Nat.reduceAdd, reduceCtorEq] | refine RX ?_ | decide)
     refine pureC1 (hbs) ?_
     refine RN ?_
     refine pureC1 (hct2) ?_
     refine RN ?_
     refine pureC hsc (by simp only [go_sem, ↓reduceIte, Nat.reduceEqDiff, Nat.reduceAdd, reduceCtorEq, tk3, ix3, ixC]) (by first | rfl | simp only [go_sem, ↓reduceIte, Nat.reduceEqDiff, Nat.reduceAdd, reduceCtorEq]) ?_
     refine RN ?_
     exact ⟨k + 1, ⟨by omega, hrr⟩, by omega, Ref.gc1 []⟩
   ·obtain rfl : k = 63 := by omega
    rw [rs1_e, List.nil_append, hR2] at hr3
    refine RN ?_
    exact ⟨i + 1, ⟨by omega, hr3⟩, by omega, Ref.to1⟩
  ·obtain rfl : i = L.length := by omega
   rw [rs2_e, List.nil_append, hR3] at hr2
   refine RN ?_
   exact ⟨n + 1, ⟨by omega, hr2⟩, by omega, Ref.to1⟩
 ·obtain rfl : n = 3 := by omega
  have hrn : r = none := hr
  rw [hrn]
  refine RN ?_
  rfl
end
section
open Go.Gov Go.Nt
open Classical
def opY (L : List (List UInt8)) (i c : Nat) : List (List UInt8) := opM L i ++ opK (L.getD i []) c
theorem opY_zero (L : List (List UInt8)) (i : Nat) : opY L i 0 = opM L i := by simp [opY, opK]
theorem opY_s (L : List (List UInt8)) (i : Nat) {c : Nat} (h : c < 12) : opY L i (c + 1) = opY L i c ++ [L.getD i [] ++ [opN.getD c 0]] := by
 unfold opY
 rw [opK_s _ h, List.append_assoc]
theorem opY_end {L : List (List UInt8)} {i : Nat} (h : i < L.length) : opY L i 12 = opM L (i + 1) := by
 unfold opY
 rw [opM_s h]
theorem opY_len (L : List (List UInt8)) {i : Nat} (h : i ≤ L.length) {c : Nat} (hc : c ≤ 12) : (opY L i c).length = 12 * i + c := by
 unfold opY
 rw [List.length_append, opM_len L i h, opK_len _ hc]
theorem subN (w : List UInt8) (i : Nat) (h : i < w.length) : (w.take (i + 1)).drop i = [w.getD i 0] := by
 rw [List.take_succ_eq_append_getElem h, List.drop_append]
 simp [h, Nat.min_eq_left (Nat.le_of_lt h)]
theorem vwC_sVs (ks : List Nat) (H : Heap) (L : List (List UInt8)) : (sVs L).map (vwC ks H) = sVs L := by simp [sVs, vwC, rnm]
theorem vwC_gvs (ks : List Nat) (H : Heap) (L : List (Nat × List Value)) : (gvs L).map (vwC ks H) = gvs L := by simp [gvs, vwC, rnm]
attribute [go_sem] vwC_sVs vwC_gvs
variable (tp tq : TypeId) (p q : Value)
set_option maxHeartbeats 16000000 in
theorem recognized_c (M : List (List Int)) (hM : IsMap M) : PureG Tryz.prog (LV tp tq p q) 59 [maniA M] (sV ((recV M).getD [])) [] := by
 have hM3 : M.length = 3 := hM.2
 have h4 := hM.1.f4
 have hfc := faceCounts_c (fl M) M hM.1.mv rfl (by omega) (by omega)
 have hll := leastForm_p M hM
 have hsd := seedTexts_p tp tq p q
 obtain ⟨a1, a2⟩ := lfK_ok hM (fl M) (Nat.le_refl _)
 change (lsF M).length = 3 at a1
 have a3 : ∀ k, k < (lsF M).length → ((lsF M).getD k []).length ≤ 1048576 := fun k hk => by
  have := a2 k (by omega)
  unfold lsF
  omega
 obtain ⟨C, hC⟩ : ∃ C, fcV (fl M) M 3 = C := ⟨_, rfl⟩
 have hCl : C.length = 3 := by rw [← hC, fcV_len]
 rw [hM3, hC] at hfc
 have hP1 := fun l h1 h0 => recP_y (M := M) (l := l) hC h1 h0
 have hP2 := fun l h1 => recP_c (M := M) (l := l) hC h1
 have hP3 := fun l h0 => recP_0 (M := M) (l := l) h0
 have hr0 : recV M = (rs3 0).find? (recP M) := rfl
 have hSl := seedsT_len
 have hmx : 1099511627776000 ≤ maxLen := by decide
 generalize hA : lsF M = A at *
 generalize recV M = r at *
 generalize recP M = P at *
 have tkC : (intsC C).take 3 = intsC C := List.take_of_length_le (by rw [len_intsC]; omega)
 have tkS : (sVs seedsT).take 63 = sVs seedsT := List.take_of_length_le (by rw [len_sVs]; omega)
 have ixC : AV.slc 1 3 (intsC C) = ints C := by rw [ints, hCl]
 refine pureGV ok59 rfl ?_; unfold c59
 refine RN ?_
 refine pureC1 (hfc) ?_
 refine RN ?_
 refine pureC hll (by simp only [go_sem, ↓reduceIte, Nat.reduceEqDiff, Nat.reduceAdd, reduceCtorEq] <;> rfl) (by first | rfl | simp only [go_sem, ↓reduceIte, Nat.reduceEqDiff, Nat.reduceAdd, reduceCtorEq]) ?_
 refine RN ?_
 refine V_loop (α := Nat) (S := fun n => ([(3, .slc 1 3 (intsC C)), (4, .pto [.slc 1 3 (A.map ints)] 0), (5, .slc 1 (opT n).length (sVs (opT n))), (20, i64 (n : Int))], [some (gvs (LV tp tq p q))])) (C := fun n => n ≤ 3 ∧ r = (rs3 n).find? P) (μ := fun n => 3 - n) 0 ⟨by omega, hr0⟩ ?_ ?_
 ·refine Ref.sel [0] rfl (by simp only [go_sem, ↓reduceIte, Nat.reduceEqDiff, Nat.reduceAdd, reduceCtorEq]) ?_
  simp [sub, fget, go_sem, ↓reduceIte, Nat.reduceEqDiff, Nat.reduceAdd, reduceCtorEq, frz_im _ _ A 3 a1, tkC, opT, sVs]
 rintro n ⟨hn, hr⟩
 refine RN ?_
 refine ⟨fun hc => ?_, fun hc => ?_⟩
 ·have hn3 : n < 3 := by omega
  have hLo := fun o s (ho : o ∈ opT n) hs => txt_ok (n := n) (o := o) (s := s) (by omega) ho hs
  rw [rs3_s hn3] at hr
  have hTl := opT_len n
  have hTe := opM_e n
  have hT12 : 12 ^ n ≤ 12 ^ 2 := Nat.pow_le_pow_right (by omega) (by omega)
  obtain ⟨R3, hR3⟩ : ∃ R3, R3 = rs3 (n + 1) := ⟨_, rfl⟩
  rw [← hR3] at hr
  generalize hTL : opT n = L at *
  have tkL : (sVs L).take L.length = sVs L := take_sVs_len L
  refine RN ?_
  refine V_loop (α := Nat) (S := fun i => ([(3, .slc 1 3 (intsC C)), (4, .pto [.slc 1 3 (A.map ints)] 0), (6, .sl 1 1 0 (opM L i).length), (20, i64 (n : Int)), (22, .slc 1 L.length (sVs L)), (23, i64 L.length), (24, i64 (i : Int))], [some (gvs (LV tp tq p q)), some (sVs (opM L i))])) (C := fun i => i ≤ L.length ∧ r = (rs2 L i ++ R3).find? P) (μ := fun i => L.length - i) 0 ⟨by omega, hr⟩ ?_ ?_
  ·exact (Ref.nil 6 1 rfl).trans (Ref.to rfl (by simp [sub, fget, opM]))
  rintro i ⟨hi, hr2⟩
  refine RN ?_
  refine ⟨fun hc1 => ?_, fun hc1 => ?_⟩
  ·have hil : i < L.length := by omega
   rw [rs2_s hil, List.append_assoc] at hr2
   have ho : L.getD i [] ∈ L := by
    rw [List.getD_eq_getElem?_getD, List.getElem?_eq_getElem hil]
    exact List.getElem_mem hil
   obtain ⟨R2, hR2⟩ : ∃ R2, R2 = rs2 L (i + 1) ++ R3 := ⟨_, rfl⟩
   rw [← hR2] at hr2
   have hMl := opM_len L i hi
   have hYe := opY_end hil
   have hY0 := opY_zero L i
   have hYs := fun c (hc : c < 12) => opY_s L i hc
   have hYl := fun c (hc : c ≤ 12) => opY_len L hi hc
   refine RN ?_
   refine pureGC1 (hsd) ?_
   refine RN ?_
   generalize hoe : L.getD i [] = u at *
   refine V_loop (α := Nat) (S := fun k => ([(3, .slc 1 3 (intsC C)), (4, .pto [.slc 1 3 (A.map ints)] 0), (6, .sl 1 1 0 (opM L i).length), (8, sV u), (20, i64 (n : Int)), (22, .slc 1 L.length (sVs L)), (23, i64 L.length), (24, i64 (i : Int)), (28, .slc 1 63 (sVs seedsT)), (29, i64 63), (30, i64 (k : Int))], [some (gvs (LV tp tq p q)), some (sVs (opM L i))])) (C := fun k => k ≤ 63 ∧ r = (rs1 u k ++ R2).find? P) (μ := fun k => 63 - k) 0 ⟨by omega, hr2⟩ ?_ ?_
   ·refine Ref.sel [0, 1] rfl (by simp only [go_sem, ↓reduceIte, Nat.reduceEqDiff, Nat.reduceAdd, reduceCtorEq]) ?_
    simp [sub, fget, go_sem, ↓reduceIte, Nat.reduceEqDiff, Nat.reduceAdd, reduceCtorEq, tkS]
   rintro k ⟨hk, hr3⟩
   refine RN ?_
   refine ⟨fun hc2 => ?_, fun hc2 => ?_⟩
   ·have hk63 : k < 63 := by omega
    rw [rs1_s _ hk63] at hr3
    have hsm : seedsT.getD k [] ∈ seedsT := by
     rw [List.getD_eq_getElem?_getD, List.getElem?_eq_getElem (show k < seedsT.length by omega)]
     exact List.getElem_mem _
    obtain ⟨f1, f2, f3, f4, f5, f6, f7, f8⟩ := hLo _ _ ho hsm
    obtain ⟨R1, hR1⟩ : ∃ R1, R1 = rs1 u (k + 1) := ⟨_, rfl⟩
    rw [← hR1] at hr3
    generalize hse : seedsT.getD k [] = s at *
    have hpa := parse_c tp tq p q (u ++ s) (by omega)
    have hct := counts_p u s (by omega) f6
    have hct2 : Pure Tryz.prog 40 [.agg [sV u, sV s, i64 (if s.length = 1 then 0 else numS s)]] (.sl 0 1 0 3) [some (intsC (cL (u ++ s)))] := by rw [cL_of f4 f5]; exact hct
    have hcl3 : (cL (u ++ s)).length = 3 := rfl
    have hsc := equal_c (cL (u ++ s)) C (by omega) (by omega)
    have hmp := mapOfNotation_c tp tq p q (u ++ s) (by omega)
    have hN := find_no hr3
    have hY := find_yes hr3
    rw [hR1] at hN
    have tk3 : (intsC (cL (u ++ s))).take 3 = intsC (cL (u ++ s)) := List.take_of_length_le (by rw [len_intsC]; omega)
    have ix3 : AV.slc 1 3 (intsC (cL (u ++ s))) = ints (cL (u ++ s)) := rfl
    (repeat first | simp only [hse, go_sem, ↓reduceIte, Nat.reduceEqDiff, Nat.reduceAdd, reduceCtorEq] | refine RX ?_ | decide)
    refine pureGEC1 (hpa) fun o ho => ?_
    obtain ⟨⟨b1, b2, b3⟩, d⟩ := o
    obtain ⟨ho1, ho2⟩ := ho
    dsimp only at ho1 ho2
    subst ho1
    obtain ⟨q1, q2, q3⟩ : b1 = u ∧ b2 = s ∧ b3 = (if s.length = 1 then 0 else numS s) := by have := ho2 f3; rw [f4, f5] at this; simpa using this
    subst b1 b2 b3
    rw [decide_eq_true f3]
    clear ho2 hpa hct
    generalize (if s.length = 1 then 0 else numS s) = z at hct2 ⊢
    by_cases hcC : cL (u ++ s) = C
    ·rw [decide_eq_true hcC] at hsc
     by_cases h0 : moC (u ++ s) = 0
     ·obtain ⟨m1, m2, m3⟩ := lsL_ok h0
      have hP := hP1 (u ++ s) hcC h0
      have hlm := leastForm_p (moM (u ++ s)) m1
      have hss := sameMan_c (lsF (moM (u ++ s))) A (by omega) (by omega) m3 a3
      rw [h0] at hmp
      generalize cL (u ++ s) = c at *
      generalize lsF (moM (u ++ s)) = B at *
      generalize moM (u ++ s) = K at *
      have hK3 : K.length = 3 := m1.2
      rw [hK3] at hmp
      by_cases hBA : B = A
      ·rw [decide_eq_true hBA] at hss hP
       have hrr := hY hP
       rw [hrr]
       refine RN ?_
       refine pureC1 (hct2) ?_
       refine RN ?_
       refine pureC hsc (by simp only [go_sem, ↓reduceIte, Nat.reduceEqDiff, Nat.reduceAdd, reduceCtorEq, tk3, ix3, ixC]) (by first | rfl | simp only [go_sem, ↓reduceIte, Nat.reduceEqDiff, Nat.reduceAdd, reduceCtorEq]) ?_
       refine RN ?_
       refine pureGC1 (hmp) ?_
       refine RN ?_
       refine GCall.on rfl ?_
       refine pureC hlm (by simp only [go_sem, ↓reduceIte, Nat.reduceEqDiff, Nat.reduceAdd, reduceCtorEq, frz_im _ _ K 3 hK3]; first | done | (simp only [maniA, mat, hK3]; done) | (simp only [maniA, mat, hK3]; rfl)) (by first | rfl | simp only [go_sem, ↓reduceIte, Nat.reduceEqDiff, Nat.reduceAdd, reduceCtorEq]) ?_
       refine RN ?_
       refine GCall.on rfl ?_
       (try simp only [go_sem, ↓reduceIte, Nat.reduceEqDiff, Nat.reduceAdd, reduceCtorEq])
       (try refine And.intro trivial ?_)
       refine pureC hss (by simp only [go_sem, ↓reduceIte, Nat.reduceEqDiff, Nat.reduceAdd, reduceCtorEq, frz_im _ _ B 3 m2]; first | done | (simp only [maniA, mat, m2, a1]; done) | (simp only [maniA, mat, m2, a1]; rfl)) (by first | rfl | simp only [go_sem, ↓reduceIte, Nat.reduceEqDiff, Nat.reduceAdd, reduceCtorEq]) ?_
       refine RN ?_
       exact Ref.gc1 []
      ·rw [decide_eq_false hBA] at hss hP
       have hrr := hN hP
       refine RN ?_
       refine pureC1 (hct2) ?_
       refine RN ?_
       refine pureC hsc (by simp only [go_sem, ↓reduceIte, Nat.reduceEqDiff, Nat.reduceAdd, reduceCtorEq, tk3, ix3, ixC]) (by first | rfl | simp only [go_sem, ↓reduceIte, Nat.reduceEqDiff, Nat.reduceAdd, reduceCtorEq]) ?_
       refine RN ?_
       refine pureGC1 (hmp) ?_
       refine RN ?_
       refine GCall.on rfl ?_
       refine pureC hlm (by simp only [go_sem, ↓reduceIte, Nat.reduceEqDiff, Nat.reduceAdd, reduceCtorEq, frz_im _ _ K 3 hK3]; first | done | (simp only [maniA, mat, hK3]; done) | (simp only [maniA, mat, hK3]; rfl)) (by first | rfl | simp only [go_sem, ↓reduceIte, Nat.reduceEqDiff, Nat.reduceAdd, reduceCtorEq]) ?_
       refine RN ?_
       refine GCall.on rfl ?_
       (try simp only [go_sem, ↓reduceIte, Nat.reduceEqDiff, Nat.reduceAdd, reduceCtorEq])
       (try refine And.intro trivial ?_)
       refine pureC hss (by simp only [go_sem, ↓reduceIte, Nat.reduceEqDiff, Nat.reduceAdd, reduceCtorEq, frz_im _ _ B 3 m2]; first | done | (simp only [maniA, mat, m2, a1]; done) | (simp only [maniA, mat, m2, a1]; rfl)) (by first | rfl | simp only [go_sem, ↓reduceIte, Nat.reduceEqDiff, Nat.reduceAdd, reduceCtorEq]) ?_
       refine RN ?_
       refine ⟨k + 1, ⟨by omega, hrr⟩, by omega, ?_⟩
       refine Ref.sel [0, 1] rfl (by simp only [go_sem, ↓reduceIte, Nat.reduceEqDiff, Nat.reduceAdd, reduceCtorEq]) ?_
       simp [sub, fget, go_sem, ↓reduceIte, Nat.reduceEqDiff, Nat.reduceAdd, reduceCtorEq]
     ·have hP := hP3 (u ++ s) h0
      have hrr := hN hP
      have h0b : (moC (u ++ s) == 0) = false := by simpa using h0
      generalize cL (u ++ s) = c at *
      generalize moM (u ++ s) = K at *
      generalize moC (u ++ s) = y at *
      refine RN ?_
      refine pureC1 (hct2) ?_
      refine RN ?_
      refine pureC hsc (by simp only [go_sem, ↓reduceIte, Nat.reduceEqDiff, Nat.reduceAdd, reduceCtorEq, tk3, ix3, ixC]) (by first | rfl | simp only [go_sem, ↓reduceIte, Nat.reduceEqDiff, Nat.reduceAdd, reduceCtorEq]) ?_
      refine RN ?_
      refine pureGC1 (hmp) ?_
      (repeat first | simp only [h0b, go_sem, ↓reduceIte, Nat.reduceEqDiff, Nat.reduceAdd, reduceCtorEq] | refine RX ?_ | decide)
      refine GCall_no (bl false) rfl ?_
      refine RN ?_
      refine GCall_no (bl false) rfl ?_
      refine RN ?_
      refine ⟨k + 1, ⟨by omega, hrr⟩, by omega, ?_⟩
      refine Ref.sel [0, 1] rfl (by simp only [go_sem, ↓reduceIte, Nat.reduceEqDiff, Nat.reduceAdd, reduceCtorEq]) ?_
      simp [sub, fget, go_sem, ↓reduceIte, Nat.reduceEqDiff, Nat.reduceAdd, reduceCtorEq]
    ·rw [decide_eq_false hcC] at hsc
     have hrr := hN (hP2 (u ++ s) hcC)
     generalize cL (u ++ s) = c at *
     refine RN ?_
     refine pureC1 (hct2) ?_
     refine RN ?_
     refine pureC hsc (by simp only [go_sem, ↓reduceIte, Nat.reduceEqDiff, Nat.reduceAdd, reduceCtorEq, tk3, ix3, ixC]) (by first | rfl | simp only [go_sem, ↓reduceIte, Nat.reduceEqDiff, Nat.reduceAdd, reduceCtorEq]) ?_
     refine RN ?_
     refine ⟨k + 1, ⟨by omega, hrr⟩, by omega, ?_⟩
     refine Ref.sel [0, 1] rfl (by simp only [go_sem, ↓reduceIte, Nat.reduceEqDiff, Nat.reduceAdd, reduceCtorEq]) ?_
     simp [sub, fget, go_sem, ↓reduceIte, Nat.reduceEqDiff, Nat.reduceAdd, reduceCtorEq]
   ·obtain rfl : k = 63 := by omega
    rw [rs1_e, List.nil_append, hR2] at hr3
    refine RN ?_
    refine V_loop (α := Nat) (S := fun c => ([(3, .slc 1 3 (intsC C)), (4, .pto [.slc 1 3 (A.map ints)] 0), (6, .sl 1 1 0 (opY L i c).length), (8, sV u), (20, i64 (n : Int)), (22, .slc 1 L.length (sVs L)), (23, i64 L.length), (24, i64 (i : Int)), (65, i64 (c : Int))], [some (gvs (LV tp tq p q)), some (sVs (opY L i c))])) (C := fun c => c ≤ 12) (μ := fun c => 12 - c) 0 (by omega) ?_ ?_
    ·exact Ref.to (by rw [hY0]) (by rw [hY0]; simp [sub, fget])
    intro c hc3
    have hYlc := hYl c hc3
    have hNl : opN.length = 12 := rfl
    refine RN ?_
    refine ⟨fun hc4 => ?_, fun hc4 => ?_⟩
    ·have hc12 : c < 12 := by omega
     have hys := hYs c hc12
     have hsub : ((97 : UInt8) :: ([98, 99, 100, 101, 106, 107, 109, 110, 111, 116, 122] : List UInt8).take c).drop c = [opN.getD c 0] := subN opN c hc12
     have e1 : ((c : Int) + 1).toNat = c + 1 := by omega
     have hul : u.length ≤ 2 := by
      have := (opT_ok n u (by rw [hTL]; exact ho)).1
      omega
     generalize opN.getD c 0 = b at hys hsub
     generalize opY L i c = K at hys hYlc ⊢
     (repeat first | simp only [e1, hsub, go_sem, ↓reduceIte, Nat.reduceEqDiff, Nat.reduceAdd, reduceCtorEq] | refine RX ?_ | decide)
     refine ⟨c + 1, by omega, by omega, ?_⟩
     rw [hys]
     exact Ref.gc2 [0, 3]
    ·obtain rfl : c = 12 := by omega
     rw [hYe]
     refine RN ?_
     refine ⟨i + 1, ⟨by omega, hr3⟩, by omega, ?_⟩
     exact Ref.to1
  ·obtain rfl : i = L.length := by omega
   rw [rs2_e, List.nil_append, hR3] at hr2
   rw [hTe]
   refine RN ?_
   refine ⟨n + 1, ⟨by omega, hr2⟩, by omega, ?_⟩
   refine Ref.sel [0] rfl (by simp only [go_sem, ↓reduceIte, Nat.reduceEqDiff, Nat.reduceAdd, reduceCtorEq]) ?_
   simp [sub, fget, go_sem, ↓reduceIte, Nat.reduceEqDiff, Nat.reduceAdd, reduceCtorEq]
 ·obtain rfl : n = 3 := by omega
  have hrn : r = none := hr
  rw [hrn]
  refine RN ?_
  exact Ref.gc1 []
end
end Go.Proofs.YtfcbamfkfadabaaGreatDoor
