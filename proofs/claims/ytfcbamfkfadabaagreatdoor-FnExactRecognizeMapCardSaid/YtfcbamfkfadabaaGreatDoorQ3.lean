/- Texts that belong together. -/
import Derived.Test.YtfcbamfkfadabaaGreatDoorTa
set_option linter.unusedSimpArgs false
set_option linter.unusedVariables false
set_option maxRecDepth 100000
namespace Go.Proofs.YtfcbamfkfadabaaGreatDoor
open Go.Gov Go.Nt
open Classical
variable (tp tq : TypeId) (p q : Value)
theorem getD_app1 {a b : List UInt8} {i : Nat} (h : i < a.length) : (a ++ b).getD i 0 = a.getD i 0 := by
 rw [List.getD_eq_getElem?_getD, List.getElem?_append_left h, ← List.getD_eq_getElem?_getD]
theorem getD_app2 {a b : List UInt8} : (a ++ b).getD a.length 0 = b.getD 0 0 := by
 rw [List.getD_eq_getElem?_getD, List.getElem?_append_right (Nat.le_refl _), Nat.sub_self, ← List.getD_eq_getElem?_getD]
set_option maxHeartbeats 8000000 in
theorem l15Counts_p (o s : List UInt8) (ho : o.length ≤ 12) (h : SeedOk s) (hs : s.length ≤ 1048576) : Pure Tryz.prog 54 [sV (basL o ++ s)] (.sl 0 1 0 3) [some [i64 (cnt (basL o) (seedC s)).1, i64 (cnt (basL o) (seedC s)).2.1, i64 (cnt (basL o) (seedC s)).2.2]] := by
 obtain ⟨n, hn, hop, hk⟩ := seed_kindC h
 have hpos : 0 < s.length := by rcases hk with h | h <;> omega
 have hv := l01Value_c (s.drop 1) (by rw [List.length_drop]; omega)
 rw [show valS (s.drop 1) = numS s from rfl] at hv
 have hbl := basL_len o
 have hcb := cnt_b o s ho h
 have hlet := fun j => lets o (j := j)
 have hcs := fun j => cnt_step (basL o) (seedC s) (j := j)
 obtain ⟨hnO, hnS⟩ := nt_bas o s h
 have hT1 := fun i => getD_app1 (a := basL o) (b := s) (i := i)
 have hT2 := getD_app2 (a := basL o) (b := s)
 have hTl : (basL o ++ s).length = (basL o).length + s.length := List.length_append
 have hTd : ((basL o ++ s).take (basL o ++ s).length).drop ((basL o).length + 1) = s.drop 1 := by
  rw [List.take_length, ← List.drop_drop, List.drop_left']
  rfl
 obtain ⟨T, hT⟩ : ∃ T, T = basL o ++ s := ⟨_, rfl⟩
 rw [← hT] at hnO hnS hT2 hTl hTd ⊢
 simp only [← hT] at hT1
 obtain ⟨B, hB⟩ : ∃ B, B = basL o := ⟨_, rfl⟩
 rw [← hB] at hbl hcb hlet hcs hnO hT1 hT2 hTl hTd ⊢
 have hd0 : cnt (B.drop B.length) (seedC s) = seedC s := by rw [List.drop_length]; rfl
 have hstep := nt_step T
 rw [hnO] at hstep
 rw [← hT2] at hn hop
 refine pureRV ok54 rfl ?_; unfold c54
 refine RN ?_
 refine V_loop (α := Nat) (S := fun i => ([(0, sV T), (3, i64 (i : Int))], [])) (C := fun i => i ≤ B.length) (μ := fun i => B.length - i) 0 (Nat.zero_le _) (by exact Ref.frame (by simp [sub, fget])) ?_
 intro i hi
 have hst := hstep i hi
 have hwo := l14Word_c (T.getD i 0)
 have hwe := word_op (T.getD i 0)
 refine RN ?_
 refine pureC1 (hwo) ?_
 simp only [hwe, Bool.not_not, go_sem, ↓reduceIte, Nat.reduceEqDiff, Nat.reduceAdd, reduceCtorEq]
 refine RN ?_
 refine ⟨fun hc => ?_, fun hc => ?_⟩
 ·have := hst.2 ⟨by omega, hc⟩
  refine RN ?_
  exact ⟨i + 1, by omega, by omega, Ref.to1⟩
 ·obtain rfl : i = B.length := by
    rcases Nat.lt_or_ge i B.length with h5 | h5
    ·have h6 := (hst.1 h5).2
     rw [hc] at h6
     cases h6
    ·omega
  clear hst hwo hwe hstep hc hi
  have e0 : ((B.length : Int) + 1).toNat = B.length + 1 := by omega
  (refine RN ?_; try with_reducible exact trivial)
  try simp only [hn, go_sem, ↓reduceIte, Nat.reduceEqDiff, Nat.reduceAdd, reduceCtorEq]
  rcases hk with ⟨_, hk⟩ | ⟨_, h2, h3, hk⟩
  ·rcases hk with ⟨rfl, e⟩ | ⟨rfl, e⟩ | ⟨rfl, e⟩ | ⟨rfl, e⟩ | ⟨rfl, e⟩
   all_goals
    (iterate 16 ((try (refine RN ?_; try with_reducible exact trivial)); (try with_reducible refine fun _ => ?_)))
    refine V_loop (α := Nat) (S := fun j => ([(0, sV T), (4, i64 (cnt (B.drop j) (seedC s)).1), (5, i64 (cnt (B.drop j) (seedC s)).2.1), (6, i64 (cnt (B.drop j) (seedC s)).2.2), (8, i64 ((j : Int) - 1))], [])) (C := fun j => j ≤ B.length) (μ := fun j => j) B.length (Nat.le_refl _) (Ref.to rfl (by rw [hd0, e]; simp [sub, fget])) ?_
    intro j hj
    refine RN ?_
    refine ⟨fun hc => ?_, fun hc => ?_⟩
    ·obtain ⟨m, hm, hl⟩ := hlet j (by omega) hj
     have hst := hcs j (by omega) hj
     obtain ⟨hb1, hb2, hb3⟩ := hcb j
     have hl2 := hl (cnt (B.drop j) (seedC s))
     have hTj := hT1 (j - 1) (by omega)
     unfold Go.Nt.Good at hb1
     obtain ⟨c, hc2⟩ : ∃ c, c = cnt (B.drop j) (seedC s) := ⟨_, rfl⟩
     rw [← hc2] at hst hb1 hb2 hb3 hl2 ⊢
     obtain ⟨v, e', f⟩ := c
     dsimp only at hst hb1 hb2 hb3 hl2 ⊢
     rw [← hTj] at hm
     have e1 : ((j : Int) - 1).toNat = j - 1 := by omega
     have e3 : ((j - 1 : Nat) : Int) - 1 = (j : Int) - 1 - 1 := by omega
     clear hlet hcs hcb hl hc2 hT1
     (refine RN ?_; try with_reducible exact trivial)
     try simp only [e1, hm, go_sem, ↓reduceIte, Nat.reduceEqDiff, Nat.reduceAdd, reduceCtorEq]
     rcases hl2 with ⟨rfl, e2⟩ | ⟨rfl, e2⟩ | ⟨rfl, e2⟩ | ⟨rfl, e2⟩
     all_goals
      (iterate 16 ((try (refine RN ?_; try with_reducible exact trivial)); (try with_reducible refine fun _ => ?_)))
      refine ⟨j - 1, by omega, by omega, ?_⟩
      rw [hst, e2, e3]
      exact Ref.to1
    ·obtain rfl : j = 0 := by omega
     rw [List.drop_zero]
     refine RN ?_
     exact Ref.to1
  ·rcases hk with ⟨rfl, e⟩ | ⟨rfl, e⟩
   all_goals
    (iterate 16 ((try (refine RN ?_; try with_reducible exact trivial)); (try with_reducible refine fun _ => ?_)))
    try simp only [e0, hTd, go_sem, ↓reduceIte, Nat.reduceEqDiff, Nat.reduceAdd, reduceCtorEq]
    refine pureC1 (hv) ?_
    (iterate 16 ((try (refine RN ?_; try with_reducible exact trivial)); (try with_reducible refine fun _ => ?_)))
    try simp only [hn, go_sem, ↓reduceIte, Nat.reduceEqDiff, Nat.reduceAdd, reduceCtorEq]
    (iterate 16 ((try (refine RN ?_; try with_reducible exact trivial)); (try with_reducible refine fun _ => ?_)))
    refine V_loop (α := Nat) (S := fun j => ([(0, sV T), (4, i64 (cnt (B.drop j) (seedC s)).1), (5, i64 (cnt (B.drop j) (seedC s)).2.1), (6, i64 (cnt (B.drop j) (seedC s)).2.2), (8, i64 ((j : Int) - 1))], [])) (C := fun j => j ≤ B.length) (μ := fun j => j) B.length (Nat.le_refl _) (Ref.to rfl (by rw [hd0, e]; simp [sub, fget])) ?_
    intro j hj
    refine RN ?_
    refine ⟨fun hc => ?_, fun hc => ?_⟩
    ·obtain ⟨m, hm, hl⟩ := hlet j (by omega) hj
     have hst := hcs j (by omega) hj
     obtain ⟨hb1, hb2, hb3⟩ := hcb j
     have hl2 := hl (cnt (B.drop j) (seedC s))
     have hTj := hT1 (j - 1) (by omega)
     unfold Go.Nt.Good at hb1
     obtain ⟨c, hc2⟩ : ∃ c, c = cnt (B.drop j) (seedC s) := ⟨_, rfl⟩
     rw [← hc2] at hst hb1 hb2 hb3 hl2 ⊢
     obtain ⟨v, e', f⟩ := c
     dsimp only at hst hb1 hb2 hb3 hl2 ⊢
     rw [← hTj] at hm
     have e1 : ((j : Int) - 1).toNat = j - 1 := by omega
     have e3 : ((j - 1 : Nat) : Int) - 1 = (j : Int) - 1 - 1 := by omega
     clear hlet hcs hcb hl hc2 hT1
     (refine RN ?_; try with_reducible exact trivial)
     try simp only [e1, hm, go_sem, ↓reduceIte, Nat.reduceEqDiff, Nat.reduceAdd, reduceCtorEq]
     rcases hl2 with ⟨rfl, e2⟩ | ⟨rfl, e2⟩ | ⟨rfl, e2⟩ | ⟨rfl, e2⟩
     all_goals
      (iterate 16 ((try (refine RN ?_; try with_reducible exact trivial)); (try with_reducible refine fun _ => ?_)))
      refine ⟨j - 1, by omega, by omega, ?_⟩
      rw [hst, e2, e3]
      exact Ref.to1
    ·obtain rfl : j = 0 := by omega
     rw [List.drop_zero]
     refine RN ?_
     exact Ref.to1
end Go.Proofs.YtfcbamfkfadabaaGreatDoor
