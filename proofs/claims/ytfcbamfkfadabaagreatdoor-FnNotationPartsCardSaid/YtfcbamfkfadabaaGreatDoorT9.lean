/- Texts that belong together. -/
import Derived.Test.YtfcbamfkfadabaaGreatDoorT5
set_option linter.unusedSimpArgs false
set_option linter.unusedVariables false
set_option maxRecDepth 100000
namespace Go.Proofs.YtfcbamfkfadabaaGreatDoor
open Go.Gov Go.Nt
open Classical

def basL (l : List UInt8) : List UInt8 := l.flatMap fun b => (wordOf b).reverse
theorem basL_len (l : List UInt8) : (basL l).length ≤ 3 * l.length := by
  induction l with
  | nil => simp [basL]
  | cons b l ih =>
    have := word_len b
    simp only [basL, List.flatMap_cons, List.length_append, List.length_reverse, List.length_cons] at *
    omega
theorem basL_succ {l : List UInt8} {i : Nat} (h : i < l.length) : basL (l.take (i + 1)) = basL (l.take i) ++ (wordOf (l.getD i 0)).reverse := by
  rw [take_one8 h]
  simp [basL]
theorem max_big : 1099511627776000 ≤ maxLen := by decide
theorem rev_step8 {w : List UInt8} {j : Nat} (h0 : 0 < j) (h : j ≤ w.length) : (w.drop (j - 1)).reverse = (w.drop j).reverse ++ (w.take j).drop (j - 1) := by
  obtain ⟨i, rfl⟩ : ∃ i, j = i + 1 := ⟨j - 1, by omega⟩
  rw [Nat.add_sub_cancel, List.drop_eq_getElem_cons (by omega), List.reverse_cons]
  congr 1
  rw [List.take_succ_eq_append_getElem (by omega), List.drop_left' (by rw [List.length_take]; omega)]
set_option maxHeartbeats 2000000 in
theorem l15Basic_c (l : List UInt8) (n : Nat) (hn : n ≤ l.length) (hs : l.length ≤ 1099511627776) : Pure Tryz.prog 55 [sV l, i64 (n : Int)] (sV (basL (l.take n) ++ l.drop n)) [] := by
  have hmx := max_big
  have hdr : (l.take l.length).drop n = l.drop n := by rw [List.take_length]
  refine pureV0 ok55 rfl rfl ?_; unfold c55
  refine RN ?_
  refine V_loop (α := Nat) (S := fun i => ([(0, sV l), (1, i64 (n : Int)), (5, sV (basL (l.take i))), (6, i64 (i : Int))], [])) (C := fun i => i ≤ n) (μ := fun i => n - i) 0 (Nat.zero_le _) (Ref.to rfl (by simp [sub, fget, basL])) ?_
  intro i hi
  have hbl := basL_len (l.take i)
  rw [List.length_take] at hbl
  have hwo := l14Word_c (l.getD i 0)
  have hwl := word_len (l.getD i 0)
  refine RN ?_
  refine ⟨fun hc => ?_, fun hc => ?_⟩
  · have hst := basL_succ (l := l) (i := i) (by omega)
    obtain ⟨w, hw⟩ : ∃ w, w = wordOf (l.getD i 0) := ⟨_, rfl⟩
    obtain ⟨B, hB⟩ : ∃ B, B = basL (l.take i) := ⟨_, rfl⟩
    rw [← hw] at hwo hwl hst
    rw [← hB] at hst hbl ⊢
    refine RN ?_
    refine pureC1 (hwo) ?_
    refine RN ?_
    refine V_loop (α := Nat) (S := fun j => ([(0, sV l), (1, i64 (n : Int)), (5, sV (B ++ (w.drop j).reverse)), (6, i64 (i : Int)), (7, sV w), (8, i64 ((j : Int) - 1))], [])) (C := fun j => j ≤ w.length) (μ := fun j => j) w.length (Nat.le_refl _) (Ref.to1) ?_
    intro j hj
    refine RN ?_
    refine ⟨fun hd => ?_, fun hd => ?_⟩
    · have hr := rev_step8 (w := w) (j := j) (by omega) hj
      have e1 : ((j : Int) - 1).toNat = j - 1 := by omega
      have e2 : ((j : Int) - 1 + 1).toNat = j := by omega
      have hl2 : ((w.take j).drop (j - 1)).length ≤ 1 := by rw [List.length_drop, List.length_take]; omega
      (refine RN ?_; try with_reducible exact trivial)
      try simp only [e1, e2, go_sem, ↓reduceIte, Nat.reduceEqDiff, Nat.reduceAdd, reduceCtorEq]
      refine RN ?_
      refine ⟨j - 1, by omega, by omega, Ref.to rfl ?_⟩
      have e3 : ((j - 1 : Nat) : Int) - 1 = (j : Int) - 1 - 1 := by omega
      rw [hr, e3]
      simp [sub, fget]
    · obtain rfl : j = 0 := by omega
      rw [List.drop_zero, ← hst]
      refine RN ?_
      exact ⟨i + 1, by omega, by omega, Ref.to1⟩
  · obtain rfl : i = n := by omega
    (refine RN ?_; try with_reducible exact trivial)
    try simp only [hdr, go_sem, ↓reduceIte, Nat.reduceEqDiff, Nat.reduceAdd, reduceCtorEq]
    (repeat  first | simp only [go_sem, ↓reduceIte, Nat.reduceEqDiff, Nat.reduceAdd, reduceCtorEq] | refine RX ?_ | decide)
end Go.Proofs.YtfcbamfkfadabaaGreatDoor
set_option maxRecDepth 100000
namespace Go.Proofs.YtfcbamfkfadabaaGreatDoor
open Go.Gov Go.Nt
open Classical
variable (tp tq : TypeId) (p q : Value)

theorem basic_core (n : Int) (h0 : 0 ≤ n) (h1 : n < 256) : Pure Tryz.prog 87 [.val (.int .u8 n)] (sV (wordOf (UInt8.ofNat n.toNat))) [] := by
  by_cases c1 : n = 100
  · subst c1
    refine pureV0 ok87 rfl rfl ?_; unfold c87
    (iterate 16 ((try (refine RN ?_; try with_reducible exact trivial)); (try with_reducible refine fun _ => ?_)))
    try rfl
  by_cases c2 : n = 97
  · subst c2
    refine pureV0 ok87 rfl rfl ?_; unfold c87
    (iterate 16 ((try (refine RN ?_; try with_reducible exact trivial)); (try with_reducible refine fun _ => ?_)))
    try rfl
  by_cases c3 : n = 116
  · subst c3
    refine pureV0 ok87 rfl rfl ?_; unfold c87
    (iterate 16 ((try (refine RN ?_; try with_reducible exact trivial)); (try with_reducible refine fun _ => ?_)))
    try rfl
  by_cases c4 : n = 99
  · subst c4
    refine pureV0 ok87 rfl rfl ?_; unfold c87
    (iterate 16 ((try (refine RN ?_; try with_reducible exact trivial)); (try with_reducible refine fun _ => ?_)))
    try rfl
  by_cases c5 : n = 98
  · subst c5
    refine pureV0 ok87 rfl rfl ?_; unfold c87
    (iterate 16 ((try (refine RN ?_; try with_reducible exact trivial)); (try with_reducible refine fun _ => ?_)))
    try rfl
  by_cases c6 : n = 101
  · subst c6
    refine pureV0 ok87 rfl rfl ?_; unfold c87
    (iterate 16 ((try (refine RN ?_; try with_reducible exact trivial)); (try with_reducible refine fun _ => ?_)))
    try rfl
  by_cases c7 : n = 106
  · subst c7
    refine pureV0 ok87 rfl rfl ?_; unfold c87
    (iterate 16 ((try (refine RN ?_; try with_reducible exact trivial)); (try with_reducible refine fun _ => ?_)))
    try rfl
  by_cases c8 : n = 107
  · subst c8
    refine pureV0 ok87 rfl rfl ?_; unfold c87
    (iterate 16 ((try (refine RN ?_; try with_reducible exact trivial)); (try with_reducible refine fun _ => ?_)))
    try rfl
  by_cases c9 : n = 109
  · subst c9
    refine pureV0 ok87 rfl rfl ?_; unfold c87
    (iterate 16 ((try (refine RN ?_; try with_reducible exact trivial)); (try with_reducible refine fun _ => ?_)))
    try rfl
  by_cases d1 : n = 110
  · subst d1
    refine pureV0 ok87 rfl rfl ?_; unfold c87
    (iterate 16 ((try (refine RN ?_; try with_reducible exact trivial)); (try with_reducible refine fun _ => ?_)))
    try rfl
  by_cases d2 : n = 111
  · subst d2
    refine pureV0 ok87 rfl rfl ?_; unfold c87
    (iterate 16 ((try (refine RN ?_; try with_reducible exact trivial)); (try with_reducible refine fun _ => ?_)))
    try rfl
  by_cases d3 : n = 122
  · subst d3
    refine pureV0 ok87 rfl rfl ?_; unfold c87
    (iterate 16 ((try (refine RN ?_; try with_reducible exact trivial)); (try with_reducible refine fun _ => ?_)))
    try rfl
  have hw : wordOf (UInt8.ofNat n.toNat) = [] := by
    have e1 := of_ne h0 h1 (m := 100) (by decide) c1
    have e2 := of_ne h0 h1 (m := 97) (by decide) c2
    have e3 := of_ne h0 h1 (m := 116) (by decide) c3
    have e4 := of_ne h0 h1 (m := 99) (by decide) c4
    have e5 := of_ne h0 h1 (m := 98) (by decide) c5
    have e6 := of_ne h0 h1 (m := 101) (by decide) c6
    have e7 := of_ne h0 h1 (m := 106) (by decide) c7
    have e8 := of_ne h0 h1 (m := 107) (by decide) c8
    have e9 := of_ne h0 h1 (m := 109) (by decide) c9
    have f1 := of_ne h0 h1 (m := 110) (by decide) d1
    have f2 := of_ne h0 h1 (m := 111) (by decide) d2
    have f3 := of_ne h0 h1 (m := 122) (by decide) d3
    generalize UInt8.ofNat n.toNat = b at *
    unfold wordOf
    rw [if_neg (by rintro (h | h | h | h); exact e1 h; exact e2 h; exact e3 h; exact e4 h), if_neg (show ¬ b = 98 from e5), if_neg (show ¬ b = 101 from e6), if_neg (show ¬ b = 106 from e7), if_neg (show ¬ b = 107 from e8), if_neg (show ¬ b = 109 from e9), if_neg (show ¬ b = 110 from f1), if_neg (show ¬ b = 111 from f2), if_neg (show ¬ b = 122 from f3)]
  rw [hw]
  refine pureV0 ok87 rfl rfl ?_; unfold c87
  (iterate 16 ((try (refine RN ?_; try with_reducible exact trivial)); (try with_reducible refine fun _ => ?_)))
  try rfl
theorem basicOf_c (b : UInt8) : Pure Tryz.prog 87 [u8 b] (sV (wordOf b)) [] := by
  have h := basic_core b.toNat (by omega) (by have := u8_lt b; omega)
  rwa [Int.toNat_natCast, UInt8.ofNat_toNat] at h
theorem rev8_c (l : List UInt8) (h : l.length ≤ 3) : Wri Tryz.prog 88 [.sl 0 1 0 l.length] [some (l.map fun b => u8 b)] (.tup []) [some (l.reverse.map fun b => u8 b)] := by
  match l, h with
  | [], _ =>
    refine wriV ok88 rfl ?_; unfold c88
    refine RN ?_
    refine V_loop (α := Unit) (S := fun _ => ([(0, .sl 0 1 0 0), (2, i64 0), (3, i64 (-1))], [some []])) (C := fun _ => True) (μ := fun _ => 0) () trivial (Ref.to1) ?_
    intro _ _
    (iterate 16 ((try (refine RN ?_; try with_reducible exact trivial)); (try with_reducible refine fun _ => ?_)))
    all_goals (try rfl)
  | [a], _ =>
    refine wriV ok88 rfl ?_; unfold c88
    refine RN ?_
    refine V_loop (α := Unit) (S := fun _ => ([(0, .sl 0 1 0 1), (2, i64 0), (3, i64 0)], [some [u8 a]])) (C := fun _ => True) (μ := fun _ => 0) () trivial (Ref.to1) ?_
    intro _ _
    (iterate 16 ((try (refine RN ?_; try with_reducible exact trivial)); (try with_reducible refine fun _ => ?_)))
    all_goals (try rfl)
  | [a, b], _ =>
    refine wriV ok88 rfl ?_; unfold c88
    refine RN ?_
    refine V_loop (α := Bool) (S := fun i => match i with
      | false => ([(0, .sl 0 1 0 2), (2, i64 0), (3, i64 1)], [some [u8 a, u8 b]])
      | true => ([(0, .sl 0 1 0 2), (2, i64 1), (3, i64 0)], [some [u8 b, u8 a]])) (C := fun _ => True) (μ := fun i => if i then 0 else 1) false trivial (Ref.to1) ?_
    intro i _
    cases i with
    | false =>
      refine RN ?_
      refine ⟨fun _ => ?_, fun h => absurd h (by decide)⟩
      refine RN ?_
      refine V_altsB [(0, .sl 0 1 0 2), (2, i64 0), (3, i64 1)] [some [u8 b, u8 a]] ?_ ?_
      · (repeat' first | simp only [go_sem, ↓reduceIte, Nat.reduceEqDiff, Nat.reduceAdd, reduceCtorEq] | with_reducible refine LT_reg ?_ | with_reducible refine LT_regz (by simp only [zAd_load, zAd_loads, zPt_pto, go_sem, ↓reduceIte, Nat.reduceEqDiff, Nat.reduceAdd, reduceCtorEq]) ?_ | with_reducible refine LT_fin ?_ | with_reducible exact LT_tt | with_reducible refine LT_alt ?_ ?_ | (with_reducible refine And.intro ?_ ?_; focus first | assumption | omega | grind))
        all_goals (try simp only [go_sem, ↓reduceIte, Nat.reduceEqDiff, Nat.reduceAdd, reduceCtorEq]); exact Ref.frame (by simp [sub, fget])
      · (refine RN ?_; try with_reducible exact trivial)
        exact ⟨true, by decide, Ref.to1⟩
    | true =>
      (iterate 16 ((try (refine RN ?_; try with_reducible exact trivial)); (try with_reducible refine fun _ => ?_)))
      all_goals (try rfl)
  | [a, b, c], _ =>
    refine wriV ok88 rfl ?_; unfold c88
    refine RN ?_
    refine V_loop (α := Bool) (S := fun i => match i with
      | false => ([(0, .sl 0 1 0 3), (2, i64 0), (3, i64 2)], [some [u8 a, u8 b, u8 c]])
      | true => ([(0, .sl 0 1 0 3), (2, i64 1), (3, i64 1)], [some [u8 c, u8 b, u8 a]])) (C := fun _ => True) (μ := fun i => if i then 0 else 1) false trivial (Ref.to1) ?_
    intro i _
    cases i with
    | false =>
      refine RN ?_
      refine ⟨fun _ => ?_, fun h => absurd h (by decide)⟩
      refine RN ?_
      refine V_altsB [(0, .sl 0 1 0 3), (2, i64 0), (3, i64 2)] [some [u8 c, u8 b, u8 a]] ?_ ?_
      · (repeat' first | simp only [go_sem, ↓reduceIte, Nat.reduceEqDiff, Nat.reduceAdd, reduceCtorEq] | with_reducible refine LT_reg ?_ | with_reducible refine LT_regz (by simp only [zAd_load, zAd_loads, zPt_pto, go_sem, ↓reduceIte, Nat.reduceEqDiff, Nat.reduceAdd, reduceCtorEq]) ?_ | with_reducible refine LT_fin ?_ | with_reducible exact LT_tt | with_reducible refine LT_alt ?_ ?_ | (with_reducible refine And.intro ?_ ?_; focus first | assumption | omega | grind))
        all_goals (try simp only [go_sem, ↓reduceIte, Nat.reduceEqDiff, Nat.reduceAdd, reduceCtorEq]); exact Ref.frame (by simp [sub, fget])
      · (refine RN ?_; try with_reducible exact trivial)
        exact ⟨true, by decide, Ref.to1⟩
    | true =>
      (iterate 16 ((try (refine RN ?_; try with_reducible exact trivial)); (try with_reducible refine fun _ => ?_)))
      all_goals (try rfl)
set_option maxHeartbeats 2000000 in
theorem basic_c (o s : List UInt8) (z : Int) (ho : o.length ≤ 12) : Pure Tryz.prog 41 [.agg [sV o, sV s, i64 z]] (sV (basL o)) [] := by
  have hmx := max_big
  refine pureV0 ok41 rfl rfl ?_; unfold c41
  refine RN ?_
  refine V_loop (α := Nat) (S := fun i => ([(1, .ref 0 0), (3, .sl 1 1 0 (basL (o.take i)).length), (8, i64 (o.length : Int)), (9, i64 (i : Int))], [some [sV o, sV s, i64 z], some ((basL (o.take i)).map fun b => u8 b)])) (C := fun i => i ≤ o.length) (μ := fun i => o.length - i) 0 (Nat.zero_le _) ((Ref.nil 3 1 rfl).trans (Ref.to (by simp [basL]) (by simp [sub, fget, basL]))) ?_
  intro i hi
  have hbl := basL_len (o.take i)
  rw [List.length_take] at hbl
  have hwo := basicOf_c (o.getD i 0)
  have hwl := word_len (o.getD i 0)
  refine RN ?_
  refine ⟨fun hc => ?_, fun hc => ?_⟩
  · have hst := basL_succ (l := o) (i := i) (by omega)
    obtain ⟨w, hw⟩ : ∃ w, w = wordOf (o.getD i 0) := ⟨_, rfl⟩
    obtain ⟨B, hB⟩ : ∃ B, B = basL (o.take i) := ⟨_, rfl⟩
    rw [← hw] at hwo hwl hst
    rw [← hB] at hst hbl ⊢
    have hrv := rev8_c w hwl
    have hwr : w.reverse.length = w.length := List.length_reverse
    have htk : (w.reverse.map fun b => u8 b).take w.length = w.reverse.map fun b => u8 b := List.take_of_length_le (by simp)
    refine RN ?_
    refine pureC1 (hwo) ?_
    refine RN ?_
    refine wriC1 (hrv) [2] ?_
    (refine RN ?_; try with_reducible exact trivial)
    try simp only [htk, go_sem, ↓reduceIte, Nat.reduceEqDiff, Nat.reduceAdd, reduceCtorEq]
    refine ⟨one_u8 _, AppK_pl (plain_u8 _) ?_⟩
    refine RN ?_
    refine ⟨i + 1, by omega, by omega, Ref.gc [0, 3] rfl ?_ ?_⟩
    · simp only [go_sem, ↓reduceIte, Nat.reduceEqDiff, Nat.reduceAdd, reduceCtorEq]
      rw [hst]
      simp
    · rw [hst]
      simp [sub, fget, go_sem, ↓reduceIte, Nat.reduceEqDiff, Nat.reduceAdd, reduceCtorEq]
  · obtain rfl : i = o.length := by omega
    rw [List.take_length]
    have hpl := plain_u8 (basL o)
    have hsu := strA_u8 (basL o)
    refine RN ?_
    simp only [hsu, go_sem, ↓reduceIte, Nat.reduceEqDiff, Nat.reduceAdd, reduceCtorEq]
    (refine RN ?_; try with_reducible exact trivial)
end Go.Proofs.YtfcbamfkfadabaaGreatDoor
