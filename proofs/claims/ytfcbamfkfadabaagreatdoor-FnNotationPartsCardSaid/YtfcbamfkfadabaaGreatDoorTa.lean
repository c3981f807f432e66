/- Texts that belong together. -/
import Derived.Test.YtfcbamfkfadabaaGreatDoorT3
import Derived.Test.YtfcbamfkfadabaaGreatDoorT9
set_option linter.unusedSimpArgs false
set_option linter.unusedVariables false
set_option maxRecDepth 100000
namespace Go.Nt
abbrev C3 := Int × Int × Int
def cstep (b : UInt8) (c : C3) : C3 := if b = 100 then (c.2.2, c.2.1, c.1) else if b = 97 then (c.2.1, 2 * c.2.1, c.1 + c.2.2) else if b = 116 then (2 * c.2.1, 3 * c.2.1, c.1 + c.2.2) else (c.1 + 2 * c.2.1, 4 * c.2.1, c.2.2 + c.2.1)
def fac (b : UInt8) : Nat := if b = 100 then 1 else if b = 97 then 2 else if b = 116 then 3 else 4
def facL (l : List UInt8) : Nat := l.foldr (fun b a => fac b * a) 1
def Good (c : C3) : Prop := 0 ≤ c.1 ∧ 0 ≤ c.2.2 ∧ c.1 + c.2.2 ≤ c.2.1 + 2
def cnt (l : List UInt8) (c : C3) : C3 := l.foldr cstep c
theorem cstep_ok (b : UInt8) (c : C3) (h : Good c) (he : 0 ≤ c.2.1) : Good (cstep b c) ∧ (cstep b c).2.1 = (fac b : Int) * c.2.1 := by
  obtain ⟨v, e, f⟩ := c
  unfold Good at h ⊢
  unfold cstep fac
  dsimp only at h he ⊢
  by_cases h1 : b = 100
  · rw [if_pos h1, if_pos h1]; dsimp only; omega
  rw [if_neg h1, if_neg h1]
  by_cases h2 : b = 97
  · rw [if_pos h2, if_pos h2]; dsimp only; omega
  rw [if_neg h2, if_neg h2]
  by_cases h3 : b = 116
  · rw [if_pos h3, if_pos h3]; dsimp only; omega
  · rw [if_neg h3, if_neg h3]; dsimp only; omega
theorem cnt_ok (l : List UInt8) (c : C3) (h : Good c) (he : 0 ≤ c.2.1) : Good (cnt l c) ∧ (cnt l c).2.1 = (facL l : Int) * c.2.1 ∧ 0 ≤ (cnt l c).2.1 := by
  induction l with
  | nil => exact ⟨h, by simp [cnt, facL], he⟩
  | cons b l ih =>
    obtain ⟨h1, h2, h3⟩ := ih
    obtain ⟨h4, h5⟩ := cstep_ok b (cnt l c) h1 h3
    have e1 : cnt (b :: l) c = cstep b (cnt l c) := rfl
    have e2 : facL (b :: l) = fac b * facL l := rfl
    rw [e1, e2]
    refine ⟨h4, ?_, ?_⟩
    · rw [h5, h2]; push_cast; rw [Int.mul_assoc]
    · rw [h5]; exact Int.mul_nonneg (Int.natCast_nonneg _) h3
theorem fac_pos (b : UInt8) : 1 ≤ fac b := by
  unfold fac
  repeat' split
  all_goals omega
theorem facL_pos (l : List UInt8) : 1 ≤ facL l := by
  induction l with
  | nil => exact Nat.le_refl _
  | cons b l ih => exact Nat.mul_pos (fac_pos b) ih
theorem facL_app (a b : List UInt8) : facL (a ++ b) = facL a * facL b := by
  induction a with
  | nil => simp [facL]
  | cons x a ih =>
    show fac x * facL (a ++ b) = fac x * facL a * facL b
    rw [ih, Nat.mul_assoc]
theorem facL_drop (l : List UInt8) (i : Nat) : facL (l.drop i) ≤ facL l := by
  conv => rhs; rw [← List.take_append_drop i l, facL_app]
  exact Nat.le_mul_of_pos_left _ (facL_pos _)
theorem facL_word (b : UInt8) : facL (wordOf b).reverse ≤ 6 := by
  unfold wordOf
  split
  · rename_i h
    rcases h with rfl | rfl | rfl | rfl <;> decide
  repeat' split
  all_goals decide
theorem facL_bas (o : List UInt8) : facL (o.flatMap fun b => (wordOf b).reverse) ≤ 6 ^ o.length := by
  induction o with
  | nil => exact Nat.le_refl _
  | cons b o ih =>
    rw [List.flatMap_cons, facL_app, List.length_cons, Nat.pow_succ, Nat.mul_comm]
    exact Nat.mul_le_mul ih (facL_word b)
def seedC (s : List UInt8) : C3 := let b := s.getD 0 0
  if b = 84 then (4, 6, 4) else if b = 67 then (8, 12, 6) else if b = 79 then (6, 12, 8) else if b = 68 then (20, 30, 12) else if b = 73 then (12, 30, 20) else if b = 72 then (2, numS s, numS s) else (numS s, numS s, 2)
theorem word_mem {b x : UInt8} (h : x ∈ wordOf b) : x = 100 ∨ x = 97 ∨ x = 116 ∨ x = 99 := by
  unfold wordOf at h
  split at h
  · rename_i hb
    rw [List.mem_singleton.1 h]
    exact hb
  repeat' split at h
  all_goals (simp only [List.mem_cons, List.not_mem_nil, or_false] at h)
  all_goals (first | (rcases h with rfl | rfl | rfl <;> decide) | (rcases h with rfl | rfl <;> decide) | exact h.elim)
end Go.Nt
set_option maxRecDepth 100000
namespace Go.Proofs.YtfcbamfkfadabaaGreatDoor
open Go.Gov Go.Nt
open Classical
variable (tp tq : TypeId) (p q : Value)

theorem bas_mem {o : List UInt8} {x : UInt8} (h : x ∈ basL o) : x = 100 ∨ x = 97 ∨ x = 116 ∨ x = 99 := by
  obtain ⟨b, _, h2⟩ := List.mem_flatMap.1 h
  exact word_mem (List.mem_reverse.1 h2)
theorem seed_kindC {s : List UInt8} (h : SeedOk s) : ∃ n : Int, ((s.getD 0 0).toNat : Int) = n ∧ opB (s.getD 0 0) = false ∧ ((s.length = 1 ∧ ((n = 84 ∧ seedC s = (4, 6, 4)) ∨ (n = 67 ∧ seedC s = (8, 12, 6)) ∨ (n = 79 ∧ seedC s = (6, 12, 8)) ∨ (n = 68 ∧ seedC s = (20, 30, 12)) ∨ (n = 73 ∧ seedC s = (12, 30, 20)))) ∨
    (2 ≤ s.length ∧ 2 ≤ numS s ∧ numS s ≤ 30 ∧ ((n = 72 ∧ seedC s = (2, numS s, numS s)) ∨ (n = 90 ∧ seedC s = (numS s, numS s, 2))))) := by
  obtain ⟨n, hn, hk⟩ := seed_kind h
  obtain ⟨b, hb⟩ : ∃ b, b = s.getD 0 0 := ⟨_, rfl⟩
  have hd : ∀ c : UInt8, ((b.toNat : Int) = (c.toNat : Int)) → b = c := fun c h => u8_eq h
  have hC : seedC s = if b = 84 then (4, 6, 4) else if b = 67 then (8, 12, 6) else if b = 79 then (6, 12, 8) else if b = 68 then (20, 30, 12) else if b = 73 then (12, 30, 20) else if b = 72 then (2, numS s, numS s) else (numS s, numS s, 2) := by
    rw [hb]; rfl
  rw [← hb] at hn ⊢
  refine ⟨n, hn, ?_⟩
  rcases hk with ⟨h1, hk⟩ | ⟨h1, hk⟩
  · rcases hk with ⟨rfl, _⟩ | ⟨rfl, _⟩ | ⟨rfl, _⟩ | ⟨rfl, _⟩ | ⟨rfl, _⟩
    · obtain rfl := hd 84 hn; exact ⟨by decide, .inl ⟨h1, .inl ⟨rfl, hC⟩⟩⟩
    · obtain rfl := hd 67 hn; exact ⟨by decide, .inl ⟨h1, .inr (.inl ⟨rfl, hC⟩)⟩⟩
    · obtain rfl := hd 79 hn; exact ⟨by decide, .inl ⟨h1, .inr (.inr (.inl ⟨rfl, hC⟩))⟩⟩
    · obtain rfl := hd 68 hn; exact ⟨by decide, .inl ⟨h1, .inr (.inr (.inr (.inl ⟨rfl, hC⟩)))⟩⟩
    · obtain rfl := hd 73 hn; exact ⟨by decide, .inl ⟨h1, .inr (.inr (.inr (.inr ⟨rfl, hC⟩)))⟩⟩
  · have hr : 2 ≤ numS s ∧ numS s ≤ 30 := by
      rcases (seedOk_n s).1 h with h2 | h2
      · omega
      · exact h2.2.2
    rcases hk with ⟨rfl, _⟩ | ⟨rfl, _⟩
    · obtain rfl := hd 72 hn; exact ⟨by decide, .inr ⟨h1, hr.1, hr.2, .inl ⟨rfl, hC⟩⟩⟩
    · obtain rfl := hd 90 hn; exact ⟨by decide, .inr ⟨h1, hr.1, hr.2, .inr ⟨rfl, hC⟩⟩⟩
theorem seedC_good {s : List UInt8} (h : SeedOk s) : Go.Nt.Good (seedC s) ∧ 0 ≤ (seedC s).2.1 ∧ (seedC s).2.1 ≤ 30 := by
  obtain ⟨n, _, _, hk⟩ := seed_kindC h
  unfold Go.Nt.Good
  rcases hk with ⟨_, hk⟩ | ⟨_, h1, h2, hk⟩
  · rcases hk with ⟨_, e⟩ | ⟨_, e⟩ | ⟨_, e⟩ | ⟨_, e⟩ | ⟨_, e⟩ <;> rw [e] <;> decide
  · rcases hk with ⟨_, e⟩ | ⟨_, e⟩ <;> rw [e] <;> dsimp only <;> omega
theorem cnt_b (o s : List UInt8) (ho : o.length ≤ 12) (h : SeedOk s) (j : Nat) : Go.Nt.Good (cnt ((basL o).drop j) (seedC s)) ∧ 0 ≤ (cnt ((basL o).drop j) (seedC s)).2.1 ∧ (cnt ((basL o).drop j) (seedC s)).2.1 ≤ 65303470080 := by
  obtain ⟨h1, h2, h3⟩ := seedC_good h
  obtain ⟨h4, h5, h6⟩ := cnt_ok ((basL o).drop j) (seedC s) h1 h2
  refine ⟨h4, h6, ?_⟩
  have e12 : (6 : Nat) ^ 12 = 2176782336 := by decide
  have h7 : facL ((basL o).drop j) ≤ 6 ^ 12 := Nat.le_trans (facL_drop _ _) (Nat.le_trans (facL_bas o) (Nat.pow_le_pow_right (by decide) ho))
  rw [e12] at h7
  have h8 : (facL ((basL o).drop j) : Int) ≤ 2176782336 := by omega
  rw [h5]
  have h9 := Int.mul_le_mul h8 h3 h2 (by decide)
  omega
theorem cnt_step (l : List UInt8) (c : C3) {j : Nat} (h0 : 0 < j) (h : j ≤ l.length) : cnt (l.drop (j - 1)) c = cstep (l.getD (j - 1) 0) (cnt (l.drop j) c) := by
  obtain ⟨i, rfl⟩ : ∃ i, j = i + 1 := ⟨j - 1, by omega⟩
  rw [Nat.add_sub_cancel, List.drop_eq_getElem_cons (by omega)]
  show cstep l[i] _ = _
  congr 1
  simp [List.getD_eq_getElem?_getD, show i < l.length by omega]
set_option maxHeartbeats 4000000 in
theorem seedCounts_p (o s : List UInt8) (h : SeedOk s) : Pure Tryz.prog 86 [.agg [sV o, sV s, i64 (if s.length = 1 then 0 else numS s)]] (.sl 0 1 0 3) [some [i64 (seedC s).1, i64 (seedC s).2.1, i64 (seedC s).2.2]] := by
  obtain ⟨n, hn, _, hk⟩ := seed_kindC h
  have hpos : 0 < s.length := by rcases hk with h | h <;> omega
  rcases hk with ⟨h1, hk⟩ | ⟨h1, h2, h3, hk⟩
  · rw [if_pos h1]
    rcases hk with ⟨rfl, e⟩ | ⟨rfl, e⟩ | ⟨rfl, e⟩ | ⟨rfl, e⟩ | ⟨rfl, e⟩
    all_goals
      rw [e]
      refine pureRV ok86 rfl ?_; unfold c86
      (refine RN ?_; try with_reducible exact trivial)
      try simp only [hn, go_sem, ↓reduceIte, Nat.reduceEqDiff, Nat.reduceAdd, reduceCtorEq]
      (iterate 16 ((try (refine RN ?_; try with_reducible exact trivial)); (try with_reducible refine fun _ => ?_)))
      exact Ref.gc [1] rfl (by simp only [go_sem, ↓reduceIte, Nat.reduceEqDiff, Nat.reduceAdd, reduceCtorEq]; try rfl) (by simp [sub, fget, go_sem, ↓reduceIte, Nat.reduceEqDiff, Nat.reduceAdd, reduceCtorEq])
  · rw [if_neg (by omega)]
    rcases hk with ⟨rfl, e⟩ | ⟨rfl, e⟩
    all_goals
      rw [e]
      refine pureRV ok86 rfl ?_; unfold c86
      (refine RN ?_; try with_reducible exact trivial)
      try simp only [hn, go_sem, ↓reduceIte, Nat.reduceEqDiff, Nat.reduceAdd, reduceCtorEq]
      (iterate 16 ((try (refine RN ?_; try with_reducible exact trivial)); (try with_reducible refine fun _ => ?_)))
      exact Ref.gc [1] rfl (by simp only [go_sem, ↓reduceIte, Nat.reduceEqDiff, Nat.reduceAdd, reduceCtorEq]; try rfl) (by simp [sub, fget, go_sem, ↓reduceIte, Nat.reduceEqDiff, Nat.reduceAdd, reduceCtorEq])
theorem lets (o : List UInt8) {j : Nat} (h0 : 0 < j) (h : j ≤ (basL o).length) : ∃ n : Int, (((basL o).getD (j - 1) 0).toNat : Int) = n ∧ ∀ c : C3, ((n = 100 ∧ cstep ((basL o).getD (j - 1) 0) c = (c.2.2, c.2.1, c.1)) ∨ (n = 97 ∧ cstep ((basL o).getD (j - 1) 0) c = (c.2.1, 2 * c.2.1, c.1 + c.2.2)) ∨ (n = 116 ∧ cstep ((basL o).getD (j - 1) 0) c = (2 * c.2.1, 3 * c.2.1, c.1 + c.2.2)) ∨ (n = 99 ∧ cstep ((basL o).getD (j - 1) 0) c = (c.1 + 2 * c.2.1, 4 * c.2.1, c.2.2 + c.2.1))) := by
  have hm := bas_mem (getD_mem8 (s := basL o) (i := j - 1) (by omega))
  generalize (basL o).getD (j - 1) 0 = b at hm ⊢
  refine ⟨_, rfl, fun c => ?_⟩
  rcases hm with rfl | rfl | rfl | rfl
  · exact .inl ⟨rfl, rfl⟩
  · exact .inr (.inl ⟨rfl, rfl⟩)
  · exact .inr (.inr (.inl ⟨rfl, rfl⟩))
  · exact .inr (.inr (.inr ⟨rfl, rfl⟩))
set_option maxHeartbeats 4000000 in
theorem counts_p (o s : List UInt8) (ho : o.length ≤ 12) (h : SeedOk s) : Pure Tryz.prog 40 [.agg [sV o, sV s, i64 (if s.length = 1 then 0 else numS s)]] (.sl 0 1 0 3) [some [i64 (cnt (basL o) (seedC s)).1, i64 (cnt (basL o) (seedC s)).2.1, i64 (cnt (basL o) (seedC s)).2.2]] := by
  have hsc := seedCounts_p o s h
  have hbc := basic_c o s (if s.length = 1 then 0 else numS s) ho
  have hbl := basL_len o
  have hcb := cnt_b o s ho h
  have hlet := fun j => lets o (j := j)
  have hcs := fun j => cnt_step (basL o) (seedC s) (j := j)
  obtain ⟨z, hz⟩ : ∃ z, z = (if s.length = 1 then 0 else numS s) := ⟨_, rfl⟩
  rw [← hz] at hsc hbc ⊢
  obtain ⟨B, hB⟩ : ∃ B, B = basL o := ⟨_, rfl⟩
  rw [← hB] at hbc hbl hcb hlet hcs ⊢
  have hd0 : cnt (B.drop B.length) (seedC s) = seedC s := by rw [List.drop_length]; rfl
  refine pureRV ok40 rfl ?_; unfold c40
  refine RN ?_
  refine pureC1 (hsc) ?_
  refine RN ?_
  refine pureC1 (hbc) ?_
  refine RN ?_
  refine V_loop (α := Nat) (S := fun j => ([(3, .sl 0 1 0 3), (4, sV B), (5, i64 ((j : Int) - 1))], [some [i64 (cnt (B.drop j) (seedC s)).1, i64 (cnt (B.drop j) (seedC s)).2.1, i64 (cnt (B.drop j) (seedC s)).2.2]])) (C := fun j => j ≤ B.length) (μ := fun j => j) B.length (Nat.le_refl _) ?_ ?_
  · rw [hd0]
    exact Ref.gc1 [1]
  intro j hj
  refine RN ?_
  refine ⟨fun hc => ?_, fun hc => ?_⟩
  · obtain ⟨n, hn, hl⟩ := hlet j (by omega) hj
    have hst := hcs j (by omega) hj
    obtain ⟨hb1, hb2, hb3⟩ := hcb j
    have hl2 := hl (cnt (B.drop j) (seedC s))
    unfold Go.Nt.Good at hb1
    obtain ⟨c, hc2⟩ : ∃ c, c = cnt (B.drop j) (seedC s) := ⟨_, rfl⟩
    rw [← hc2] at hst hb1 hb2 hb3 hl2 ⊢
    obtain ⟨v, e, f⟩ := c
    dsimp only at hst hb1 hb2 hb3 hl2 ⊢
    have e1 : ((j : Int) - 1).toNat = j - 1 := by omega
    have e3 : ((j - 1 : Nat) : Int) - 1 = (j : Int) - 1 - 1 := by omega
    clear hlet hcs hcb hl hc2
    (refine RN ?_; try with_reducible exact trivial)
    try simp only [e1, hn, go_sem, ↓reduceIte, Nat.reduceEqDiff, Nat.reduceAdd, reduceCtorEq]
    rcases hl2 with ⟨rfl, e2⟩ | ⟨rfl, e2⟩ | ⟨rfl, e2⟩ | ⟨rfl, e2⟩
    all_goals
      (iterate 16 ((try (refine RN ?_; try with_reducible exact trivial)); (try with_reducible refine fun _ => ?_)))
      refine ⟨j - 1, by omega, by omega, ?_⟩
      rw [hst, e2, e3]
      exact Ref.gc1 [1]
  · obtain rfl : j = 0 := by omega
    rw [List.drop_zero]
    refine RN ?_
    exact Ref.to1
end Go.Proofs.YtfcbamfkfadabaaGreatDoor
