/- Texts that belong together. -/
import Derived.Test.YtfcbamfkfadabaaGreatDoorT4
set_option linter.unusedSimpArgs false
set_option linter.unusedVariables false
set_option maxRecDepth 100000
namespace Go.Proofs.YtfcbamfkfadabaaGreatDoor
open Go.Gov Go.Nt
open Classical
variable (tp tq : TypeId) (p q : Value)
theorem seed_kind {s : List UInt8} (h : SeedOk s) : ∃ n : Int, ((s.getD 0 0).toNat : Int) = n ∧ ((s.length = 1 ∧ ((n = 84 ∧ diaL s = [3, 3]) ∨ (n = 67 ∧ diaL s = [4, 3]) ∨ (n = 79 ∧ diaL s = [3, 4]) ∨ (n = 68 ∧ diaL s = [5, 3]) ∨ (n = 73 ∧ diaL s = [3, 5]))) ∨
    (2 ≤ s.length ∧ ((n = 72 ∧ diaL s = [2, numS s]) ∨ (n = 90 ∧ diaL s = [numS s, 2])))) := by
 refine ⟨_, rfl, ?_⟩
 obtain ⟨b, hb⟩ : ∃ b, b = s.getD 0 0 := ⟨_, rfl⟩
 have hd : ∀ c : UInt8, ((b.toNat : Int) = (c.toNat : Int)) → b = c := fun c h => u8_eq h
 rcases (seedOk_n s).1 h with ⟨h1, h2⟩ | ⟨h1, h2, h3, h4⟩
 ·rw [← hb] at h2 ⊢
  refine .inl ⟨h1, ?_⟩
  unfold diaL
  rw [← hb]
  rcases h2 with h2 | h2 | h2 | h2 | h2
  ·obtain rfl := hd 84 h2; exact .inl ⟨rfl, rfl⟩
  ·obtain rfl := hd 67 h2; exact .inr (.inl ⟨rfl, rfl⟩)
  ·obtain rfl := hd 79 h2; exact .inr (.inr (.inl ⟨rfl, rfl⟩))
  ·obtain rfl := hd 68 h2; exact .inr (.inr (.inr (.inl ⟨rfl, rfl⟩)))
  ·obtain rfl := hd 73 h2; exact .inr (.inr (.inr (.inr ⟨rfl, rfl⟩)))
 ·have h5 : 2 ≤ s.length := by
    rcases Nat.lt_or_ge s.length 2 with h6 | h6
    ·have h8 : s.drop 1 = [] := List.drop_eq_nil_iff.2 (by omega)
     unfold numS at h3
     rw [h8] at h3
     have : valS [] = -1 := rfl
     omega
    ·exact h6
  rw [← hb] at h2 ⊢
  refine .inr ⟨h5, ?_⟩
  unfold diaL
  rw [← hb]
  rcases h2 with h2 | h2
  ·obtain rfl := hd 72 h2; exact .inl ⟨rfl, rfl⟩
  ·obtain rfl := hd 90 h2; exact .inr ⟨rfl, rfl⟩
set_option maxHeartbeats 2000000 in
theorem l15Diagram_p (s : List UInt8) (h : SeedOk s) (hs : s.length ≤ 1099511627776) : Pure Tryz.prog 77 [sV s] (.sl 0 1 0 (diaL s).length) [some (intsC (diaL s))] := by
 obtain ⟨n, hn, hk⟩ := seed_kind h
 have hv := l01Value_c (s.drop 1) (by rw [List.length_drop]; omega)
 rw [show valS (s.drop 1) = numS s from rfl] at hv
 have hsd : (s.take s.length).drop 1 = s.drop 1 := by rw [List.take_length]
 have hpos : 0 < s.length := by rcases hk with h | h <;> omega
 rcases hk with ⟨_, hk⟩ | ⟨_, hk⟩
 ·rcases hk with ⟨rfl, e⟩ | ⟨rfl, e⟩ | ⟨rfl, e⟩ | ⟨rfl, e⟩ | ⟨rfl, e⟩
  all_goals
   rw [e]
   refine pureRV ok77 rfl ?_; unfold c77
   (refine RN ?_; try with_reducible exact trivial)
   try simp only [hn, go_sem, ↓reduceIte, Nat.reduceEqDiff, Nat.reduceAdd, reduceCtorEq]
   (iterate 16 ((try (refine RN ?_; try with_reducible exact trivial)); (try with_reducible refine fun _ => ?_)))
   exact Ref.to rfl (by simp [sub, fget, intsC])
 ·rcases hk with ⟨rfl, e⟩ | ⟨rfl, e⟩
  all_goals
   rw [e]
   refine pureRV ok77 rfl ?_; unfold c77
   (refine RN ?_; try with_reducible exact trivial)
   try simp only [hn, go_sem, ↓reduceIte, Nat.reduceEqDiff, Nat.reduceAdd, reduceCtorEq]
   (iterate 16 ((try (refine RN ?_; try with_reducible exact trivial)); (try with_reducible refine fun _ => ?_)))
   try simp only [hsd, go_sem, ↓reduceIte, Nat.reduceEqDiff, Nat.reduceAdd, reduceCtorEq]
   refine pureC1 (hv) ?_
   (iterate 16 ((try (refine RN ?_; try with_reducible exact trivial)); (try with_reducible refine fun _ => ?_)))
   exact Ref.to rfl (by simp [sub, fget, intsC])
set_option maxHeartbeats 2000000 in
theorem diagram_p (s : List UInt8) (o : List UInt8) (h : SeedOk s) (hs : s.length ≤ 1099511627776) : Pure Tryz.prog 68 [.agg [sV o, sV s, i64 (if s.length = 1 then 0 else numS s)]] (.sl 0 1 0 (diaL s).length) [some (intsC (diaL s))] := by
 obtain ⟨n, hn, hk⟩ := seed_kind h
 have hpos : 0 < s.length := by rcases hk with h | h <;> omega
 rcases hk with ⟨h1, hk⟩ | ⟨h1, hk⟩
 ·rw [if_pos h1]
  rcases hk with ⟨rfl, e⟩ | ⟨rfl, e⟩ | ⟨rfl, e⟩ | ⟨rfl, e⟩ | ⟨rfl, e⟩
  all_goals
   rw [e]
   refine pureRV ok68 rfl ?_; unfold c68
   (refine RN ?_; try with_reducible exact trivial)
   try simp only [hn, go_sem, ↓reduceIte, Nat.reduceEqDiff, Nat.reduceAdd, reduceCtorEq]
   (iterate 16 ((try (refine RN ?_; try with_reducible exact trivial)); (try with_reducible refine fun _ => ?_)))
   exact Ref.gc [1] rfl (by simp only [go_sem, ↓reduceIte, Nat.reduceEqDiff, Nat.reduceAdd, reduceCtorEq]; rfl) (by simp [sub, fget, go_sem, ↓reduceIte, Nat.reduceEqDiff, Nat.reduceAdd, reduceCtorEq])
 ·rw [if_neg (by omega)]
  rcases hk with ⟨rfl, e⟩ | ⟨rfl, e⟩
  all_goals
   rw [e]
   refine pureRV ok68 rfl ?_; unfold c68
   (refine RN ?_; try with_reducible exact trivial)
   try simp only [hn, go_sem, ↓reduceIte, Nat.reduceEqDiff, Nat.reduceAdd, reduceCtorEq]
   (iterate 16 ((try (refine RN ?_; try with_reducible exact trivial)); (try with_reducible refine fun _ => ?_)))
   exact Ref.gc [1] rfl (by simp only [go_sem, ↓reduceIte, Nat.reduceEqDiff, Nat.reduceAdd, reduceCtorEq]; rfl) (by simp [sub, fget, go_sem, ↓reduceIte, Nat.reduceEqDiff, Nat.reduceAdd, reduceCtorEq])
end Go.Proofs.YtfcbamfkfadabaaGreatDoor
