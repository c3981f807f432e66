/- Texts that belong together. -/
import Derived.Test.YtfcbamfkfadabaaGreatDoorT4
set_option linter.unusedSimpArgs false
set_option linter.unusedVariables false
set_option maxRecDepth 100000
namespace Go.Proofs.YtfcbamfkfadabaaGreatDoor
open Go.Gov Go.Nt
open Classical
variable (tp tq : TypeId) (p q : Value)

theorem seed_ge (l : List UInt8) : (0 ≤ (if NtOk l then ((ntO l).length : Int) else -1)) ↔ NtOk l := by
  split
  · rename_i h; exact ⟨fun _ => h, fun _ => by omega⟩
  · rename_i h; exact ⟨fun h2 => by omega, fun h2 => absurd h2 h⟩
theorem specIn_c (l : List UInt8) (hs : l.length ≤ 1099511627776) : Pure Tryz.prog 13 [sV l] (bl (decide (NtOk l))) [] := by
  have h := l15Seed_c l hs
  have hg := seed_ge l
  generalize (if NtOk l then ((ntO l).length : Int) else -1) = n at h hg
  refine pureV0 ok13 rfl rfl ?_; unfold c13
  refine RN ?_
  refine pureC1 (h) ?_
  refine RN ?_
  exact congrArg bl (decide_eq_decide.2 hg)
noncomputable def opA (l : List UInt8) : List UInt8 := if NtOk l then ntO l else []
noncomputable def ntK (l : List UInt8) : Int := if NtOk l then 0 else 6
theorem implOp_c (l : List UInt8) (hs : l.length ≤ 1099511627776) : PureG Tryz.prog (LV tp tq p q) 30 [sV l] (.tup [sV (opA l), i64 (ntK l)]) [] := by
  have h := parse_c tp tq p q l hs
  refine pureGV ok30 rfl ?_; unfold c30
  refine RN ?_
  refine pureGEC1 (h) fun o ho => ?_
  obtain ⟨⟨a, b, c⟩, d⟩ := o
  obtain ⟨ho1, ho2⟩ := ho
  dsimp only at ho1 ho2
  subst ho1
  by_cases hk : NtOk l
  · obtain ⟨rfl, rfl, rfl⟩ : a = ntO l ∧ b = ntS l ∧ c = _ := by have := ho2 hk; simpa using this
    have e1 : opA l = ntO l := if_pos hk
    have e2 : ntK l = 0 := if_pos hk
    rw [decide_eq_true hk, e1, e2]
    refine RN ?_
    exact Ref.gc1 []
  · have e1 : opA l = [] := if_neg hk
    have e2 : ntK l = 6 := if_neg hk
    rw [decide_eq_false hk, e1, e2]
    refine RN ?_
    exact Ref.gc1 []
theorem seed_kind {s : List UInt8} (h : SeedOk s) : ∃ n : Int, ((s.getD 0 0).toNat : Int) = n ∧ ((s.length = 1 ∧ ((n = 84 ∧ diaL s = [3, 3]) ∨ (n = 67 ∧ diaL s = [4, 3]) ∨ (n = 79 ∧ diaL s = [3, 4]) ∨ (n = 68 ∧ diaL s = [5, 3]) ∨ (n = 73 ∧ diaL s = [3, 5]))) ∨
    (2 ≤ s.length ∧ ((n = 72 ∧ diaL s = [2, numS s]) ∨ (n = 90 ∧ diaL s = [numS s, 2])))) := by
  refine ⟨_, rfl, ?_⟩
  obtain ⟨b, hb⟩ : ∃ b, b = s.getD 0 0 := ⟨_, rfl⟩
  have hd : ∀ c : UInt8, ((b.toNat : Int) = (c.toNat : Int)) → b = c := fun c h => u8_eq h
  rcases (seedOk_n s).1 h with ⟨h1, h2⟩ | ⟨h1, h2, h3, h4⟩
  · rw [← hb] at h2 ⊢
    refine .inl ⟨h1, ?_⟩
    unfold diaL
    rw [← hb]
    rcases h2 with h2 | h2 | h2 | h2 | h2
    · obtain rfl := hd 84 h2; exact .inl ⟨rfl, rfl⟩
    · obtain rfl := hd 67 h2; exact .inr (.inl ⟨rfl, rfl⟩)
    · obtain rfl := hd 79 h2; exact .inr (.inr (.inl ⟨rfl, rfl⟩))
    · obtain rfl := hd 68 h2; exact .inr (.inr (.inr (.inl ⟨rfl, rfl⟩)))
    · obtain rfl := hd 73 h2; exact .inr (.inr (.inr (.inr ⟨rfl, rfl⟩)))
  · have h5 : 2 ≤ s.length := by
      rcases Nat.lt_or_ge s.length 2 with h6 | h6
      · have h8 : s.drop 1 = [] := List.drop_eq_nil_iff.2 (by omega)
        unfold numS at h3
        rw [h8] at h3
        have : valS [] = -1 := rfl
        omega
      · exact h6
    rw [← hb] at h2 ⊢
    refine .inr ⟨h5, ?_⟩
    unfold diaL
    rw [← hb]
    rcases h2 with h2 | h2
    · obtain rfl := hd 72 h2; exact .inl ⟨rfl, rfl⟩
    · obtain rfl := hd 90 h2; exact .inr ⟨rfl, rfl⟩
set_option maxHeartbeats 2000000 in
theorem diagram_p (s : List UInt8) (o : List UInt8) (h : SeedOk s) (hs : s.length ≤ 1099511627776) : Pure Tryz.prog 68 [.agg [sV o, sV s, i64 (if s.length = 1 then 0 else numS s)]] (.sl 0 1 0 (diaL s).length) [some (intsC (diaL s))] := by
  obtain ⟨n, hn, hk⟩ := seed_kind h
  have hpos : 0 < s.length := by rcases hk with h | h <;> omega
  rcases hk with ⟨h1, hk⟩ | ⟨h1, hk⟩
  · rw [if_pos h1]
    rcases hk with ⟨rfl, e⟩ | ⟨rfl, e⟩ | ⟨rfl, e⟩ | ⟨rfl, e⟩ | ⟨rfl, e⟩
    all_goals
      rw [e]
      refine pureRV ok68 rfl ?_; unfold c68
      (refine RN ?_; try with_reducible exact trivial)
      try simp only [hn, go_sem, ↓reduceIte, Nat.reduceEqDiff, Nat.reduceAdd, reduceCtorEq]
      (iterate 16 ((try (refine RN ?_; try with_reducible exact trivial)); (try with_reducible refine fun _ => ?_)))
      exact Ref.gc [1] rfl (by simp only [go_sem, ↓reduceIte, Nat.reduceEqDiff, Nat.reduceAdd, reduceCtorEq]; rfl) (by simp [sub, fget, go_sem, ↓reduceIte, Nat.reduceEqDiff, Nat.reduceAdd, reduceCtorEq])
  · rw [if_neg (by omega)]
    rcases hk with ⟨rfl, e⟩ | ⟨rfl, e⟩
    all_goals
      rw [e]
      refine pureRV ok68 rfl ?_; unfold c68
      (refine RN ?_; try with_reducible exact trivial)
      try simp only [hn, go_sem, ↓reduceIte, Nat.reduceEqDiff, Nat.reduceAdd, reduceCtorEq]
      (iterate 16 ((try (refine RN ?_; try with_reducible exact trivial)); (try with_reducible refine fun _ => ?_)))
      exact Ref.gc [1] rfl (by simp only [go_sem, ↓reduceIte, Nat.reduceEqDiff, Nat.reduceAdd, reduceCtorEq]; rfl) (by simp [sub, fget, go_sem, ↓reduceIte, Nat.reduceEqDiff, Nat.reduceAdd, reduceCtorEq])
noncomputable def dgA (l : List UInt8) : List Int := if NtOk l then diaL (ntS l) else []
theorem implSd_c (l : List UInt8) (hs : l.length ≤ 1099511627776) : PureG Tryz.prog (LV tp tq p q) 31 [sV l] (.tup [.sl 0 1 0 (dgA l).length, i64 (ntK l)]) [some (intsC (dgA l))] := by
  have h := parse_c tp tq p q l hs
  have hsl := nt_slen l
  by_cases hk : NtOk l
  · have e1 : dgA l = diaL (ntS l) := if_pos hk
    have e2 : ntK l = 0 := if_pos hk
    have hd := diagram_p (ntS l) (ntO l) hk.2 (by omega)
    rw [e1, e2]
    refine pureGV ok31 rfl ?_; unfold c31
    refine RN ?_
    refine pureGEC1 (h) fun o ho => ?_
    obtain ⟨⟨a, b, c⟩, d⟩ := o
    obtain ⟨ho1, ho2⟩ := ho
    dsimp only at ho1 ho2
    subst ho1
    obtain ⟨rfl, rfl, rfl⟩ : a = ntO l ∧ b = ntS l ∧ c = (if (ntS l).length = 1 then 0 else numS (ntS l)) := by have := ho2 hk; simpa using this
    rw [decide_eq_true hk]
    clear ho2 h
    generalize (if (ntS l).length = 1 then 0 else numS (ntS l)) = z at hd ⊢
    generalize diaL (ntS l) = D at hd ⊢
    refine RN ?_
    refine pureC1 (hd) ?_
    refine RN ?_
    exact Ref.gc1 [2]
  · have e1 : dgA l = [] := if_neg hk
    have e2 : ntK l = 6 := if_neg hk
    rw [e1, e2]
    refine pureG_nil 1 ?_
    refine pureGV ok31 rfl ?_; unfold c31
    refine RN ?_
    refine pureGEC1 (h) fun o ho => ?_
    obtain ⟨⟨a, b, c⟩, d⟩ := o
    obtain ⟨ho1, ho2⟩ := ho
    dsimp only at ho1 ho2
    subst ho1
    rw [decide_eq_false hk]
    refine RN ?_
    exact Ref.gc1 []
end Go.Proofs.YtfcbamfkfadabaaGreatDoor
