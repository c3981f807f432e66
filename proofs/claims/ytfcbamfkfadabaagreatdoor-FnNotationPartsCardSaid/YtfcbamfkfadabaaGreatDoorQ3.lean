/- Texts that belong together. -/
import Derived.Test.YtfcbamfkfadabaaGreatDoorZj
import Derived.Test.YtfcbamfkfadabaaGreatDoorTa
set_option linter.unusedSimpArgs false
set_option linter.unusedVariables false
set_option maxRecDepth 100000
namespace Go.Proofs.YtfcbamfkfadabaaGreatDoor
open Go.Gov Go.Nt
open Classical
variable (tp tq : TypeId) (p q : Value)

noncomputable def ctA (l : List UInt8) : List Int := if NtOk l then [(cnt (basL (ntO l)) (seedC (ntS l))).1, (cnt (basL (ntO l)) (seedC (ntS l))).2.1, (cnt (basL (ntO l)) (seedC (ntS l))).2.2] else []
theorem implCt_c (l : List UInt8) (hs : l.length ≤ 1048576) : PureG Tryz.prog (LV tp tq p q) 14 [sV l] (.tup [.sl 0 1 0 (ctA l).length, i64 (ntK l)]) [some (intsC (ctA l))] := by
  have h := parse_c tp tq p q l (by omega)
  have hsl := nt_slen l
  by_cases hk : NtOk l
  · have e1 : ctA l = [(cnt (basL (ntO l)) (seedC (ntS l))).1, (cnt (basL (ntO l)) (seedC (ntS l))).2.1, (cnt (basL (ntO l)) (seedC (ntS l))).2.2] := if_pos hk
    have e2 : ntK l = 0 := if_pos hk
    have hd := counts_p (ntO l) (ntS l) hk.1 hk.2
    rw [e1, e2]
    refine pureGV ok14 rfl ?_; unfold c14
    refine RN ?_
    refine pureGEC1 (h) fun o ho => ?_
    obtain ⟨⟨a, b, c⟩, d⟩ := o
    obtain ⟨ho1, ho2⟩ := ho
    dsimp only at ho1 ho2
    subst ho1
    obtain ⟨rfl, rfl, rfl⟩ : a = ntO l ∧ b = ntS l ∧ c = (if (ntS l).length = 1 then 0 else numS (ntS l)) := by have := ho2 hk; simpa using this
    rw [decide_eq_true hk]
    clear ho2 h
    generalize (if (ntS l).length = 1 then 0 else numS (ntS l)) = z at hd ⊢
    generalize cnt (basL (ntO l)) (seedC (ntS l)) = c at hd ⊢
    refine RN ?_
    refine pureC1 (hd) ?_
    refine RN ?_
    exact Ref.gc [2] rfl (by simp only [go_sem, ↓reduceIte, Nat.reduceEqDiff, Nat.reduceAdd, reduceCtorEq]; rfl) (by simp [sub, fget, go_sem, ↓reduceIte, Nat.reduceEqDiff, Nat.reduceAdd, reduceCtorEq])
  · have e1 : ctA l = [] := if_neg hk
    have e2 : ntK l = 6 := if_neg hk
    rw [e1, e2]
    refine pureG_nil 1 ?_
    refine pureGV ok14 rfl ?_; unfold c14
    refine RN ?_
    refine pureGEC1 (h) fun o ho => ?_
    obtain ⟨⟨a, b, c⟩, d⟩ := o
    obtain ⟨ho1, ho2⟩ := ho
    dsimp only at ho1 ho2
    subst ho1
    rw [decide_eq_false hk]
    refine RN ?_
    exact Ref.gc1 []
end Go.Proofs.YtfcbamfkfadabaaGreatDoor
