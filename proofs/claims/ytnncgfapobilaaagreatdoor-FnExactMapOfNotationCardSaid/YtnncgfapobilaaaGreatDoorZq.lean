/- Texts that belong together. -/
import Derived.KernelRfl
import Derived.Test.YtnncgfapobilaaaGreatDoorZe
import Derived.Test.YtnncgfapobilaaaGreatDoorZf
import Derived.Test.YtnncgfapobilaaaGreatDoorZh
import Derived.Test.YtnncgfapobilaaaGreatDoorZj
set_option linter.unusedSimpArgs false
set_option linter.unusedVariables false
set_option maxRecDepth 100000
namespace Go.Proofs.YtnncgfapobilaaaGreatDoor
open Classical

def lexL : List Int → List Int → Bool
  | [], [] => false
  | [], _ :: _ => true
  | _ :: _, [] => false
  | x :: xs, y :: ys => if x < y then true else if y < x then false else lexL xs ys
theorem lexL_irr : ∀ a, lexL a a = false
  | [] => rfl
  | x :: xs => by simp [lexL, lexL_irr xs]
theorem lexL_trans : ∀ {a b c : List Int}, lexL a b = true → lexL b c = true → lexL a c = true
  | _, [], [], _, h => by cases h
  | [], [], _ :: _, h, _ => by cases h
  | [], _ :: _, [], _, h => by cases h
  | [], _ :: _, _ :: _, _, _ => rfl
  | _ :: _, [], _, h, _ => by cases h
  | _ :: _, _ :: _, [], _, h => by cases h
  | x :: xs, y :: ys, z :: zs, h, k => by
    unfold lexL at *
    have ih := @lexL_trans xs ys zs
    split at h <;> split at k <;> (try split at h) <;> (try split at k) <;> (try (cases h; done)) <;> (try (cases k; done)) <;> grind
def Lst (S : List Int → Prop) (b : List Int) : Prop := S b ∧ ∀ x, S x → lexL x b = false
theorem lex_low {x b c : List Int} (h : lexL x b = false) (hc : lexL c b = true) : lexL x c = false := by
  cases h2 : lexL x c with
  | false => rfl
  | true => rw [lexL_trans h2 hc] at h; cases h
theorem Lst.add {S : List Int → Prop} {b c : List Int} (h : Lst S b) : Lst (fun x => S x ∨ x = c) (if lexL c b = true then c else b) := by
  by_cases hc : lexL c b = true
  · rw [if_pos hc]
    refine ⟨.inr rfl, fun x hx => ?_⟩
    rcases hx with hx | rfl
    · exact lex_low (h.2 x hx) hc
    · exact lexL_irr _
  · rw [if_neg hc]
    refine ⟨.inl h.1, fun x hx => ?_⟩
    rcases hx with hx | rfl
    · exact h.2 x hx
    · simpa using hc
theorem Lst.same {S T : List Int → Prop} {b : List Int} (h : Lst S b) (hs : ∀ x, S x ↔ T x) : Lst T b := ⟨(hs b).1 h.1, fun x hx => h.2 x ((hs x).2 hx)⟩

end Go.Proofs.YtnncgfapobilaaaGreatDoor
set_option maxRecDepth 100000
namespace Go.Proofs.YtnncgfapobilaaaGreatDoor
open Go.Gov
open Classical

theorem clone_c (xs : List Int) (h0 : 0 < xs.length) (hl : xs.length ≤ 1099511627776) : Pure Tryz.prog 123 [ints xs] (.sl 0 1 0 xs.length) [some (intsC xs)] := by
  obtain ⟨r, R, rfl⟩ : ∃ r R, xs = r :: R := by cases xs with | nil => simp at h0 | cons r R => exact ⟨r, R, rfl⟩
  generalize hM : r :: R = M at *
  have hlen : M.length = R.length + 1 := by rw [← hM]; rfl
  refine pureVg [1] ok123 rfl ?_; unfold c123
  rw [show ints M = .slc 1 (R.length + 1) (intsC M) by rw [ints, hlen]]
  have hn : ∀ H, nilOf H (.slc 1 (R.length + 1) (intsC M)) = some false := fun _ => rfl
  refine RN ?_
  simp only [hn, Option.isSome_some, Option.getD_some, true_and]
  (refine RN ?_; try with_reducible exact trivial)
  (try simp only [hlen, go_sem, ↓reduceIte, Nat.reduceEqDiff, Nat.reduceAdd, reduceCtorEq])
end Go.Proofs.YtnncgfapobilaaaGreatDoor
set_option maxRecDepth 100000
namespace Go.Proofs.YtnncgfapobilaaaGreatDoor
open Go.Gov

end Go.Proofs.YtnncgfapobilaaaGreatDoor
