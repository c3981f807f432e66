/- Texts that belong together. -/
import Derived.Test.YtfcbamfkfadabaaGreatDoorZm
import Derived.Test.YtfcbamfkfadabaaGreatDoorZn
set_option linter.unusedSimpArgs false
set_option linter.unusedVariables false
set_option maxRecDepth 100000
namespace Go.Proofs.YtfcbamfkfadabaaGreatDoor
open Classical

structure Rt (n : Nat) (L : List (List Int)) (A C : Nat → Nat) (col : Nat → Int) : Prop where
  hL : MvOk n L
  mv : ∀ p ∈ L, (∀ x, x < n → (p.getD x 0).toNat = A x) ∨ ∀ x, x < n → (p.getD x 0).toNat = C x
  mA : ∃ p ∈ L, ∀ x, x < n → (p.getD x 0).toNat = A x
  mC : ∃ p ∈ L, ∀ x, x < n → (p.getD x 0).toNat = C x
  la : ∀ x, x < n → A x < n
  lc : ∀ x, x < n → C x < n
  aa : ∀ x, x < n → A (A x) = x
  cc : ∀ x, x < n → C (C x) = x
  ne : ∀ x, x < n → A x ≠ C x
  com : ∀ x, x < n → C (A x) = A (C x)
  vals : ∀ x, x < n → col x = 0 ∨ col x = 1
  ca : ∀ x, x < n → col (A x) ≠ col x
  cC : ∀ x, x < n → col (C x) ≠ col x

section
variable {n : Nat} {L : List (List Int)} {A C : Nat → Nat} {col : Nat → Int} (h : Rt n L A C col)
include h

theorem Rt.orb {x y : Nat} (hx : x < n) (k : Rch L x y) : y = x ∨ y = A x ∨ y = C x ∨ y = C (A x) := by
  induction k with
  | refl => exact .inl rfl
  | step hy hp ih =>
    rename_i y p
    have hlt := hy.lt h.hL hx
    have h1 := h.la x hx
    have h2 := h.lc x hx
    rcases h.mv p hp with hm | hm
    · rw [hm y hlt]
      rcases ih with rfl | rfl | rfl | rfl
      · exact .inr (.inl rfl)
      · exact .inl (h.aa _ hx)
      · rw [← h.com x hx]; exact .inr (.inr (.inr rfl))
      · rw [← h.com _ h1, h.aa x hx]; exact .inr (.inr (.inl rfl))
    · rw [hm y hlt]
      rcases ih with rfl | rfl | rfl | rfl
      · exact .inr (.inr (.inl rfl))
      · exact .inr (.inr (.inr rfl))
      · exact .inl (h.cc _ hx)
      · rw [h.cc _ h1]; exact .inr (.inl rfl)
theorem Rt.same {x y : Nat} (hx : x < n) (k : Rch L x y) (hc : col y = col x) : y = x ∨ y = C (A x) := by
  rcases h.orb hx k with e | e | e | e
  · exact .inl e
  · exact absurd (e ▸ hc) (h.ca x hx)
  · exact absurd (e ▸ hc) (h.cC x hx)
  · exact .inr e
end

noncomputable def sn (L : List (List Int)) (col : Nat → Int) (k e : Nat) : Nat := (List.range k).countP fun x => decide (col x = 0 ∧ lab L x = e)
end Go.Proofs.YtfcbamfkfadabaaGreatDoor
set_option maxRecDepth 100000
namespace Go.Proofs.YtfcbamfkfadabaaGreatDoor
open Go.Gov
open Classical

theorem rmap_set {α : Type} {m i : Nat} {F G : Nat → α} {v : α} (hi : G i = v) (hne : ∀ j, j < m → j ≠ i → G j = F j) : ((List.range m).map F).set i v = (List.range m).map G := by
  refine List.ext_getElem (by simp) fun j h1 h2 => ?_
  by_cases e : i = j
  · subst e
    simp [hi]
  · rw [List.getElem_set_ne e]
    simp only [List.length_map, List.length_range] at h2
    simp [hne j h2 (fun h => e h.symm)]
theorem rmap_at {m i : Nat} {F : Nat → Int} (h : i < m) : ((List.range m).map F).getD i 0 = F i := by simp [h]
section
variable {M : List (List Int)} (h : IsMap M) (hE : BipE (fl M) M)
include h hE
end

end Go.Proofs.YtfcbamfkfadabaaGreatDoor
