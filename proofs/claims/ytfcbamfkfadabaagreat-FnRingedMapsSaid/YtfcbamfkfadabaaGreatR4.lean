/- Texts that belong together. -/
import Derived.Test.YtfcbamfkfadabaaGreatZj
import Derived.Test.YtfcbamfkfadabaaGreatZm
import Derived.Test.YtfcbamfkfadabaaGreatZy
import Derived.Test.YtfcbamfkfadabaaGreatR2
set_option linter.unusedSimpArgs false
set_option linter.unusedVariables false
set_option maxRecDepth 100000
namespace Go.Proofs.YtfcbamfkfadabaaGreat
open Go.Gov Go.Ce
open Classical

def pwr (w : List Int) (k : Nat) : List Int := (List.replicate k w).flatten
theorem pwr_len (w : List Int) (k : Nat) : (pwr w k).length = k * w.length := by simp [pwr]
theorem pwr_mem {w : List Int} {k : Nat} {x : Int} (h : x ∈ pwr w k) : x ∈ w := by
  unfold pwr at h
  obtain ⟨y, hy, hx⟩ := List.mem_flatten.1 h
  rw [(List.mem_replicate.1 hy).2] at hx
  exact hx
def rls2 (a b : Nat) : List (List Int) := [pwr [0, 1] a, pwr [0, 2] 2, pwr [1, 2] b]
theorem rls2_len (a b n : Nat) (h : n ≤ 3) : ((rls2 a b).take n).length = n := by simp [rls2]; omega
theorem rls2_rows (a b : Nat) (ha : a ≤ 32) (hb : b ≤ 32) : ∀ k, k < 3 → Let 3 ((rls2 a b).getD k []) ∧ ((rls2 a b).getD k []).length ≤ 64 ∧ (2 ≤ a → 2 ≤ b → 1 ≤ ((rls2 a b).getD k []).length) := fun k hk => by
  have hl : ∀ (w : List Int) (n : Nat), (∀ x ∈ w, 0 ≤ x ∧ x < 3) → Let 3 (pwr w n) := fun w n h j hj => by
    have : (pwr w n).getD j 0 ∈ pwr w n := by
      rw [List.getD_eq_getElem?_getD, List.getElem?_eq_getElem hj]
      exact List.getElem_mem hj
    exact h _ (pwr_mem this)
  match k, hk with
  | 0, _ => exact ⟨hl _ _ (by simp), by simp [rls2, pwr_len]; omega, fun h1 h2 => by simp [rls2, pwr_len]; omega⟩
  | 1, _ => exact ⟨hl _ _ (by simp), by simp [rls2, pwr_len], fun h1 h2 => by simp [rls2, pwr_len]⟩
  | 2, _ => exact ⟨hl _ _ (by simp), by simp [rls2, pwr_len]; omega, fun h1 h2 => by simp [rls2, pwr_len]; omega⟩
end Go.Proofs.YtfcbamfkfadabaaGreat
set_option maxRecDepth 100000
namespace Go.Proofs.YtfcbamfkfadabaaGreat
open Go.Gov Go.Ce
open Classical

def SmOk (G : Nat) (M : List (List Int)) : Prop := (enum G M).bad = false ∧ (ord G (enum G M)).length ≤ 400
end Go.Proofs.YtfcbamfkfadabaaGreat
set_option maxRecDepth 100000
namespace Go.Proofs.YtfcbamfkfadabaaGreat
open Go.Gov Go.Ce
open Classical

noncomputable def uniT (a b : Nat) : List (List Int) := tbl 3 (enum 3 (rls2 a b))
noncomputable def uniC (a b : Nat) : Int := if SmOk 3 (rls2 a b) then (if IsMan (uniT a b) then 0 else 5) else 3
end Go.Proofs.YtfcbamfkfadabaaGreat
