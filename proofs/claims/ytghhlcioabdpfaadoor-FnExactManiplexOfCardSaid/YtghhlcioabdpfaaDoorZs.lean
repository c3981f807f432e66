/- Texts that belong together. -/
import Derived.Test.YtghhlcioabdpfaaDoorZf
import Derived.Test.YtghhlcioabdpfaaDoorZj
import Derived.Test.YtghhlcioabdpfaaDoorZq
import Derived.Test.YtghhlcioabdpfaaDoorZr
set_option linter.unusedSimpArgs false
set_option linter.unusedVariables false
set_option maxRecDepth 100000
namespace Go.Proofs.YtghhlcioabdpfaaDoor
open Go.Gov

end Go.Proofs.YtghhlcioabdpfaaDoor
set_option maxRecDepth 100000
namespace Go.Proofs.YtghhlcioabdpfaaDoor
open Go.Gov
open Classical

def Ch1 (R : List Int) (i : Int) (c : List Int) (k : Nat) : Prop := 0 ≤ c.getD k 0 ∧ c.getD k 0 ≤ (R.length : Int) - 1 ∧ R.getD (c.getD k 0).toNat 0 = i ∧ (0 < k → c.getD (k - 1) 0 < c.getD k 0)
def ChOk (R : List Int) (i : Int) (c : List Int) : Prop := ∀ k, k < c.length → Ch1 R i c k

end Go.Proofs.YtghhlcioabdpfaaDoor
set_option maxRecDepth 100000
namespace Go.Proofs.YtghhlcioabdpfaaDoor
open Go.Gov
open Classical

def RowsOk (R : List Int) (B : List (List Int)) : Prop := ∀ x, x < B.length → ∀ k, k < (B.getD x []).length → 0 ≤ (B.getD x []).getD k 0 ∧ (B.getD x []).getD k 0 ≤ (R.length : Int) - 1
theorem IsPos.rows {r : Int} {R : List Int} {B : List (List Int)} (h : IsPos r R B) : RowsOk R B ∧ ∀ x, sst (B.getD x []) := by
  obtain ⟨⟨a1, a2, a3, a4⟩, a5⟩ := h
  refine ⟨fun x hx k hk => ?_, fun x => sst_of_lt fun j hj => ?_⟩
  · obtain ⟨b1, b2, b3, b4⟩ := ((a5 x (by omega)).2 k hk).1
    omega
  · by_cases hx : x < B.length
    · have := (((a5 x (by omega)).2 (j + 1) hj).1).2.2.2 (by omega)
      simpa using this
    · simp [hx] at hj
end Go.Proofs.YtghhlcioabdpfaaDoor
set_option maxRecDepth 100000
namespace Go.Proofs.YtghhlcioabdpfaaDoor
open Go.Gov
open Classical

theorem ChOk.sst {R : List Int} {i : Int} {c : List Int} (h : ChOk R i c) : sst c := sst_of_lt fun j hj => by
  have := (h (j + 1) hj).2.2.2 (by omega)
  simpa using this
theorem ChOk.len {R : List Int} {i : Int} {c : List Int} (h : ChOk R i c) : c.length ≤ R.length := by
  have hk : ∀ k, k < c.length → (k : Int) ≤ c.getD k 0 := by
    intro k
    induction k with
    | zero => intro hk; exact (h 0 hk).1
    | succ k ih =>
      intro hk
      have h1 := ih (by omega)
      have h2 := (h (k + 1) hk).2.2.2 (by omega)
      simp only [Nat.add_sub_cancel] at h2
      omega
  rcases Nat.eq_zero_or_pos c.length with h0 | h0
  · omega
  · have h1 := hk (c.length - 1) (by omega)
    have h2 := (h (c.length - 1) (by omega)).2.1
    omega
theorem ChOk.in {R : List Int} {i : Int} {c : List Int} (h : ChOk R i c) : ∀ k, k < c.length → 0 ≤ c.getD k 0 ∧ c.getD k 0 ≤ (R.length : Int) - 1 := fun k hk => ⟨(h k hk).1, (h k hk).2.1⟩

section
variable (r : Int) (R : List Int) (B : List (List Int)) (i : Int) (c : List Int)

end
end Go.Proofs.YtghhlcioabdpfaaDoor
