/- Texts that belong together. -/
import Derived.Test.YtghhlcioabdpfaaDoorZj
set_option linter.unusedSimpArgs false
set_option linter.unusedVariables false
set_option maxRecDepth 100000
namespace Go.Proofs.YtghhlcioabdpfaaDoor
open Go.Gov

def altN (xs : List Int) : Nat → Int
  | 0 => 0
  | i + 1 => if i % 2 = 0 then altN xs i + xs.getD i 0 else altN xs i - xs.getD i 0
theorem altN_bound {xs : List Int} (hb : ∀ i, 0 ≤ xs.getD i 0 ∧ xs.getD i 0 ≤ 1048576) : ∀ i : Nat, -(1048576 * i : Int) ≤ altN xs i ∧ altN xs i ≤ 1048576 * i
  | 0 => by simp [altN]
  | i + 1 => by
    have := altN_bound hb i
    have := hb i
    simp only [altN]
    split <;> omega

end Go.Proofs.YtghhlcioabdpfaaDoor
