/- Texts that belong together. -/
import Derived.Test.YtfcbamfkfadabaaGreatDoorZq
import Derived.Test.YtfcbamfkfadabaaGreatDoorR1
import Derived.Test.YtfcbamfkfadabaaGreatDoorR9
set_option linter.unusedSimpArgs false
set_option linter.unusedVariables false
set_option maxRecDepth 100000
namespace Go.Proofs.YtfcbamfkfadabaaGreatDoor
open Go.Gov Go.Ce
open Classical

noncomputable def bG (M : List (List Int)) (O : List Nat) (x : Nat) : Nat → List Nat
  | 0 => O
  | k + 1 => psN (bG M O x k) (mv M k x)
noncomputable def bF (M : List (List Int)) : Nat → List Nat → Nat → List Nat
  | 0, O, _ => O
  | k + 1, O, i => if i < O.length then bF M k (bG M O (O.getD i 0) M.length) (i + 1) else O
noncomputable def bfs (M : List (List Int)) (n f : Nat) : List Nat := bF M (n + 1) [f] 0
structure Mvr (n : Nat) (M : List (List Int)) : Prop where
  row : ∀ k, k < M.length → (M.getD k []).length = n
  val : ∀ k x, k < M.length → x < n → (M.getD k []).getD x 0 = (mv M k x : Nat)
  lt : ∀ k x, k < M.length → x < n → mv M k x < n
structure Bd (n : Nat) (O : List Nat) : Prop where
  nd : O.Nodup
  lt : ∀ d ∈ O, d < n
structure Bi (n : Nat) (M : List (List Int)) (f : Nat) (O : List Nat) (i : Nat) : Prop where
  bd : Bd n O
  zero : f ∈ O
  le : i ≤ O.length
  cl : ∀ j, j < i → ∀ k, k < M.length → mv M k (O.getD j 0) ∈ O
  res : bF M (n + 1 - i) O i = bfs M n f
end Go.Proofs.YtfcbamfkfadabaaGreatDoor
