/- Texts that belong together. -/
import Derived.Test.YtfcbamfkfadabaaGreatDoorZh
import Derived.Test.YtfcbamfkfadabaaGreatDoorZj
import Derived.Test.YtfcbamfkfadabaaGreatDoorZl
set_option linter.unusedSimpArgs false
set_option linter.unusedVariables false
set_option maxRecDepth 100000
namespace Go.Proofs.YtfcbamfkfadabaaGreatDoor
open Go.Gov
open Classical

def RowOk (n : Nat) (p : List Int) : Prop := p.length = n ∧ IsPrm p ∧ IsFre p
def Com (a b : List Int) (f : Nat) : Prop := a.getD f 0 ≠ b.getD f 0 ∧ b.getD (a.getD f 0).toNat 0 = a.getD (b.getD f 0).toNat 0
abbrev fl (M : List (List Int)) : Nat := (M.getD 0 []).length
structure IsMan (M : List (List Int)) : Prop where
  r1 : 1 ≤ M.length
  r5 : M.length ≤ 5
  f2 : 2 ≤ fl M
  f4 : fl M ≤ 400
  rows : ∀ k, k < M.length → RowOk (fl M) (M.getD k [])
  com : ∀ i k f, i + 2 ≤ k → k < M.length → f < fl M → Com (M.getD i []) (M.getD k []) f
  con : ∀ x, x < fl M → Rch M 0 x
end Go.Proofs.YtfcbamfkfadabaaGreatDoor
set_option maxRecDepth 100000
namespace Go.Proofs.YtfcbamfkfadabaaGreatDoor
open Go.Gov
open Classical

end Go.Proofs.YtfcbamfkfadabaaGreatDoor
set_option maxRecDepth 100000
namespace Go.Proofs.YtfcbamfkfadabaaGreatDoor
open Go.Gov
open Classical

end Go.Proofs.YtfcbamfkfadabaaGreatDoor
set_option maxRecDepth 100000
namespace Go.Proofs.YtfcbamfkfadabaaGreatDoor
open Go.Gov
open Classical

def IsMap (M : List (List Int)) : Prop := IsMan M ∧ M.length = 3

end Go.Proofs.YtfcbamfkfadabaaGreatDoor
