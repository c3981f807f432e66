/- Texts that belong together. -/
import Derived.Test.YtfcbamfkfadabaaGreatDoorR5
set_option linter.unusedSimpArgs false
set_option linter.unusedVariables false
set_option maxRecDepth 100000
namespace Go.Gov
variable {P : Program} {N : Nat} {F : Frame} {H : Heap} {M : List Nat} {n0 : Nat}
end Go.Gov
namespace Go.Proofs.YtfcbamfkfadabaaGreatDoor
open Go.Gov Go.Ce
open Classical

end Go.Proofs.YtfcbamfkfadabaaGreatDoor
set_option maxRecDepth 100000
namespace Go.Proofs.YtfcbamfkfadabaaGreatDoor
open Go.Gov Go.Ce
open Classical

end Go.Proofs.YtfcbamfkfadabaaGreatDoor
set_option maxRecDepth 100000
namespace Go.Gov
variable {P : Program} {N : Nat} {F : Frame} {H : Heap} {M : List Nat} {n0 : Nat}
end Go.Gov
namespace Go.Proofs.YtfcbamfkfadabaaGreatDoor
open Go.Gov Go.Ce
open Classical

def Gd (most : Nat) (M : List (List Int)) : Prop := M.length ≤ 6 ∧ ∀ p ∈ M, p.length ≤ most + 1
end Go.Proofs.YtfcbamfkfadabaaGreatDoor
