/- Texts that belong together. -/
import Derived.Test.YtfcbamfkfadabaaGreatDoorZm
import Derived.Test.YtfcbamfkfadabaaGreatDoorR6
set_option linter.unusedSimpArgs false
set_option linter.unusedVariables false
set_option maxRecDepth 100000
namespace Go.Gov
variable {P : Program} {N : Nat} {F : Frame} {H : Heap} {M : List Nat} {n0 : Nat}
end Go.Gov
namespace Go.Proofs.YtfcbamfkfadabaaGreatDoor
open Go.Gov Go.Ce
open Classical

end Go.Proofs.YtfcbamfkfadabaaGreatDoor
set_option maxRecDepth 100000
namespace Go.Proofs.YtfcbamfkfadabaaGreatDoor
open Go.Gov Go.Ce
open Classical

theorem Gd.nil (n : Nat) : Gd n [] := ⟨by simp, fun p hp => by simp at hp⟩
end Go.Proofs.YtfcbamfkfadabaaGreatDoor
