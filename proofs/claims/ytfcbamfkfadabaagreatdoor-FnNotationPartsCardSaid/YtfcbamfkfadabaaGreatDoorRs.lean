/- Texts that belong together. -/
import Derived.Test.YtfcbamfkfadabaaGreatDoorZe
import Derived.Test.YtfcbamfkfadabaaGreatDoorT5
import Derived.Test.YtfcbamfkfadabaaGreatDoorTa
import Derived.Test.YtfcbamfkfadabaaGreatDoorR1
import Derived.Test.YtfcbamfkfadabaaGreatDoorR4
import Derived.Test.YtfcbamfkfadabaaGreatDoorR9
import Derived.Test.YtfcbamfkfadabaaGreatDoorRf
set_option linter.unusedSimpArgs false
set_option linter.unusedVariables false
set_option maxRecDepth 100000
namespace Go.Proofs.YtfcbamfkfadabaaGreatDoor
open Go.Gov Go.Ce
open Classical

end Go.Proofs.YtfcbamfkfadabaaGreatDoor
set_option maxRecDepth 100000
namespace Go.Gov
variable {N : Nat} {g : Gh} {F : Frame} {H : Heap} {a : Act} {w : World} {n0 : Nat}
end Go.Gov
namespace Go.Proofs.YtfcbamfkfadabaaGreatDoor
open Go.Gov Go.Ce Go.Nt
open Classical

end Go.Proofs.YtfcbamfkfadabaaGreatDoor
