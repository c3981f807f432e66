/- Texts that belong together. -/
import Derived.Test.YtfcbamfkfadabaaGreatDoorZe
import Derived.Test.YtfcbamfkfadabaaGreatDoorZt
import Derived.Test.YtfcbamfkfadabaaGreatDoorZw
set_option linter.unusedSimpArgs false
set_option linter.unusedVariables false
set_option maxRecDepth 100000
namespace Go.Proofs.YtfcbamfkfadabaaGreatDoor
open Go.Gov
open Classical

end Go.Proofs.YtfcbamfkfadabaaGreatDoor
set_option maxRecDepth 100000
namespace Go.Proofs.YtfcbamfkfadabaaGreatDoor
open Go.Gov
open Classical

end Go.Proofs.YtfcbamfkfadabaaGreatDoor
