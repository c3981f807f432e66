/- Texts that belong together. -/
import Derived.Test.YtfcbamfkfadabaaGreatDoorZj
import Derived.Test.YtfcbamfkfadabaaGreatDoorZm
import Derived.Test.YtfcbamfkfadabaaGreatDoorZy
import Derived.Test.YtfcbamfkfadabaaGreatDoorR2
set_option linter.unusedSimpArgs false
set_option linter.unusedVariables false
set_option maxRecDepth 100000
namespace Go.Proofs.YtfcbamfkfadabaaGreatDoor
open Go.Gov Go.Ce
open Classical

end Go.Proofs.YtfcbamfkfadabaaGreatDoor
set_option maxRecDepth 100000
namespace Go.Proofs.YtfcbamfkfadabaaGreatDoor
open Go.Gov Go.Ce
open Classical

end Go.Proofs.YtfcbamfkfadabaaGreatDoor
set_option maxRecDepth 100000
namespace Go.Proofs.YtfcbamfkfadabaaGreatDoor
open Go.Gov Go.Ce
open Classical

end Go.Proofs.YtfcbamfkfadabaaGreatDoor
