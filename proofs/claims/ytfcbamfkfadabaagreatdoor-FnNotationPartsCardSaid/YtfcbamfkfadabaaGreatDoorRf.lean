/- Texts that belong together. -/
import Derived.Test.YtfcbamfkfadabaaGreatDoorRc
set_option linter.unusedSimpArgs false
set_option linter.unusedVariables false
set_option maxRecDepth 100000
namespace Go.Proofs.YtfcbamfkfadabaaGreatDoor
open Go.Cl
open Classical

end Go.Proofs.YtfcbamfkfadabaaGreatDoor
