/- Texts that belong together. -/
import Derived.Test.YtfcbamfkfadabaaGreatDoorZt
import Derived.Test.YtfcbamfkfadabaaGreatDoorZx
import Derived.Test.YtfcbamfkfadabaaGreatDoorQ1
import Derived.Test.YtfcbamfkfadabaaGreatDoorR9
set_option linter.unusedSimpArgs false
set_option linter.unusedVariables false
set_option maxRecDepth 100000
namespace Go.Proofs.YtfcbamfkfadabaaGreatDoor
open Go.Gov
open Classical

end Go.Proofs.YtfcbamfkfadabaaGreatDoor
set_option maxRecDepth 100000
namespace Go.Gov
end Go.Gov
namespace Go.Proofs.YtfcbamfkfadabaaGreatDoor
open Go.Gov
open Classical

def bT (b : UInt8) : List (List Tg) := if b = 100 then tD else if b = 97 then tA else if b = 116 then tT else tC
end Go.Proofs.YtfcbamfkfadabaaGreatDoor
