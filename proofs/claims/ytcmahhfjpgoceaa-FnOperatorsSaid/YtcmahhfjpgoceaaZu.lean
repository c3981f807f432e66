/- Texts that belong together. -/
import Derived.Test.YtcmahhfjpgoceaaZc
import Derived.Test.YtcmahhfjpgoceaaZt
set_option linter.unusedSimpArgs false
set_option linter.unusedVariables false
set_option maxRecDepth 100000
namespace Go.Proofs.Ytcmahhfjpgoceaa
open Go.Gov
end Go.Proofs.Ytcmahhfjpgoceaa
set_option maxRecDepth 100000
namespace Go.Proofs.Ytcmahhfjpgoceaa
open Go.Gov
def M2 : List Nat := [14, 28, 41, 42, 43, 52, 54, 55, 57, 63, 65, 75, 88, 89, 90, 92, 999999]
end Go.Proofs.Ytcmahhfjpgoceaa
