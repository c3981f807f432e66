/- Texts that belong together. -/
import Derived.Test.YtcmahhfjpgoceaaGreatZc
import Derived.Test.YtcmahhfjpgoceaaGreatZt
set_option linter.unusedSimpArgs false
set_option linter.unusedVariables false
set_option maxRecDepth 100000
namespace Go.Proofs.YtcmahhfjpgoceaaGreat
open Go.Gov
end Go.Proofs.YtcmahhfjpgoceaaGreat
set_option maxRecDepth 100000
namespace Go.Proofs.YtcmahhfjpgoceaaGreat
open Go.Gov
def M2 : List Nat := [42, 43, 69, 81, 82, 98, 109, 110, 111, 116, 128, 130, 142, 157, 158, 159, 161, 999999]
end Go.Proofs.YtcmahhfjpgoceaaGreat
