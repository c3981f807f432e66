/- Texts that belong together. -/
import Derived.Test.YtcmahhfjpgoceaaGreatZx
import Derived.Test.YtcmahhfjpgoceaaGreatT1
import Derived.Test.YtcmahhfjpgoceaaGreatR8
import Derived.Test.YtcmahhfjpgoceaaGreatR9
set_option linter.unusedSimpArgs false
set_option linter.unusedVariables false
set_option maxRecDepth 100000
namespace Go.Proofs.YtcmahhfjpgoceaaGreat
open Go.Gov
open Classical

end Go.Proofs.YtcmahhfjpgoceaaGreat
set_option maxRecDepth 100000
namespace Go.Gov
end Go.Gov
namespace Go.Proofs.YtcmahhfjpgoceaaGreat
open Go.Gov
open Classical

end Go.Proofs.YtcmahhfjpgoceaaGreat
