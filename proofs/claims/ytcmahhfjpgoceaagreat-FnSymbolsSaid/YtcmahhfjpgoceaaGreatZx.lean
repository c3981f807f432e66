/- Texts that belong together. -/
import Derived.Test.YtcmahhfjpgoceaaGreatZe
import Derived.Test.YtcmahhfjpgoceaaGreatZt
import Derived.Test.YtcmahhfjpgoceaaGreatZw
set_option linter.unusedSimpArgs false
set_option linter.unusedVariables false
set_option maxRecDepth 100000
namespace Go.Proofs.YtcmahhfjpgoceaaGreat
open Go.Gov
open Classical

end Go.Proofs.YtcmahhfjpgoceaaGreat
set_option maxRecDepth 100000
namespace Go.Proofs.YtcmahhfjpgoceaaGreat
open Go.Gov
open Classical

end Go.Proofs.YtcmahhfjpgoceaaGreat
