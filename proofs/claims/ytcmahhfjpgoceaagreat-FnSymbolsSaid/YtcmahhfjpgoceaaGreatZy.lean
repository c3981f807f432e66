/- Texts that belong together. -/
import Derived.Deep.SlicePairs
import Derived.Test.YtcmahhfjpgoceaaGreatZd
import Derived.Test.YtcmahhfjpgoceaaGreatZe
import Derived.Test.YtcmahhfjpgoceaaGreatZm
import Derived.Test.YtcmahhfjpgoceaaGreatZp
import Derived.Test.YtcmahhfjpgoceaaGreatZw
import Derived.Test.YtcmahhfjpgoceaaGreatZx
set_option linter.unusedSimpArgs false
set_option linter.unusedVariables false
set_option maxRecDepth 100000
namespace Go.Proofs.YtcmahhfjpgoceaaGreat
open Go.Gov
open Classical

end Go.Proofs.YtcmahhfjpgoceaaGreat
set_option maxRecDepth 100000
namespace Go.Proofs.YtcmahhfjpgoceaaGreat
open Go.Gov
open Classical

end Go.Proofs.YtcmahhfjpgoceaaGreat
set_option maxRecDepth 100000
namespace Go.Proofs.YtcmahhfjpgoceaaGreat
open Go.Gov Go.ChangeShapes Go.WideShapes

end Go.Proofs.YtcmahhfjpgoceaaGreat
set_option maxRecDepth 100000
namespace Go.Proofs.YtcmahhfjpgoceaaGreat
open Go.Gov
open Classical

end Go.Proofs.YtcmahhfjpgoceaaGreat
