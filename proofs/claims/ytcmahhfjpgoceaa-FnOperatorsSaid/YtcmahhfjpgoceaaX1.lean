/- Texts that belong together. -/
import Derived.Test.YtcmahhfjpgoceaaZc
import Derived.Test.YtcmahhfjpgoceaaZu
set_option linter.unusedSimpArgs false
set_option linter.unusedVariables false
set_option maxRecDepth 100000
namespace Go.Proofs.Ytcmahhfjpgoceaa
open Go.Gov
end Go.Proofs.Ytcmahhfjpgoceaa
