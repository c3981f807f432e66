/- Texts that belong together. -/
import Derived.Test.YtgdijhchndjhlaaDoorZc
import Derived.Test.YtgdijhchndjhlaaDoorZh
set_option linter.unusedSimpArgs false
set_option linter.unusedVariables false
set_option maxRecDepth 100000
namespace Go.Proofs.YtgdijhchndjhlaaDoor
open Go.Gov
end Go.Proofs.YtgdijhchndjhlaaDoor
