/- Texts that belong together. -/
import Derived.Test.YtnddllekkdckaaaDoorZc
import Derived.Test.YtnddllekkdckaaaDoorZh
set_option linter.unusedSimpArgs false
set_option linter.unusedVariables false
set_option maxRecDepth 100000
namespace Go.Proofs.YtnddllekkdckaaaDoor
open Go.Gov
end Go.Proofs.YtnddllekkdckaaaDoor
