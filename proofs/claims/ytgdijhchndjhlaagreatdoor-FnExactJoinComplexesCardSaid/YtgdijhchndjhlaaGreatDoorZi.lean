/- Texts that belong together. -/
import Derived.Test.YtgdijhchndjhlaaGreatDoorZc
import Derived.Test.YtgdijhchndjhlaaGreatDoorZh
set_option linter.unusedSimpArgs false
set_option linter.unusedVariables false
set_option maxRecDepth 100000
namespace Go.Proofs.YtgdijhchndjhlaaGreatDoor
open Go.Gov
end Go.Proofs.YtgdijhchndjhlaaGreatDoor
