/- Texts that belong together. -/
import Derived.Test.YtgdijhchndjhlaaGreatDoorZc
import Derived.Test.YtgdijhchndjhlaaGreatDoorZh
set_option linter.unusedSimpArgs false
set_option linter.unusedVariables false
namespace Go.Proofs.YtgdijhchndjhlaaGreatDoor
open Go.Gov
end Go.Proofs.YtgdijhchndjhlaaGreatDoor
