/- Texts that belong together. -/
import Derived.Test.YtgdijhchndjhlaaGreatDoorZc
import Derived.Test.YtgdijhchndjhlaaGreatDoorZi
set_option linter.unusedSimpArgs false
set_option linter.unusedVariables false
namespace Go.Proofs.YtgdijhchndjhlaaGreatDoor
open Go.Gov
end Go.Proofs.YtgdijhchndjhlaaGreatDoor
namespace Go.Proofs.YtgdijhchndjhlaaGreatDoor
open Go.Gov
end Go.Proofs.YtgdijhchndjhlaaGreatDoor
