/- Texts that belong together. -/
import Derived.Test.YtghhlcioabdpfaaDoorZr
import Derived.Test.YtghhlcioabdpfaaDoorX8
import Derived.Test.YtghhlcioabdpfaaDoorU1
import Derived.Test.YtghhlcioabdpfaaDoorU2
set_option linter.unusedSimpArgs false
set_option linter.unusedVariables false
set_option maxRecDepth 100000
namespace Go.Proofs.YtghhlcioabdpfaaDoor
open Go.Gov
open Classical

end Go.Proofs.YtghhlcioabdpfaaDoor
set_option maxRecDepth 100000
namespace Go.Proofs.YtghhlcioabdpfaaDoor
open Go.Gov
open Classical

end Go.Proofs.YtghhlcioabdpfaaDoor
