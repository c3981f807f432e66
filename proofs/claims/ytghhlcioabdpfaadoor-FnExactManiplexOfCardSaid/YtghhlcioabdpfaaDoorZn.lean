/- Texts that belong together. -/
import Derived.Test.YtghhlcioabdpfaaDoorZj
set_option linter.unusedSimpArgs false
set_option linter.unusedVariables false
set_option maxRecDepth 100000
namespace Go.Proofs.YtghhlcioabdpfaaDoor
open Go.Gov

end Go.Proofs.YtghhlcioabdpfaaDoor
