/- Texts that belong together. -/
import Derived.Test.YtdgcpjfffpkhkaaDoorZc
import Derived.Test.YtdgcpjfffpkhkaaDoorZi
set_option linter.unusedSimpArgs false
set_option linter.unusedVariables false
set_option maxRecDepth 100000
namespace Go.Proofs.YtdgcpjfffpkhkaaDoor
open Go.Gov
end Go.Proofs.YtdgcpjfffpkhkaaDoor
set_option maxRecDepth 100000
namespace Go.Proofs.YtdgcpjfffpkhkaaDoor
open Go.Gov
end Go.Proofs.YtdgcpjfffpkhkaaDoor
