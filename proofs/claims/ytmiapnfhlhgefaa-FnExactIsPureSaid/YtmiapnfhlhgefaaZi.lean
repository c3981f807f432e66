/- Texts that belong together. -/
import Derived.Test.YtmiapnfhlhgefaaZc
import Derived.Test.YtmiapnfhlhgefaaZh
set_option linter.unusedSimpArgs false
set_option linter.unusedVariables false
namespace Go.Proofs.Ytmiapnfhlhgefaa
open Go.Gov
end Go.Proofs.Ytmiapnfhlhgefaa
