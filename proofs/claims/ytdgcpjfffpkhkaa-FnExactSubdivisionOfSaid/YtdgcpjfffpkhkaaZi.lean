/- Texts that belong together. -/
import Derived.Test.YtdgcpjfffpkhkaaZc
import Derived.Test.YtdgcpjfffpkhkaaZh
set_option linter.unusedSimpArgs false
set_option linter.unusedVariables false
set_option maxRecDepth 100000
namespace Go.Proofs.Ytdgcpjfffpkhkaa
open Go.Gov
end Go.Proofs.Ytdgcpjfffpkhkaa
