/- Texts that belong together. -/
import Derived.Test.YtcneanpkpmfaiaaGreatY4
set_option linter.unusedSimpArgs false
set_option linter.unusedVariables false
set_option maxRecDepth 100000
namespace Go.Proofs.YtcneanpkpmfaiaaGreat
open Go.Gov
open Classical
section
variable (R:List Int) (B:List (List Int)) (es:List Int)
end
end Go.Proofs.YtcneanpkpmfaiaaGreat
