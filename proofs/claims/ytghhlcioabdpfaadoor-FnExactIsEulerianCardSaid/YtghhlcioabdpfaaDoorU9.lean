/- Texts that belong together. -/
import Derived.Test.YtghhlcioabdpfaaDoorU5
import Derived.Test.YtghhlcioabdpfaaDoorU7
set_option linter.unusedSimpArgs false
set_option linter.unusedVariables false
set_option maxRecDepth 100000
namespace Go.Proofs.YtghhlcioabdpfaaDoor
open Go.Gov
open Classical

def mns (a b : List Int) : List Int := a.filter fun e => !decide (e ∈ b)
theorem mns_len (a b : List Int) : (mns a b).length ≤ a.length := List.length_filter_le _ _
end Go.Proofs.YtghhlcioabdpfaaDoor
