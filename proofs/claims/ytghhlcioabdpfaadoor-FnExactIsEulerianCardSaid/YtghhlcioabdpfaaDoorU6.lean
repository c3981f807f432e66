/- Texts that belong together. -/
import Derived.Test.YtghhlcioabdpfaaDoorV3
import Derived.Test.YtghhlcioabdpfaaDoorU5
set_option linter.unusedSimpArgs false
set_option linter.unusedVariables false
set_option maxRecDepth 100000
namespace Go.Proofs.YtghhlcioabdpfaaDoor
open Go.Gov
open Classical

theorem sub_sst {p x : List Int} (h : p.Sublist x) (hx : sst x) : sst p := List.Pairwise.sublist h hx
end Go.Proofs.YtghhlcioabdpfaaDoor
