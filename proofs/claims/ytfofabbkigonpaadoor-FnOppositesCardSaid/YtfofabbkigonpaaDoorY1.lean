/- Texts that belong together. -/
import Derived.Test.YtfofabbkigonpaaDoorZj
namespace Go.Proofs.YtfofabbkigonpaaDoor
open Classical
section
end
/-! ### Boundaries -/
section
/-! ### Pivots -/
end
end Go.Proofs.YtfofabbkigonpaaDoor
