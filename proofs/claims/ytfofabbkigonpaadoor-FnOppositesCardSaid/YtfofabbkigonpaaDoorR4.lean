/- Texts that belong together. -/
import Derived.Test.YtfofabbkigonpaaDoorZm
import Derived.Test.YtfofabbkigonpaaDoorZw
import Derived.Test.YtfofabbkigonpaaDoorR2
set_option linter.unusedSimpArgs false
set_option linter.unusedVariables false
set_option maxRecDepth 100000
namespace Go.Proofs.YtfofabbkigonpaaDoor
open Go.Gov
open Classical
theorem kJ (xs:List Int)(hl:xs.length≤1048576):Ao Tryd.prog 105 [Ad xs] (.sl 0 1 0 xs.length) [some (Aa xs)]:=by
 refine De oD rfl ?_;unfold Tu
 refine RN ?_
 exact Ref.gc1 [1]
end Go.Proofs.YtfofabbkigonpaaDoor
