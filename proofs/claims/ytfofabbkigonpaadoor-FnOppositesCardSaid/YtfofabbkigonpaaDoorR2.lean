/- Texts that belong together. -/
import Derived.Test.YtfofabbkigonpaaDoorV1
import Derived.Test.YtfofabbkigonpaaDoorZl
import Derived.Test.YtfofabbkigonpaaDoorZt
import Derived.Test.YtfofabbkigonpaaDoorR1
set_option linter.unusedSimpArgs false
set_option linter.unusedVariables false
set_option maxRecDepth 100000
namespace Go.Proofs.YtfofabbkigonpaaDoor
open Go.Gov
open Classical
theorem Ey (H:Heap)(d:Nat)(I:List (List Int))(n:Nat)(h:I.length=n):((I.map Af).take n).map (Ai H (d+2))=I.map Ad:=by
 rw [List.take_of_length_le (by simp [h]),List.map_map]
 refine List.map_congr_left fun z _=>?_
 simp [Ai,Aa]
end Go.Proofs.YtfofabbkigonpaaDoor
