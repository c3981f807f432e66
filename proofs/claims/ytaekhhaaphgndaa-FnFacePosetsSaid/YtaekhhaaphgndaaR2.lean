/- Texts that belong together. -/
import Derived.Test.YtaekhhaaphgndaaV1
import Derived.Test.YtaekhhaaphgndaaZl
import Derived.Test.YtaekhhaaphgndaaZt
import Derived.Test.YtaekhhaaphgndaaR1
set_option linter.unusedSimpArgs false
set_option linter.unusedVariables false
set_option maxRecDepth 100000
namespace Go.Proofs.Ytaekhhaaphgndaa
open Go.Gov Go.Ce
open Classical
theorem frz_im (H:Heap)(d:Nat)(I:List (List Int))(n:Nat)(h:I.length=n):((I.map oints).take n).map (frz H (d+2))=I.map ints:=by
 rw [List.take_of_length_le (by simp [h]),List.map_map]
 refine List.map_congr_left fun z _=>?_
 simp [frz,intsC]
end Go.Proofs.Ytaekhhaaphgndaa
