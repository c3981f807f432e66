/- Texts that belong together. -/
import Derived.Test.YtnompobcofhkpaaGreatDoorR5
import Derived.Test.YtnompobcofhkpaaGreatDoorRa
set_option linter.unusedSimpArgs false
set_option linter.unusedVariables false
set_option maxRecDepth 100000
namespace Go.Proofs.YtnompobcofhkpaaGreatDoor
open Go.Gov
open Classical
theorem rN (bs:List Int)(hl:bs.length≤9223372036854775807):Pure Tryz.prog 4 [Ep bs] (bl (decide (4096<(bs.length:Int)))) []:=by
 unfold Ep
 refine Ao ok4 rfl rfl ?_;unfold c4
 (refine RN ?_;try with_reducible exact trivial)
 try rfl
end Go.Proofs.YtnompobcofhkpaaGreatDoor
