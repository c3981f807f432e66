/- Texts that belong together. -/
import Derived.Test.YtnncgfapobilaaaGreatDoorZt
import Derived.Test.YtnncgfapobilaaaGreatDoorZw
set_option linter.unusedSimpArgs false
set_option linter.unusedVariables false
set_option maxRecDepth 100000
namespace Go.Proofs.YtnncgfapobilaaaGreatDoor
open Go.Gov
open Classical
theorem sizeT_c (T : List (List Tg)) (hl : T.length ≤ 1048576) : Pure Tryz.prog 80 [tmt T] (i64 T.length) [] := by
 refine pureV ok80 rfl ?_; unfold c80
 (refine RN ?_; try with_reducible exact trivial)
end Go.Proofs.YtnncgfapobilaaaGreatDoor
