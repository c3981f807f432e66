/- Texts that belong together. -/
import Derived.Test.YtfcbamfkfadabaaGreatDoorZt
import Derived.Test.YtfcbamfkfadabaaGreatDoorZw
set_option linter.unusedSimpArgs false
set_option linter.unusedVariables false
set_option maxRecDepth 100000
namespace Go.Proofs.YtfcbamfkfadabaaGreatDoor
open Go.Gov
open Classical
theorem sizeT_c (T : List (List Tg)) (hl : T.length ≤ 1048576) : Pure Tryz.prog 128 [tmt T] (i64 T.length) [] := by
 refine pureV ok128 rfl ?_; unfold c128
 (refine RN ?_; try with_reducible exact trivial)
end Go.Proofs.YtfcbamfkfadabaaGreatDoor
