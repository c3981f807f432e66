/- Texts that belong together. -/
import Derived.Test.YtfcbamfkfadabaaGreatDoorZm
import Derived.Test.YtfcbamfkfadabaaGreatDoorZn
import Derived.Test.YtfcbamfkfadabaaGreatDoorR7
import Derived.Test.YtfcbamfkfadabaaGreatDoorRa
set_option linter.unusedSimpArgs false
set_option linter.unusedVariables false
set_option maxRecDepth 100000
namespace Go.Proofs.YtfcbamfkfadabaaGreatDoor
open Go.Gov
open Classical

theorem big_c (bs : List Int) (hl : bs.length ≤ 9223372036854775807) : Pure Tryz.prog 7 [bytA' bs] (bl (decide (4096 < (bs.length : Int)))) [] := by
  unfold bytA'
  refine pureV0 ok7 rfl rfl ?_; unfold c7
  (refine RN ?_; try with_reducible exact trivial)
  try rfl
end Go.Proofs.YtfcbamfkfadabaaGreatDoor
