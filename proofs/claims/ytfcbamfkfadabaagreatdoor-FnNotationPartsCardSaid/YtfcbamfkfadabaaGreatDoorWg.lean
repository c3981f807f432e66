/- Texts that belong together. -/
import Derived.Test.YtfcbamfkfadabaaGreatDoorZe
set_option linter.unusedSimpArgs false
set_option linter.unusedVariables false
namespace Go.Gov
variable {P : Program} {N : Nat} {g : Gh} {F : Frame} {H : Heap} {a : Act} {w : World} {M : List Nat} {n0 : Nat}

end Go.Gov
