/- Texts that belong together. -/
import Derived.Test.YtfcbamfkfadabaaGreatDoorZy
import Derived.Test.YtfcbamfkfadabaaGreatDoorRa
set_option linter.unusedSimpArgs false
set_option linter.unusedVariables false
set_option maxRecDepth 100000
namespace Go.Proofs.YtfcbamfkfadabaaGreatDoor
open Go.Cl
open Classical

noncomputable def mm (M : List (List Int)) (w : List UInt8) : List (List Int) := w.foldl (fun m x => apM m (bT x) 3) M
end Go.Proofs.YtfcbamfkfadabaaGreatDoor
