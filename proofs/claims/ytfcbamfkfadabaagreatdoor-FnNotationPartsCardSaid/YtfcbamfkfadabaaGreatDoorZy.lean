/- Texts that belong together. -/
import Derived.Deep.SlicePairs
import Derived.Test.YtfcbamfkfadabaaGreatDoorZd
import Derived.Test.YtfcbamfkfadabaaGreatDoorZe
import Derived.Test.YtfcbamfkfadabaaGreatDoorZm
import Derived.Test.YtfcbamfkfadabaaGreatDoorZp
import Derived.Test.YtfcbamfkfadabaaGreatDoorZw
import Derived.Test.YtfcbamfkfadabaaGreatDoorZx
set_option linter.unusedSimpArgs false
set_option linter.unusedVariables false
set_option maxRecDepth 100000
namespace Go.Proofs.YtfcbamfkfadabaaGreatDoor
open Go.Gov
open Classical

def apV (M : List (List Int)) (T : List (List Tg)) (i f j : Nat) : Int := (if 0 ≤ (tg T j i).2 then (M.getD (tg T j i).2.toNat []).getD f 0 else (f : Int)) * T.length + (tg T j i).1
def apR (M : List (List Int)) (T : List (List Tg)) (i f m : Nat) : List Int := (List.range m).map fun j => apV M T i f j
def apF (M : List (List Int)) (T : List (List Tg)) (i k : Nat) : List Int := (List.range k).flatMap fun f => apR M T i f T.length
def apM (M : List (List Int)) (T : List (List Tg)) (k : Nat) : List (List Int) := (List.range k).map fun i => apF M T i (fl M)
end Go.Proofs.YtfcbamfkfadabaaGreatDoor
set_option maxRecDepth 100000
namespace Go.Proofs.YtfcbamfkfadabaaGreatDoor
open Go.Gov
open Classical

end Go.Proofs.YtfcbamfkfadabaaGreatDoor
set_option maxRecDepth 100000
namespace Go.Proofs.YtfcbamfkfadabaaGreatDoor
open Go.Gov Go.ChangeShapes Go.WideShapes

end Go.Proofs.YtfcbamfkfadabaaGreatDoor
set_option maxRecDepth 100000
namespace Go.Proofs.YtfcbamfkfadabaaGreatDoor
open Go.Gov
open Classical

end Go.Proofs.YtfcbamfkfadabaaGreatDoor
