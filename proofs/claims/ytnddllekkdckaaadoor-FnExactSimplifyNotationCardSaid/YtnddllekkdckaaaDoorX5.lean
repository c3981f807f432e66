/- Texts that belong together. -/
import Derived.Test.YtnddllekkdckaaaDoorZc
import Derived.Test.YtnddllekkdckaaaDoorX1
set_option linter.unusedSimpArgs false
set_option linter.unusedVariables false
set_option maxRecDepth 100000
namespace Go.Proofs.YtnddllekkdckaaaDoor
open Go.Gov
set_option maxRecDepth 100000 in
def c97 : ACode := (.seq (os [⟨(some 2), none, (.mov (.c (.string ⟨#[]⟩)))⟩]) (.seq (.seq (os [gm 3 0, gp 4 (.bin 0 .lss (.s 3) (kk 10))]) (.cond (.s 4) (.seq (os [gm 5 0, gm 6 0, gp 7 (.bin 0 .add (.s 6) (kk 1)), ⟨(some 8), none, (.sslice (.c (.string ⟨#[48, 49, 50, 51, 52, 53, 54, 55, 56, 57, 97, 98, 99, 100, 101, 102, 103, 104, 105, 106, 107, 108, 109, 110, 111, 112, 113, 114, 115, 116, 117, 118, 119, 120, 121, 122]⟩)) (some (.s 5)) (some (.s 7)))⟩, gm 2 8]) .ret) .skip)) (.seq (os [gm 9 0, gp 10 (.bin 0 .mul (.s 9) (kk 2)), gm 11 0, gp 12 (.bin 0 .mul (.s 11) (kk 2)), gp 13 (.bin 0 .add (.s 12) (kk 2)), ⟨(some 14), none, (.sslice (.c (.string ⟨#[48, 48, 48, 49, 48, 50, 48, 51, 48, 52, 48, 53, 48, 54, 48, 55, 48, 56, 48, 57, 49, 48, 49, 49, 49, 50, 49, 51, 49, 52, 49, 53, 49, 54, 49, 55, 49, 56, 49, 57, 50, 48, 50, 49, 50, 50, 50, 51, 50, 52, 50, 53, 50, 54, 50, 55, 50, 56, 50, 57, 51, 48, 51, 49, 51, 50, 51, 51, 51, 52, 51, 53, 51, 54, 51, 55, 51, 56, 51, 57, 52, 48, 52, 49, 52, 50, 52, 51, 52, 52, 52, 53, 52, 54, 52, 55, 52, 56, 52, 57, 53, 48, 53, 49, 53, 50, 53, 51, 53, 52, 53, 53, 53, 54, 53, 55, 53, 56, 53, 57, 54, 48, 54, 49, 54, 50, 54, 51, 54, 52, 54, 53, 54, 54, 54, 55, 54, 56, 54, 57, 55, 48, 55, 49, 55, 50, 55, 51, 55, 52, 55, 53, 55, 54, 55, 55, 55, 56, 55, 57, 56, 48, 56, 49, 56, 50, 56, 51, 56, 52, 56, 53, 56, 54, 56, 55, 56, 56, 56, 57, 57, 48, 57, 49, 57, 50, 57, 51, 57, 52, 57, 53, 57, 54, 57, 55, 57, 56, 57, 57]⟩)) (some (.s 10)) (some (.s 13)))⟩, gm 2 14]) .ret)))
set_option maxRecDepth 100000 in
theorem ok97 : compileFn Tryd.prog M2 97 = some (15, c97, [(.mov (.s 2))]) := by kernel_rfl
end Go.Proofs.YtnddllekkdckaaaDoor
set_option maxRecDepth 100000
namespace Go.Proofs.YtnddllekkdckaaaDoor
open Go.Gov
end Go.Proofs.YtnddllekkdckaaaDoor
