/- Texts that belong together. -/
import Derived.Test.YtghhlcioabdpfaaDoorZc
import Derived.Test.YtghhlcioabdpfaaDoorZt
set_option linter.unusedSimpArgs false
set_option linter.unusedVariables false
set_option maxRecDepth 100000
namespace Go.Proofs.YtghhlcioabdpfaaDoor
open Go.Gov
set_option maxRecDepth 100000 in
def c83 : ACode := (.seq (os [gp 4 (.mov (.c (.bool false)))]) (.seq (os [gm 5 0, gm 6 1, gp 7 (.call 118 [(.s 5), (.s 6)]), gp 8 (.bin 0 .geq (.s 7) (kk 0)), gm 4 8]) .ret))
set_option maxRecDepth 100000 in
theorem ok83 : compileFn Tryd.prog M 83 = some (9, c83, [(.mov (.s 4))]) := by kernel_rfl
set_option maxRecDepth 100000 in
def c118 : ACode := (.seq (os [gz 4 0]) (.seq (.seq (os [gm 6 0, gp 7 (.len (.s 6)), gz 8 0]) (.block 0 (.loop (.seq (os [gp 9 (.bin 0 .lss (.s 8) (.s 7))]) (.seq (.cond (.s 9) .skip (.exit 0)) (.seq (.block 1 (.seq (os [gm 10 8, gm 5 10]) (.seq (os [gm 11 1, gm 12 0, gm 13 5, gp 14 (.idx 1 (.s 12) (.s 13)), gp 15 (.load (.val (.bool false)) (.s 14)), gp 16 (.bin 1 .eql (.s 11) (.s 15))]) (.cond (.s 16) (.seq (os [gm 17 5, gm 4 17]) .ret) .skip)))) (os [gp 18 (.bin 0 .add (.s 8) (kk 1)), gm 8 18]))))))) (.seq (os [gz 4 (-1)]) .ret)))
set_option maxRecDepth 100000 in
theorem ok118 : compileFn Tryd.prog M 118 = some (19, c118, [(.mov (.s 4))]) := by kernel_rfl
end Go.Proofs.YtghhlcioabdpfaaDoor
set_option maxRecDepth 100000
namespace Go.Proofs.YtghhlcioabdpfaaDoor
open Go.Gov
def M2 : List Nat := [61, 75, 76, 77, 104, 105, 107, 120, 122, 125, 128, 138, 140, 147, 158, 160, 161, 173, 174, 186, 999999]
end Go.Proofs.YtghhlcioabdpfaaDoor
