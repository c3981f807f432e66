/- Texts that belong together. -/
import Derived.Test.YtcmahhfjpgoceaaGreatZc
import Derived.Test.YtcmahhfjpgoceaaGreatZi
set_option linter.unusedSimpArgs false
set_option linter.unusedVariables false
set_option maxRecDepth 100000
namespace Go.Proofs.YtcmahhfjpgoceaaGreat
open Go.Gov
set_option maxRecDepth 100000 in
def c72 : ACode := (.seq (os [gz 2 0]) (.seq (os [gm 3 0, gp 4 (.len (.s 3)), gm 2 4]) .ret))
set_option maxRecDepth 100000 in
theorem ok72 : compileFn Tryz.prog M 72 = some (5, c72, [(.mov (.s 2))]) := by kernel_rfl
set_option maxRecDepth 100000 in
def c104 : ACode := (.seq (os [gp 4 (.mov (.c (.bool false)))]) (.seq (os [gm 5 0, gm 6 1, gp 7 (.call 127 [(.s 5), (.s 6)]), gp 8 (.bin 0 .geq (.s 7) (kk 0)), gm 4 8]) .ret))
set_option maxRecDepth 100000 in
theorem ok104 : compileFn Tryz.prog M 104 = some (9, c104, [(.mov (.s 4))]) := by kernel_rfl
set_option maxRecDepth 100000 in
def c127 : ACode := (.seq (os [gz 4 0]) (.seq (.seq (os [gm 6 0, gp 7 (.len (.s 6)), gz 8 0]) (.block 0 (.loop (.seq (os [gp 9 (.bin 0 .lss (.s 8) (.s 7))]) (.seq (.cond (.s 9) .skip (.exit 0)) (.seq (.block 1 (.seq (os [gm 10 8, gm 5 10]) (.seq (os [gm 11 1, gm 12 0, gm 13 5, gp 14 (.idx 2 (.s 12) (.s 13)), gp 15 (.loads 2 (.s 14)), gp 16 (.callv (.s 11) [(.s 15)])]) (.cond (.s 16) (.seq (os [gm 17 5, gm 4 17]) .ret) .skip)))) (os [gp 18 (.bin 0 .add (.s 8) (kk 1)), gm 8 18]))))))) (.seq (os [gz 4 (-1)]) .ret)))
set_option maxRecDepth 100000 in
theorem ok127 : compileFn Tryz.prog M 127 = some (19, c127, [(.mov (.s 4))]) := by kernel_rfl
end Go.Proofs.YtcmahhfjpgoceaaGreat
set_option maxRecDepth 100000
namespace Go.Proofs.YtcmahhfjpgoceaaGreat
open Go.Gov
end Go.Proofs.YtcmahhfjpgoceaaGreat
