/- Texts that belong together. -/
import Derived.Test.YtcmahhfjpgoceaaGreatProg
import Derived.Test.YtcmahhfjpgoceaaGreatZc
set_option linter.unusedSimpArgs false
set_option linter.unusedVariables false
set_option maxRecDepth 100000
namespace Go.Proofs.YtcmahhfjpgoceaaGreat
open Go.Gov
def M : List Nat := [116, 999999]
set_option maxRecDepth 100000 in
def c86 : ACode := (.seq (os [gp 6 (.mov (.c (.bool false)))]) (.seq (os [gm 7 0, gm 8 1, gp 9 (.bin 0 .geq (.s 7) (.s 8)), gm 10 9, gq 11 10 true (.mov (.s 0)), gq 12 10 true (.mov (.s 2)), gq 13 10 true (.bin 0 .leq (.s 11) (.s 12)), gp 14 (.pick (.s 10) (.s 13) (.c (.bool false))), gm 6 14]) .ret))
set_option maxRecDepth 100000 in
theorem ok86 : compileFn Tryz.prog M 86 = some (15, c86, [(.mov (.s 6))]) := by kernel_rfl
set_option maxRecDepth 100000 in
def c83 : ACode := (.seq (os [gp 6 (.mov (.c (.bool false)))]) (.seq (os [gm 7 0, gm 8 1, gp 9 (.bin 0 .geq (.s 7) (.s 8)), gm 10 9, gq 11 10 true (.mov (.s 0)), gq 12 10 true (.mov (.s 2)), gq 13 10 true (.bin 0 .leq (.s 11) (.s 12)), gp 14 (.pick (.s 10) (.s 13) (.c (.bool false))), gm 6 14]) .ret))
set_option maxRecDepth 100000 in
theorem ok83 : compileFn Tryz.prog M 83 = some (15, c83, [(.mov (.s 6))]) := by kernel_rfl
set_option maxRecDepth 100000 in
def c95 : ACode := (.seq (os [gz 2 0]) (.seq (os [gm 3 0, gp 4 (.len (.s 3)), gm 2 4]) .ret))
set_option maxRecDepth 100000 in
theorem ok95 : compileFn Tryz.prog M 95 = some (5, c95, [(.mov (.s 2))]) := by kernel_rfl
set_option maxRecDepth 100000 in
def c62 : ACode := (.seq (os [gz 2 0]) (.seq (os [gz 3 0]) (.seq (.seq (os [gm 6 0, gp 7 (.len (.s 6)), gz 8 0]) (.block 0 (.loop (.seq (os [gp 9 (.bin 0 .lss (.s 8) (.s 7))]) (.seq (.cond (.s 9) .skip (.exit 0)) (.seq (.block 1 (.seq (os [gm 10 8, gp 11 (.idx 1 (.s 6) (.s 8)), gp 12 (ldi 11), gm 4 10, gm 5 12]) (.seq (os [gm 13 4, gp 14 (.bin 0 .rem (.s 13) (kk 2)), gp 15 (.bin 0 .eql (.s 14) (kk 0))]) (.cond (.s 15) (os [gm 16 3, gm 17 5, gp 18 (.bin 0 .add (.s 16) (.s 17)), gm 3 18]) (os [gm 19 3, gm 20 5, gp 21 (.bin 0 .sub (.s 19) (.s 20)), gm 3 21]))))) (os [gp 22 (.bin 0 .add (.s 8) (kk 1)), gm 8 22]))))))) (.seq (os [gm 23 3, gm 2 23]) .ret))))
set_option maxRecDepth 100000 in
theorem ok62 : compileFn Tryz.prog M 62 = some (24, c62, [(.mov (.s 2))]) := by kernel_rfl
end Go.Proofs.YtcmahhfjpgoceaaGreat
set_option maxRecDepth 100000
namespace Go.Proofs.YtcmahhfjpgoceaaGreat
open Go.Gov
end Go.Proofs.YtcmahhfjpgoceaaGreat
set_option maxRecDepth 100000
namespace Go.Proofs.YtcmahhfjpgoceaaGreat
open Go.Gov
end Go.Proofs.YtcmahhfjpgoceaaGreat
