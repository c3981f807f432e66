/- Texts that belong together. -/
import Derived.Test.YtcmahhfjpgoceaaGreatProg
import Derived.Test.YtcmahhfjpgoceaaGreatZc
set_option linter.unusedSimpArgs false
set_option linter.unusedVariables false
set_option maxRecDepth 100000
namespace Go.Proofs.YtcmahhfjpgoceaaGreat
open Go.Gov
def M : List Nat := [116, 999999]
set_option maxRecDepth 100000 in
def c86 : ACode := (.seq (os [gp 6 (.mov (.c (.bool false)))]) (.seq (os [gm 7 0, gm 8 1, gp 9 (.bin 0 .geq (.s 7) (.s 8)), gm 10 9, gq 11 10 true (.mov (.s 0)), gq 12 10 true (.mov (.s 2)), gq 13 10 true (.bin 0 .leq (.s 11) (.s 12)), gp 14 (.pick (.s 10) (.s 13) (.c (.bool false))), gm 6 14]) .ret))
set_option maxRecDepth 100000 in
theorem ok86 : compileFn Tryz.prog M 86 = some (15, c86, [(.mov (.s 6))]) := by kernel_rfl
set_option maxRecDepth 100000 in
def c121 : ACode := (.seq (os [gp 4 (.mov (.c (.bool false)))]) (.seq (os [gm 5 0, gm 6 1, gp 7 (.call 137 [(.s 5), (.s 6)]), gp 8 (.bin 0 .geq (.s 7) (kk 0)), gm 4 8]) .ret))
set_option maxRecDepth 100000 in
theorem ok121 : compileFn Tryz.prog M 121 = some (9, c121, [(.mov (.s 4))]) := by kernel_rfl
set_option maxRecDepth 100000 in
def c137 : ACode := (.seq (os [gz 4 0]) (.seq (.seq (os [gz 5 0]) (.block 0 (.loop (.seq (.seq (os [gm 6 5, gm 7 0, gp 8 (.len (.s 7)), gp 9 (.bin 0 .lss (.s 6) (.s 8))]) (.cond (.s 9) .skip (.exit 0))) (.seq (.block 1 (.seq (os [gm 12 0, gm 13 5, gp 14 (.idx 1 (.s 12) (.s 13)), gp 15 (ldi 14), gm 16 1, gp 17 (.bin 0 .eql (.s 15) (.s 16))]) (.cond (.s 17) (.seq (os [gm 18 5, gm 4 18]) .ret) .skip))) (os [gm 10 5, gp 11 (.bin 0 .add (.s 10) (kk 1)), gm 5 11])))))) (.seq (os [gz 4 (-1)]) .ret)))
set_option maxRecDepth 100000 in
theorem ok137 : compileFn Tryz.prog M 137 = some (19, c137, [(.mov (.s 4))]) := by kernel_rfl
set_option maxRecDepth 100000 in
def c83 : ACode := (.seq (os [gp 6 (.mov (.c (.bool false)))]) (.seq (os [gm 7 0, gm 8 1, gp 9 (.bin 0 .geq (.s 7) (.s 8)), gm 10 9, gq 11 10 true (.mov (.s 0)), gq 12 10 true (.mov (.s 2)), gq 13 10 true (.bin 0 .leq (.s 11) (.s 12)), gp 14 (.pick (.s 10) (.s 13) (.c (.bool false))), gm 6 14]) .ret))
set_option maxRecDepth 100000 in
theorem ok83 : compileFn Tryz.prog M 83 = some (15, c83, [(.mov (.s 6))]) := by kernel_rfl
set_option maxRecDepth 100000 in
def c95 : ACode := (.seq (os [gz 2 0]) (.seq (os [gm 3 0, gp 4 (.len (.s 3)), gm 2 4]) .ret))
set_option maxRecDepth 100000 in
theorem ok95 : compileFn Tryz.prog M 95 = some (5, c95, [(.mov (.s 2))]) := by kernel_rfl
set_option maxRecDepth 100000 in
def c149 : ACode := (.seq (os [gp 2 (.mov (.c (.bool false)))]) (.seq (os [gm 3 0, gm 4 0, gp 5 (.bin 0 .neq (.s 3) (.s 4)), gm 2 5]) .ret))
set_option maxRecDepth 100000 in
theorem ok149 : compileFn Tryz.prog M 149 = some (6, c149, [(.mov (.s 2))]) := by kernel_rfl
end Go.Proofs.YtcmahhfjpgoceaaGreat
set_option maxRecDepth 100000
namespace Go.Proofs.YtcmahhfjpgoceaaGreat
open Go.Gov
end Go.Proofs.YtcmahhfjpgoceaaGreat
set_option maxRecDepth 100000
namespace Go.Proofs.YtcmahhfjpgoceaaGreat
open Go.Gov
set_option maxRecDepth 100000 in
def c113 : ACode := (.seq (os [gn 2]) (.seq (os [gz 3 0]) (.seq (.seq (os [gm 9 0, gp 10 (.len (.s 9)), gz 11 0]) (.block 0 (.loop (.seq (os [gp 12 (.bin 0 .lss (.s 11) (.s 10))]) (.seq (.cond (.s 12) .skip (.exit 0)) (.seq (.block 1 (.seq (os [gp 13 (.idx 1 (.s 9) (.s 11)), gp 14 (.load (.slc 1 0 []) (.s 13)), gm 5 14]) (.seq (os [gm 15 3, gm 16 5, gp 17 (.len (.s 16)), gp 18 (.bin 0 .add (.s 15) (.s 17)), gm 3 18]) (.seq (os [gm 19 3, gp 20 (.bin 0 .lss (.s 19) (kk 0))]) (.cond (.s 20) (os [⟨(some 21), none, .bad⟩, ⟨none, none, .bad⟩]) .skip))))) (os [gp 22 (.bin 0 .add (.s 11) (kk 1)), gm 11 22]))))))) (.seq (os [gm 23 3, gp 24 (.call 135 [(.c (.slice none 0 0)), (.s 23)]), gm 6 24]) (.seq (.seq (os [gm 25 0, gp 26 (.len (.s 25)), gz 27 0]) (.block 2 (.loop (.seq (os [gp 28 (.bin 0 .lss (.s 27) (.s 26))]) (.seq (.cond (.s 28) .skip (.exit 2)) (.seq (.block 3 (.seq (os [gp 29 (.idx 1 (.s 25) (.s 27)), gp 30 (.load (.slc 1 0 []) (.s 29)), gm 8 30]) (os [gm 31 6, gm 32 8, gp 33 (.app 1 8 (.s 31) (.s 32)), gm 6 33]))) (os [gp 34 (.bin 0 .add (.s 27) (kk 1)), gm 27 34]))))))) (.seq (os [gm 35 6, gm 2 35]) .ret))))))
set_option maxRecDepth 100000 in
theorem ok113 : compileFn Tryz.prog M 113 = some (36, c113, [(.mov (.s 2))]) := by kernel_rfl
end Go.Proofs.YtcmahhfjpgoceaaGreat
