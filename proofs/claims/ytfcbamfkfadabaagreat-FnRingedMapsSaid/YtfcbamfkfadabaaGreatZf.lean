/- Texts that belong together. -/
import Derived.Test.YtfcbamfkfadabaaGreatProg
import Derived.Test.YtfcbamfkfadabaaGreatZc
set_option linter.unusedSimpArgs false
set_option linter.unusedVariables false
set_option maxRecDepth 100000
namespace Go.Proofs.YtfcbamfkfadabaaGreat
open Go.Gov
def M : List Nat := [67, 96, 999999]
set_option maxRecDepth 100000 in
def c38 : ACode := (.seq (os [gp 6 (.mov (.c (.bool false)))]) (.seq (os [gm 7 0, gm 8 1, gp 9 (.bin 0 .geq (.s 7) (.s 8)), gm 10 9, gq 11 10 true (.mov (.s 0)), gq 12 10 true (.mov (.s 2)), gq 13 10 true (.bin 0 .leq (.s 11) (.s 12)), gp 14 (.pick (.s 10) (.s 13) (.c (.bool false))), gm 6 14]) .ret))
set_option maxRecDepth 100000 in
theorem ok38 : compileFn Tryz.prog M 38 = some (15, c38, [(.mov (.s 6))]) := by kernel_rfl
set_option maxRecDepth 100000 in
def c43 : ACode := (.seq (os [gz 2 0]) (.seq (os [gm 3 0, gp 4 (.len (.s 3)), gm 2 4]) .ret))
set_option maxRecDepth 100000 in
theorem ok43 : compileFn Tryz.prog M 43 = some (5, c43, [(.mov (.s 2))]) := by kernel_rfl
set_option maxRecDepth 100000 in
def c72 : ACode := (.seq (os [gp 4 (.box (.s 1)), gp 5 (.box (.s 2)), gp 6 (.mov (.c (.bool false)))]) (.seq (os [gm 7 0, gp 8 (.fn 89 [] [(.s 4), (.s 5)]), gp 9 (.call 36 [(.s 7), (.s 8)]), gp 10 (.not (.s 9)), gm 6 10]) .ret))
set_option maxRecDepth 100000 in
theorem ok72 : compileFn Tryz.prog M 72 = some (11, c72, [(.mov (.s 6))]) := by kernel_rfl
set_option maxRecDepth 100000 in
def c89 : ACode := (.seq (os [gp 4 (.mov (.c (.bool false)))]) (.seq (os [gm 5 0, gp 6 (ldi 1), gp 7 (ldi 2), gp 8 (.call 38 [(.s 5), (.s 6), (.s 7)]), gp 9 (.not (.s 8)), gm 4 9]) .ret))
set_option maxRecDepth 100000 in
theorem ok89 : compileFn Tryz.prog M 89 = some (10, c89, [(.mov (.s 4))]) := by kernel_rfl
set_option maxRecDepth 100000 in
def c36 : ACode := (.seq (os [gp 4 (.mov (.c (.bool false)))]) (.seq (os [gm 5 0, gm 6 1, gp 7 (.call 63 [(.s 5), (.s 6)]), gp 8 (.bin 0 .geq (.s 7) (kk 0)), gm 4 8]) .ret))
set_option maxRecDepth 100000 in
theorem ok36 : compileFn Tryz.prog M 36 = some (9, c36, [(.mov (.s 4))]) := by kernel_rfl
set_option maxRecDepth 100000 in
def c63 : ACode := (.seq (os [gz 4 0]) (.seq (.seq (os [gm 6 0, gp 7 (.len (.s 6)), gz 8 0]) (.block 0 (.loop (.seq (os [gp 9 (.bin 0 .lss (.s 8) (.s 7))]) (.seq (.cond (.s 9) .skip (.exit 0)) (.seq (.block 1 (.seq (os [gm 10 8, gm 5 10]) (.seq (os [gm 11 1, gm 12 0, gm 13 5, gp 14 (.idx 1 (.s 12) (.s 13)), gp 15 (ldi 14), gp 16 (.callv (.s 11) [(.s 15)])]) (.cond (.s 16) (.seq (os [gm 17 5, gm 4 17]) .ret) .skip)))) (os [gp 18 (.bin 0 .add (.s 8) (kk 1)), gm 8 18]))))))) (.seq (os [gz 4 (-1)]) .ret)))
set_option maxRecDepth 100000 in
theorem ok63 : compileFn Tryz.prog M 63 = some (19, c63, [(.mov (.s 4))]) := by kernel_rfl
end Go.Proofs.YtfcbamfkfadabaaGreat
set_option maxRecDepth 100000
namespace Go.Proofs.YtfcbamfkfadabaaGreat
open Go.Gov
end Go.Proofs.YtfcbamfkfadabaaGreat
set_option maxRecDepth 100000
namespace Go.Proofs.YtfcbamfkfadabaaGreat
open Go.Gov
end Go.Proofs.YtfcbamfkfadabaaGreat
