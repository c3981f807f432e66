/- Texts that belong together. -/
import Derived.Test.YtcmahhfjpgoceaaProg
import Derived.Test.YtcmahhfjpgoceaaZc
set_option linter.unusedSimpArgs false
set_option linter.unusedVariables false
set_option maxRecDepth 100000
namespace Go.Proofs.Ytcmahhfjpgoceaa
open Go.Gov
def M : List Nat := [999999]
set_option maxRecDepth 100000 in
def c62 : ACode := (.seq (os [gp 6 (.mov (.c (.bool false)))]) (.seq (os [gm 7 0, gm 8 1, gp 9 (.bin 0 .geq (.s 7) (.s 8)), gm 10 9, gq 11 10 true (.mov (.s 0)), gq 12 10 true (.mov (.s 2)), gq 13 10 true (.bin 0 .leq (.s 11) (.s 12)), gp 14 (.pick (.s 10) (.s 13) (.c (.bool false))), gm 6 14]) .ret))
set_option maxRecDepth 100000 in
theorem ok62 : compileFn Try.prog M 62 = some (15, c62, [(.mov (.s 6))]) := by kernel_rfl
set_option maxRecDepth 100000 in
def c30 : ACode := (.seq (os [gp 6 (.mov (.c (.bool false)))]) (.seq (os [gm 7 0, gm 8 1, gp 9 (.bin 0 .geq (.s 7) (.s 8)), gm 10 9, gq 11 10 true (.mov (.s 0)), gq 12 10 true (.mov (.s 2)), gq 13 10 true (.bin 0 .leq (.s 11) (.s 12)), gp 14 (.pick (.s 10) (.s 13) (.c (.bool false))), gm 6 14]) .ret))
set_option maxRecDepth 100000 in
theorem ok30 : compileFn Try.prog M 30 = some (15, c30, [(.mov (.s 6))]) := by kernel_rfl
set_option maxRecDepth 100000 in
def c33 : ACode := (.seq (os [gz 2 0]) (.seq (os [gm 3 0, gp 4 (.len (.s 3)), gm 2 4]) .ret))
set_option maxRecDepth 100000 in
theorem ok33 : compileFn Try.prog M 33 = some (5, c33, [(.mov (.s 2))]) := by kernel_rfl
end Go.Proofs.Ytcmahhfjpgoceaa
set_option maxRecDepth 100000
namespace Go.Proofs.Ytcmahhfjpgoceaa
open Go.Gov
end Go.Proofs.Ytcmahhfjpgoceaa
set_option maxRecDepth 100000
namespace Go.Proofs.Ytcmahhfjpgoceaa
open Go.Gov
end Go.Proofs.Ytcmahhfjpgoceaa
