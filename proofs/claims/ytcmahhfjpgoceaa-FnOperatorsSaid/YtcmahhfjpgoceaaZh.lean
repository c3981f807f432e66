/- Texts that belong together. -/
import Derived.Test.YtcmahhfjpgoceaaZc
import Derived.Test.YtcmahhfjpgoceaaZg
set_option linter.unusedSimpArgs false
set_option linter.unusedVariables false
set_option maxRecDepth 100000
namespace Go.Proofs.Ytcmahhfjpgoceaa
open Go.Gov
set_option maxRecDepth 100000 in
def c18 : ACode := (.seq (os [gn 2]) (.seq (os [gn 3]) (.seq (.seq (os [gm 7 0, gp 8 (.call 31 [(.s 7)]), gz 9 0]) (.block 0 (.loop (.seq (os [gp 10 (.bin 0 .lss (.s 9) (.s 8))]) (.seq (.cond (.s 10) .skip (.exit 0)) (.seq (.block 1 (.seq (os [gm 11 9, gm 4 11]) (.seq (os [gm 13 0, gm 14 4, gp 15 (.call 35 [(.s 13), (.s 14)]), gm 12 15, gp 16 (.ext (.s 12) 0), gp 17 (.ext (.s 12) 1), gm 5 16, gm 6 17]) (os [gm 18 3, gm 19 6, ⟨(some 20), none, (.bsl 1 [⟨0, (.s 19)⟩])⟩, gp 21 (.app 1 8 (.s 18) (.s 20)), gm 3 21])))) (os [gp 22 (.bin 0 .add (.s 9) (kk 1)), gm 9 22]))))))) (.seq (os [gm 23 3, gm 2 23]) .ret))))
set_option maxRecDepth 100000 in
theorem ok18 : compileFn Try.prog M 18 = some (24, c18, [(.mov (.s 2))]) := by kernel_rfl
set_option maxRecDepth 100000 in
def c79 : ACode := (.seq (os [gn 2]) (.seq (os [gp 3 (.bsl 0 []), gm 4 0, gp 5 (.app 1 8 (.s 3) (.s 4)), gm 2 5]) .ret))
set_option maxRecDepth 100000 in
theorem ok79 : compileFn Try.prog M 79 = some (6, c79, [(.mov (.s 2))]) := by kernel_rfl
end Go.Proofs.Ytcmahhfjpgoceaa
