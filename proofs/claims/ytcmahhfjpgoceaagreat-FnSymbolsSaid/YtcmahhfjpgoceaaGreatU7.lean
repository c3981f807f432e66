/- Texts that belong together. -/
import Derived.Test.YtcmahhfjpgoceaaGreatZc
import Derived.Test.YtcmahhfjpgoceaaGreatU1
set_option linter.unusedSimpArgs false
set_option linter.unusedVariables false
set_option maxRecDepth 100000
namespace Go.Proofs.YtcmahhfjpgoceaaGreat
open Go.Gov
set_option maxRecDepth 100000 in
def c145 : ACode := (.seq (os [gn 2]) (.seq (os [gp 5 (.bsl 0 []), gm 3 5]) (.seq (.seq (os [gz 4 0]) (.block 0 (.loop (.seq (.seq (os [gm 6 4, gm 7 0, gp 8 (.len (.s 7)), gp 9 (.bin 0 .lss (.s 6) (.s 8))]) (.cond (.s 9) .skip (.exit 0))) (.seq (.block 1 (os [gm 12 3, gm 13 0, gm 14 4, gp 15 (.idx 1 (.s 13) (.s 14)), gp 16 (.load (.slc 1 0 []) (.s 15)), gp 17 (.call 119 [(.s 16)]), ⟨(some 18), none, (.bsl 1 [⟨0, (.s 17)⟩])⟩, gp 19 (.app 1 24 (.s 12) (.s 18)), gm 3 19])) (os [gm 10 4, gp 11 (.bin 0 .add (.s 10) (kk 1)), gm 4 11])))))) (.seq (os [gm 20 3, gm 2 20]) .ret))))
set_option maxRecDepth 100000 in
theorem ok145 : compileFn Tryz.prog M2 145 = some (21, c145, [(.mov (.s 2))]) := by kernel_rfl
end Go.Proofs.YtcmahhfjpgoceaaGreat
