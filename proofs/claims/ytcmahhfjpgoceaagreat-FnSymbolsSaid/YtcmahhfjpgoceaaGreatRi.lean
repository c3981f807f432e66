/- Texts that belong together. -/
import Derived.Test.YtcmahhfjpgoceaaGreatZc
import Derived.Test.YtcmahhfjpgoceaaGreatRe
set_option linter.unusedSimpArgs false
set_option linter.unusedVariables false
set_option maxRecDepth 100000
namespace Go.Proofs.YtcmahhfjpgoceaaGreat
open Go.Gov
set_option maxRecDepth 100000 in
def c54 : ACode := (.seq (os [gp 4 (.mov (.c (.bool false)))]) (.seq (os [gm 5 1, gm 6 0, gp 7 (.call 93 [(.s 6)]), gp 8 (.bin 0 .sub (.s 7) (kk 1)), gp 9 (.call 83 [(.s 5), (kk 0), (.s 8)]), gm 4 9]) .ret))
set_option maxRecDepth 100000 in
theorem ok54 : compileFn Tryz.prog M 54 = some (10, c54, [(.mov (.s 4))]) := by kernel_rfl
end Go.Proofs.YtcmahhfjpgoceaaGreat
