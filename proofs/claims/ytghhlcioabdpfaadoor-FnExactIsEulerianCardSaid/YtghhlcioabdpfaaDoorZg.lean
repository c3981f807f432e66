/- Texts that belong together. -/
import Derived.Test.YtghhlcioabdpfaaDoorZc
import Derived.Test.YtghhlcioabdpfaaDoorZf
set_option linter.unusedSimpArgs false
set_option linter.unusedVariables false
set_option maxRecDepth 100000
namespace Go.Proofs.YtghhlcioabdpfaaDoor
open Go.Gov
end Go.Proofs.YtghhlcioabdpfaaDoor
set_option maxRecDepth 100000
namespace Go.Proofs.YtghhlcioabdpfaaDoor
open Go.Gov
set_option maxRecDepth 100000 in
def c119 : ACode := (.seq (os [gn 2]) (.seq (.seq (os [gm 3 0, gp 4 (.bin 2 .eql (.s 3) (.c (.slice none 0 0)))]) (.cond (.s 4) (.seq (os [gn 2]) .ret) .skip)) (.seq (os [gp 5 (.bsl 0 []), gm 6 0, gp 7 (.app 1 24 (.s 5) (.s 6)), gm 2 7]) .ret)))
set_option maxRecDepth 100000 in
theorem ok119 : compileFn Tryd.prog M 119 = some (8, c119, [(.mov (.s 2))]) := by kernel_rfl
end Go.Proofs.YtghhlcioabdpfaaDoor
