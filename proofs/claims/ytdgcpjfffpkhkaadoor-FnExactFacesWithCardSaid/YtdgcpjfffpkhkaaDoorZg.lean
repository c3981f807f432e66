/- Texts that belong together. -/
import Derived.Test.YtdgcpjfffpkhkaaDoorZc
import Derived.Test.YtdgcpjfffpkhkaaDoorZf
set_option linter.unusedSimpArgs false
set_option linter.unusedVariables false
set_option maxRecDepth 100000
namespace Go.Proofs.YtdgcpjfffpkhkaaDoor
open Go.Gov
set_option maxRecDepth 100000 in
def c66 : ACode := (.seq (os [gz 2 0]) (.seq (os [gm 3 0, gp 4 (.len (.s 3)), gm 2 4]) .ret))
set_option maxRecDepth 100000 in
theorem ok66 : compileFn Tryd.prog M 66 = some (5, c66, [(.mov (.s 2))]) := by kernel_rfl
end Go.Proofs.YtdgcpjfffpkhkaaDoor
set_option maxRecDepth 100000
namespace Go.Proofs.YtdgcpjfffpkhkaaDoor
open Go.Gov
set_option maxRecDepth 100000 in
def c73 : ACode := (.seq (os [gn 2]) (.seq (.seq (os [gm 3 0, gp 4 (.bin 2 .eql (.s 3) (.c (.slice none 0 0)))]) (.cond (.s 4) (.seq (os [gn 2]) .ret) .skip)) (.seq (os [gp 5 (.bsl 0 []), gm 6 0, gp 7 (.app 1 24 (.s 5) (.s 6)), gm 2 7]) .ret)))
set_option maxRecDepth 100000 in
theorem ok73 : compileFn Tryd.prog M 73 = some (8, c73, [(.mov (.s 2))]) := by kernel_rfl
end Go.Proofs.YtdgcpjfffpkhkaaDoor
