/- Texts that belong together. -/
import Derived.Test.YtcneanpkpmfaiaaGreatZg
set_option linter.unusedSimpArgs false
set_option linter.unusedVariables false
set_option maxRecDepth 100000
namespace Go.Proofs.YtcneanpkpmfaiaaGreat
open Go.Gov
def V8:ACode:=(sq [gn 2] (sq [gp 3 (.bsl 0 []),gm 4 0,gp 5 (.app 1 8 (.s 3) (.s 4)),gm 2 5] .ret))
theorem vH:Ai Tryz.prog M 132=some (6,V8,[(.mov (.s 2))]):=by kernel_rfl
end Go.Proofs.YtcneanpkpmfaiaaGreat
