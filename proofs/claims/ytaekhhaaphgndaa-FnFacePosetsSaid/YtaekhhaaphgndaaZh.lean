/- Texts that belong together. -/
import Derived.Test.YtaekhhaaphgndaaZg
set_option linter.unusedSimpArgs false
set_option linter.unusedVariables false
set_option maxRecDepth 100000
namespace Go.Proofs.Ytaekhhaaphgndaa
open Go.Gov
def c25:ACode:=(sq [gn 2] (sq [gn 3] (.seq (sq [gm 7 0,gA 8 35 7,gz 9 0] (.block 0 (.loop (sq [gB 10 .lss 9 8] (.seq (ci 10 .skip (.exit 0)) (.seq (.block 1 (sq [gm 11 9,gm 4 11] (sq [gm 13 0,gm 14 4,gC 15 29 13 14,gm 12 15,gE 16 12 0,gE 17 12 1,gm 5 16,gm 6 17] (os [gm 18 3,gm 19 6,gp 20 (.bsl 1 [⟨0,(.s 19)⟩]),gp 21 (.app 1 8 (.s 18) (.s 20)),gm 3 21])))) (os [gK 22 .add 9 1,gm 9 22]))))))) (sq [gm 23 3,gm 2 23] .ret))))
theorem ok25:compileFn Try.prog M 25=some (24,c25,[(.mov (.s 2))]):=by kernel_rfl
end Go.Proofs.Ytaekhhaaphgndaa
