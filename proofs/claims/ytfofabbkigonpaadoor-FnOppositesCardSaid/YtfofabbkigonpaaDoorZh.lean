/- Texts that belong together. -/
import Derived.Test.YtfofabbkigonpaaDoorZg
set_option linter.unusedSimpArgs false
set_option linter.unusedVariables false
set_option maxRecDepth 100000
namespace Go.Proofs.YtfofabbkigonpaaDoor
open Go.Gov
def T2:ACode:=(sq [gp 4 (.mov (.c (.bool false)))] (.seq (sq [gm 6 0,gH 7 6,gm 8 1,gH 9 8,gB 10 .neq 7 9] (ci 10 (sq [gp 4 (.mov (.c (.bool false)))] .ret) .skip)) (.seq (sq [gm 11 0,gH 12 11,gz 13 0] (.block 0 (.loop (sq [gB 14 .lss 13 12] (.seq (ci 14 .skip (.exit 0)) (.seq (.block 1 (sq [gm 15 13,gm 5 15] (.seq (.ops [gm 16 0,gm 17 5,gI 18 1 16 17,gL 19 18,gm 20 1,gm 21 5,gI 22 1 20 21,gL 23 22,gB 24 .neq 19 23] []) (ci 24 (sq [gp 4 (.mov (.c (.bool false)))] .ret) .skip)))) (os [gK 25 .add 13 1,gm 13 25]))))))) (sq [gp 4 (.mov (.c (.bool true)))] .ret))))
theorem oM:Aj Tryd.prog M 111=some (26,T2,[(.mov (.s 4))]):=by kernel_rfl
def Tu:ACode:=(sq [gn 2] (sq [gp 3 (.bsl 0 []),gm 4 0,gp 5 (.app 1 8 (.s 3) (.s 4)),gm 2 5] .ret))
theorem oD:Aj Tryd.prog M 105=some (6,Tu,[(.mov (.s 2))]):=by kernel_rfl
def Qd:ACode:=(sq [gn 2] (.seq (sq [gm 3 0,gp 4 (.bin 2 .eql (.s 3) (.c (.slice none 0 0)))] (ci 4 (sq [gn 2] .ret) .skip)) (sq [gp 5 (.bsl 0 []),gm 6 0,gp 7 (.app 1 8 (.s 5) (.s 6)),gm 2 7] .ret)))
theorem Yx:Aj Tryd.prog M 54=some (8,Qd,[(.mov (.s 2))]):=by kernel_rfl
end Go.Proofs.YtfofabbkigonpaaDoor
