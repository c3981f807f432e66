/- Texts that belong together. -/
import Derived.Test.YtaekhhaaphgndaaGreatProg
import Derived.Test.YtaekhhaaphgndaaGreatZc
set_option linter.unusedSimpArgs false
set_option linter.unusedVariables false
set_option maxRecDepth 100000
namespace Go.Proofs.YtaekhhaaphgndaaGreat
open Go.Gov
def M:List Nat:=[999999]
def c48:ACode:=(sq [gp 6 (.mov (.c (.bool false)))] (sq [gm 7 0,gm 8 1,gB 9 .geq 7 8,gm 10 9,gR 11 10 true 0,gR 12 10 true 2,gq 13 10 true (.bin 0 .leq (.s 11) (.s 12)),gp 14 (.pick (.s 10) (.s 13) (.c (.bool false))),gm 6 14] .ret))
theorem ok48:compileFn Tryz.prog M 48=some (15,c48,[(.mov (.s 6))]):=by kernel_rfl
def c65:ACode:=(sq [gp 4 (.mov (.c (.bool false)))] (sq [gm 5 0,gm 6 1,gC 7 74 5 6,gK 8 .geq 7 0,gm 4 8] .ret))
theorem ok65:compileFn Tryz.prog M 65=some (9,c65,[(.mov (.s 4))]):=by kernel_rfl
def c74:ACode:=(sq [gz 4 0] (.seq (sq [gz 5 0] (.block 0 (.loop (.seq (sq [gm 6 5,gm 7 0,gH 8 7,gB 9 .lss 6 8] (ci 9 .skip (.exit 0))) (.seq (.block 1 (sq [gm 12 0,gm 13 5,gI 14 1 12 13,gL 15 14,gm 16 1,gB 17 .eql 15 16] (ci 17 (sq [gm 18 5,gm 4 18] .ret) .skip))) (os [gm 10 5,gK 11 .add 10 1,gm 5 11])))))) (sq [gz 4 (-1)] .ret)))
theorem ok74:compileFn Tryz.prog M 74=some (19,c74,[(.mov (.s 4))]):=by kernel_rfl
def c40:ACode:=(sq [gp 6 (.mov (.c (.bool false)))] (sq [gm 7 0,gm 8 1,gB 9 .geq 7 8,gm 10 9,gR 11 10 true 0,gR 12 10 true 2,gq 13 10 true (.bin 0 .leq (.s 11) (.s 12)),gp 14 (.pick (.s 10) (.s 13) (.c (.bool false))),gm 6 14] .ret))
theorem ok40:compileFn Tryz.prog M 40=some (15,c40,[(.mov (.s 6))]):=by kernel_rfl
def c41:ACode:=(sq [gz 2 0] (sq [gm 3 0,gH 4 3,gm 2 4] .ret))
theorem ok41:compileFn Tryz.prog M 41=some (5,c41,[(.mov (.s 2))]):=by kernel_rfl
def c29:ACode:=(sq [gz 2 0] (sq [gz 3 0] (.seq (sq [gm 6 0,gH 7 6,gz 8 0] (.block 0 (.loop (sq [gB 9 .lss 8 7] (.seq (ci 9 .skip (.exit 0)) (.seq (.block 1 (sq [gm 10 8,gI 11 1 6 8,gL 12 11,gm 4 10,gm 5 12] (sq [gm 13 4,gK 14 .rem 13 2,gK 15 .eql 14 0] (ci 15 (os [gm 16 3,gm 17 5,gB 18 .add 16 17,gm 3 18]) (os [gm 19 3,gm 20 5,gB 21 .sub 19 20,gm 3 21]))))) (os [gK 22 .add 8 1,gm 8 22]))))))) (sq [gm 23 3,gm 2 23] .ret))))
theorem ok29:compileFn Tryz.prog M 29=some (24,c29,[(.mov (.s 2))]):=by kernel_rfl
end Go.Proofs.YtaekhhaaphgndaaGreat
