/- Texts that belong together. -/
import Derived.Test.YtfcbamfkfadabaaGreatDoorProg
import Derived.Test.YtfcbamfkfadabaaGreatDoorZc
set_option linter.unusedSimpArgs false
set_option linter.unusedVariables false
set_option maxRecDepth 100000
namespace Go.Proofs.YtfcbamfkfadabaaGreatDoor
open Go.Gov
def M:List Nat:=[176,245,999999]
def c143:ACode:=(sq [gp 6 (.mov (.c (.bool false)))] (sq [gm 7 0,gm 8 1,gB 9 .geq 7 8,gm 10 9,gR 11 10 true 0,gR 12 10 true 2,gq 13 10 true (.bin 0 .leq (.s 11) (.s 12)),gp 14 (.pick (.s 10) (.s 13) (.c (.bool false))),gm 6 14] .ret))
theorem ok143:compileFn Tryz.prog M 143=some (15,c143,[(.mov (.s 6))]):=by kernel_rfl
def c83:ACode:=(sq [gp 6 (.mov (.c (.bool false)))] (sq [gm 7 0,gm 8 1,gB 9 .geq 7 8,gm 10 9,gR 11 10 true 0,gR 12 10 true 2,gq 13 10 true (.bin 0 .leq (.s 11) (.s 12)),gp 14 (.pick (.s 10) (.s 13) (.c (.bool false))),gm 6 14] .ret))
theorem ok83:compileFn Tryz.prog M 83=some (15,c83,[(.mov (.s 6))]):=by kernel_rfl
def c99:ACode:=(sq [gz 2 0] (sq [gm 3 0,gH 4 3,gm 2 4] .ret))
theorem ok99:compileFn Tryz.prog M 99=some (5,c99,[(.mov (.s 2))]):=by kernel_rfl
def c237:ACode:=(sq [gp 2 (.mov (.c (.bool false)))] (sq [gm 3 0,gm 4 0,gB 5 .neq 3 4,gm 2 5] .ret))
theorem ok237:compileFn Tryz.prog M 237=some (6,c237,[(.mov (.s 2))]):=by kernel_rfl
def c215:ACode:=(sq [gX 4 1,gX 5 2,gp 6 (.mov (.c (.bool false)))] (sq [gm 7 0,gp 8 (.fn 257 [] [(.s 4),(.s 5)]),gC 9 120 7 8,gJ 10 9,gm 6 10] .ret))
theorem ok215:compileFn Tryz.prog M 215=some (11,c215,[(.mov (.s 6))]):=by kernel_rfl
def c257:ACode:=(sq [gp 4 (.mov (.c (.bool false)))] (sq [gm 5 0,gL 6 1,gL 7 2,gD 8 83 5 6 7,gJ 9 8,gm 4 9] .ret))
theorem ok257:compileFn Tryz.prog M 257=some (10,c257,[(.mov (.s 4))]):=by kernel_rfl
def c120:ACode:=(sq [gp 4 (.mov (.c (.bool false)))] (sq [gm 5 0,gm 6 1,gC 7 171 5 6,gK 8 .geq 7 0,gm 4 8] .ret))
theorem ok120:compileFn Tryz.prog M 120=some (9,c120,[(.mov (.s 4))]):=by kernel_rfl
def c171:ACode:=(sq [gz 4 0] (.seq (sq [gm 6 0,gH 7 6,gz 8 0] (.block 0 (.loop (sq [gB 9 .lss 8 7] (.seq (ci 9 .skip (.exit 0)) (.seq (.block 1 (sq [gm 10 8,gm 5 10] (sq [gm 11 1,gm 12 0,gm 13 5,gI 14 1 12 13,gL 15 14,gp 16 (.callv (.s 11) [(.s 15)])] (ci 16 (sq [gm 17 5,gm 4 17] .ret) .skip)))) (os [gK 18 .add 8 1,gm 8 18]))))))) (sq [gz 4 (-1)] .ret)))
theorem ok171:compileFn Tryz.prog M 171=some (19,c171,[(.mov (.s 4))]):=by kernel_rfl
end Go.Proofs.YtfcbamfkfadabaaGreatDoor
