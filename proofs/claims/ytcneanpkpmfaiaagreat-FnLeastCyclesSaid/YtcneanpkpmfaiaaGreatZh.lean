/- Texts that belong together. -/
import Derived.Test.YtcneanpkpmfaiaaGreatZg
set_option linter.unusedSimpArgs false
set_option linter.unusedVariables false
set_option maxRecDepth 100000
namespace Go.Proofs.YtcneanpkpmfaiaaGreat
open Go.Gov
def W8:ACode:=(sq [gn 2] (sq [gp 3 (.bsl 0 []),gm 4 0,gp 5 (.app 1 8 (.s 3) (.s 4)),gm 2 5] .ret))
theorem xQ:Ai Tryz.prog M 132=some (6,W8,[(.mov (.s 2))]):=by kernel_rfl
def X2:ACode:=(sq [gp 4 (.mov (.c (.bool false)))] (.seq (sq [gz 5 0] (.block 0 (.loop (.seq (sq [gm 6 5,gm 7 0,gH 8 7,gB 9 .lss 6 8,gm 10 9,gR 11 10 true 5,gR 12 10 true 1,gq 13 10 true (.len (.s 12)),gq 14 10 true (.bin 0 .lss (.s 11) (.s 13)),gp 15 (.pick (.s 10) (.s 14) (.c (.bool false)))] (ci 15 .skip (.exit 0))) (.seq (.block 1 (.seq (.ops [gm 18 0,gm 19 5,gI 20 1 18 19,gL 21 20,gm 22 1,gm 23 5,gI 24 1 22 23,gL 25 24,gB 26 .neq 21 25] []) (ci 26 (.seq (.ops [gm 27 0,gm 28 5,gI 29 1 27 28,gL 30 29,gm 31 1,gm 32 5,gI 33 1 31 32,gL 34 33,gB 35 .lss 30 34,gm 4 35] []) .ret) .skip))) (os [gm 16 5,gK 17 .add 16 1,gm 5 17])))))) (sq [gm 36 0,gH 37 36,gm 38 1,gH 39 38,gB 40 .lss 37 39,gm 4 40] .ret)))
theorem yT:Ai Tryz.prog M 39=some (41,X2,[(.mov (.s 4))]):=by kernel_rfl
def Yi:ACode:=(sq [gz 4 0] (.seq (sq [gm 9 0,gH 10 9,gz 11 0] (.block 0 (.loop (sq [gB 12 .lss 11 10] (.seq (ci 12 .skip (.exit 0)) (.seq (.block 1 (sq [gm 13 11,gI 14 1 9 11,gL 15 14,gm 5 13,gm 6 15] (.seq (sq [gm 16 5,gm 17 1,gH 18 17,gB 19 .geq 16 18] (ci 19 (sq [gz 4 1] .ret) .skip)) (sq [gm 20 1,gm 21 5,gI 22 1 20 21,gL 23 22,gm 7 23] (sq [gm 24 6,gm 25 7,gC 26 93 24 25,gm 8 26] (sq [gm 27 8,gK 28 .neq 27 0] (ci 28 (sq [gm 29 8,gm 4 29] .ret) .skip))))))) (os [gK 30 .add 11 1,gm 11 30]))))))) (.seq (sq [gm 31 0,gH 32 31,gm 33 1,gH 34 33,gB 35 .lss 32 34] (ci 35 (sq [gz 4 (-1)] .ret) .skip)) (sq [gz 4 0] .ret))))
theorem zL:Ai Tryz.prog M 61=some (36,Yi,[(.mov (.s 4))]):=by kernel_rfl
def Y1:ACode:=(sq [gz 4 0] (sq [gm 7 0,gA 8 106 7,gm 5 8] (sq [gm 9 1,gA 10 106 9,gm 6 10] (.seq (sq [gm 11 5] (ci 11 (.seq (sq [gm 12 6] (ci 12 (sq [gz 4 0] .ret) .skip)) (sq [gz 4 (-1)] .ret)) .skip)) (.seq (sq [gm 13 6] (ci 13 (sq [gz 4 1] .ret) .skip)) (.seq (sq [gm 14 0,gm 15 1,gB 16 .lss 14 15] (ci 16 (sq [gz 4 (-1)] .ret) .skip)) (.seq (sq [gm 17 0,gm 18 1,gB 19 .gtr 17 18] (ci 19 (sq [gz 4 1] .ret) .skip)) (sq [gz 4 0] .ret))))))))
theorem Aae:Ai Tryz.prog M 93=some (20,Y1,[(.mov (.s 4))]):=by kernel_rfl
end Go.Proofs.YtcneanpkpmfaiaaGreat
