/- Texts that belong together. -/
import Derived.Test.YtnompobcofhkpaaGreatDoorProg
import Derived.Test.YtnompobcofhkpaaGreatDoorZc
set_option linter.unusedSimpArgs false
set_option linter.unusedVariables false
set_option maxRecDepth 100000
namespace Go.Proofs.YtnompobcofhkpaaGreatDoor
open Go.Gov
def M:List Nat:=[999999]
def Yn:ACode:=(sq [gp 6 (.mov (.c (.bool false)))] (sq [gm 7 0,gm 8 1,gB 9 .geq 7 8,gm 10 9,gR 11 10 true 0,gR 12 10 true 2,gq 13 10 true (.bin 0 .leq (.s 11) (.s 12)),gp 14 (.pick (.s 10) (.s 13) (.c (.bool false))),gm 6 14] .ret))
theorem Ab0:Af Tryz.prog M 111=some (15,Yn,[(.mov (.s 6))]):=by kernel_rfl
def Y1:ACode:=(sq [gp 4 (.mov (.c (.bool false)))] (sq [gm 5 0,gm 6 1,gC 7 160 5 6,gK 8 .geq 7 0,gm 4 8] .ret))
theorem Acg:Af Tryz.prog M 130=some (9,Y1,[(.mov (.s 4))]):=by kernel_rfl
def Zl:ACode:=(sq [gz 4 0] (.seq (sq [gz 5 0] (.block 0 (.loop (.seq (sq [gm 6 5,gm 7 0,gH 8 7,gB 9 .lss 6 8] (ci 9 .skip (.exit 0))) (.seq (.block 1 (sq [gm 12 0,gm 13 5,gI 14 1 12 13,gL 15 14,gm 16 1,gB 17 .eql 15 16] (ci 17 (sq [gm 18 5,gm 4 18] .ret) .skip))) (os [gm 10 5,gK 11 .add 10 1,gm 5 11])))))) (sq [gz 4 (-1)] .ret)))
theorem Ac1:Af Tryz.prog M 160=some (19,Zl,[(.mov (.s 4))]):=by kernel_rfl
def aS:ACode:=(sq [gp 6 (.mov (.c (.bool false)))] (sq [gm 7 0,gm 8 1,gB 9 .geq 7 8,gm 10 9,gR 11 10 true 0,gR 12 10 true 2,gq 13 10 true (.bin 0 .leq (.s 11) (.s 12)),gp 14 (.pick (.s 10) (.s 13) (.c (.bool false))),gm 6 14] .ret))
theorem Aee:Af Tryz.prog M 63=some (15,aS,[(.mov (.s 6))]):=by kernel_rfl
def bK:ACode:=(sq [gz 2 0] (sq [gm 3 0,gH 4 3,gm 2 4] .ret))
theorem Aev:Af Tryz.prog M 82=some (5,bK,[(.mov (.s 2))]):=by kernel_rfl
def Zt:ACode:=(sq [gp 2 (.mov (.c (.bool false)))] (sq [gm 3 0,gm 4 0,gB 5 .neq 3 4,gm 2 5] .ret))
theorem Ada:Af Tryz.prog M 187=some (6,Zt,[(.mov (.s 2))]):=by kernel_rfl
def Zn:ACode:=(sq [gX 4 1,gX 5 2,gp 6 (.mov (.c (.bool false)))] (sq [gm 7 0,gp 8 (.fn 192 [] [(.s 4),(.s 5)]),gC 9 131 7 8,gJ 10 9,gm 6 10] .ret))
theorem Ac3:Af Tryz.prog M 164=some (11,Zn,[(.mov (.s 6))]):=by kernel_rfl
def Zv:ACode:=(sq [gp 4 (.mov (.c (.bool false)))] (sq [gm 5 0,gL 6 1,gL 7 2,gD 8 63 5 6 7,gJ 9 8,gm 4 9] .ret))
theorem Adc:Af Tryz.prog M 192=some (10,Zv,[(.mov (.s 4))]):=by kernel_rfl
def Ug:ACode:=(sq [gp 4 (.mov (.c (.bool false)))] (sq [gm 5 0,gm 6 1,gC 7 161 5 6,gK 8 .geq 7 0,gm 4 8] .ret))
theorem kN:Af Tryz.prog M 131=some (9,Ug,[(.mov (.s 4))]):=by kernel_rfl
def Uj:ACode:=(sq [gz 4 0] (.seq (sq [gm 6 0,gH 7 6,gz 8 0] (.block 0 (.loop (sq [gB 9 .lss 8 7] (.seq (ci 9 .skip (.exit 0)) (.seq (.block 1 (sq [gm 10 8,gm 5 10] (sq [gm 11 1,gm 12 0,gm 13 5,gI 14 1 12 13,gL 15 14,gp 16 (.callv (.s 11) [(.s 15)])] (ci 16 (sq [gm 17 5,gm 4 17] .ret) .skip)))) (os [gK 18 .add 8 1,gm 8 18]))))))) (sq [gz 4 (-1)] .ret)))
theorem kQ:Af Tryz.prog M 161=some (19,Uj,[(.mov (.s 4))]):=by kernel_rfl
end Go.Proofs.YtnompobcofhkpaaGreatDoor
