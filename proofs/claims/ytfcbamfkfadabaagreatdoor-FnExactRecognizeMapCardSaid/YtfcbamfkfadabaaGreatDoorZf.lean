/- Texts that belong together. -/
import Derived.Test.YtfcbamfkfadabaaGreatDoorProg
import Derived.Test.YtfcbamfkfadabaaGreatDoorZc
set_option linter.unusedSimpArgs false
set_option linter.unusedVariables false
set_option maxRecDepth 100000
namespace Go.Proofs.YtfcbamfkfadabaaGreatDoor
open Go.Gov
def M : List Nat := [176, 245, 999999]
def c143 : ACode := (.seq (os [gp 6 (.mov (.c (.bool false)))]) (.seq (os [gm 7 0, gm 8 1, gB 9 .geq 7 8, gm 10 9, gR 11 10 true 0, gR 12 10 true 2, gq 13 10 true (.bin 0 .leq (.s 11) (.s 12)), gp 14 (.pick (.s 10) (.s 13) (.c (.bool false))), gm 6 14]) .ret))
theorem ok143 : compileFn Tryz.prog M 143 = some (15, c143, [(.mov (.s 6))]) := by kernel_rfl
def c205 : ACode := (.seq (os [gp 4 (.mov (.c (.bool false)))]) (.seq (os [gm 5 0, gm 6 1, gC 7 240 5 6, gK 8 .geq 7 0, gm 4 8]) .ret))
theorem ok205 : compileFn Tryz.prog M 205 = some (9, c205, [(.mov (.s 4))]) := by kernel_rfl
def c240 : ACode := (.seq (os [gz 4 0]) (.seq (.seq (os [gz 5 0]) (.block 0 (.loop (.seq (.seq (os [gm 6 5, gm 7 0, gH 8 7, gB 9 .lss 6 8]) (.cond (.s 9) .skip (.exit 0))) (.seq (.block 1 (.seq (os [gm 12 0, gm 13 5, gI 14 1 12 13, gL 15 14, gm 16 1, gB 17 .eql 15 16]) (.cond (.s 17) (.seq (os [gm 18 5, gm 4 18]) .ret) .skip))) (os [gm 10 5, gK 11 .add 10 1, gm 5 11])))))) (.seq (os [gz 4 (-1)]) .ret)))
theorem ok240 : compileFn Tryz.prog M 240 = some (19, c240, [(.mov (.s 4))]) := by kernel_rfl
def c83 : ACode := (.seq (os [gp 6 (.mov (.c (.bool false)))]) (.seq (os [gm 7 0, gm 8 1, gB 9 .geq 7 8, gm 10 9, gR 11 10 true 0, gR 12 10 true 2, gq 13 10 true (.bin 0 .leq (.s 11) (.s 12)), gp 14 (.pick (.s 10) (.s 13) (.c (.bool false))), gm 6 14]) .ret))
theorem ok83 : compileFn Tryz.prog M 83 = some (15, c83, [(.mov (.s 6))]) := by kernel_rfl
def c99 : ACode := (.seq (os [gz 2 0]) (.seq (os [gm 3 0, gH 4 3, gm 2 4]) .ret))
theorem ok99 : compileFn Tryz.prog M 99 = some (5, c99, [(.mov (.s 2))]) := by kernel_rfl
def c237 : ACode := (.seq (os [gp 2 (.mov (.c (.bool false)))]) (.seq (os [gm 3 0, gm 4 0, gB 5 .neq 3 4, gm 2 5]) .ret))
theorem ok237 : compileFn Tryz.prog M 237 = some (6, c237, [(.mov (.s 2))]) := by kernel_rfl
def c110 : ACode := (.seq (os [gn 2]) (.seq (os [gm 5 0, gH 6 5, gp 7 (.mk 1 8 [(.int .i64 0)] (.s 6)), gm 3 7]) (.seq (.seq (os [gz 4 0]) (.block 0 (.loop (.seq (.seq (os [gm 8 4, gm 9 0, gH 10 9, gB 11 .lss 8 10]) (.cond (.s 11) .skip (.exit 0))) (.seq (.block 1 (os [gm 14 3, gm 15 4, gm 16 0, gm 17 4, gI 18 1 16 17, gL 19 18, gI 20 1 14 15, gS 1 20 19])) (os [gm 12 4, gK 13 .add 12 1, gm 4 13])))))) (.seq (os [gm 21 3, gm 2 21]) .ret))))
theorem ok110 : compileFn Tryz.prog M 110 = some (22, c110, [(.mov (.s 2))]) := by kernel_rfl
def c57 : ACode := (.seq (os [gn 2]) (.seq (os [gm 5 0, gH 6 5, gp 7 (.mk 1 24 [(.slice none 0 0)] (.s 6)), gm 3 7]) (.seq (.seq (os [gz 4 0]) (.block 0 (.loop (.seq (.seq (os [gm 8 4, gm 9 0, gH 10 9, gB 11 .lss 8 10]) (.cond (.s 11) .skip (.exit 0))) (.seq (.block 1 (os [gm 14 3, gm 15 4, gm 16 0, gm 17 4, gI 18 1 16 17, gV 19 1 18, gA 20 110 19, gI 21 1 14 15, gS 1 21 20])) (os [gm 12 4, gK 13 .add 12 1, gm 4 13])))))) (.seq (os [gm 22 3, gm 2 22]) .ret))))
theorem ok57 : compileFn Tryz.prog M 57 = some (23, c57, [(.mov (.s 2))]) := by kernel_rfl
def c112 : ACode := (.seq (os [gp 4 (.mov (.c (.bool false)))]) (.seq (.seq (os [gm 6 0, gH 7 6, gm 8 1, gH 9 8, gB 10 .neq 7 9]) (.cond (.s 10) (.seq (os [gp 4 (.mov (.c (.bool false)))]) .ret) .skip)) (.seq (.seq (os [gz 5 0]) (.block 0 (.loop (.seq (.seq (os [gm 11 5, gm 12 0, gH 13 12, gB 14 .lss 11 13]) (.cond (.s 14) .skip (.exit 0))) (.seq (.block 1 (.seq (.ops [gm 17 0, gm 18 5, gI 19 1 17 18, gL 20 19, gm 21 1, gm 22 5, gI 23 1 21 22, gL 24 23, gB 25 .neq 20 24] []) (.cond (.s 25) (.seq (os [gp 4 (.mov (.c (.bool false)))]) .ret) .skip))) (os [gm 15 5, gK 16 .add 15 1, gm 5 16])))))) (.seq (os [gp 4 (.mov (.c (.bool true)))]) .ret))))
theorem ok112 : compileFn Tryz.prog M 112 = some (26, c112, [(.mov (.s 4))]) := by kernel_rfl
def c60 : ACode := (.seq (os [gp 4 (.mov (.c (.bool false)))]) (.seq (.seq (os [gm 6 0, gH 7 6, gm 8 1, gH 9 8, gB 10 .neq 7 9]) (.cond (.s 10) (.seq (os [gp 4 (.mov (.c (.bool false)))]) .ret) .skip)) (.seq (.seq (os [gz 5 0]) (.block 0 (.loop (.seq (.seq (os [gm 11 5, gm 12 0, gH 13 12, gB 14 .lss 11 13]) (.cond (.s 14) .skip (.exit 0))) (.seq (.block 1 (.seq (.ops [gm 17 0, gm 18 5, gI 19 1 17 18, gV 20 1 19, gm 21 1, gm 22 5, gI 23 1 21 22, gV 24 1 23, gC 25 112 20 24, gJ 26 25] []) (.cond (.s 26) (.seq (os [gp 4 (.mov (.c (.bool false)))]) .ret) .skip))) (os [gm 15 5, gK 16 .add 15 1, gm 5 16])))))) (.seq (os [gp 4 (.mov (.c (.bool true)))]) .ret))))
theorem ok60 : compileFn Tryz.prog M 60 = some (27, c60, [(.mov (.s 4))]) := by kernel_rfl
def c102 : ACode := (.seq (os [gz 4 0]) (.seq (os [gm 5 1, gm 6 0, gH 7 6, gB 8 .sub 5 7, gm 1 8]) (.seq (.seq (os [gm 9 1, gK 10 .lss 9 0]) (.cond (.s 10) (.seq (os [gz 4 (-1)]) .ret) .skip)) (.seq (os [gm 11 1, gm 4 11]) .ret))))
theorem ok102 : compileFn Tryz.prog M 102 = some (12, c102, [(.mov (.s 4))]) := by kernel_rfl
def c47 : ACode := (.seq (os [gz 4 0]) (.seq (os [gm 6 1, gm 7 0, gH 8 7, gB 9 .sub 6 8, gm 1 9]) (.seq (.seq (os [gm 10 1, gK 11 .lss 10 0]) (.cond (.s 11) (.seq (os [gz 4 (-1)]) .ret) .skip)) (.seq (.seq (os [gz 5 0]) (.block 0 (.loop (.seq (.seq (os [gm 12 5, gm 13 0, gH 14 13, gB 15 .lss 12 14]) (.cond (.s 15) .skip (.exit 0))) (.seq (.block 1 (.seq (os [gm 18 0, gm 19 5, gI 20 1 18 19, gV 21 1 20, gm 22 1, gC 23 102 21 22, gm 1 23]) (.seq (os [gm 24 1, gK 25 .lss 24 0]) (.cond (.s 25) (.seq (os [gz 4 (-1)]) .ret) .skip)))) (os [gm 16 5, gK 17 .add 16 1, gm 5 17])))))) (.seq (os [gm 26 1, gm 4 26]) .ret)))))
theorem ok47 : compileFn Tryz.prog M 47 = some (27, c47, [(.mov (.s 4))]) := by kernel_rfl
def c215 : ACode := (.seq (os [gX 4 1, gX 5 2, gp 6 (.mov (.c (.bool false)))]) (.seq (os [gm 7 0, gp 8 (.fn 257 [] [(.s 4), (.s 5)]), gC 9 120 7 8, gJ 10 9, gm 6 10]) .ret))
theorem ok215 : compileFn Tryz.prog M 215 = some (11, c215, [(.mov (.s 6))]) := by kernel_rfl
def c257 : ACode := (.seq (os [gp 4 (.mov (.c (.bool false)))]) (.seq (os [gm 5 0, gL 6 1, gL 7 2, gD 8 83 5 6 7, gJ 9 8, gm 4 9]) .ret))
theorem ok257 : compileFn Tryz.prog M 257 = some (10, c257, [(.mov (.s 4))]) := by kernel_rfl
def c120 : ACode := (.seq (os [gp 4 (.mov (.c (.bool false)))]) (.seq (os [gm 5 0, gm 6 1, gC 7 171 5 6, gK 8 .geq 7 0, gm 4 8]) .ret))
theorem ok120 : compileFn Tryz.prog M 120 = some (9, c120, [(.mov (.s 4))]) := by kernel_rfl
def c171 : ACode := (.seq (os [gz 4 0]) (.seq (.seq (os [gm 6 0, gH 7 6, gz 8 0]) (.block 0 (.loop (.seq (os [gB 9 .lss 8 7]) (.seq (.cond (.s 9) .skip (.exit 0)) (.seq (.block 1 (.seq (os [gm 10 8, gm 5 10]) (.seq (os [gm 11 1, gm 12 0, gm 13 5, gI 14 1 12 13, gL 15 14, gp 16 (.callv (.s 11) [(.s 15)])]) (.cond (.s 16) (.seq (os [gm 17 5, gm 4 17]) .ret) .skip)))) (os [gK 18 .add 8 1, gm 8 18]))))))) (.seq (os [gz 4 (-1)]) .ret)))
theorem ok171 : compileFn Tryz.prog M 171 = some (19, c171, [(.mov (.s 4))]) := by kernel_rfl
end Go.Proofs.YtfcbamfkfadabaaGreatDoor
