/- Texts that belong together. -/
import Derived.Test.YtgdijhchndjhlaaGreatDoorProg
import Derived.Test.YtgdijhchndjhlaaGreatDoorZc
set_option linter.unusedSimpArgs false
set_option linter.unusedVariables false
set_option maxRecDepth 100000
namespace Go.Proofs.YtgdijhchndjhlaaGreatDoor
open Go.Gov
def M : List Nat := [53, 999999]
set_option maxRecDepth 100000 in
def c22 : ACode := (.seq (os [gp 6 (.mov (.c (.bool false)))]) (.seq (os [gm 7 0, gm 8 1, gp 9 (.bin 0 .geq (.s 7) (.s 8)), gm 10 9, gq 11 10 true (.mov (.s 0)), gq 12 10 true (.mov (.s 2)), gq 13 10 true (.bin 0 .leq (.s 11) (.s 12)), gp 14 (.pick (.s 10) (.s 13) (.c (.bool false))), gm 6 14]) .ret))
set_option maxRecDepth 100000 in
theorem ok22 : compileFn Tryz.prog M 22 = some (15, c22, [(.mov (.s 6))]) := by kernel_rfl
set_option maxRecDepth 100000 in
def c59 : ACode := (.seq (os [gp 4 (.mov (.c (.bool false)))]) (.seq (os [gm 5 0, gm 6 1, gp 7 (.call 46 [(.s 5), (.s 6)]), gp 8 (.bin 0 .geq (.s 7) (kk 0)), gm 4 8]) .ret))
set_option maxRecDepth 100000 in
theorem ok59 : compileFn Tryz.prog M 59 = some (9, c59, [(.mov (.s 4))]) := by kernel_rfl
set_option maxRecDepth 100000 in
def c46 : ACode := (.seq (os [gz 4 0]) (.seq (.seq (os [gz 5 0]) (.block 0 (.loop (.seq (.seq (os [gm 6 5, gm 7 0, gp 8 (.len (.s 7)), gp 9 (.bin 0 .lss (.s 6) (.s 8))]) (.cond (.s 9) .skip (.exit 0))) (.seq (.block 1 (.seq (os [gm 12 0, gm 13 5, gp 14 (.idx 1 (.s 12) (.s 13)), gp 15 (ldi 14), gm 16 1, gp 17 (.bin 0 .eql (.s 15) (.s 16))]) (.cond (.s 17) (.seq (os [gm 18 5, gm 4 18]) .ret) .skip))) (os [gm 10 5, gp 11 (.bin 0 .add (.s 10) (kk 1)), gm 5 11])))))) (.seq (os [gz 4 (-1)]) .ret)))
set_option maxRecDepth 100000 in
theorem ok46 : compileFn Tryz.prog M 46 = some (19, c46, [(.mov (.s 4))]) := by kernel_rfl
set_option maxRecDepth 100000 in
def c28 : ACode := (.seq (os [gp 6 (.mov (.c (.bool false)))]) (.seq (os [gm 7 0, gm 8 1, gp 9 (.bin 0 .geq (.s 7) (.s 8)), gm 10 9, gq 11 10 true (.mov (.s 0)), gq 12 10 true (.mov (.s 2)), gq 13 10 true (.bin 0 .leq (.s 11) (.s 12)), gp 14 (.pick (.s 10) (.s 13) (.c (.bool false))), gm 6 14]) .ret))
set_option maxRecDepth 100000 in
theorem ok28 : compileFn Tryz.prog M 28 = some (15, c28, [(.mov (.s 6))]) := by kernel_rfl
set_option maxRecDepth 100000 in
def c30 : ACode := (.seq (os [gz 2 0]) (.seq (os [gm 3 0, gp 4 (.len (.s 3)), gm 2 4]) .ret))
set_option maxRecDepth 100000 in
theorem ok30 : compileFn Tryz.prog M 30 = some (5, c30, [(.mov (.s 2))]) := by kernel_rfl
set_option maxRecDepth 100000 in
def c78 : ACode := (.seq (os [gp 2 (.mov (.c (.bool false)))]) (.seq (os [gm 3 0, gm 4 0, gp 5 (.bin 0 .neq (.s 3) (.s 4)), gm 2 5]) .ret))
set_option maxRecDepth 100000 in
theorem ok78 : compileFn Tryz.prog M 78 = some (6, c78, [(.mov (.s 2))]) := by kernel_rfl
set_option maxRecDepth 100000 in
def c81 : ACode := (.seq (os [gp 2 (.mov (.c (.bool false)))]) (.seq (os [gm 3 0, gm 4 0, gp 5 (.bin 0 .neq (.s 3) (.s 4)), gm 2 5]) .ret))
set_option maxRecDepth 100000 in
theorem ok81 : compileFn Tryz.prog M 81 = some (6, c81, [(.mov (.s 2))]) := by kernel_rfl
set_option maxRecDepth 100000 in
def c77 : ACode := (.seq (os [gp 4 (.mov (.c (.bool false)))]) (.seq (os [gm 5 0, gp 6 (.call 81 [(.s 5)]), gm 7 6, gq 8 7 true (.mov (.s 1)), gq 9 7 true (.call 81 [(.s 8)]), gq 10 7 true (.not (.s 9)), gp 11 (.pick (.s 7) (.s 10) (.c (.bool false))), gm 12 11, gq 13 12 false (.mov (.s 0)), gq 14 12 false (.mov (.s 1)), gq 15 12 false (.bin 0 .lss (.s 13) (.s 14)), gp 16 (.pick (.s 12) (.c (.bool true)) (.s 15)), gm 4 16]) .ret))
set_option maxRecDepth 100000 in
theorem ok77 : compileFn Tryz.prog M 77 = some (17, c77, [(.mov (.s 4))]) := by kernel_rfl
set_option maxRecDepth 100000 in
def c47 : ACode := (.seq (os [gn 2]) (.seq (os [gm 5 0, gp 6 (.len (.s 5)), gp 7 (.mk 1 8 [(.int .i64 0)] (.s 6)), gm 3 7]) (.seq (.seq (os [gz 4 0]) (.block 0 (.loop (.seq (.seq (os [gm 8 4, gm 9 0, gp 10 (.len (.s 9)), gp 11 (.bin 0 .lss (.s 8) (.s 10))]) (.cond (.s 11) .skip (.exit 0))) (.seq (.block 1 (os [gm 14 3, gm 15 4, gm 16 0, gm 17 4, gp 18 (.idx 1 (.s 16) (.s 17)), gp 19 (ldi 18), gp 20 (.idx 1 (.s 14) (.s 15)), ⟨none, none, (.store 1 (.s 20) (.s 19))⟩])) (os [gm 12 4, gp 13 (.bin 0 .add (.s 12) (kk 1)), gm 4 13])))))) (.seq (os [gm 21 3, gm 2 21]) .ret))))
set_option maxRecDepth 100000 in
theorem ok47 : compileFn Tryz.prog M 47 = some (22, c47, [(.mov (.s 2))]) := by kernel_rfl
set_option maxRecDepth 100000 in
def c26 : ACode := (.seq (os [gn 2]) (.seq (os [gm 5 0, gp 6 (.len (.s 5)), gp 7 (.mk 1 24 [(.slice none 0 0)] (.s 6)), gm 3 7]) (.seq (.seq (os [gz 4 0]) (.block 0 (.loop (.seq (.seq (os [gm 8 4, gm 9 0, gp 10 (.len (.s 9)), gp 11 (.bin 0 .lss (.s 8) (.s 10))]) (.cond (.s 11) .skip (.exit 0))) (.seq (.block 1 (os [gm 14 3, gm 15 4, gm 16 0, gm 17 4, gp 18 (.idx 1 (.s 16) (.s 17)), gp 19 (.load (.slc 1 0 []) (.s 18)), gp 20 (.call 47 [(.s 19)]), gp 21 (.idx 1 (.s 14) (.s 15)), ⟨none, none, (.store 1 (.s 21) (.s 20))⟩])) (os [gm 12 4, gp 13 (.bin 0 .add (.s 12) (kk 1)), gm 4 13])))))) (.seq (os [gm 22 3, gm 2 22]) .ret))))
set_option maxRecDepth 100000 in
theorem ok26 : compileFn Tryz.prog M 26 = some (23, c26, [(.mov (.s 2))]) := by kernel_rfl
set_option maxRecDepth 100000 in
def c56 : ACode := (.seq (os [gp 4 (.mov (.c (.bool false)))]) (.seq (.seq (os [gm 6 0, gp 7 (.len (.s 6)), gm 8 1, gp 9 (.len (.s 8)), gp 10 (.bin 0 .neq (.s 7) (.s 9))]) (.cond (.s 10) (.seq (os [gp 4 (.mov (.c (.bool false)))]) .ret) .skip)) (.seq (.seq (os [gz 5 0]) (.block 0 (.loop (.seq (.seq (os [gm 11 5, gm 12 0, gp 13 (.len (.s 12)), gp 14 (.bin 0 .lss (.s 11) (.s 13))]) (.cond (.s 14) .skip (.exit 0))) (.seq (.block 1 (.seq (.ops [gm 17 0, gm 18 5, gp 19 (.idx 1 (.s 17) (.s 18)), gp 20 (ldi 19), gm 21 1, gm 22 5, gp 23 (.idx 1 (.s 21) (.s 22)), gp 24 (ldi 23), gp 25 (.bin 0 .neq (.s 20) (.s 24))] []) (.cond (.s 25) (.seq (os [gp 4 (.mov (.c (.bool false)))]) .ret) .skip))) (os [gm 15 5, gp 16 (.bin 0 .add (.s 15) (kk 1)), gm 5 16])))))) (.seq (os [gp 4 (.mov (.c (.bool true)))]) .ret))))
set_option maxRecDepth 100000 in
theorem ok56 : compileFn Tryz.prog M 56 = some (26, c56, [(.mov (.s 4))]) := by kernel_rfl
set_option maxRecDepth 100000 in
def c32 : ACode := (.seq (os [gp 4 (.mov (.c (.bool false)))]) (.seq (.seq (os [gm 6 0, gp 7 (.len (.s 6)), gm 8 1, gp 9 (.len (.s 8)), gp 10 (.bin 0 .neq (.s 7) (.s 9))]) (.cond (.s 10) (.seq (os [gp 4 (.mov (.c (.bool false)))]) .ret) .skip)) (.seq (.seq (os [gz 5 0]) (.block 0 (.loop (.seq (.seq (os [gm 11 5, gm 12 0, gp 13 (.len (.s 12)), gp 14 (.bin 0 .lss (.s 11) (.s 13))]) (.cond (.s 14) .skip (.exit 0))) (.seq (.block 1 (.seq (.ops [gm 17 0, gm 18 5, gp 19 (.idx 1 (.s 17) (.s 18)), gp 20 (.load (.slc 1 0 []) (.s 19)), gm 21 1, gm 22 5, gp 23 (.idx 1 (.s 21) (.s 22)), gp 24 (.load (.slc 1 0 []) (.s 23)), gp 25 (.call 56 [(.s 20), (.s 24)]), gp 26 (.not (.s 25))] []) (.cond (.s 26) (.seq (os [gp 4 (.mov (.c (.bool false)))]) .ret) .skip))) (os [gm 15 5, gp 16 (.bin 0 .add (.s 15) (kk 1)), gm 5 16])))))) (.seq (os [gp 4 (.mov (.c (.bool true)))]) .ret))))
set_option maxRecDepth 100000 in
theorem ok32 : compileFn Tryz.prog M 32 = some (27, c32, [(.mov (.s 4))]) := by kernel_rfl
set_option maxRecDepth 100000 in
def c39 : ACode := (.seq (os [gz 4 0]) (.seq (os [gm 5 1, gm 6 0, gp 7 (.len (.s 6)), gp 8 (.bin 0 .sub (.s 5) (.s 7)), gm 1 8]) (.seq (.seq (os [gm 9 1, gp 10 (.bin 0 .lss (.s 9) (kk 0))]) (.cond (.s 10) (.seq (os [gz 4 (-1)]) .ret) .skip)) (.seq (os [gm 11 1, gm 4 11]) .ret))))
set_option maxRecDepth 100000 in
theorem ok39 : compileFn Tryz.prog M 39 = some (12, c39, [(.mov (.s 4))]) := by kernel_rfl
set_option maxRecDepth 100000 in
def c20 : ACode := (.seq (os [gz 4 0]) (.seq (os [gm 6 1, gm 7 0, gp 8 (.len (.s 7)), gp 9 (.bin 0 .sub (.s 6) (.s 8)), gm 1 9]) (.seq (.seq (os [gm 10 1, gp 11 (.bin 0 .lss (.s 10) (kk 0))]) (.cond (.s 11) (.seq (os [gz 4 (-1)]) .ret) .skip)) (.seq (.seq (os [gz 5 0]) (.block 0 (.loop (.seq (.seq (os [gm 12 5, gm 13 0, gp 14 (.len (.s 13)), gp 15 (.bin 0 .lss (.s 12) (.s 14))]) (.cond (.s 15) .skip (.exit 0))) (.seq (.block 1 (.seq (os [gm 18 0, gm 19 5, gp 20 (.idx 1 (.s 18) (.s 19)), gp 21 (.load (.slc 1 0 []) (.s 20)), gm 22 1, gp 23 (.call 39 [(.s 21), (.s 22)]), gm 1 23]) (.seq (os [gm 24 1, gp 25 (.bin 0 .lss (.s 24) (kk 0))]) (.cond (.s 25) (.seq (os [gz 4 (-1)]) .ret) .skip)))) (os [gm 16 5, gp 17 (.bin 0 .add (.s 16) (kk 1)), gm 5 17])))))) (.seq (os [gm 26 1, gm 4 26]) .ret)))))
set_option maxRecDepth 100000 in
theorem ok20 : compileFn Tryz.prog M 20 = some (27, c20, [(.mov (.s 4))]) := by kernel_rfl
set_option maxRecDepth 100000 in
def c48 : ACode := (.seq (os [gp 4 (.box (.s 1)), gp 5 (.box (.s 2)), gp 6 (.mov (.c (.bool false)))]) (.seq (os [gm 7 0, gp 8 (.fn 67 [] [(.s 4), (.s 5)]), gp 9 (.call 66 [(.s 7), (.s 8)]), gp 10 (.not (.s 9)), gm 6 10]) .ret))
set_option maxRecDepth 100000 in
theorem ok48 : compileFn Tryz.prog M 48 = some (11, c48, [(.mov (.s 6))]) := by kernel_rfl
set_option maxRecDepth 100000 in
def c67 : ACode := (.seq (os [gp 4 (.mov (.c (.bool false)))]) (.seq (os [gm 5 0, gp 6 (ldi 1), gp 7 (ldi 2), gp 8 (.call 28 [(.s 5), (.s 6), (.s 7)]), gp 9 (.not (.s 8)), gm 4 9]) .ret))
set_option maxRecDepth 100000 in
theorem ok67 : compileFn Tryz.prog M 67 = some (10, c67, [(.mov (.s 4))]) := by kernel_rfl
set_option maxRecDepth 100000 in
def c55 : ACode := (.seq (os [gz 4 0, gp 5 (.mov (.c (.bool false)))]) (.seq (os [gm 10 0, gp 11 (.len (.s 10)), gm 6 11]) (.seq (os [gm 12 6, gz 7 0, gm 8 12]) (.seq (.block 0 (.loop (.seq (.seq (os [gm 13 7, gm 14 8, gp 15 (.bin 0 .lss (.s 13) (.s 14))]) (.cond (.s 15) .skip (.exit 0))) (.block 1 (.seq (os [gm 16 7, gm 17 8, gp 18 (.bin 0 .add (.s 16) (.s 17)), gp 19 (.conv .u64 (.s 18)), gp 20 (.bin 0 .shr (.s 19) (.c (.int .u64 1))), gp 21 (.conv .i64 (.s 20)), gm 9 21]) (.seq (os [gm 22 0, gm 23 9, gp 24 (.idx 1 (.s 22) (.s 23)), gp 25 (ldi 24), gm 26 1, gp 27 (.call 77 [(.s 25), (.s 26)])]) (.cond (.s 27) (os [gm 28 9, gp 29 (.bin 0 .add (.s 28) (kk 1)), gm 7 29]) (os [gm 30 9, gm 8 30])))))))) (.seq (os [gm 31 7, gm 32 7, gm 33 6, gp 34 (.bin 0 .lss (.s 32) (.s 33)), gm 35 34, gq 36 35 true (.mov (.s 0)), gq 37 35 true (.mov (.s 7)), gq 38 35 true (.idx 1 (.s 36) (.s 37)), gq 39 35 true (ldi 38), gq 40 35 true (.mov (.s 1)), gq 41 35 true (.bin 0 .eql (.s 39) (.s 40)), gq 42 35 true (.mov (.s 41)), gq 43 42 false (.mov (.s 0)), gq 44 42 false (.mov (.s 7)), gq 45 42 false (.idx 1 (.s 43) (.s 44)), gq 46 42 false (ldi 45), gq 47 42 false (.call 78 [(.s 46)]), gq 48 42 false (.mov (.s 47)), gq 49 48 true (.mov (.s 1)), gq 50 48 true (.call 78 [(.s 49)]), gq 51 42 false (.pick (.s 48) (.s 50) (.c (.bool false))), gq 52 35 true (.pick (.s 42) (.c (.bool true)) (.s 51)), gp 53 (.pick (.s 35) (.s 52) (.c (.bool false))), gm 4 31, gm 5 53]) .ret)))))
set_option maxRecDepth 100000 in
theorem ok55 : compileFn Tryz.prog M 55 = some (54, c55, [(.mov (.s 4)), (.mov (.s 5))]) := by kernel_rfl
set_option maxRecDepth 100000 in
def c66 : ACode := (.seq (os [gp 4 (.mov (.c (.bool false)))]) (.seq (os [gm 5 0, gm 6 1, gp 7 (.call 79 [(.s 5), (.s 6)]), gp 8 (.bin 0 .geq (.s 7) (kk 0)), gm 4 8]) .ret))
set_option maxRecDepth 100000 in
theorem ok66 : compileFn Tryz.prog M 66 = some (9, c66, [(.mov (.s 4))]) := by kernel_rfl
set_option maxRecDepth 100000 in
def c79 : ACode := (.seq (os [gz 4 0]) (.seq (.seq (os [gm 6 0, gp 7 (.len (.s 6)), gz 8 0]) (.block 0 (.loop (.seq (os [gp 9 (.bin 0 .lss (.s 8) (.s 7))]) (.seq (.cond (.s 9) .skip (.exit 0)) (.seq (.block 1 (.seq (os [gm 10 8, gm 5 10]) (.seq (os [gm 11 1, gm 12 0, gm 13 5, gp 14 (.idx 1 (.s 12) (.s 13)), gp 15 (ldi 14), gp 16 (.callv (.s 11) [(.s 15)])]) (.cond (.s 16) (.seq (os [gm 17 5, gm 4 17]) .ret) .skip)))) (os [gp 18 (.bin 0 .add (.s 8) (kk 1)), gm 8 18]))))))) (.seq (os [gz 4 (-1)]) .ret)))
set_option maxRecDepth 100000 in
theorem ok79 : compileFn Tryz.prog M 79 = some (19, c79, [(.mov (.s 4))]) := by kernel_rfl
end Go.Proofs.YtgdijhchndjhlaaGreatDoor
set_option maxRecDepth 100000
namespace Go.Proofs.YtgdijhchndjhlaaGreatDoor
open Go.Gov
set_option maxRecDepth 100000 in
def c57 : ACode := (.seq (os [gz 4 0]) (.seq (.seq (os [gz 5 0]) (.block 0 (.loop (.seq (.seq (os [gm 6 5, gm 7 0, gp 8 (.len (.s 7)), gp 9 (.bin 0 .lss (.s 6) (.s 8))]) (.cond (.s 9) .skip (.exit 0))) (.seq (.block 1 (.seq (os [gm 12 0, gm 13 5, gm 14 1, gp 15 (.idx 1 (.s 12) (.s 13)), ⟨none, none, (.store 1 (.s 15) (.s 14))⟩]) (os [gm 16 1, gp 17 (.bin 0 .add (.s 16) (kk 1)), gm 1 17]))) (os [gm 10 5, gp 11 (.bin 0 .add (.s 10) (kk 1)), gm 5 11])))))) (.seq (os [gm 18 1, gm 4 18]) .ret)))
set_option maxRecDepth 100000 in
theorem ok57 : compileFn Tryz.prog M 57 = some (19, c57, [(.mov (.s 4))]) := by kernel_rfl
set_option maxRecDepth 100000 in
def c58 : ACode := (.seq (os [gz 4 0]) (.seq (.seq (os [gz 5 0]) (.block 0 (.loop (.seq (.seq (os [gm 6 5, gm 7 0, gp 8 (.len (.s 7)), gp 9 (.bin 0 .lss (.s 6) (.s 8))]) (.cond (.s 9) .skip (.exit 0))) (.seq (.block 1 (.seq (.seq (os [gm 12 0, gm 13 5, gp 14 (.idx 1 (.s 12) (.s 13)), gp 15 (ldi 14), gm 16 1, gp 17 (.bin 0 .neq (.s 15) (.s 16))]) (.cond (.s 17) (.seq (os [gz 4 (-1)]) .ret) .skip)) (os [gm 18 1, gp 19 (.bin 0 .add (.s 18) (kk 1)), gm 1 19]))) (os [gm 10 5, gp 11 (.bin 0 .add (.s 10) (kk 1)), gm 5 11])))))) (.seq (os [gm 20 1, gm 4 20]) .ret)))
set_option maxRecDepth 100000 in
theorem ok58 : compileFn Tryz.prog M 58 = some (21, c58, [(.mov (.s 4))]) := by kernel_rfl
set_option maxRecDepth 100000 in
def c33 : ACode := (.seq (os [gz 4 0]) (.seq (.seq (os [gz 5 0]) (.block 0 (.loop (.seq (.seq (os [gm 6 5, gm 7 0, gp 8 (.len (.s 7)), gp 9 (.bin 0 .lss (.s 6) (.s 8))]) (.cond (.s 9) .skip (.exit 0))) (.seq (.block 1 (os [gm 12 0, gm 13 5, gp 14 (.idx 1 (.s 12) (.s 13)), gp 15 (.load (.slc 1 0 []) (.s 14)), gm 16 1, gp 17 (.call 57 [(.s 15), (.s 16)]), gm 1 17])) (os [gm 10 5, gp 11 (.bin 0 .add (.s 10) (kk 1)), gm 5 11])))))) (.seq (os [gm 18 1, gm 4 18]) .ret)))
set_option maxRecDepth 100000 in
theorem ok33 : compileFn Tryz.prog M 33 = some (19, c33, [(.mov (.s 4))]) := by kernel_rfl
set_option maxRecDepth 100000 in
def c34 : ACode := (.seq (os [gz 4 0]) (.seq (.seq (os [gz 5 0]) (.block 0 (.loop (.seq (.seq (os [gm 6 5, gm 7 0, gp 8 (.len (.s 7)), gp 9 (.bin 0 .lss (.s 6) (.s 8))]) (.cond (.s 9) .skip (.exit 0))) (.seq (.block 1 (.seq (os [gm 12 0, gm 13 5, gp 14 (.idx 1 (.s 12) (.s 13)), gp 15 (.load (.slc 1 0 []) (.s 14)), gm 16 1, gp 17 (.call 58 [(.s 15), (.s 16)]), gm 1 17]) (.seq (os [gm 18 1, gp 19 (.bin 0 .lss (.s 18) (kk 0))]) (.cond (.s 19) (.seq (os [gz 4 (-1)]) .ret) .skip)))) (os [gm 10 5, gp 11 (.bin 0 .add (.s 10) (kk 1)), gm 5 11])))))) (.seq (os [gm 20 1, gm 4 20]) .ret)))
set_option maxRecDepth 100000 in
theorem ok34 : compileFn Tryz.prog M 34 = some (21, c34, [(.mov (.s 4))]) := by kernel_rfl
end Go.Proofs.YtgdijhchndjhlaaGreatDoor
set_option maxRecDepth 100000
namespace Go.Proofs.YtgdijhchndjhlaaGreatDoor
open Go.Gov
end Go.Proofs.YtgdijhchndjhlaaGreatDoor
