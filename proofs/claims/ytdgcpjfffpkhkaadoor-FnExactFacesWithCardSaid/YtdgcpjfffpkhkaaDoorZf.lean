/- Texts that belong together. -/
import Derived.Test.YtdgcpjfffpkhkaaDoorProg
import Derived.Test.YtdgcpjfffpkhkaaDoorZc
set_option linter.unusedSimpArgs false
set_option linter.unusedVariables false
set_option maxRecDepth 100000
namespace Go.Proofs.YtdgcpjfffpkhkaaDoor
open Go.Gov
def M : List Nat := [999999]
set_option maxRecDepth 100000 in
def c37 : ACode := (.seq (os [gp 6 (.mov (.c (.bool false)))]) (.seq (os [gm 7 0, gm 8 1, gp 9 (.bin 0 .geq (.s 7) (.s 8)), gm 10 9, gq 11 10 true (.mov (.s 0)), gq 12 10 true (.mov (.s 2)), gq 13 10 true (.bin 0 .leq (.s 11) (.s 12)), gp 14 (.pick (.s 10) (.s 13) (.c (.bool false))), gm 6 14]) .ret))
set_option maxRecDepth 100000 in
theorem ok37 : compileFn Tryd.prog M 37 = some (15, c37, [(.mov (.s 6))]) := by kernel_rfl
set_option maxRecDepth 100000 in
def c68 : ACode := (.seq (os [gp 4 (.mov (.c (.bool false)))]) (.seq (os [gm 5 0, gm 6 1, gp 7 (.call 82 [(.s 5), (.s 6)]), gp 8 (.bin 0 .geq (.s 7) (kk 0)), gm 4 8]) .ret))
set_option maxRecDepth 100000 in
theorem ok68 : compileFn Tryd.prog M 68 = some (9, c68, [(.mov (.s 4))]) := by kernel_rfl
set_option maxRecDepth 100000 in
def c82 : ACode := (.seq (os [gz 4 0]) (.seq (.seq (os [gz 5 0]) (.block 0 (.loop (.seq (.seq (os [gm 6 5, gm 7 0, gp 8 (.len (.s 7)), gp 9 (.bin 0 .lss (.s 6) (.s 8))]) (.cond (.s 9) .skip (.exit 0))) (.seq (.block 1 (.seq (os [gm 12 0, gm 13 5, gp 14 (.idx 1 (.s 12) (.s 13)), gp 15 (ldi 14), gm 16 1, gp 17 (.bin 0 .eql (.s 15) (.s 16))]) (.cond (.s 17) (.seq (os [gm 18 5, gm 4 18]) .ret) .skip))) (os [gm 10 5, gp 11 (.bin 0 .add (.s 10) (kk 1)), gm 5 11])))))) (.seq (os [gz 4 (-1)]) .ret)))
set_option maxRecDepth 100000 in
theorem ok82 : compileFn Tryd.prog M 82 = some (19, c82, [(.mov (.s 4))]) := by kernel_rfl
set_option maxRecDepth 100000 in
def c39 : ACode := (.seq (os [gp 6 (.mov (.c (.bool false)))]) (.seq (os [gm 7 0, gm 8 1, gp 9 (.bin 0 .geq (.s 7) (.s 8)), gm 10 9, gq 11 10 true (.mov (.s 0)), gq 12 10 true (.mov (.s 2)), gq 13 10 true (.bin 0 .leq (.s 11) (.s 12)), gp 14 (.pick (.s 10) (.s 13) (.c (.bool false))), gm 6 14]) .ret))
set_option maxRecDepth 100000 in
theorem ok39 : compileFn Tryd.prog M 39 = some (15, c39, [(.mov (.s 6))]) := by kernel_rfl
set_option maxRecDepth 100000 in
def c52 : ACode := (.seq (os [gz 2 0]) (.seq (os [gm 3 0, gp 4 (.len (.s 3)), gm 2 4]) .ret))
set_option maxRecDepth 100000 in
theorem ok52 : compileFn Tryd.prog M 52 = some (5, c52, [(.mov (.s 2))]) := by kernel_rfl
set_option maxRecDepth 100000 in
def c84 : ACode := (.seq (os [gp 2 (.mov (.c (.bool false)))]) (.seq (os [gm 3 0, gm 4 0, gp 5 (.bin 0 .neq (.s 3) (.s 4)), gm 2 5]) .ret))
set_option maxRecDepth 100000 in
theorem ok84 : compileFn Tryd.prog M 84 = some (6, c84, [(.mov (.s 2))]) := by kernel_rfl
set_option maxRecDepth 100000 in
def c51 : ACode := (.seq (os [gn 2]) (.seq (os [gm 5 0, gp 6 (.len (.s 5)), gp 7 (.mk 1 8 [(.int .i64 0)] (.s 6)), gm 3 7]) (.seq (.seq (os [gz 4 0]) (.block 0 (.loop (.seq (.seq (os [gm 8 4, gm 9 0, gp 10 (.len (.s 9)), gp 11 (.bin 0 .lss (.s 8) (.s 10))]) (.cond (.s 11) .skip (.exit 0))) (.seq (.block 1 (os [gm 14 3, gm 15 4, gm 16 0, gm 17 4, gp 18 (.idx 1 (.s 16) (.s 17)), gp 19 (ldi 18), gp 20 (.idx 1 (.s 14) (.s 15)), ⟨none, none, (.store 1 (.s 20) (.s 19))⟩])) (os [gm 12 4, gp 13 (.bin 0 .add (.s 12) (kk 1)), gm 4 13])))))) (.seq (os [gm 21 3, gm 2 21]) .ret))))
set_option maxRecDepth 100000 in
theorem ok51 : compileFn Tryd.prog M 51 = some (22, c51, [(.mov (.s 2))]) := by kernel_rfl
set_option maxRecDepth 100000 in
def c33 : ACode := (.seq (os [gn 2]) (.seq (os [gm 5 0, gp 6 (.len (.s 5)), gp 7 (.mk 1 24 [(.slice none 0 0)] (.s 6)), gm 3 7]) (.seq (.seq (os [gz 4 0]) (.block 0 (.loop (.seq (.seq (os [gm 8 4, gm 9 0, gp 10 (.len (.s 9)), gp 11 (.bin 0 .lss (.s 8) (.s 10))]) (.cond (.s 11) .skip (.exit 0))) (.seq (.block 1 (os [gm 14 3, gm 15 4, gm 16 0, gm 17 4, gp 18 (.idx 1 (.s 16) (.s 17)), gp 19 (.load (.slc 1 0 []) (.s 18)), gp 20 (.call 51 [(.s 19)]), gp 21 (.idx 1 (.s 14) (.s 15)), ⟨none, none, (.store 1 (.s 21) (.s 20))⟩])) (os [gm 12 4, gp 13 (.bin 0 .add (.s 12) (kk 1)), gm 4 13])))))) (.seq (os [gm 22 3, gm 2 22]) .ret))))
set_option maxRecDepth 100000 in
theorem ok33 : compileFn Tryd.prog M 33 = some (23, c33, [(.mov (.s 2))]) := by kernel_rfl
set_option maxRecDepth 100000 in
def c26 : ACode := (.seq (os [gp 4 (.mov (.c (.bool false)))]) (.seq (.seq (os [gm 6 0, gp 7 (.len (.s 6)), gm 8 1, gp 9 (.len (.s 8)), gp 10 (.bin 0 .neq (.s 7) (.s 9))]) (.cond (.s 10) (.seq (os [gp 4 (.mov (.c (.bool false)))]) .ret) .skip)) (.seq (.seq (os [gz 5 0]) (.block 0 (.loop (.seq (.seq (os [gm 11 5, gm 12 0, gp 13 (.len (.s 12)), gp 14 (.bin 0 .lss (.s 11) (.s 13))]) (.cond (.s 14) .skip (.exit 0))) (.seq (.block 1 (.seq (.ops [gm 17 0, gm 18 5, gp 19 (.idx 1 (.s 17) (.s 18)), gp 20 (ldi 19), gm 21 1, gm 22 5, gp 23 (.idx 1 (.s 21) (.s 22)), gp 24 (ldi 23), gp 25 (.bin 0 .neq (.s 20) (.s 24))] []) (.cond (.s 25) (.seq (os [gp 4 (.mov (.c (.bool false)))]) .ret) .skip))) (os [gm 15 5, gp 16 (.bin 0 .add (.s 15) (kk 1)), gm 5 16])))))) (.seq (os [gp 4 (.mov (.c (.bool true)))]) .ret))))
set_option maxRecDepth 100000 in
theorem ok26 : compileFn Tryd.prog M 26 = some (26, c26, [(.mov (.s 4))]) := by kernel_rfl
set_option maxRecDepth 100000 in
def c18 : ACode := (.seq (os [gp 4 (.mov (.c (.bool false)))]) (.seq (.seq (os [gm 6 0, gp 7 (.len (.s 6)), gm 8 1, gp 9 (.len (.s 8)), gp 10 (.bin 0 .neq (.s 7) (.s 9))]) (.cond (.s 10) (.seq (os [gp 4 (.mov (.c (.bool false)))]) .ret) .skip)) (.seq (.seq (os [gz 5 0]) (.block 0 (.loop (.seq (.seq (os [gm 11 5, gm 12 0, gp 13 (.len (.s 12)), gp 14 (.bin 0 .lss (.s 11) (.s 13))]) (.cond (.s 14) .skip (.exit 0))) (.seq (.block 1 (.seq (.ops [gm 17 0, gm 18 5, gp 19 (.idx 1 (.s 17) (.s 18)), gp 20 (.load (.slc 1 0 []) (.s 19)), gm 21 1, gm 22 5, gp 23 (.idx 1 (.s 21) (.s 22)), gp 24 (.load (.slc 1 0 []) (.s 23)), gp 25 (.call 26 [(.s 20), (.s 24)]), gp 26 (.not (.s 25))] []) (.cond (.s 26) (.seq (os [gp 4 (.mov (.c (.bool false)))]) .ret) .skip))) (os [gm 15 5, gp 16 (.bin 0 .add (.s 15) (kk 1)), gm 5 16])))))) (.seq (os [gp 4 (.mov (.c (.bool true)))]) .ret))))
set_option maxRecDepth 100000 in
theorem ok18 : compileFn Tryd.prog M 18 = some (27, c18, [(.mov (.s 4))]) := by kernel_rfl
set_option maxRecDepth 100000 in
def c47 : ACode := (.seq (os [gz 4 0]) (.seq (os [gm 5 1, gm 6 0, gp 7 (.len (.s 6)), gp 8 (.bin 0 .sub (.s 5) (.s 7)), gm 1 8]) (.seq (.seq (os [gm 9 1, gp 10 (.bin 0 .lss (.s 9) (kk 0))]) (.cond (.s 10) (.seq (os [gz 4 (-1)]) .ret) .skip)) (.seq (os [gm 11 1, gm 4 11]) .ret))))
set_option maxRecDepth 100000 in
theorem ok47 : compileFn Tryd.prog M 47 = some (12, c47, [(.mov (.s 4))]) := by kernel_rfl
set_option maxRecDepth 100000 in
def c31 : ACode := (.seq (os [gz 4 0]) (.seq (os [gm 6 1, gm 7 0, gp 8 (.len (.s 7)), gp 9 (.bin 0 .sub (.s 6) (.s 8)), gm 1 9]) (.seq (.seq (os [gm 10 1, gp 11 (.bin 0 .lss (.s 10) (kk 0))]) (.cond (.s 11) (.seq (os [gz 4 (-1)]) .ret) .skip)) (.seq (.seq (os [gz 5 0]) (.block 0 (.loop (.seq (.seq (os [gm 12 5, gm 13 0, gp 14 (.len (.s 13)), gp 15 (.bin 0 .lss (.s 12) (.s 14))]) (.cond (.s 15) .skip (.exit 0))) (.seq (.block 1 (.seq (os [gm 18 0, gm 19 5, gp 20 (.idx 1 (.s 18) (.s 19)), gp 21 (.load (.slc 1 0 []) (.s 20)), gm 22 1, gp 23 (.call 47 [(.s 21), (.s 22)]), gm 1 23]) (.seq (os [gm 24 1, gp 25 (.bin 0 .lss (.s 24) (kk 0))]) (.cond (.s 25) (.seq (os [gz 4 (-1)]) .ret) .skip)))) (os [gm 16 5, gp 17 (.bin 0 .add (.s 16) (kk 1)), gm 5 17])))))) (.seq (os [gm 26 1, gm 4 26]) .ret)))))
set_option maxRecDepth 100000 in
theorem ok31 : compileFn Tryd.prog M 31 = some (27, c31, [(.mov (.s 4))]) := by kernel_rfl
set_option maxRecDepth 100000 in
def c43 : ACode := (.seq (os [gz 2 0]) (.seq (os [gz 3 0]) (.seq (.seq (os [gm 6 0, gp 7 (.len (.s 6)), gz 8 0]) (.block 0 (.loop (.seq (os [gp 9 (.bin 0 .lss (.s 8) (.s 7))]) (.seq (.cond (.s 9) .skip (.exit 0)) (.seq (.block 1 (.seq (os [gm 10 8, gp 11 (.idx 1 (.s 6) (.s 8)), gp 12 (ldi 11), gm 4 10, gm 5 12]) (.seq (os [gm 13 4, gp 14 (.bin 0 .rem (.s 13) (kk 2)), gp 15 (.bin 0 .eql (.s 14) (kk 0))]) (.cond (.s 15) (os [gm 16 3, gm 17 5, gp 18 (.bin 0 .add (.s 16) (.s 17)), gm 3 18]) (os [gm 19 3, gm 20 5, gp 21 (.bin 0 .sub (.s 19) (.s 20)), gm 3 21]))))) (os [gp 22 (.bin 0 .add (.s 8) (kk 1)), gm 8 22]))))))) (.seq (os [gm 23 3, gm 2 23]) .ret))))
set_option maxRecDepth 100000 in
theorem ok43 : compileFn Tryd.prog M 43 = some (24, c43, [(.mov (.s 2))]) := by kernel_rfl
set_option maxRecDepth 100000 in
def c53 : ACode := (.seq (os [gp 4 (.box (.s 1)), gp 5 (.box (.s 2)), gp 6 (.mov (.c (.bool false)))]) (.seq (os [gm 7 0, gp 8 (.fn 70 [] [(.s 4), (.s 5)]), gp 9 (.call 69 [(.s 7), (.s 8)]), gp 10 (.not (.s 9)), gm 6 10]) .ret))
set_option maxRecDepth 100000 in
theorem ok53 : compileFn Tryd.prog M 53 = some (11, c53, [(.mov (.s 6))]) := by kernel_rfl
set_option maxRecDepth 100000 in
def c70 : ACode := (.seq (os [gp 4 (.mov (.c (.bool false)))]) (.seq (os [gm 5 0, gp 6 (ldi 1), gp 7 (ldi 2), gp 8 (.call 39 [(.s 5), (.s 6), (.s 7)]), gp 9 (.not (.s 8)), gm 4 9]) .ret))
set_option maxRecDepth 100000 in
theorem ok70 : compileFn Tryd.prog M 70 = some (10, c70, [(.mov (.s 4))]) := by kernel_rfl
set_option maxRecDepth 100000 in
def c69 : ACode := (.seq (os [gp 4 (.mov (.c (.bool false)))]) (.seq (os [gm 5 0, gm 6 1, gp 7 (.call 83 [(.s 5), (.s 6)]), gp 8 (.bin 0 .geq (.s 7) (kk 0)), gm 4 8]) .ret))
set_option maxRecDepth 100000 in
theorem ok69 : compileFn Tryd.prog M 69 = some (9, c69, [(.mov (.s 4))]) := by kernel_rfl
set_option maxRecDepth 100000 in
def c83 : ACode := (.seq (os [gz 4 0]) (.seq (.seq (os [gm 6 0, gp 7 (.len (.s 6)), gz 8 0]) (.block 0 (.loop (.seq (os [gp 9 (.bin 0 .lss (.s 8) (.s 7))]) (.seq (.cond (.s 9) .skip (.exit 0)) (.seq (.block 1 (.seq (os [gm 10 8, gm 5 10]) (.seq (os [gm 11 1, gm 12 0, gm 13 5, gp 14 (.idx 1 (.s 12) (.s 13)), gp 15 (ldi 14), gp 16 (.callv (.s 11) [(.s 15)])]) (.cond (.s 16) (.seq (os [gm 17 5, gm 4 17]) .ret) .skip)))) (os [gp 18 (.bin 0 .add (.s 8) (kk 1)), gm 8 18]))))))) (.seq (os [gz 4 (-1)]) .ret)))
set_option maxRecDepth 100000 in
theorem ok83 : compileFn Tryd.prog M 83 = some (19, c83, [(.mov (.s 4))]) := by kernel_rfl
end Go.Proofs.YtdgcpjfffpkhkaaDoor
set_option maxRecDepth 100000
namespace Go.Proofs.YtdgcpjfffpkhkaaDoor
open Go.Gov
set_option maxRecDepth 100000 in
def c27 : ACode := (.seq (os [gz 4 0]) (.seq (.seq (os [gz 5 0]) (.block 0 (.loop (.seq (.seq (os [gm 6 5, gm 7 0, gp 8 (.len (.s 7)), gp 9 (.bin 0 .lss (.s 6) (.s 8))]) (.cond (.s 9) .skip (.exit 0))) (.seq (.block 1 (.seq (os [gm 12 0, gm 13 5, gm 14 1, gp 15 (.idx 1 (.s 12) (.s 13)), ⟨none, none, (.store 1 (.s 15) (.s 14))⟩]) (os [gm 16 1, gp 17 (.bin 0 .add (.s 16) (kk 1)), gm 1 17]))) (os [gm 10 5, gp 11 (.bin 0 .add (.s 10) (kk 1)), gm 5 11])))))) (.seq (os [gm 18 1, gm 4 18]) .ret)))
set_option maxRecDepth 100000 in
theorem ok27 : compileFn Tryd.prog M 27 = some (19, c27, [(.mov (.s 4))]) := by kernel_rfl
set_option maxRecDepth 100000 in
def c28 : ACode := (.seq (os [gz 4 0]) (.seq (.seq (os [gz 5 0]) (.block 0 (.loop (.seq (.seq (os [gm 6 5, gm 7 0, gp 8 (.len (.s 7)), gp 9 (.bin 0 .lss (.s 6) (.s 8))]) (.cond (.s 9) .skip (.exit 0))) (.seq (.block 1 (.seq (.seq (os [gm 12 0, gm 13 5, gp 14 (.idx 1 (.s 12) (.s 13)), gp 15 (ldi 14), gm 16 1, gp 17 (.bin 0 .neq (.s 15) (.s 16))]) (.cond (.s 17) (.seq (os [gz 4 (-1)]) .ret) .skip)) (os [gm 18 1, gp 19 (.bin 0 .add (.s 18) (kk 1)), gm 1 19]))) (os [gm 10 5, gp 11 (.bin 0 .add (.s 10) (kk 1)), gm 5 11])))))) (.seq (os [gm 20 1, gm 4 20]) .ret)))
set_option maxRecDepth 100000 in
theorem ok28 : compileFn Tryd.prog M 28 = some (21, c28, [(.mov (.s 4))]) := by kernel_rfl
set_option maxRecDepth 100000 in
def c20 : ACode := (.seq (os [gz 4 0]) (.seq (.seq (os [gz 5 0]) (.block 0 (.loop (.seq (.seq (os [gm 6 5, gm 7 0, gp 8 (.len (.s 7)), gp 9 (.bin 0 .lss (.s 6) (.s 8))]) (.cond (.s 9) .skip (.exit 0))) (.seq (.block 1 (os [gm 12 0, gm 13 5, gp 14 (.idx 1 (.s 12) (.s 13)), gp 15 (.load (.slc 1 0 []) (.s 14)), gm 16 1, gp 17 (.call 27 [(.s 15), (.s 16)]), gm 1 17])) (os [gm 10 5, gp 11 (.bin 0 .add (.s 10) (kk 1)), gm 5 11])))))) (.seq (os [gm 18 1, gm 4 18]) .ret)))
set_option maxRecDepth 100000 in
theorem ok20 : compileFn Tryd.prog M 20 = some (19, c20, [(.mov (.s 4))]) := by kernel_rfl
set_option maxRecDepth 100000 in
def c21 : ACode := (.seq (os [gz 4 0]) (.seq (.seq (os [gz 5 0]) (.block 0 (.loop (.seq (.seq (os [gm 6 5, gm 7 0, gp 8 (.len (.s 7)), gp 9 (.bin 0 .lss (.s 6) (.s 8))]) (.cond (.s 9) .skip (.exit 0))) (.seq (.block 1 (.seq (os [gm 12 0, gm 13 5, gp 14 (.idx 1 (.s 12) (.s 13)), gp 15 (.load (.slc 1 0 []) (.s 14)), gm 16 1, gp 17 (.call 28 [(.s 15), (.s 16)]), gm 1 17]) (.seq (os [gm 18 1, gp 19 (.bin 0 .lss (.s 18) (kk 0))]) (.cond (.s 19) (.seq (os [gz 4 (-1)]) .ret) .skip)))) (os [gm 10 5, gp 11 (.bin 0 .add (.s 10) (kk 1)), gm 5 11])))))) (.seq (os [gm 20 1, gm 4 20]) .ret)))
set_option maxRecDepth 100000 in
theorem ok21 : compileFn Tryd.prog M 21 = some (21, c21, [(.mov (.s 4))]) := by kernel_rfl
end Go.Proofs.YtdgcpjfffpkhkaaDoor
set_option maxRecDepth 100000
namespace Go.Proofs.YtdgcpjfffpkhkaaDoor
open Go.Gov
end Go.Proofs.YtdgcpjfffpkhkaaDoor
