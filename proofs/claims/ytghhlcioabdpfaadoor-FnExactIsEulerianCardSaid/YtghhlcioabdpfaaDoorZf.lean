/- Texts that belong together. -/
import Derived.Test.YtghhlcioabdpfaaDoorProg
import Derived.Test.YtghhlcioabdpfaaDoorZc
set_option linter.unusedSimpArgs false
set_option linter.unusedVariables false
set_option maxRecDepth 100000
namespace Go.Proofs.YtghhlcioabdpfaaDoor
open Go.Gov
def M : List Nat := [999999]
set_option maxRecDepth 100000 in
def c71 : ACode := (.seq (os [gp 6 (.mov (.c (.bool false)))]) (.seq (os [gm 7 0, gm 8 1, gp 9 (.bin 0 .geq (.s 7) (.s 8)), gm 10 9, gq 11 10 true (.mov (.s 0)), gq 12 10 true (.mov (.s 2)), gq 13 10 true (.bin 0 .leq (.s 11) (.s 12)), gp 14 (.pick (.s 10) (.s 13) (.c (.bool false))), gm 6 14]) .ret))
set_option maxRecDepth 100000 in
theorem ok71 : compileFn Tryd.prog M 71 = some (15, c71, [(.mov (.s 6))]) := by kernel_rfl
set_option maxRecDepth 100000 in
def c66 : ACode := (.seq (os [gp 4 (.mov (.c (.bool false)))]) (.seq (os [gm 5 0, gm 6 1, gp 7 (.call 78 [(.s 5), (.s 6)]), gp 8 (.bin 0 .geq (.s 7) (kk 0)), gm 4 8]) .ret))
set_option maxRecDepth 100000 in
theorem ok66 : compileFn Tryd.prog M 66 = some (9, c66, [(.mov (.s 4))]) := by kernel_rfl
set_option maxRecDepth 100000 in
def c78 : ACode := (.seq (os [gz 4 0]) (.seq (.seq (os [gz 5 0]) (.block 0 (.loop (.seq (.seq (os [gm 6 5, gm 7 0, gp 8 (.len (.s 7)), gp 9 (.bin 0 .lss (.s 6) (.s 8))]) (.cond (.s 9) .skip (.exit 0))) (.seq (.block 1 (.seq (os [gm 12 0, gm 13 5, gp 14 (.idx 1 (.s 12) (.s 13)), gp 15 (ldi 14), gm 16 1, gp 17 (.bin 0 .eql (.s 15) (.s 16))]) (.cond (.s 17) (.seq (os [gm 18 5, gm 4 18]) .ret) .skip))) (os [gm 10 5, gp 11 (.bin 0 .add (.s 10) (kk 1)), gm 5 11])))))) (.seq (os [gz 4 (-1)]) .ret)))
set_option maxRecDepth 100000 in
theorem ok78 : compileFn Tryd.prog M 78 = some (19, c78, [(.mov (.s 4))]) := by kernel_rfl
set_option maxRecDepth 100000 in
def c79 : ACode := (.seq (os [gp 6 (.mov (.c (.bool false)))]) (.seq (os [gm 7 0, gm 8 1, gp 9 (.bin 0 .geq (.s 7) (.s 8)), gm 10 9, gq 11 10 true (.mov (.s 0)), gq 12 10 true (.mov (.s 2)), gq 13 10 true (.bin 0 .leq (.s 11) (.s 12)), gp 14 (.pick (.s 10) (.s 13) (.c (.bool false))), gm 6 14]) .ret))
set_option maxRecDepth 100000 in
theorem ok79 : compileFn Tryd.prog M 79 = some (15, c79, [(.mov (.s 6))]) := by kernel_rfl
set_option maxRecDepth 100000 in
def c80 : ACode := (.seq (os [gz 2 0]) (.seq (os [gm 3 0, gp 4 (.len (.s 3)), gm 2 4]) .ret))
set_option maxRecDepth 100000 in
theorem ok80 : compileFn Tryd.prog M 80 = some (5, c80, [(.mov (.s 2))]) := by kernel_rfl
set_option maxRecDepth 100000 in
def c146 : ACode := (.seq (os [gp 2 (.mov (.c (.bool false)))]) (.seq (os [gm 3 0, gm 4 0, gp 5 (.bin 0 .neq (.s 3) (.s 4)), gm 2 5]) .ret))
set_option maxRecDepth 100000 in
theorem ok146 : compileFn Tryd.prog M 146 = some (6, c146, [(.mov (.s 2))]) := by kernel_rfl
set_option maxRecDepth 100000 in
def c52 : ACode := (.seq (os [gn 2]) (.seq (os [gm 5 0, gp 6 (.len (.s 5)), gp 7 (.mk 1 8 [(.int .i64 0)] (.s 6)), gm 3 7]) (.seq (.seq (os [gz 4 0]) (.block 0 (.loop (.seq (.seq (os [gm 8 4, gm 9 0, gp 10 (.len (.s 9)), gp 11 (.bin 0 .lss (.s 8) (.s 10))]) (.cond (.s 11) .skip (.exit 0))) (.seq (.block 1 (os [gm 14 3, gm 15 4, gm 16 0, gm 17 4, gp 18 (.idx 1 (.s 16) (.s 17)), gp 19 (ldi 18), gp 20 (.idx 1 (.s 14) (.s 15)), ⟨none, none, (.store 1 (.s 20) (.s 19))⟩])) (os [gm 12 4, gp 13 (.bin 0 .add (.s 12) (kk 1)), gm 4 13])))))) (.seq (os [gm 21 3, gm 2 21]) .ret))))
set_option maxRecDepth 100000 in
theorem ok52 : compileFn Tryd.prog M 52 = some (22, c52, [(.mov (.s 2))]) := by kernel_rfl
set_option maxRecDepth 100000 in
def c42 : ACode := (.seq (os [gn 2]) (.seq (os [gm 5 0, gp 6 (.len (.s 5)), gp 7 (.mk 1 24 [(.slice none 0 0)] (.s 6)), gm 3 7]) (.seq (.seq (os [gz 4 0]) (.block 0 (.loop (.seq (.seq (os [gm 8 4, gm 9 0, gp 10 (.len (.s 9)), gp 11 (.bin 0 .lss (.s 8) (.s 10))]) (.cond (.s 11) .skip (.exit 0))) (.seq (.block 1 (os [gm 14 3, gm 15 4, gm 16 0, gm 17 4, gp 18 (.idx 1 (.s 16) (.s 17)), gp 19 (.load (.slc 1 0 []) (.s 18)), gp 20 (.call 52 [(.s 19)]), gp 21 (.idx 1 (.s 14) (.s 15)), ⟨none, none, (.store 1 (.s 21) (.s 20))⟩])) (os [gm 12 4, gp 13 (.bin 0 .add (.s 12) (kk 1)), gm 4 13])))))) (.seq (os [gm 22 3, gm 2 22]) .ret))))
set_option maxRecDepth 100000 in
theorem ok42 : compileFn Tryd.prog M 42 = some (23, c42, [(.mov (.s 2))]) := by kernel_rfl
set_option maxRecDepth 100000 in
def c55 : ACode := (.seq (os [gp 4 (.mov (.c (.bool false)))]) (.seq (.seq (os [gm 6 0, gp 7 (.len (.s 6)), gm 8 1, gp 9 (.len (.s 8)), gp 10 (.bin 0 .neq (.s 7) (.s 9))]) (.cond (.s 10) (.seq (os [gp 4 (.mov (.c (.bool false)))]) .ret) .skip)) (.seq (.seq (os [gz 5 0]) (.block 0 (.loop (.seq (.seq (os [gm 11 5, gm 12 0, gp 13 (.len (.s 12)), gp 14 (.bin 0 .lss (.s 11) (.s 13))]) (.cond (.s 14) .skip (.exit 0))) (.seq (.block 1 (.seq (.ops [gm 17 0, gm 18 5, gp 19 (.idx 1 (.s 17) (.s 18)), gp 20 (ldi 19), gm 21 1, gm 22 5, gp 23 (.idx 1 (.s 21) (.s 22)), gp 24 (ldi 23), gp 25 (.bin 0 .neq (.s 20) (.s 24))] []) (.cond (.s 25) (.seq (os [gp 4 (.mov (.c (.bool false)))]) .ret) .skip))) (os [gm 15 5, gp 16 (.bin 0 .add (.s 15) (kk 1)), gm 5 16])))))) (.seq (os [gp 4 (.mov (.c (.bool true)))]) .ret))))
set_option maxRecDepth 100000 in
theorem ok55 : compileFn Tryd.prog M 55 = some (26, c55, [(.mov (.s 4))]) := by kernel_rfl
set_option maxRecDepth 100000 in
def c45 : ACode := (.seq (os [gp 4 (.mov (.c (.bool false)))]) (.seq (.seq (os [gm 6 0, gp 7 (.len (.s 6)), gm 8 1, gp 9 (.len (.s 8)), gp 10 (.bin 0 .neq (.s 7) (.s 9))]) (.cond (.s 10) (.seq (os [gp 4 (.mov (.c (.bool false)))]) .ret) .skip)) (.seq (.seq (os [gz 5 0]) (.block 0 (.loop (.seq (.seq (os [gm 11 5, gm 12 0, gp 13 (.len (.s 12)), gp 14 (.bin 0 .lss (.s 11) (.s 13))]) (.cond (.s 14) .skip (.exit 0))) (.seq (.block 1 (.seq (.ops [gm 17 0, gm 18 5, gp 19 (.idx 1 (.s 17) (.s 18)), gp 20 (.load (.slc 1 0 []) (.s 19)), gm 21 1, gm 22 5, gp 23 (.idx 1 (.s 21) (.s 22)), gp 24 (.load (.slc 1 0 []) (.s 23)), gp 25 (.call 55 [(.s 20), (.s 24)]), gp 26 (.not (.s 25))] []) (.cond (.s 26) (.seq (os [gp 4 (.mov (.c (.bool false)))]) .ret) .skip))) (os [gm 15 5, gp 16 (.bin 0 .add (.s 15) (kk 1)), gm 5 16])))))) (.seq (os [gp 4 (.mov (.c (.bool true)))]) .ret))))
set_option maxRecDepth 100000 in
theorem ok45 : compileFn Tryd.prog M 45 = some (27, c45, [(.mov (.s 4))]) := by kernel_rfl
set_option maxRecDepth 100000 in
def c49 : ACode := (.seq (os [gz 4 0]) (.seq (os [gm 5 1, gm 6 0, gp 7 (.len (.s 6)), gp 8 (.bin 0 .sub (.s 5) (.s 7)), gm 1 8]) (.seq (.seq (os [gm 9 1, gp 10 (.bin 0 .lss (.s 9) (kk 0))]) (.cond (.s 10) (.seq (os [gz 4 (-1)]) .ret) .skip)) (.seq (os [gm 11 1, gm 4 11]) .ret))))
set_option maxRecDepth 100000 in
theorem ok49 : compileFn Tryd.prog M 49 = some (12, c49, [(.mov (.s 4))]) := by kernel_rfl
set_option maxRecDepth 100000 in
def c33 : ACode := (.seq (os [gz 4 0]) (.seq (os [gm 6 1, gm 7 0, gp 8 (.len (.s 7)), gp 9 (.bin 0 .sub (.s 6) (.s 8)), gm 1 9]) (.seq (.seq (os [gm 10 1, gp 11 (.bin 0 .lss (.s 10) (kk 0))]) (.cond (.s 11) (.seq (os [gz 4 (-1)]) .ret) .skip)) (.seq (.seq (os [gz 5 0]) (.block 0 (.loop (.seq (.seq (os [gm 12 5, gm 13 0, gp 14 (.len (.s 13)), gp 15 (.bin 0 .lss (.s 12) (.s 14))]) (.cond (.s 15) .skip (.exit 0))) (.seq (.block 1 (.seq (os [gm 18 0, gm 19 5, gp 20 (.idx 1 (.s 18) (.s 19)), gp 21 (.load (.slc 1 0 []) (.s 20)), gm 22 1, gp 23 (.call 49 [(.s 21), (.s 22)]), gm 1 23]) (.seq (os [gm 24 1, gp 25 (.bin 0 .lss (.s 24) (kk 0))]) (.cond (.s 25) (.seq (os [gz 4 (-1)]) .ret) .skip)))) (os [gm 16 5, gp 17 (.bin 0 .add (.s 16) (kk 1)), gm 5 17])))))) (.seq (os [gm 26 1, gm 4 26]) .ret)))))
set_option maxRecDepth 100000 in
theorem ok33 : compileFn Tryd.prog M 33 = some (27, c33, [(.mov (.s 4))]) := by kernel_rfl
set_option maxRecDepth 100000 in
def c81 : ACode := (.seq (os [gp 4 (.box (.s 1)), gp 5 (.box (.s 2)), gp 6 (.mov (.c (.bool false)))]) (.seq (os [gm 7 0, gp 8 (.fn 116 [] [(.s 4), (.s 5)]), gp 9 (.call 115 [(.s 7), (.s 8)]), gp 10 (.not (.s 9)), gm 6 10]) .ret))
set_option maxRecDepth 100000 in
theorem ok81 : compileFn Tryd.prog M 81 = some (11, c81, [(.mov (.s 6))]) := by kernel_rfl
set_option maxRecDepth 100000 in
def c116 : ACode := (.seq (os [gp 4 (.mov (.c (.bool false)))]) (.seq (os [gm 5 0, gp 6 (ldi 1), gp 7 (ldi 2), gp 8 (.call 79 [(.s 5), (.s 6), (.s 7)]), gp 9 (.not (.s 8)), gm 4 9]) .ret))
set_option maxRecDepth 100000 in
theorem ok116 : compileFn Tryd.prog M 116 = some (10, c116, [(.mov (.s 4))]) := by kernel_rfl
set_option maxRecDepth 100000 in
def c115 : ACode := (.seq (os [gp 4 (.mov (.c (.bool false)))]) (.seq (os [gm 5 0, gm 6 1, gp 7 (.call 145 [(.s 5), (.s 6)]), gp 8 (.bin 0 .geq (.s 7) (kk 0)), gm 4 8]) .ret))
set_option maxRecDepth 100000 in
theorem ok115 : compileFn Tryd.prog M 115 = some (9, c115, [(.mov (.s 4))]) := by kernel_rfl
set_option maxRecDepth 100000 in
def c145 : ACode := (.seq (os [gz 4 0]) (.seq (.seq (os [gm 6 0, gp 7 (.len (.s 6)), gz 8 0]) (.block 0 (.loop (.seq (os [gp 9 (.bin 0 .lss (.s 8) (.s 7))]) (.seq (.cond (.s 9) .skip (.exit 0)) (.seq (.block 1 (.seq (os [gm 10 8, gm 5 10]) (.seq (os [gm 11 1, gm 12 0, gm 13 5, gp 14 (.idx 1 (.s 12) (.s 13)), gp 15 (ldi 14), gp 16 (.callv (.s 11) [(.s 15)])]) (.cond (.s 16) (.seq (os [gm 17 5, gm 4 17]) .ret) .skip)))) (os [gp 18 (.bin 0 .add (.s 8) (kk 1)), gm 8 18]))))))) (.seq (os [gz 4 (-1)]) .ret)))
set_option maxRecDepth 100000 in
theorem ok145 : compileFn Tryd.prog M 145 = some (19, c145, [(.mov (.s 4))]) := by kernel_rfl
end Go.Proofs.YtghhlcioabdpfaaDoor
set_option maxRecDepth 100000
namespace Go.Proofs.YtghhlcioabdpfaaDoor
open Go.Gov
end Go.Proofs.YtghhlcioabdpfaaDoor
set_option maxRecDepth 100000
namespace Go.Proofs.YtghhlcioabdpfaaDoor
open Go.Gov
end Go.Proofs.YtghhlcioabdpfaaDoor
