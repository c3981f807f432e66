/- Texts that belong together. -/
import Derived.Test.YtnncgfapobilaaaGreatDoorProg
import Derived.Test.YtnncgfapobilaaaGreatDoorZc
set_option linter.unusedSimpArgs false
set_option linter.unusedVariables false
set_option maxRecDepth 100000
namespace Go.Proofs.YtnncgfapobilaaaGreatDoor
section
open Go.Gov
def M : List Nat := [134, 999999]
def c97 : ACode := (.seq (os [gp 6 (.mov (.c (.bool false)))]) (.seq (os [gm 7 0, gm 8 1, gp 9 (.bin 0 .geq (.s 7) (.s 8)), gm 10 9, gq 11 10 true (.mov (.s 0)), gq 12 10 true (.mov (.s 2)), gq 13 10 true (.bin 0 .leq (.s 11) (.s 12)), gp 14 (.pick (.s 10) (.s 13) (.c (.bool false))), gm 6 14]) .ret))
theorem ok97 : compileFn Tryz.prog M 97 = some (15, c97, [(.mov (.s 6))]) := by kernel_rfl
def c130 : ACode := (.seq (os [gp 4 (.mov (.c (.bool false)))]) (.seq (os [gm 5 0, gm 6 1, gp 7 (.call 158 [(.s 5), (.s 6)]), gp 8 (.bin 0 .geq (.s 7) (kk 0)), gm 4 8]) .ret))
theorem ok130 : compileFn Tryz.prog M 130 = some (9, c130, [(.mov (.s 4))]) := by kernel_rfl
def c158 : ACode := (.seq (os [gz 4 0]) (.seq (.seq (os [gz 5 0]) (.block 0 (.loop (.seq (.seq (os [gm 6 5, gm 7 0, gp 8 (.len (.s 7)), gp 9 (.bin 0 .lss (.s 6) (.s 8))]) (.cond (.s 9) .skip (.exit 0))) (.seq (.block 1 (.seq (os [gm 12 0, gm 13 5, gp 14 (.idx 1 (.s 12) (.s 13)), gp 15 (ldi 14), gm 16 1, gp 17 (.bin 0 .eql (.s 15) (.s 16))]) (.cond (.s 17) (.seq (os [gm 18 5, gm 4 18]) .ret) .skip))) (os [gm 10 5, gp 11 (.bin 0 .add (.s 10) (kk 1)), gm 5 11])))))) (.seq (os [gz 4 (-1)]) .ret)))
theorem ok158 : compileFn Tryz.prog M 158 = some (19, c158, [(.mov (.s 4))]) := by kernel_rfl
def c71 : ACode := (.seq (os [gp 6 (.mov (.c (.bool false)))]) (.seq (os [gm 7 0, gm 8 1, gp 9 (.bin 0 .geq (.s 7) (.s 8)), gm 10 9, gq 11 10 true (.mov (.s 0)), gq 12 10 true (.mov (.s 2)), gq 13 10 true (.bin 0 .leq (.s 11) (.s 12)), gp 14 (.pick (.s 10) (.s 13) (.c (.bool false))), gm 6 14]) .ret))
theorem ok71 : compileFn Tryz.prog M 71 = some (15, c71, [(.mov (.s 6))]) := by kernel_rfl
def c87 : ACode := (.seq (os [gz 2 0]) (.seq (os [gm 3 0, gp 4 (.len (.s 3)), gm 2 4]) .ret))
theorem ok87 : compileFn Tryz.prog M 87 = some (5, c87, [(.mov (.s 2))]) := by kernel_rfl
def c157 : ACode := (.seq (os [gp 2 (.mov (.c (.bool false)))]) (.seq (os [gm 3 0, gm 4 0, gp 5 (.bin 0 .neq (.s 3) (.s 4)), gm 2 5]) .ret))
theorem ok157 : compileFn Tryz.prog M 157 = some (6, c157, [(.mov (.s 2))]) := by kernel_rfl
def c15 : ACode := (.seq (os [gp 4 (.mov (.c (.bool false)))]) (.seq (.seq (os [gm 6 0, gp 7 (.len (.s 6)), gm 8 1, gp 9 (.len (.s 8)), gp 10 (.bin 0 .neq (.s 7) (.s 9))]) (.cond (.s 10) (.seq (os [gp 4 (.mov (.c (.bool false)))]) .ret) .skip)) (.seq (.seq (os [gz 5 0]) (.block 0 (.loop (.seq (.seq (os [gm 11 5, gm 12 0, gp 13 (.len (.s 12)), gp 14 (.bin 0 .lss (.s 11) (.s 13))]) (.cond (.s 14) .skip (.exit 0))) (.seq (.block 1 (.seq (.ops [gm 17 0, gm 18 5, gp 19 (.idx 1 (.s 17) (.s 18)), gp 20 (ldi 19), gm 21 1, gm 22 5, gp 23 (.idx 1 (.s 21) (.s 22)), gp 24 (ldi 23), gp 25 (.bin 0 .neq (.s 20) (.s 24))] []) (.cond (.s 25) (.seq (os [gp 4 (.mov (.c (.bool false)))]) .ret) .skip))) (os [gm 15 5, gp 16 (.bin 0 .add (.s 15) (kk 1)), gm 5 16])))))) (.seq (os [gp 4 (.mov (.c (.bool true)))]) .ret))))
theorem ok15 : compileFn Tryz.prog M 15 = some (26, c15, [(.mov (.s 4))]) := by kernel_rfl
def c150 : ACode := (.seq (os [gp 4 (.box (.s 1)), gp 5 (.box (.s 2)), gp 6 (.mov (.c (.bool false)))]) (.seq (os [gm 7 0, gp 8 (.fn 181 [] [(.s 4), (.s 5)]), gp 9 (.call 115 [(.s 7), (.s 8)]), gp 10 (.not (.s 9)), gm 6 10]) .ret))
theorem ok150 : compileFn Tryz.prog M 150 = some (11, c150, [(.mov (.s 6))]) := by kernel_rfl
def c181 : ACode := (.seq (os [gp 4 (.mov (.c (.bool false)))]) (.seq (os [gm 5 0, gp 6 (ldi 1), gp 7 (ldi 2), gp 8 (.call 71 [(.s 5), (.s 6), (.s 7)]), gp 9 (.not (.s 8)), gm 4 9]) .ret))
theorem ok181 : compileFn Tryz.prog M 181 = some (10, c181, [(.mov (.s 4))]) := by kernel_rfl
def c115 : ACode := (.seq (os [gp 4 (.mov (.c (.bool false)))]) (.seq (os [gm 5 0, gm 6 1, gp 7 (.call 146 [(.s 5), (.s 6)]), gp 8 (.bin 0 .geq (.s 7) (kk 0)), gm 4 8]) .ret))
theorem ok115 : compileFn Tryz.prog M 115 = some (9, c115, [(.mov (.s 4))]) := by kernel_rfl
def c146 : ACode := (.seq (os [gz 4 0]) (.seq (.seq (os [gm 6 0, gp 7 (.len (.s 6)), gz 8 0]) (.block 0 (.loop (.seq (os [gp 9 (.bin 0 .lss (.s 8) (.s 7))]) (.seq (.cond (.s 9) .skip (.exit 0)) (.seq (.block 1 (.seq (os [gm 10 8, gm 5 10]) (.seq (os [gm 11 1, gm 12 0, gm 13 5, gp 14 (.idx 1 (.s 12) (.s 13)), gp 15 (ldi 14), gp 16 (.callv (.s 11) [(.s 15)])]) (.cond (.s 16) (.seq (os [gm 17 5, gm 4 17]) .ret) .skip)))) (os [gp 18 (.bin 0 .add (.s 8) (kk 1)), gm 8 18]))))))) (.seq (os [gz 4 (-1)]) .ret)))
theorem ok146 : compileFn Tryz.prog M 146 = some (19, c146, [(.mov (.s 4))]) := by kernel_rfl
end
section
open Go.Gov
def c16 : ACode := (.seq (os [gz 4 0]) (.seq (.seq (os [gz 5 0]) (.block 0 (.loop (.seq (.seq (os [gm 6 5, gm 7 0, gp 8 (.len (.s 7)), gp 9 (.bin 0 .lss (.s 6) (.s 8))]) (.cond (.s 9) .skip (.exit 0))) (.seq (.block 1 (.seq (os [gm 12 0, gm 13 5, gm 14 1, gp 15 (.idx 1 (.s 12) (.s 13)), ⟨none, none, (.store 1 (.s 15) (.s 14))⟩]) (os [gm 16 1, gp 17 (.bin 0 .add (.s 16) (kk 1)), gm 1 17]))) (os [gm 10 5, gp 11 (.bin 0 .add (.s 10) (kk 1)), gm 5 11])))))) (.seq (os [gm 18 1, gm 4 18]) .ret)))
theorem ok16 : compileFn Tryz.prog M 16 = some (19, c16, [(.mov (.s 4))]) := by kernel_rfl
def c17 : ACode := (.seq (os [gz 4 0]) (.seq (.seq (os [gz 5 0]) (.block 0 (.loop (.seq (.seq (os [gm 6 5, gm 7 0, gp 8 (.len (.s 7)), gp 9 (.bin 0 .lss (.s 6) (.s 8))]) (.cond (.s 9) .skip (.exit 0))) (.seq (.block 1 (.seq (.seq (os [gm 12 0, gm 13 5, gp 14 (.idx 1 (.s 12) (.s 13)), gp 15 (ldi 14), gm 16 1, gp 17 (.bin 0 .neq (.s 15) (.s 16))]) (.cond (.s 17) (.seq (os [gz 4 (-1)]) .ret) .skip)) (os [gm 18 1, gp 19 (.bin 0 .add (.s 18) (kk 1)), gm 1 19]))) (os [gm 10 5, gp 11 (.bin 0 .add (.s 10) (kk 1)), gm 5 11])))))) (.seq (os [gm 20 1, gm 4 20]) .ret)))
theorem ok17 : compileFn Tryz.prog M 17 = some (21, c17, [(.mov (.s 4))]) := by kernel_rfl
end
section
open Go.Gov
def c133 : ACode := (.seq (os [gn 2]) (.seq (os [gz 3 0]) (.seq (.seq (os [gm 9 0, gp 10 (.len (.s 9)), gz 11 0]) (.block 0 (.loop (.seq (os [gp 12 (.bin 0 .lss (.s 11) (.s 10))]) (.seq (.cond (.s 12) .skip (.exit 0)) (.seq (.block 1 (.seq (os [gp 13 (.idx 1 (.s 9) (.s 11)), gp 14 (.load (.slc 1 0 []) (.s 13)), gm 5 14]) (.seq (os [gm 15 3, gm 16 5, gp 17 (.len (.s 16)), gp 18 (.bin 0 .add (.s 15) (.s 17)), gm 3 18]) (.seq (os [gm 19 3, gp 20 (.bin 0 .lss (.s 19) (kk 0))]) (.cond (.s 20) (os [⟨(some 21), none, .bad⟩, ⟨none, none, .bad⟩]) .skip))))) (os [gp 22 (.bin 0 .add (.s 11) (kk 1)), gm 11 22]))))))) (.seq (os [gm 23 3, gp 24 (.call 161 [(.c (.slice none 0 0)), (.s 23)]), gm 6 24]) (.seq (.seq (os [gm 25 0, gp 26 (.len (.s 25)), gz 27 0]) (.block 2 (.loop (.seq (os [gp 28 (.bin 0 .lss (.s 27) (.s 26))]) (.seq (.cond (.s 28) .skip (.exit 2)) (.seq (.block 3 (.seq (os [gp 29 (.idx 1 (.s 25) (.s 27)), gp 30 (.load (.slc 1 0 []) (.s 29)), gm 8 30]) (os [gm 31 6, gm 32 8, gp 33 (.app 1 8 (.s 31) (.s 32)), gm 6 33]))) (os [gp 34 (.bin 0 .add (.s 27) (kk 1)), gm 27 34]))))))) (.seq (os [gm 35 6, gm 2 35]) .ret))))))
theorem ok133 : compileFn Tryz.prog M 133 = some (36, c133, [(.mov (.s 2))]) := by kernel_rfl
end
end Go.Proofs.YtnncgfapobilaaaGreatDoor
