/- Texts that belong together. -/
import Derived.Test.YtnncgfapobilaaaGreatDoorProg
import Derived.Test.YtnncgfapobilaaaGreatDoorZc
set_option linter.unusedSimpArgs false
set_option linter.unusedVariables false
set_option maxRecDepth 100000
namespace Go.Proofs.YtnncgfapobilaaaGreatDoor
open Go.Gov
def M : List Nat := [134, 999999]
def c97 : ACode := (.seq (os [gp 6 (.mov (.c (.bool false)))]) (.seq (os [gm 7 0, gm 8 1, gp 9 (.bin 0 .geq (.s 7) (.s 8)), gm 10 9, gq 11 10 true (.mov (.s 0)), gq 12 10 true (.mov (.s 2)), gq 13 10 true (.bin 0 .leq (.s 11) (.s 12)), gp 14 (.pick (.s 10) (.s 13) (.c (.bool false))), gm 6 14]) .ret))
theorem ok97 : compileFn Tryz.prog M 97 = some (15, c97, [(.mov (.s 6))]) := by kernel_rfl
def c71 : ACode := (.seq (os [gp 6 (.mov (.c (.bool false)))]) (.seq (os [gm 7 0, gm 8 1, gp 9 (.bin 0 .geq (.s 7) (.s 8)), gm 10 9, gq 11 10 true (.mov (.s 0)), gq 12 10 true (.mov (.s 2)), gq 13 10 true (.bin 0 .leq (.s 11) (.s 12)), gp 14 (.pick (.s 10) (.s 13) (.c (.bool false))), gm 6 14]) .ret))
theorem ok71 : compileFn Tryz.prog M 71 = some (15, c71, [(.mov (.s 6))]) := by kernel_rfl
def c87 : ACode := (.seq (os [gz 2 0]) (.seq (os [gm 3 0, gp 4 (.len (.s 3)), gm 2 4]) .ret))
theorem ok87 : compileFn Tryz.prog M 87 = some (5, c87, [(.mov (.s 2))]) := by kernel_rfl
def c157 : ACode := (.seq (os [gp 2 (.mov (.c (.bool false)))]) (.seq (os [gm 3 0, gm 4 0, gp 5 (.bin 0 .neq (.s 3) (.s 4)), gm 2 5]) .ret))
theorem ok157 : compileFn Tryz.prog M 157 = some (6, c157, [(.mov (.s 2))]) := by kernel_rfl
def c150 : ACode := (.seq (os [gp 4 (.box (.s 1)), gp 5 (.box (.s 2)), gp 6 (.mov (.c (.bool false)))]) (.seq (os [gm 7 0, gp 8 (.fn 181 [] [(.s 4), (.s 5)]), gp 9 (.call 115 [(.s 7), (.s 8)]), gp 10 (.not (.s 9)), gm 6 10]) .ret))
theorem ok150 : compileFn Tryz.prog M 150 = some (11, c150, [(.mov (.s 6))]) := by kernel_rfl
def c181 : ACode := (.seq (os [gp 4 (.mov (.c (.bool false)))]) (.seq (os [gm 5 0, gp 6 (ldi 1), gp 7 (ldi 2), gp 8 (.call 71 [(.s 5), (.s 6), (.s 7)]), gp 9 (.not (.s 8)), gm 4 9]) .ret))
theorem ok181 : compileFn Tryz.prog M 181 = some (10, c181, [(.mov (.s 4))]) := by kernel_rfl
def c115 : ACode := (.seq (os [gp 4 (.mov (.c (.bool false)))]) (.seq (os [gm 5 0, gm 6 1, gp 7 (.call 146 [(.s 5), (.s 6)]), gp 8 (.bin 0 .geq (.s 7) (kk 0)), gm 4 8]) .ret))
theorem ok115 : compileFn Tryz.prog M 115 = some (9, c115, [(.mov (.s 4))]) := by kernel_rfl
def c146 : ACode := (.seq (os [gz 4 0]) (.seq (.seq (os [gm 6 0, gp 7 (.len (.s 6)), gz 8 0]) (.block 0 (.loop (.seq (os [gp 9 (.bin 0 .lss (.s 8) (.s 7))]) (.seq (.cond (.s 9) .skip (.exit 0)) (.seq (.block 1 (.seq (os [gm 10 8, gm 5 10]) (.seq (os [gm 11 1, gm 12 0, gm 13 5, gp 14 (.idx 1 (.s 12) (.s 13)), gp 15 (ldi 14), gp 16 (.callv (.s 11) [(.s 15)])]) (.cond (.s 16) (.seq (os [gm 17 5, gm 4 17]) .ret) .skip)))) (os [gp 18 (.bin 0 .add (.s 8) (kk 1)), gm 8 18]))))))) (.seq (os [gz 4 (-1)]) .ret)))
theorem ok146 : compileFn Tryz.prog M 146 = some (19, c146, [(.mov (.s 4))]) := by kernel_rfl
end Go.Proofs.YtnncgfapobilaaaGreatDoor
