/- Texts that belong together. -/
import Derived.Test.YtgdijhchndjhlaaGreatDoorZc
import Derived.Test.YtgdijhchndjhlaaGreatDoorU1
set_option linter.unusedSimpArgs false
set_option linter.unusedVariables false
set_option maxRecDepth 100000
namespace Go.Proofs.YtgdijhchndjhlaaGreatDoor
open Go.Gov
set_option maxRecDepth 100000 in
def c62 : ACode := (.seq (os [gp 4 (.mov (.c (.bool false)))]) (.seq (os [gm 5 0, gm 6 1, gp 7 (.call 80 [(.s 5), (.s 6)]), gp 8 (.bin 0 .geq (.s 7) (kk 0)), gm 4 8]) .ret))
set_option maxRecDepth 100000 in
theorem ok62 : compileFn Tryz.prog M2 62 = some (9, c62, [(.mov (.s 4))]) := by kernel_rfl
set_option maxRecDepth 100000 in
def c80 : ACode := (.seq (os [gz 4 0]) (.seq (.seq (os [gm 6 0, gp 7 (.len (.s 6)), gz 8 0]) (.block 0 (.loop (.seq (os [gp 9 (.bin 0 .lss (.s 8) (.s 7))]) (.seq (.cond (.s 9) .skip (.exit 0)) (.seq (.block 1 (.seq (os [gm 10 8, gm 5 10]) (.seq (os [gm 11 1, gm 12 0, gm 13 5, gp 14 (.idx 1 (.s 12) (.s 13)), gp 15 (ldi 14), gp 16 (.bin 0 .eql (.s 11) (.s 15))]) (.cond (.s 16) (.seq (os [gm 17 5, gm 4 17]) .ret) .skip)))) (os [gp 18 (.bin 0 .add (.s 8) (kk 1)), gm 8 18]))))))) (.seq (os [gz 4 (-1)]) .ret)))
set_option maxRecDepth 100000 in
theorem ok80 : compileFn Tryz.prog M2 80 = some (19, c80, [(.mov (.s 4))]) := by kernel_rfl
set_option maxRecDepth 100000 in
def c63 : ACode := (.seq (os [gn 2]) (.seq (os [gp 5 (.bsl 0 []), gm 3 5]) (.seq (.seq (os [gz 4 0]) (.block 0 (.loop (.seq (.seq (os [gm 6 4, gm 7 0, gp 8 (.len (.s 7)), gp 9 (.bin 0 .lss (.s 6) (.s 8))]) (.cond (.s 9) .skip (.exit 0))) (.seq (.block 1 (os [gm 12 3, gm 13 0, gm 14 4, gp 15 (.idx 1 (.s 13) (.s 14)), gp 16 (.load (.slc 1 0 []) (.s 15)), gp 17 (.call 44 [(.s 16)]), ⟨(some 18), none, (.bsl 1 [⟨0, (.s 17)⟩])⟩, gp 19 (.app 1 24 (.s 12) (.s 18)), gm 3 19])) (os [gm 10 4, gp 11 (.bin 0 .add (.s 10) (kk 1)), gm 4 11])))))) (.seq (os [gm 20 3, gm 2 20]) .ret))))
set_option maxRecDepth 100000 in
theorem ok63 : compileFn Tryz.prog M2 63 = some (21, c63, [(.mov (.s 2))]) := by kernel_rfl
end Go.Proofs.YtgdijhchndjhlaaGreatDoor
