/- Texts that belong together. -/
import Derived.Test.YtfcbamfkfadabaaGreatDoorZc
import Derived.Test.YtfcbamfkfadabaaGreatDoorZg
set_option linter.unusedSimpArgs false
set_option linter.unusedVariables false
set_option maxRecDepth 100000
namespace Go.Proofs.YtfcbamfkfadabaaGreatDoor
open Go.Gov
set_option maxRecDepth 100000 in
def c93 : ACode := (.seq (os [gp 4 (.mov (.c (.bool false)))]) (.seq (.seq (os [gm 6 0, gp 7 (.len (.s 6)), gm 8 1, gp 9 (.len (.s 8)), gp 10 (.bin 0 .neq (.s 7) (.s 9))]) (.cond (.s 10) (.seq (os [gp 4 (.mov (.c (.bool false)))]) .ret) .skip)) (.seq (.seq (os [gm 11 0, gp 12 (.len (.s 11)), gz 13 0]) (.block 0 (.loop (.seq (os [gp 14 (.bin 0 .lss (.s 13) (.s 12))]) (.seq (.cond (.s 14) .skip (.exit 0)) (.seq (.block 1 (.seq (os [gm 15 13, gm 5 15]) (.seq (.ops [gm 16 0, gm 17 5, gp 18 (.idx 1 (.s 16) (.s 17)), gp 19 (ldi 18), gm 20 1, gm 21 5, gp 22 (.idx 1 (.s 20) (.s 21)), gp 23 (ldi 22), gp 24 (.bin 0 .neq (.s 19) (.s 23))] []) (.cond (.s 24) (.seq (os [gp 4 (.mov (.c (.bool false)))]) .ret) .skip)))) (os [gp 25 (.bin 0 .add (.s 13) (kk 1)), gm 13 25]))))))) (.seq (os [gp 4 (.mov (.c (.bool true)))]) .ret))))
set_option maxRecDepth 100000 in
theorem ok93 : compileFn Tryz.prog M 93 = some (26, c93, [(.mov (.s 4))]) := by kernel_rfl
set_option maxRecDepth 100000 in
def c182 : ACode := (.seq (os [gn 2]) (.seq (.seq (os [gm 3 0, gp 4 (.bin 2 .eql (.s 3) (.c (.slice none 0 0)))]) (.cond (.s 4) (.seq (os [gn 2]) .ret) .skip)) (.seq (os [gp 5 (.bsl 0 []), gm 6 0, gp 7 (.app 1 8 (.s 5) (.s 6)), gm 2 7]) .ret)))
set_option maxRecDepth 100000 in
theorem ok182 : compileFn Tryz.prog M 182 = some (8, c182, [(.mov (.s 2))]) := by kernel_rfl
set_option maxRecDepth 100000 in
def c245 : ACode := (.seq (os [gm 4 0, gp 5 (.len (.s 4)), gp 6 (.bin 0 .sub (.s 5) (kk 1)), gz 2 0, gm 3 6]) (.block 0 (.loop (.seq (.seq (os [gm 7 2, gm 8 3, gp 9 (.bin 0 .lss (.s 7) (.s 8))]) (.cond (.s 9) .skip (.exit 0))) (.seq (.block 1 (.alts (.reg (gm 14 0) (.reg (gm 15 2) (.reg (gm 16 0) (.reg (gm 17 3) (.reg (gm 18 0) (.reg (gm 19 3) (.reg (gp 20 (.idx 1 (.s 18) (.s 19))) (.reg (gm 22 0) (.reg (gm 23 2) (.reg (gp 24 (.idx 1 (.s 22) (.s 23))) (.alt false (gp 21 (ldi 20)) (.alt false (gp 25 (ldi 24)) (.reg (gp 26 (.idx 1 (.s 14) (.s 15))) (.alt false (⟨none, none, (.store 1 (.s 26) (.s 21))⟩) (.reg (gp 27 (.idx 1 (.s 16) (.s 17))) (.alt false (⟨none, none, (.store 1 (.s 27) (.s 25))⟩) .fin .fin)) .fin)) .fin) (.alt false (gp 25 (ldi 24)) (.alt false (gp 21 (ldi 20)) (.reg (gp 26 (.idx 1 (.s 14) (.s 15))) (.alt false (⟨none, none, (.store 1 (.s 26) (.s 21))⟩) (.reg (gp 27 (.idx 1 (.s 16) (.s 17))) (.alt false (⟨none, none, (.store 1 (.s 27) (.s 25))⟩) .fin .fin)) .fin)) .fin) .fin)))))))))))))) (os [gm 10 2, gp 11 (.bin 0 .add (.s 10) (kk 1)), gm 12 3, gp 13 (.bin 0 .sub (.s 12) (kk 1)), gm 2 11, gm 3 13]))))))
set_option maxRecDepth 100000 in
theorem ok245 : compileFn Tryz.prog M 245 = some (28, c245, []) := by kernel_rfl
end Go.Proofs.YtfcbamfkfadabaaGreatDoor
set_option maxRecDepth 100000
namespace Go.Proofs.YtfcbamfkfadabaaGreatDoor
open Go.Gov
end Go.Proofs.YtfcbamfkfadabaaGreatDoor
