/- Texts that belong together. -/
import Derived.Test.YtfcbamfkfadabaaGreatDoorZc
import Derived.Test.YtfcbamfkfadabaaGreatDoorZf
set_option linter.unusedSimpArgs false
set_option linter.unusedVariables false
set_option maxRecDepth 100000
namespace Go.Proofs.YtfcbamfkfadabaaGreatDoor
open Go.Gov
set_option maxRecDepth 100000 in
def c156 : ACode := (.seq (os [gn 4]) (.seq (.seq (os [gm 9 1, gp 10 (.bin 0 .lss (.s 9) (kk 0))]) (.cond (.s 10) (os [⟨(some 11), none, .bad⟩, ⟨none, none, .bad⟩]) .skip)) (.seq (os [gm 13 0, gp 14 (.len (.s 13)), gp 15 (.conv .u64 (.s 14)), gm 16 1, gp 17 (.conv .u64 (.s 16)), gp 18 (.call 202 [(.s 15), (.s 17)]), gm 12 18, gp 19 (.ext (.s 12) 0), gp 20 (.ext (.s 12) 1), gm 5 19, gm 6 20]) (.seq (.seq (os [gm 21 5, gp 22 (.bin 0 .gtr (.s 21) (.c (.int .u64 0))), gm 23 22, gq 24 23 false (.mov (.s 6)), gq 25 23 false (.bin 0 .gtr (.s 24) (.c (.int .u64 9223372036854775807))), gp 26 (.pick (.s 23) (.c (.bool true)) (.s 25))]) (.cond (.s 26) (os [⟨(some 27), none, .bad⟩, ⟨none, none, .bad⟩]) .skip)) (.seq (os [gm 28 6, gp 29 (.conv .i64 (.s 28)), gp 30 (.mk 1 8 [(.int .i64 0)] (.s 29)), gm 7 30]) (.seq (os [gm 31 7, gm 32 0, gp 33 (.cpy (.s 31) (.s 32)), gm 8 33]) (.seq (.block 0 (.loop (.seq (.seq (os [gm 34 8, gm 35 7, gp 36 (.len (.s 35)), gp 37 (.bin 0 .lss (.s 34) (.s 36))]) (.cond (.s 37) .skip (.exit 0))) (.block 1 (.alts (.reg (gm 38 8) (.reg (gm 39 7) (.reg (gm 40 8) (.reg (gp 41 (.slice 1 (.s 39) (some (.s 40)) none)) (.reg (gm 42 7) (.reg (gm 43 8) (.reg (gp 44 (.slice 1 (.s 42) none (some (.s 43)))) (.alt false (gp 45 (.cpy (.s 41) (.s 44))) (.reg (gp 46 (.bin 0 .add (.s 38) (.s 45))) (.reg (gm 8 46) .fin)) .fin))))))))))))) (.seq (os [gm 47 7, gm 4 47]) .ret))))))))
set_option maxRecDepth 100000 in
theorem ok156 : compileFn Tryz.prog M 156 = some (48, c156, [(.mov (.s 4))]) := by kernel_rfl
end Go.Proofs.YtfcbamfkfadabaaGreatDoor
set_option maxRecDepth 100000
namespace Go.Proofs.YtfcbamfkfadabaaGreatDoor
open Go.Gov
end Go.Proofs.YtfcbamfkfadabaaGreatDoor
