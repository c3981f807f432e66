/- Texts that belong together. -/
import Derived.Test.YtghhlcioabdpfaaDoorZc
import Derived.Test.YtghhlcioabdpfaaDoorZg
set_option linter.unusedSimpArgs false
set_option linter.unusedVariables false
set_option maxRecDepth 100000
namespace Go.Proofs.YtghhlcioabdpfaaDoor
open Go.Gov
set_option maxRecDepth 100000 in
def c25 : ACode := (.seq (os [gp 2 (.box (.s 0)), gz 4 0]) (.seq (os [gp 5 (.fld 0 (.s 2)), gp 6 (.load (.slc 1 0 []) (.s 5)), gm 7 1, gp 8 (.call 60 [(.s 6), (.s 7)]), gm 1 8]) (.seq (.seq (os [gm 9 1, gp 10 (.bin 0 .lss (.s 9) (kk 0))]) (.cond (.s 10) (.seq (os [gz 4 (-1)]) .ret) .skip)) (.seq (os [gm 11 1, gm 4 11]) .ret))))
set_option maxRecDepth 100000 in
theorem ok25 : compileFn Tryd.prog M 25 = some (12, c25, [(.mov (.s 4))]) := by kernel_rfl
set_option maxRecDepth 100000 in
def c126 : ACode := (.seq (os [gp 4 (.mov (.c (.bool false)))]) (.seq (.seq (os [gm 6 0, gp 7 (.len (.s 6)), gm 8 1, gp 9 (.len (.s 8)), gp 10 (.bin 0 .neq (.s 7) (.s 9))]) (.cond (.s 10) (.seq (os [gp 4 (.mov (.c (.bool false)))]) .ret) .skip)) (.seq (.seq (os [gm 11 0, gp 12 (.len (.s 11)), gz 13 0]) (.block 0 (.loop (.seq (os [gp 14 (.bin 0 .lss (.s 13) (.s 12))]) (.seq (.cond (.s 14) .skip (.exit 0)) (.seq (.block 1 (.seq (os [gm 15 13, gm 5 15]) (.seq (.ops [gm 16 0, gm 17 5, gp 18 (.idx 1 (.s 16) (.s 17)), gp 19 (ldi 18), gm 20 1, gm 21 5, gp 22 (.idx 1 (.s 20) (.s 21)), gp 23 (ldi 22), gp 24 (.bin 0 .neq (.s 19) (.s 23))] []) (.cond (.s 24) (.seq (os [gp 4 (.mov (.c (.bool false)))]) .ret) .skip)))) (os [gp 25 (.bin 0 .add (.s 13) (kk 1)), gm 13 25]))))))) (.seq (os [gp 4 (.mov (.c (.bool true)))]) .ret))))
set_option maxRecDepth 100000 in
theorem ok126 : compileFn Tryd.prog M 126 = some (26, c126, [(.mov (.s 4))]) := by kernel_rfl
set_option maxRecDepth 100000 in
def c112 : ACode := (.seq (os [gn 2]) (.seq (os [gp 3 (.bsl 0 []), gm 4 0, gp 5 (.app 1 8 (.s 3) (.s 4)), gm 2 5]) .ret))
set_option maxRecDepth 100000 in
theorem ok112 : compileFn Tryd.prog M 112 = some (6, c112, [(.mov (.s 2))]) := by kernel_rfl
set_option maxRecDepth 100000 in
def c98 : ACode := (.seq (os [gn 2]) (.seq (.seq (os [gm 3 0, gp 4 (.bin 2 .eql (.s 3) (.c (.slice none 0 0)))]) (.cond (.s 4) (.seq (os [gn 2]) .ret) .skip)) (.seq (os [gp 5 (.bsl 0 []), gm 6 0, gp 7 (.app 1 8 (.s 5) (.s 6)), gm 2 7]) .ret)))
set_option maxRecDepth 100000 in
theorem ok98 : compileFn Tryd.prog M 98 = some (8, c98, [(.mov (.s 2))]) := by kernel_rfl
end Go.Proofs.YtghhlcioabdpfaaDoor
