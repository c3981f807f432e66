/- Texts that belong together. -/
import Derived.Test.YtghhlcioabdpfaaDoorZc
import Derived.Test.YtghhlcioabdpfaaDoorZg
set_option linter.unusedSimpArgs false
set_option linter.unusedVariables false
set_option maxRecDepth 100000
namespace Go.Proofs.YtghhlcioabdpfaaDoor
open Go.Gov
set_option maxRecDepth 100000 in
def c113 : ACode := (.seq (os [gp 4 (.mov (.c (.bool false)))]) (.seq (.seq (os [gm 6 0, gp 7 (.len (.s 6)), gm 8 1, gp 9 (.len (.s 8)), gp 10 (.bin 0 .neq (.s 7) (.s 9))]) (.cond (.s 10) (.seq (os [gp 4 (.mov (.c (.bool false)))]) .ret) .skip)) (.seq (.seq (os [gz 5 0]) (.block 0 (.loop (.seq (.seq (os [gm 11 5, gm 12 0, gp 13 (.len (.s 12)), gp 14 (.bin 0 .lss (.s 11) (.s 13))]) (.cond (.s 14) .skip (.exit 0))) (.seq (.block 1 (.seq (.ops [gm 17 0, gm 18 5, gp 19 (.idx 1 (.s 17) (.s 18)), gp 20 (ldi 19), gm 21 1, gm 22 5, gp 23 (.idx 1 (.s 21) (.s 22)), gp 24 (ldi 23), gp 25 (.bin 0 .neq (.s 20) (.s 24))] []) (.cond (.s 25) (.seq (os [gp 4 (.mov (.c (.bool false)))]) .ret) .skip))) (os [gm 15 5, gp 16 (.bin 0 .add (.s 15) (kk 1)), gm 5 16])))))) (.seq (os [gp 4 (.mov (.c (.bool true)))]) .ret))))
set_option maxRecDepth 100000 in
theorem ok113 : compileFn Tryd.prog M 113 = some (26, c113, [(.mov (.s 4))]) := by kernel_rfl
set_option maxRecDepth 100000 in
def c126 : ACode := (.seq (os [gp 4 (.mov (.c (.bool false)))]) (.seq (.seq (os [gm 6 0, gp 7 (.len (.s 6)), gm 8 1, gp 9 (.len (.s 8)), gp 10 (.bin 0 .neq (.s 7) (.s 9))]) (.cond (.s 10) (.seq (os [gp 4 (.mov (.c (.bool false)))]) .ret) .skip)) (.seq (.seq (os [gm 11 0, gp 12 (.len (.s 11)), gz 13 0]) (.block 0 (.loop (.seq (os [gp 14 (.bin 0 .lss (.s 13) (.s 12))]) (.seq (.cond (.s 14) .skip (.exit 0)) (.seq (.block 1 (.seq (os [gm 15 13, gm 5 15]) (.seq (.ops [gm 16 0, gm 17 5, gp 18 (.idx 1 (.s 16) (.s 17)), gp 19 (ldi 18), gm 20 1, gm 21 5, gp 22 (.idx 1 (.s 20) (.s 21)), gp 23 (ldi 22), gp 24 (.bin 0 .neq (.s 19) (.s 23))] []) (.cond (.s 24) (.seq (os [gp 4 (.mov (.c (.bool false)))]) .ret) .skip)))) (os [gp 25 (.bin 0 .add (.s 13) (kk 1)), gm 13 25]))))))) (.seq (os [gp 4 (.mov (.c (.bool true)))]) .ret))))
set_option maxRecDepth 100000 in
theorem ok126 : compileFn Tryd.prog M 126 = some (26, c126, [(.mov (.s 4))]) := by kernel_rfl
set_option maxRecDepth 100000 in
def c112 : ACode := (.seq (os [gn 2]) (.seq (os [gp 3 (.bsl 0 []), gm 4 0, gp 5 (.app 1 8 (.s 3) (.s 4)), gm 2 5]) .ret))
set_option maxRecDepth 100000 in
theorem ok112 : compileFn Tryd.prog M 112 = some (6, c112, [(.mov (.s 2))]) := by kernel_rfl
set_option maxRecDepth 100000 in
def c73 : ACode := (.seq (os [gp 4 (.mov (.c (.bool false)))]) (.seq (.seq (os [gz 5 0]) (.block 0 (.loop (.seq (.seq (os [gm 6 5, gm 7 0, gp 8 (.len (.s 7)), gp 9 (.bin 0 .lss (.s 6) (.s 8)), gm 10 9, gq 11 10 true (.mov (.s 5)), gq 12 10 true (.mov (.s 1)), gq 13 10 true (.len (.s 12)), gq 14 10 true (.bin 0 .lss (.s 11) (.s 13)), gp 15 (.pick (.s 10) (.s 14) (.c (.bool false)))]) (.cond (.s 15) .skip (.exit 0))) (.seq (.block 1 (.seq (.ops [gm 18 0, gm 19 5, gp 20 (.idx 1 (.s 18) (.s 19)), gp 21 (ldi 20), gm 22 1, gm 23 5, gp 24 (.idx 1 (.s 22) (.s 23)), gp 25 (ldi 24), gp 26 (.bin 0 .neq (.s 21) (.s 25))] []) (.cond (.s 26) (.seq (.ops [gm 27 0, gm 28 5, gp 29 (.idx 1 (.s 27) (.s 28)), gp 30 (ldi 29), gm 31 1, gm 32 5, gp 33 (.idx 1 (.s 31) (.s 32)), gp 34 (ldi 33), gp 35 (.bin 0 .lss (.s 30) (.s 34)), gm 4 35] []) .ret) .skip))) (os [gm 16 5, gp 17 (.bin 0 .add (.s 16) (kk 1)), gm 5 17])))))) (.seq (os [gm 36 0, gp 37 (.len (.s 36)), gm 38 1, gp 39 (.len (.s 38)), gp 40 (.bin 0 .lss (.s 37) (.s 39)), gm 4 40]) .ret)))
set_option maxRecDepth 100000 in
theorem ok73 : compileFn Tryd.prog M 73 = some (41, c73, [(.mov (.s 4))]) := by kernel_rfl
set_option maxRecDepth 100000 in
def c82 : ACode := (.seq (os [gz 4 0]) (.seq (.seq (os [gm 9 0, gp 10 (.len (.s 9)), gz 11 0]) (.block 0 (.loop (.seq (os [gp 12 (.bin 0 .lss (.s 11) (.s 10))]) (.seq (.cond (.s 12) .skip (.exit 0)) (.seq (.block 1 (.seq (os [gm 13 11, gp 14 (.idx 1 (.s 9) (.s 11)), gp 15 (ldi 14), gm 5 13, gm 6 15]) (.seq (.seq (os [gm 16 5, gm 17 1, gp 18 (.len (.s 17)), gp 19 (.bin 0 .geq (.s 16) (.s 18))]) (.cond (.s 19) (.seq (os [gz 4 1]) .ret) .skip)) (.seq (os [gm 20 1, gm 21 5, gp 22 (.idx 1 (.s 20) (.s 21)), gp 23 (ldi 22), gm 7 23]) (.seq (os [gm 24 6, gm 25 7, gp 26 (.call 117 [(.s 24), (.s 25)]), gm 8 26]) (.seq (os [gm 27 8, gp 28 (.bin 0 .neq (.s 27) (kk 0))]) (.cond (.s 28) (.seq (os [gm 29 8, gm 4 29]) .ret) .skip))))))) (os [gp 30 (.bin 0 .add (.s 11) (kk 1)), gm 11 30]))))))) (.seq (.seq (os [gm 31 0, gp 32 (.len (.s 31)), gm 33 1, gp 34 (.len (.s 33)), gp 35 (.bin 0 .lss (.s 32) (.s 34))]) (.cond (.s 35) (.seq (os [gz 4 (-1)]) .ret) .skip)) (.seq (os [gz 4 0]) .ret))))
set_option maxRecDepth 100000 in
theorem ok82 : compileFn Tryd.prog M 82 = some (36, c82, [(.mov (.s 4))]) := by kernel_rfl
set_option maxRecDepth 100000 in
def c117 : ACode := (.seq (os [gz 4 0]) (.seq (os [gm 7 0, gp 8 (.call 146 [(.s 7)]), gm 5 8]) (.seq (os [gm 9 1, gp 10 (.call 146 [(.s 9)]), gm 6 10]) (.seq (.seq (os [gm 11 5]) (.cond (.s 11) (.seq (.seq (os [gm 12 6]) (.cond (.s 12) (.seq (os [gz 4 0]) .ret) .skip)) (.seq (os [gz 4 (-1)]) .ret)) .skip)) (.seq (.seq (os [gm 13 6]) (.cond (.s 13) (.seq (os [gz 4 1]) .ret) .skip)) (.seq (.seq (os [gm 14 0, gm 15 1, gp 16 (.bin 0 .lss (.s 14) (.s 15))]) (.cond (.s 16) (.seq (os [gz 4 (-1)]) .ret) .skip)) (.seq (.seq (os [gm 17 0, gm 18 1, gp 19 (.bin 0 .gtr (.s 17) (.s 18))]) (.cond (.s 19) (.seq (os [gz 4 1]) .ret) .skip)) (.seq (os [gz 4 0]) .ret))))))))
set_option maxRecDepth 100000 in
theorem ok117 : compileFn Tryd.prog M 117 = some (20, c117, [(.mov (.s 4))]) := by kernel_rfl
end Go.Proofs.YtghhlcioabdpfaaDoor
