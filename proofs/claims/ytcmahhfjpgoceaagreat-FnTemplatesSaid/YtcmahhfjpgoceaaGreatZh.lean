/- Texts that belong together. -/
import Derived.Test.YtcmahhfjpgoceaaGreatZc
import Derived.Test.YtcmahhfjpgoceaaGreatZg
set_option linter.unusedSimpArgs false
set_option linter.unusedVariables false
set_option maxRecDepth 100000
namespace Go.Proofs.YtcmahhfjpgoceaaGreat
open Go.Gov
set_option maxRecDepth 100000 in
def c23 : ACode := (.seq (os [gp 1 (.box (.s 0)), gp 2 (.mov (.c (.bool false))), gz 3 0, gz 4 0]) (.seq (.seq (os [gp 8 (.loads 1 (.s 1)), gp 9 (.call 44 [(.s 8)]), gp 10 (.not (.s 9))]) (.cond (.s 10) (.seq (os [gp 2 (.mov (.c (.bool false))), gz 3 0, gz 4 1]) .ret) .skip)) (.seq (os [gp 11 (.call 63 [(.s 1)]), gp 12 (.call 62 [(.s 11)]), gp 13 (.bin 0 .sub (kk 2) (.s 12)), gm 5 13]) (.seq (os [gp 15 (.call 64 [(.s 1)]), gm 14 15, gp 16 (.ext (.s 14) 0), gp 17 (.ext (.s 14) 1), gm 6 16, gm 7 17]) (.seq (.seq (os [gm 18 7]) (.cond (.s 18) (os [gm 19 5, gp 20 (.bin 0 .quo (.s 19) (kk 2)), gm 5 20]) .skip)) (.seq (os [gm 21 7, gm 22 5, gm 2 21, gm 3 22, gz 4 0]) .ret))))))
set_option maxRecDepth 100000 in
theorem ok23 : compileFn Tryz.prog M 23 = some (23, c23, [(.mov (.s 2)), (.mov (.s 3)), (.mov (.s 4))]) := by kernel_rfl
set_option maxRecDepth 100000 in
def c63 : ACode := (.seq (os [gn 2]) (.seq (os [gn 3]) (.seq (.seq (os [gm 7 0, gp 8 (.call 93 [(.s 7)]), gz 9 0]) (.block 0 (.loop (.seq (os [gp 10 (.bin 0 .lss (.s 9) (.s 8))]) (.seq (.cond (.s 10) .skip (.exit 0)) (.seq (.block 1 (.seq (os [gm 11 9, gm 4 11]) (.seq (os [gm 13 0, gm 14 4, gp 15 (.call 55 [(.s 13), (.s 14)]), gm 12 15, gp 16 (.ext (.s 12) 0), gp 17 (.ext (.s 12) 1), gm 5 16, gm 6 17]) (os [gm 18 3, gm 19 6, ⟨(some 20), none, (.bsl 1 [⟨0, (.s 19)⟩])⟩, gp 21 (.app 1 8 (.s 18) (.s 20)), gm 3 21])))) (os [gp 22 (.bin 0 .add (.s 9) (kk 1)), gm 9 22]))))))) (.seq (os [gm 23 3, gm 2 23]) .ret))))
set_option maxRecDepth 100000 in
theorem ok63 : compileFn Tryz.prog M 63 = some (24, c63, [(.mov (.s 2))]) := by kernel_rfl
set_option maxRecDepth 100000 in
def c64 : ACode := (.seq (os [gn 2, gp 3 (.mov (.c (.bool false)))]) (.seq (os [gm 4 0, gp 5 (.call 100 [(.s 4), (.f 101)]), gp 6 (.ext (.s 5) 0), gp 7 (.ext (.s 5) 1), gm 2 6, gm 3 7]) .ret))
set_option maxRecDepth 100000 in
theorem ok64 : compileFn Tryz.prog M 64 = some (8, c64, [(.mov (.s 2)), (.mov (.s 3))]) := by kernel_rfl
set_option maxRecDepth 100000 in
def c100 : ACode := (.seq (os [gn 4, gp 5 (.mov (.c (.bool false)))]) (.seq (os [⟨(some 14), none, (.bsl 1 [⟨0, (kk (-1))⟩])⟩, gm 15 0, gp 16 (.call 71 [(.s 15)]), gp 17 (.call 125 [(.s 14), (.s 16)]), gm 6 17]) (.seq (os [gm 18 6, gp 19 (.idx 1 (.s 18) (kk 0)), ⟨none, none, (.store 1 (.s 19) (kk 0))⟩]) (.seq (os [gp 7 (.mov (.c (.bool true)))]) (.seq (.seq (os [⟨(some 20), none, (.bsl 1 [⟨0, (kk 0)⟩])⟩, gm 8 20]) (.block 0 (.loop (.seq (.seq (os [gm 21 8, gp 22 (.len (.s 21)), gp 23 (.bin 0 .gtr (.s 22) (kk 0))]) (.cond (.s 23) .skip (.exit 0))) (.seq (.block 1 (.seq (os [gm 26 8, gp 27 (.idx 1 (.s 26) (kk 0)), gp 28 (ldi 27), gm 9 28]) (.seq (os [gm 29 0, gp 30 (.nck (.s 29)), gp 31 (.fld 0 (.s 30)), gp 32 (.load (.slc 1 0 []) (.s 31)), gp 33 (.len (.s 32)), gz 34 0]) (.block 2 (.loop (.seq (os [gp 35 (.bin 0 .lss (.s 34) (.s 33))]) (.seq (.cond (.s 35) .skip (.exit 2)) (.seq (.block 3 (.seq (os [gm 36 34, gp 37 (.idx 1 (.s 32) (.s 34)), gp 38 (.load (.slc 1 0 []) (.s 37)), gm 10 36, gm 11 38]) (.seq (os [gm 39 6, gm 40 9, gp 41 (.idx 1 (.s 39) (.s 40)), gp 42 (ldi 41), gm 12 42]) (.seq (.seq (os [gm 43 1, gm 44 10, gp 45 (.callv (.s 43) [(.s 44)])]) (.cond (.s 45) (os [gm 46 12, gp 47 (.bin 0 .sub (kk 1) (.s 46)), gm 12 47]) .skip)) (.seq (os [gm 48 11, gm 49 9, gp 50 (.idx 1 (.s 48) (.s 49)), gp 51 (ldi 50), gm 13 51]) (.block 4 (.seq (os [gm 53 6, gm 54 13, gp 55 (.idx 1 (.s 53) (.s 54)), gp 56 (ldi 55), gp 57 (.bin 0 .lss (.s 56) (kk 0)), gm 52 57]) (.cond (.s 52) (.seq (os [gm 58 6, gm 59 13, gm 60 12, gp 61 (.idx 1 (.s 58) (.s 59)), ⟨none, none, (.store 1 (.s 61) (.s 60))⟩]) (os [gm 62 8, gm 63 13, ⟨(some 64), none, (.bsl 1 [⟨0, (.s 63)⟩])⟩, gp 65 (.app 1 8 (.s 62) (.s 64)), gm 8 65])) (.seq (os [gm 67 6, gm 68 13, gp 69 (.idx 1 (.s 67) (.s 68)), gp 70 (ldi 69), gm 71 12, gp 72 (.bin 0 .neq (.s 70) (.s 71)), gm 66 72]) (.cond (.s 66) (os [gp 7 (.mov (.c (.bool false)))]) .skip)))))))))) (os [gp 73 (.bin 0 .add (.s 34) (kk 1)), gm 34 73]))))))))) (os [gm 24 8, gp 25 (.slice 1 (.s 24) (some (kk 1)) none), gm 8 25])))))) (.seq (os [gm 74 6, gm 75 7, gm 4 74, gm 5 75]) .ret))))))
set_option maxRecDepth 100000 in
theorem ok100 : compileFn Tryz.prog M 100 = some (76, c100, [(.mov (.s 4)), (.mov (.s 5))]) := by kernel_rfl
set_option maxRecDepth 100000 in
def c101 : ACode := (.seq (os [gp 2 (.mov (.c (.bool false)))]) (.seq (os [gp 2 (.mov (.c (.bool true)))]) .ret))
set_option maxRecDepth 100000 in
theorem ok101 : compileFn Tryz.prog M 101 = some (3, c101, [(.mov (.s 2))]) := by kernel_rfl
set_option maxRecDepth 100000 in
def c119 : ACode := (.seq (os [gn 2]) (.seq (os [gp 3 (.bsl 0 []), gm 4 0, gp 5 (.app 1 8 (.s 3) (.s 4)), gm 2 5]) .ret))
set_option maxRecDepth 100000 in
theorem ok119 : compileFn Tryz.prog M 119 = some (6, c119, [(.mov (.s 2))]) := by kernel_rfl
end Go.Proofs.YtcmahhfjpgoceaaGreat
