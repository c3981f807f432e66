/- Texts that belong together. -/
import Derived.Test.YtdgcpjfffpkhkaaDoorZc
import Derived.Test.YtdgcpjfffpkhkaaDoorZu
set_option linter.unusedSimpArgs false
set_option linter.unusedVariables false
set_option maxRecDepth 100000
namespace Go.Proofs.YtdgcpjfffpkhkaaDoor
open Go.Gov
set_option maxRecDepth 100000 in
def c78 : ACode := (.seq (os [gn 4]) (.seq (os [gm 9 0, gp 10 (.len (.s 9)), gz 5 0, gm 6 10]) (.seq (.block 0 (.loop (.seq (.seq (os [gm 11 5, gm 12 6, gp 13 (.bin 0 .lss (.s 11) (.s 12))]) (.cond (.s 13) .skip (.exit 0))) (.block 1 (.seq (os [gm 14 5, gm 15 6, gp 16 (.bin 0 .add (.s 14) (.s 15)), gp 17 (.bin 0 .quo (.s 16) (kk 2)), gm 7 17]) (.seq (os [gm 18 0, gm 19 7, gp 20 (.idx 1 (.s 18) (.s 19)), gp 21 (.load (.slc 1 0 []) (.s 20)), gm 22 1, gp 23 (.call 49 [(.s 21), (.s 22)])]) (.cond (.s 23) (os [gm 24 7, gp 25 (.bin 0 .add (.s 24) (kk 1)), gm 5 25]) (os [gm 26 7, gm 6 26])))))))) (.seq (.seq (os [gm 27 5, gm 28 0, gp 29 (.len (.s 28)), gp 30 (.bin 0 .lss (.s 27) (.s 29)), gm 31 30, gq 32 31 true (.mov (.s 0)), gq 33 31 true (.mov (.s 5)), gq 34 31 true (.idx 1 (.s 32) (.s 33)), gq 35 31 true (.load (.slc 1 0 []) (.s 34)), gq 36 31 true (.mov (.s 1)), gq 37 31 true (.call 87 [(.s 35), (.s 36)]), gp 38 (.pick (.s 31) (.s 37) (.c (.bool false)))]) (.cond (.s 38) (.seq (os [gm 39 0, gm 4 39]) .ret) .skip)) (.seq (os [gm 40 1, ⟨(some 41), none, (.bsl 1 [⟨0, (.s 40)⟩])⟩, gm 42 0, gm 43 5, gp 44 (.slice 1 (.s 42) (some (.s 43)) none), gp 45 (.app 1 24 (.s 41) (.s 44)), gm 8 45]) (.seq (os [gp 46 (.bsl 0 []), gm 47 0, gm 48 5, gp 49 (.slice 1 (.s 47) none (some (.s 48))), gp 50 (.app 1 24 (.s 46) (.s 49)), gm 51 8, gp 52 (.app 1 24 (.s 50) (.s 51)), gm 4 52]) .ret))))))
set_option maxRecDepth 100000 in
theorem ok78 : compileFn Tryd.prog M2 78 = some (53, c78, [(.mov (.s 4))]) := by kernel_rfl
set_option maxRecDepth 100000 in
def c50 : ACode := (.seq (os [gp 4 (.mov (.c (.bool false)))]) (.seq (.seq (os [gz 5 0]) (.block 0 (.loop (.seq (.seq (os [gm 6 5, gm 7 0, gp 8 (.len (.s 7)), gp 9 (.bin 0 .lss (.s 6) (.s 8))]) (.cond (.s 9) .skip (.exit 0))) (.seq (.block 1 (.seq (os [gm 12 1, gm 13 0, gm 14 5, gp 15 (.idx 1 (.s 13) (.s 14)), gp 16 (ldi 15), gp 17 (.call 68 [(.s 12), (.s 16)]), gp 18 (.not (.s 17))]) (.cond (.s 18) (.seq (os [gp 4 (.mov (.c (.bool false)))]) .ret) .skip))) (os [gm 10 5, gp 11 (.bin 0 .add (.s 10) (kk 1)), gm 5 11])))))) (.seq (os [gp 4 (.mov (.c (.bool true)))]) .ret)))
set_option maxRecDepth 100000 in
theorem ok50 : compileFn Tryd.prog M2 50 = some (19, c50, [(.mov (.s 4))]) := by kernel_rfl
set_option maxRecDepth 100000 in
def c13 : ACode := (.seq (os [gp 2 (.box (.s 0)), gp 3 (.box (.s 1)), gp 4 (.mov (.c (.bool false)))]) (.seq (.seq (os [gp 5 (.fld 0 (.s 2)), gp 6 (ldi 5), gp 7 (.fld 0 (.s 3)), gp 8 (ldi 7), gp 9 (.bin 0 .neq (.s 6) (.s 8))]) (.cond (.s 9) (.seq (os [gp 4 (.mov (.c (.bool false)))]) .ret) .skip)) (.seq (.seq (os [gp 10 (.fld 1 (.s 2)), gp 11 (.load (.slc 1 0 []) (.s 10)), gp 12 (.fld 1 (.s 3)), gp 13 (.load (.slc 1 0 []) (.s 12)), gp 14 (.call 18 [(.s 11), (.s 13)]), gp 15 (.not (.s 14))]) (.cond (.s 15) (.seq (os [gp 4 (.mov (.c (.bool false)))]) .ret) .skip)) (.seq (os [gp 4 (.mov (.c (.bool true)))]) .ret))))
set_option maxRecDepth 100000 in
theorem ok13 : compileFn Tryd.prog M2 13 = some (16, c13, [(.mov (.s 4))]) := by kernel_rfl
set_option maxRecDepth 100000 in
def c19 : ACode := (.seq (os [gp 2 (.box (.s 0)), gz 4 0]) (.seq (os [gp 5 (.fld 1 (.s 2)), gp 6 (.load (.slc 1 0 []) (.s 5)), gm 7 1, gp 8 (.call 20 [(.s 6), (.s 7)]), gm 1 8]) (.seq (os [gm 9 1, gm 4 9]) .ret)))
set_option maxRecDepth 100000 in
theorem ok19 : compileFn Tryd.prog M2 19 = some (10, c19, [(.mov (.s 4))]) := by kernel_rfl
set_option maxRecDepth 100000 in
def c11 : ACode := (.seq (os [gp 1 (.box (.s 0)), gp 2 (.alloc [(.int .i64 0), (.slice none 0 0)])]) (.seq (os [gp 3 (.alloc [(.int .i64 0), (.slice none 0 0)])]) (.seq (os [gp 4 (.fld 0 (.s 1)), gp 5 (ldi 4), gp 6 (.fld 0 (.s 3)), ⟨none, none, (.store 1 (.s 6) (.s 5))⟩]) (.seq (os [gp 7 (.fld 1 (.s 1)), gp 8 (.load (.slc 1 0 []) (.s 7)), gp 9 (.call 33 [(.s 8)]), gp 10 (.fld 1 (.s 3)), ⟨none, none, (.store 1 (.s 10) (.s 9))⟩]) (.seq (os [gp 11 (.loads 2 (.s 3)), ⟨none, none, (.store 2 (.s 2) (.s 11))⟩]) .ret)))))
set_option maxRecDepth 100000 in
theorem ok11 : compileFn Tryd.prog M2 11 = some (12, c11, [(.loads 2 (.s 2))]) := by kernel_rfl
set_option maxRecDepth 100000 in
def c9 : ACode := (.seq (os [gp 2 (.box (.s 0)), gz 4 0]) (.seq (os [gp 5 (.fld 1 (.s 2)), gp 6 (.load (.slc 1 0 []) (.s 5)), gm 7 1, gp 8 (.call 31 [(.s 6), (.s 7)]), gm 1 8]) (.seq (.seq (os [gm 9 1, gp 10 (.bin 0 .lss (.s 9) (kk 0))]) (.cond (.s 10) (.seq (os [gz 4 (-1)]) .ret) .skip)) (.seq (os [gm 11 1, gm 4 11]) .ret))))
set_option maxRecDepth 100000 in
theorem ok9 : compileFn Tryd.prog M2 9 = some (12, c9, [(.mov (.s 4))]) := by kernel_rfl
end Go.Proofs.YtdgcpjfffpkhkaaDoor
