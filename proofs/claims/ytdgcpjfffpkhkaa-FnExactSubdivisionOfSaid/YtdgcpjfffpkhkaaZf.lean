/- Texts that belong together. -/
import Derived.Test.YtdgcpjfffpkhkaaProg
import Derived.Test.YtdgcpjfffpkhkaaZc
set_option linter.unusedSimpArgs false
set_option linter.unusedVariables false
set_option maxRecDepth 100000
namespace Go.Proofs.Ytdgcpjfffpkhkaa
open Go.Gov
def M : List Nat := [999999]
-- loop.example/g01108/spec.l01In
set_option maxRecDepth 100000 in
def c27 : ACode := (.seq (os [gp 6 (.mov (.c (.bool false)))]) (.seq (os [gm 7 0, gm 8 1, gp 9 (.bin 0 .geq (.s 7) (.s 8)), gm 10 9, gq 11 10 true (.mov (.s 0)), gq 12 10 true (.mov (.s 2)), gq 13 10 true (.bin 0 .leq (.s 11) (.s 12)), gp 14 (.pick (.s 10) (.s 13) (.c (.bool false))), gm 6 14]) .ret))
set_option maxRecDepth 100000 in
theorem ok27 : compileFn Try.prog M 27 = some (15, c27, [(.mov (.s 6))]) := by kernel_rfl
-- loop.example/g01108/spec.l01Has
set_option maxRecDepth 100000 in
def c28 : ACode := (.seq (os [gp 4 (.mov (.c (.bool false)))]) (.seq (os [gm 5 0, gm 6 1, gp 7 (.call 33 [(.s 5), (.s 6)]), gp 8 (.bin 0 .geq (.s 7) (kk 0)), gm 4 8]) .ret))
set_option maxRecDepth 100000 in
theorem ok28 : compileFn Try.prog M 28 = some (9, c28, [(.mov (.s 4))]) := by kernel_rfl
-- loop.example/g01108/spec.l01Index
set_option maxRecDepth 100000 in
def c33 : ACode := (.seq (os [gz 4 0]) (.seq (.seq (os [gz 5 0]) (.block 0 (.loop (.seq (.seq (os [gm 6 5, gm 7 0, gp 8 (.len (.s 7)), gp 9 (.bin 0 .lss (.s 6) (.s 8))]) (.cond (.s 9) .skip (.exit 0))) (.seq (.block 1 (.seq (os [gm 12 0, gm 13 5, gp 14 (.idx 1 (.s 12) (.s 13)), gp 15 (ldi 14), gm 16 1, gp 17 (.bin 0 .eql (.s 15) (.s 16))]) (.cond (.s 17) (.seq (os [gm 18 5, gm 4 18]) .ret) .skip))) (os [gm 10 5, gp 11 (.bin 0 .add (.s 10) (kk 1)), gm 5 11])))))) (.seq (os [gz 4 (-1)]) .ret)))
set_option maxRecDepth 100000 in
theorem ok33 : compileFn Try.prog M 33 = some (19, c33, [(.mov (.s 4))]) := by kernel_rfl
-- loop.example/g01108/impl.within
set_option maxRecDepth 100000 in
def c35 : ACode := (.seq (os [gp 6 (.mov (.c (.bool false)))]) (.seq (os [gm 7 0, gm 8 1, gp 9 (.bin 0 .geq (.s 7) (.s 8)), gm 10 9, gq 11 10 true (.mov (.s 0)), gq 12 10 true (.mov (.s 2)), gq 13 10 true (.bin 0 .leq (.s 11) (.s 12)), gp 14 (.pick (.s 10) (.s 13) (.c (.bool false))), gm 6 14]) .ret))
set_option maxRecDepth 100000 in
theorem ok35 : compileFn Try.prog M 35 = some (15, c35, [(.mov (.s 6))]) := by kernel_rfl
-- loop.example/g01108/impl.size[int64]
set_option maxRecDepth 100000 in
def c34 : ACode := (.seq (os [gz 2 0]) (.seq (os [gm 3 0, gp 4 (.len (.s 3)), gm 2 4]) .ret))
set_option maxRecDepth 100000 in
theorem ok34 : compileFn Try.prog M 34 = some (5, c34, [(.mov (.s 2))]) := by kernel_rfl
-- slices.isNaN[int64]
set_option maxRecDepth 100000 in
def c50 : ACode := (.seq (os [gp 2 (.mov (.c (.bool false)))]) (.seq (os [gm 3 0, gm 4 0, gp 5 (.bin 0 .neq (.s 3) (.s 4)), gm 2 5]) .ret))
set_option maxRecDepth 100000 in
theorem ok50 : compileFn Try.prog M 50 = some (6, c50, [(.mov (.s 2))]) := by kernel_rfl
-- cmp.isNaN[int64]
set_option maxRecDepth 100000 in
def c53 : ACode := (.seq (os [gp 2 (.mov (.c (.bool false)))]) (.seq (os [gm 3 0, gm 4 0, gp 5 (.bin 0 .neq (.s 3) (.s 4)), gm 2 5]) .ret))
set_option maxRecDepth 100000 in
theorem ok53 : compileFn Try.prog M 53 = some (6, c53, [(.mov (.s 2))]) := by kernel_rfl
-- cmp.Less[int64]
set_option maxRecDepth 100000 in
def c49 : ACode := (.seq (os [gp 4 (.mov (.c (.bool false)))]) (.seq (os [gm 5 0, gp 6 (.call 53 [(.s 5)]), gm 7 6, gq 8 7 true (.mov (.s 1)), gq 9 7 true (.call 53 [(.s 8)]), gq 10 7 true (.not (.s 9)), gp 11 (.pick (.s 7) (.s 10) (.c (.bool false))), gm 12 11, gq 13 12 false (.mov (.s 0)), gq 14 12 false (.mov (.s 1)), gq 15 12 false (.bin 0 .lss (.s 13) (.s 14)), gp 16 (.pick (.s 12) (.c (.bool true)) (.s 15)), gm 4 16]) .ret))
set_option maxRecDepth 100000 in
theorem ok49 : compileFn Try.prog M 49 = some (17, c49, [(.mov (.s 4))]) := by kernel_rfl
-- loop.example/g01108/laws.toInt64S
set_option maxRecDepth 100000 in
def c18 : ACode := (.seq (os [gn 2]) (.seq (os [gm 5 0, gp 6 (.len (.s 5)), gp 7 (.mk 1 8 [(.int .i64 0)] (.s 6)), gm 3 7]) (.seq (.seq (os [gz 4 0]) (.block 0 (.loop (.seq (.seq (os [gm 8 4, gm 9 0, gp 10 (.len (.s 9)), gp 11 (.bin 0 .lss (.s 8) (.s 10))]) (.cond (.s 11) .skip (.exit 0))) (.seq (.block 1 (os [gm 14 3, gm 15 4, gm 16 0, gm 17 4, gp 18 (.idx 1 (.s 16) (.s 17)), gp 19 (ldi 18), gp 20 (.idx 1 (.s 14) (.s 15)), ⟨none, none, (.store 1 (.s 20) (.s 19))⟩])) (os [gm 12 4, gp 13 (.bin 0 .add (.s 12) (kk 1)), gm 4 13])))))) (.seq (os [gm 21 3, gm 2 21]) .ret))))
set_option maxRecDepth 100000 in
theorem ok18 : compileFn Try.prog M 18 = some (22, c18, [(.mov (.s 2))]) := by kernel_rfl
-- loop.example/g01108/laws.toInt64SS
set_option maxRecDepth 100000 in
def c19 : ACode := (.seq (os [gn 2]) (.seq (os [gm 5 0, gp 6 (.len (.s 5)), gp 7 (.mk 1 24 [(.slice none 0 0)] (.s 6)), gm 3 7]) (.seq (.seq (os [gz 4 0]) (.block 0 (.loop (.seq (.seq (os [gm 8 4, gm 9 0, gp 10 (.len (.s 9)), gp 11 (.bin 0 .lss (.s 8) (.s 10))]) (.cond (.s 11) .skip (.exit 0))) (.seq (.block 1 (os [gm 14 3, gm 15 4, gm 16 0, gm 17 4, gp 18 (.idx 1 (.s 16) (.s 17)), gp 19 (.load (.slc 1 0 []) (.s 18)), gp 20 (.call 18 [(.s 19)]), gp 21 (.idx 1 (.s 14) (.s 15)), ⟨none, none, (.store 1 (.s 21) (.s 20))⟩])) (os [gm 12 4, gp 13 (.bin 0 .add (.s 12) (kk 1)), gm 4 13])))))) (.seq (os [gm 22 3, gm 2 22]) .ret))))
set_option maxRecDepth 100000 in
theorem ok19 : compileFn Try.prog M 19 = some (23, c19, [(.mov (.s 2))]) := by kernel_rfl
-- loop.example/g01108/laws.toPoset
set_option maxRecDepth 100000 in
def c6 : ACode := (.seq (os [gp 1 (.box (.s 0)), gp 2 (.alloc [(.int .i64 0), (.slice none 0 0), (.slice none 0 0)])]) (.seq (os [gp 3 (.alloc [(.int .i64 0), (.slice none 0 0), (.slice none 0 0)])]) (.seq (os [gp 4 (.fld 0 (.s 1)), gp 5 (ldi 4), gp 6 (.fld 0 (.s 3)), ⟨none, none, (.store 1 (.s 6) (.s 5))⟩]) (.seq (os [gp 7 (.fld 1 (.s 1)), gp 8 (.load (.slc 1 0 []) (.s 7)), gp 9 (.call 18 [(.s 8)]), gp 10 (.fld 1 (.s 3)), ⟨none, none, (.store 1 (.s 10) (.s 9))⟩]) (.seq (os [gp 11 (.fld 2 (.s 1)), gp 12 (.load (.slc 1 0 []) (.s 11)), gp 13 (.call 19 [(.s 12)]), gp 14 (.fld 2 (.s 3)), ⟨none, none, (.store 1 (.s 14) (.s 13))⟩]) (.seq (os [gp 15 (.loads 3 (.s 3)), ⟨none, none, (.store 3 (.s 2) (.s 15))⟩]) .ret))))))
set_option maxRecDepth 100000 in
theorem ok6 : compileFn Try.prog M 6 = some (16, c6, [(.loads 3 (.s 2))]) := by kernel_rfl
-- loop.example/g01108/laws.eqInt64S
set_option maxRecDepth 100000 in
def c23 : ACode := (.seq (os [gp 4 (.mov (.c (.bool false)))]) (.seq (.seq (os [gm 6 0, gp 7 (.len (.s 6)), gm 8 1, gp 9 (.len (.s 8)), gp 10 (.bin 0 .neq (.s 7) (.s 9))]) (.cond (.s 10) (.seq (os [gp 4 (.mov (.c (.bool false)))]) .ret) .skip)) (.seq (.seq (os [gz 5 0]) (.block 0 (.loop (.seq (.seq (os [gm 11 5, gm 12 0, gp 13 (.len (.s 12)), gp 14 (.bin 0 .lss (.s 11) (.s 13))]) (.cond (.s 14) .skip (.exit 0))) (.seq (.block 1 (.seq (.ops [gm 17 0, gm 18 5, gp 19 (.idx 1 (.s 17) (.s 18)), gp 20 (ldi 19), gm 21 1, gm 22 5, gp 23 (.idx 1 (.s 21) (.s 22)), gp 24 (ldi 23), gp 25 (.bin 0 .neq (.s 20) (.s 24))] []) (.cond (.s 25) (.seq (os [gp 4 (.mov (.c (.bool false)))]) .ret) .skip))) (os [gm 15 5, gp 16 (.bin 0 .add (.s 15) (kk 1)), gm 5 16])))))) (.seq (os [gp 4 (.mov (.c (.bool true)))]) .ret))))
set_option maxRecDepth 100000 in
theorem ok23 : compileFn Try.prog M 23 = some (26, c23, [(.mov (.s 4))]) := by kernel_rfl
-- loop.example/g01108/laws.eqInt64SS
set_option maxRecDepth 100000 in
def c22 : ACode := (.seq (os [gp 4 (.mov (.c (.bool false)))]) (.seq (.seq (os [gm 6 0, gp 7 (.len (.s 6)), gm 8 1, gp 9 (.len (.s 8)), gp 10 (.bin 0 .neq (.s 7) (.s 9))]) (.cond (.s 10) (.seq (os [gp 4 (.mov (.c (.bool false)))]) .ret) .skip)) (.seq (.seq (os [gz 5 0]) (.block 0 (.loop (.seq (.seq (os [gm 11 5, gm 12 0, gp 13 (.len (.s 12)), gp 14 (.bin 0 .lss (.s 11) (.s 13))]) (.cond (.s 14) .skip (.exit 0))) (.seq (.block 1 (.seq (.ops [gm 17 0, gm 18 5, gp 19 (.idx 1 (.s 17) (.s 18)), gp 20 (.load (.slc 1 0 []) (.s 19)), gm 21 1, gm 22 5, gp 23 (.idx 1 (.s 21) (.s 22)), gp 24 (.load (.slc 1 0 []) (.s 23)), gp 25 (.call 23 [(.s 20), (.s 24)]), gp 26 (.not (.s 25))] []) (.cond (.s 26) (.seq (os [gp 4 (.mov (.c (.bool false)))]) .ret) .skip))) (os [gm 15 5, gp 16 (.bin 0 .add (.s 15) (kk 1)), gm 5 16])))))) (.seq (os [gp 4 (.mov (.c (.bool true)))]) .ret))))
set_option maxRecDepth 100000 in
theorem ok22 : compileFn Try.prog M 22 = some (27, c22, [(.mov (.s 4))]) := by kernel_rfl
-- loop.example/g01108/laws.eqPoset
set_option maxRecDepth 100000 in
def c9 : ACode := (.seq (os [gp 2 (.box (.s 0)), gp 3 (.box (.s 1)), gp 4 (.mov (.c (.bool false)))]) (.seq (.seq (os [gp 5 (.fld 0 (.s 2)), gp 6 (ldi 5), gp 7 (.fld 0 (.s 3)), gp 8 (ldi 7), gp 9 (.bin 0 .neq (.s 6) (.s 8))]) (.cond (.s 9) (.seq (os [gp 4 (.mov (.c (.bool false)))]) .ret) .skip)) (.seq (.seq (os [gp 10 (.fld 1 (.s 2)), gp 11 (.load (.slc 1 0 []) (.s 10)), gp 12 (.fld 1 (.s 3)), gp 13 (.load (.slc 1 0 []) (.s 12)), gp 14 (.call 23 [(.s 11), (.s 13)]), gp 15 (.not (.s 14))]) (.cond (.s 15) (.seq (os [gp 4 (.mov (.c (.bool false)))]) .ret) .skip)) (.seq (.seq (os [gp 16 (.fld 2 (.s 2)), gp 17 (.load (.slc 1 0 []) (.s 16)), gp 18 (.fld 2 (.s 3)), gp 19 (.load (.slc 1 0 []) (.s 18)), gp 20 (.call 22 [(.s 17), (.s 19)]), gp 21 (.not (.s 20))]) (.cond (.s 21) (.seq (os [gp 4 (.mov (.c (.bool false)))]) .ret) .skip)) (.seq (os [gp 4 (.mov (.c (.bool true)))]) .ret)))))
set_option maxRecDepth 100000 in
theorem ok9 : compileFn Try.prog M 9 = some (22, c9, [(.mov (.s 4))]) := by kernel_rfl
-- loop.example/g01108/laws.szInt64S
set_option maxRecDepth 100000 in
def c13 : ACode := (.seq (os [gz 4 0]) (.seq (os [gm 5 1, gm 6 0, gp 7 (.len (.s 6)), gp 8 (.bin 0 .sub (.s 5) (.s 7)), gm 1 8]) (.seq (.seq (os [gm 9 1, gp 10 (.bin 0 .lss (.s 9) (kk 0))]) (.cond (.s 10) (.seq (os [gz 4 (-1)]) .ret) .skip)) (.seq (os [gm 11 1, gm 4 11]) .ret))))
set_option maxRecDepth 100000 in
theorem ok13 : compileFn Try.prog M 13 = some (12, c13, [(.mov (.s 4))]) := by kernel_rfl
-- loop.example/g01108/laws.szInt64SS
set_option maxRecDepth 100000 in
def c14 : ACode := (.seq (os [gz 4 0]) (.seq (os [gm 6 1, gm 7 0, gp 8 (.len (.s 7)), gp 9 (.bin 0 .sub (.s 6) (.s 8)), gm 1 9]) (.seq (.seq (os [gm 10 1, gp 11 (.bin 0 .lss (.s 10) (kk 0))]) (.cond (.s 11) (.seq (os [gz 4 (-1)]) .ret) .skip)) (.seq (.seq (os [gz 5 0]) (.block 0 (.loop (.seq (.seq (os [gm 12 5, gm 13 0, gp 14 (.len (.s 13)), gp 15 (.bin 0 .lss (.s 12) (.s 14))]) (.cond (.s 15) .skip (.exit 0))) (.seq (.block 1 (.seq (os [gm 18 0, gm 19 5, gp 20 (.idx 1 (.s 18) (.s 19)), gp 21 (.load (.slc 1 0 []) (.s 20)), gm 22 1, gp 23 (.call 13 [(.s 21), (.s 22)]), gm 1 23]) (.seq (os [gm 24 1, gp 25 (.bin 0 .lss (.s 24) (kk 0))]) (.cond (.s 25) (.seq (os [gz 4 (-1)]) .ret) .skip)))) (os [gm 16 5, gp 17 (.bin 0 .add (.s 16) (kk 1)), gm 5 17])))))) (.seq (os [gm 26 1, gm 4 26]) .ret)))))
set_option maxRecDepth 100000 in
theorem ok14 : compileFn Try.prog M 14 = some (27, c14, [(.mov (.s 4))]) := by kernel_rfl
-- loop.example/g01108/laws.szPoset
set_option maxRecDepth 100000 in
def c4 : ACode := (.seq (os [gp 2 (.box (.s 0)), gz 4 0]) (.seq (os [gp 5 (.fld 1 (.s 2)), gp 6 (.load (.slc 1 0 []) (.s 5)), gm 7 1, gp 8 (.call 13 [(.s 6), (.s 7)]), gm 1 8]) (.seq (.seq (os [gm 9 1, gp 10 (.bin 0 .lss (.s 9) (kk 0))]) (.cond (.s 10) (.seq (os [gz 4 (-1)]) .ret) .skip)) (.seq (os [gp 11 (.fld 2 (.s 2)), gp 12 (.load (.slc 1 0 []) (.s 11)), gm 13 1, gp 14 (.call 14 [(.s 12), (.s 13)]), gm 1 14]) (.seq (.seq (os [gm 15 1, gp 16 (.bin 0 .lss (.s 15) (kk 0))]) (.cond (.s 16) (.seq (os [gz 4 (-1)]) .ret) .skip)) (.seq (os [gm 17 1, gm 4 17]) .ret))))))
set_option maxRecDepth 100000 in
theorem ok4 : compileFn Try.prog M 4 = some (18, c4, [(.mov (.s 4))]) := by kernel_rfl
-- loop.example/g01108/spec.l03Is
set_option maxRecDepth 100000 in
def c15 : ACode := (.seq (os [gp 1 (.box (.s 0)), gp 2 (.mov (.c (.bool false)))]) (.seq (.seq (os [gp 7 (.fld 0 (.s 1)), gp 8 (ldi 7), gp 9 (.call 27 [(.s 8), (kk 1), (kk 5)]), gp 10 (.not (.s 9)), gm 11 10, gq 12 11 false (.fld 1 (.s 1)), gq 13 11 false (.load (.slc 1 0 []) (.s 12)), gq 14 11 false (.len (.s 13)), gq 15 11 false (.bin 0 .gtr (.s 14) (kk 500)), gp 16 (.pick (.s 11) (.c (.bool true)) (.s 15)), gm 17 16, gq 18 17 false (.fld 2 (.s 1)), gq 19 17 false (.load (.slc 1 0 []) (.s 18)), gq 20 17 false (.len (.s 19)), gq 21 17 false (.fld 1 (.s 1)), gq 22 17 false (.load (.slc 1 0 []) (.s 21)), gq 23 17 false (.len (.s 22)), gq 24 17 false (.bin 0 .neq (.s 20) (.s 23)), gp 25 (.pick (.s 17) (.c (.bool true)) (.s 24))]) (.cond (.s 25) (.seq (os [gp 2 (.mov (.c (.bool false)))]) .ret) .skip)) (.seq (.seq (os [gz 3 0]) (.block 0 (.loop (.seq (.seq (os [gm 26 3, gp 27 (.fld 1 (.s 1)), gp 28 (.load (.slc 1 0 []) (.s 27)), gp 29 (.len (.s 28)), gp 30 (.bin 0 .lss (.s 26) (.s 29))]) (.cond (.s 30) .skip (.exit 0))) (.seq (.block 1 (.seq (.seq (.ops [gp 33 (.fld 1 (.s 1)), gp 34 (.load (.slc 1 0 []) (.s 33)), gm 35 3, gp 36 (.idx 1 (.s 34) (.s 35)), gp 37 (ldi 36), gp 38 (.fld 0 (.s 1)), gp 39 (ldi 38), gp 40 (.bin 0 .sub (.s 39) (kk 1)), gp 41 (.call 27 [(.s 37), (kk 0), (.s 40)]), gp 42 (.not (.s 41)), gm 43 42, gq 44 43 false (.mov (.s 3)), gq 45 43 false (.bin 0 .gtr (.s 44) (kk 0)), gq 46 43 false (.mov (.s 45)), gq 47 46 true (.fld 1 (.s 1)), gq 48 46 true (.load (.slc 1 0 []) (.s 47)), gq 49 46 true (.mov (.s 3)), gq 50 46 true (.idx 1 (.s 48) (.s 49)), gq 51 46 true (ldi 50), gq 52 46 true (.fld 1 (.s 1)), gq 53 46 true (.load (.slc 1 0 []) (.s 52)), gq 54 46 true (.mov (.s 3)), gq 55 46 true (.bin 0 .sub (.s 54) (kk 1)), gq 56 46 true (.idx 1 (.s 53) (.s 55)), gq 57 46 true (ldi 56), gq 58 46 true (.bin 0 .lss (.s 51) (.s 57)), gq 59 43 false (.pick (.s 46) (.s 58) (.c (.bool false))), gp 60 (.pick (.s 43) (.c (.bool true)) (.s 59))] []) (.cond (.s 60) (.seq (os [gp 2 (.mov (.c (.bool false)))]) .ret) .skip)) (.seq (os [gz 4 0]) (.block 2 (.loop (.seq (.seq (os [gm 61 4, gp 62 (.fld 2 (.s 1)), gp 63 (.load (.slc 1 0 []) (.s 62)), gm 64 3, gp 65 (.idx 1 (.s 63) (.s 64)), gp 66 (.load (.slc 1 0 []) (.s 65)), gp 67 (.len (.s 66)), gp 68 (.bin 0 .lss (.s 61) (.s 67))]) (.cond (.s 68) .skip (.exit 2))) (.seq (.block 3 (.seq (os [gp 71 (.fld 2 (.s 1)), gp 72 (.load (.slc 1 0 []) (.s 71)), gm 73 3, gp 74 (.idx 1 (.s 72) (.s 73)), gp 75 (.load (.slc 1 0 []) (.s 74)), gm 76 4, gp 77 (.idx 1 (.s 75) (.s 76)), gp 78 (ldi 77), gm 5 78]) (.seq (.seq (.ops [gm 79 5, gm 80 3, gp 81 (.bin 0 .sub (.s 80) (kk 1)), gp 82 (.call 27 [(.s 79), (kk 0), (.s 81)]), gp 83 (.not (.s 82)), gm 84 83, gq 85 84 false (.fld 1 (.s 1)), gq 86 84 false (.load (.slc 1 0 []) (.s 85)), gq 87 84 false (.mov (.s 5)), gq 88 84 false (.idx 1 (.s 86) (.s 87)), gq 89 84 false (ldi 88), gq 90 84 false (.fld 1 (.s 1)), gq 91 84 false (.load (.slc 1 0 []) (.s 90)), gq 92 84 false (.mov (.s 3)), gq 93 84 false (.idx 1 (.s 91) (.s 92)), gq 94 84 false (ldi 93), gq 95 84 false (.bin 0 .geq (.s 89) (.s 94)), gp 96 (.pick (.s 84) (.c (.bool true)) (.s 95)), gm 97 96, gq 98 97 false (.mov (.s 4)), gq 99 97 false (.bin 0 .gtr (.s 98) (kk 0)), gq 100 97 false (.mov (.s 99)), gq 101 100 true (.mov (.s 5)), gq 102 100 true (.fld 2 (.s 1)), gq 103 100 true (.load (.slc 1 0 []) (.s 102)), gq 104 100 true (.mov (.s 3)), gq 105 100 true (.idx 1 (.s 103) (.s 104)), gq 106 100 true (.load (.slc 1 0 []) (.s 105)), gq 107 100 true (.mov (.s 4)), gq 108 100 true (.bin 0 .sub (.s 107) (kk 1)), gq 109 100 true (.idx 1 (.s 106) (.s 108)), gq 110 100 true (ldi 109), gq 111 100 true (.bin 0 .leq (.s 101) (.s 110)), gq 112 97 false (.pick (.s 100) (.s 111) (.c (.bool false))), gp 113 (.pick (.s 97) (.c (.bool true)) (.s 112))] []) (.cond (.s 113) (.seq (os [gp 2 (.mov (.c (.bool false)))]) .ret) .skip)) (.seq (os [gz 6 0]) (.block 4 (.loop (.seq (.seq (os [gm 114 6, gp 115 (.fld 2 (.s 1)), gp 116 (.load (.slc 1 0 []) (.s 115)), gm 117 5, gp 118 (.idx 1 (.s 116) (.s 117)), gp 119 (.load (.slc 1 0 []) (.s 118)), gp 120 (.len (.s 119)), gp 121 (.bin 0 .lss (.s 114) (.s 120))]) (.cond (.s 121) .skip (.exit 4))) (.seq (.block 5 (.seq (.ops [gp 124 (.fld 2 (.s 1)), gp 125 (.load (.slc 1 0 []) (.s 124)), gm 126 3, gp 127 (.idx 1 (.s 125) (.s 126)), gp 128 (.load (.slc 1 0 []) (.s 127)), gp 129 (.fld 2 (.s 1)), gp 130 (.load (.slc 1 0 []) (.s 129)), gm 131 5, gp 132 (.idx 1 (.s 130) (.s 131)), gp 133 (.load (.slc 1 0 []) (.s 132)), gm 134 6, gp 135 (.idx 1 (.s 133) (.s 134)), gp 136 (ldi 135), gp 137 (.call 28 [(.s 128), (.s 136)]), gp 138 (.not (.s 137))] []) (.cond (.s 138) (.seq (os [gp 2 (.mov (.c (.bool false)))]) .ret) .skip))) (os [gm 122 6, gp 123 (.bin 0 .add (.s 122) (kk 1)), gm 6 123]))))))))) (os [gm 69 4, gp 70 (.bin 0 .add (.s 69) (kk 1)), gm 4 70])))))))) (os [gm 31 3, gp 32 (.bin 0 .add (.s 31) (kk 1)), gm 3 32])))))) (.seq (os [gp 2 (.mov (.c (.bool true)))]) .ret))))
set_option maxRecDepth 100000 in
theorem ok15 : compileFn Try.prog M 15 = some (139, c15, [(.mov (.s 2))]) := by kernel_rfl
-- loop.example/g01108/impl.isPoset
set_option maxRecDepth 100000 in
def c20 : ACode := (.seq (os [gp 1 (.box (.s 0)), gp 2 (.mov (.c (.bool false)))]) (.seq (os [gp 16 (.fld 1 (.s 1)), gp 17 (.load (.slc 1 0 []) (.s 16)), gp 18 (.call 34 [(.s 17)]), gm 3 18]) (.seq (.seq (os [gp 19 (.fld 0 (.s 1)), gp 20 (ldi 19), gp 21 (.call 35 [(.s 20), (kk 1), (kk 5)]), gp 22 (.not (.s 21)), gm 23 22, gq 24 23 false (.mov (.s 3)), gq 25 23 false (.bin 0 .gtr (.s 24) (kk 500)), gp 26 (.pick (.s 23) (.c (.bool true)) (.s 25)), gm 27 26, gq 28 27 false (.fld 2 (.s 1)), gq 29 27 false (.load (.slc 1 0 []) (.s 28)), gq 30 27 false (.len (.s 29)), gq 31 27 false (.fld 1 (.s 1)), gq 32 27 false (.load (.slc 1 0 []) (.s 31)), gq 33 27 false (.len (.s 32)), gq 34 27 false (.bin 0 .neq (.s 30) (.s 33)), gp 35 (.pick (.s 27) (.c (.bool true)) (.s 34)), gm 36 35, gq 37 36 false (.fld 1 (.s 1)), gq 38 36 false (.load (.slc 1 0 []) (.s 37)), gq 39 36 false (.fld 0 (.s 1)), gq 40 36 false (ldi 39), gq 41 36 false (.bin 0 .sub (.s 40) (kk 1)), gq 42 36 false (.call 36 [(.s 38), (kk 0), (.s 41)]), gq 43 36 false (.not (.s 42)), gp 44 (.pick (.s 36) (.c (.bool true)) (.s 43)), gm 45 44, gq 46 45 false (.fld 1 (.s 1)), gq 47 45 false (.load (.slc 1 0 []) (.s 46)), gq 48 45 false (.call 37 [(.s 47)]), gq 49 45 false (.not (.s 48)), gp 50 (.pick (.s 45) (.c (.bool true)) (.s 49))]) (.cond (.s 50) (.seq (os [gp 2 (.mov (.c (.bool false)))]) .ret) .skip)) (.seq (.seq (os [gp 51 (.fld 2 (.s 1)), gp 52 (.load (.slc 1 0 []) (.s 51)), gp 53 (.len (.s 52)), gz 54 0]) (.block 0 (.loop (.seq (os [gp 55 (.bin 0 .lss (.s 54) (.s 53))]) (.seq (.cond (.s 55) .skip (.exit 0)) (.seq (.block 1 (.seq (os [gm 56 54, gp 57 (.idx 1 (.s 52) (.s 54)), gp 58 (.load (.slc 1 0 []) (.s 57)), gm 4 56, gm 5 58]) (.seq (os [gm 59 5, gp 60 (.len (.s 59)), gz 61 0]) (.block 2 (.loop (.seq (os [gp 62 (.bin 0 .lss (.s 61) (.s 60))]) (.seq (.cond (.s 62) .skip (.exit 2)) (.seq (.block 3 (.seq (os [gm 63 61, gp 64 (.idx 1 (.s 59) (.s 61)), gp 65 (ldi 64), gm 6 63, gm 7 65]) (.seq (.ops [gm 66 7, gm 67 3, gp 68 (.bin 0 .sub (.s 67) (kk 1)), gp 69 (.call 35 [(.s 66), (kk 0), (.s 68)]), gp 70 (.not (.s 69)), gm 71 70, gq 72 71 false (.fld 1 (.s 1)), gq 73 71 false (.load (.slc 1 0 []) (.s 72)), gq 74 71 false (.mov (.s 7)), gq 75 71 false (.idx 1 (.s 73) (.s 74)), gq 76 71 false (ldi 75), gq 77 71 false (.fld 1 (.s 1)), gq 78 71 false (.load (.slc 1 0 []) (.s 77)), gq 79 71 false (.mov (.s 4)), gq 80 71 false (.idx 1 (.s 78) (.s 79)), gq 81 71 false (ldi 80), gq 82 71 false (.bin 0 .geq (.s 76) (.s 81)), gp 83 (.pick (.s 71) (.c (.bool true)) (.s 82)), gm 84 83, gq 85 84 false (.mov (.s 6)), gq 86 84 false (.bin 0 .gtr (.s 85) (kk 0)), gq 87 84 false (.mov (.s 86)), gq 88 87 true (.mov (.s 5)), gq 89 87 true (.mov (.s 6)), gq 90 87 true (.bin 0 .sub (.s 89) (kk 1)), gq 91 87 true (.idx 1 (.s 88) (.s 90)), gq 92 87 true (ldi 91), gq 93 87 true (.mov (.s 7)), gq 94 87 true (.bin 0 .geq (.s 92) (.s 93)), gq 95 84 false (.pick (.s 87) (.s 94) (.c (.bool false))), gp 96 (.pick (.s 84) (.c (.bool true)) (.s 95))] []) (.cond (.s 96) (.seq (os [gp 2 (.mov (.c (.bool false)))]) .ret) .skip)))) (os [gp 97 (.bin 0 .add (.s 61) (kk 1)), gm 61 97]))))))))) (os [gp 98 (.bin 0 .add (.s 54) (kk 1)), gm 54 98]))))))) (.seq (.seq (os [gp 99 (.fld 2 (.s 1)), gp 100 (.load (.slc 1 0 []) (.s 99)), gp 101 (.len (.s 100)), gz 102 0]) (.block 4 (.loop (.seq (os [gp 103 (.bin 0 .lss (.s 102) (.s 101))]) (.seq (.cond (.s 103) .skip (.exit 4)) (.seq (.block 5 (.seq (os [gp 104 (.idx 1 (.s 100) (.s 102)), gp 105 (.load (.slc 1 0 []) (.s 104)), gm 9 105]) (.seq (os [gm 106 9, gp 107 (.len (.s 106)), gz 108 0]) (.block 6 (.loop (.seq (os [gp 109 (.bin 0 .lss (.s 108) (.s 107))]) (.seq (.cond (.s 109) .skip (.exit 6)) (.seq (.block 7 (.seq (os [gp 110 (.idx 1 (.s 106) (.s 108)), gp 111 (ldi 110), gm 11 111]) (.seq (os [gp 112 (.fld 2 (.s 1)), gp 113 (.load (.slc 1 0 []) (.s 112)), gm 114 11, gp 115 (.idx 1 (.s 113) (.s 114)), gp 116 (.load (.slc 1 0 []) (.s 115)), gp 117 (.len (.s 116)), gz 118 0]) (.block 8 (.loop (.seq (os [gp 119 (.bin 0 .lss (.s 118) (.s 117))]) (.seq (.cond (.s 119) .skip (.exit 8)) (.seq (.block 9 (.seq (os [gp 120 (.idx 1 (.s 116) (.s 118)), gp 121 (ldi 120), gm 13 121]) (.seq (os [gm 123 9, gm 124 13, gp 125 (.call 38 [(.s 123), (.s 124)]), gm 122 125, gp 126 (.ext (.s 122) 0), gp 127 (.ext (.s 122) 1), gm 14 126, gm 15 127]) (.seq (os [gm 128 15, gp 129 (.not (.s 128))]) (.cond (.s 129) (.seq (os [gp 2 (.mov (.c (.bool false)))]) .ret) .skip))))) (os [gp 130 (.bin 0 .add (.s 118) (kk 1)), gm 118 130]))))))))) (os [gp 131 (.bin 0 .add (.s 108) (kk 1)), gm 108 131]))))))))) (os [gp 132 (.bin 0 .add (.s 102) (kk 1)), gm 102 132]))))))) (.seq (os [gp 2 (.mov (.c (.bool true)))]) .ret))))))
set_option maxRecDepth 100000 in
theorem ok20 : compileFn Try.prog M 20 = some (133, c20, [(.mov (.s 2))]) := by kernel_rfl
-- loop.example/g01108/impl.areWithin
set_option maxRecDepth 100000 in
def c36 : ACode := (.seq (os [gp 4 (.box (.s 1)), gp 5 (.box (.s 2)), gp 6 (.mov (.c (.bool false)))]) (.seq (os [gm 7 0, gp 8 (.fn 48 [] [(.s 4), (.s 5)]), gp 9 (.call 47 [(.s 7), (.s 8)]), gp 10 (.not (.s 9)), gm 6 10]) .ret))
set_option maxRecDepth 100000 in
theorem ok36 : compileFn Try.prog M 36 = some (11, c36, [(.mov (.s 6))]) := by kernel_rfl
-- loop.example/g01108/impl.areWithin$1
set_option maxRecDepth 100000 in
def c48 : ACode := (.seq (os [gp 4 (.mov (.c (.bool false)))]) (.seq (os [gm 5 0, gp 6 (ldi 1), gp 7 (ldi 2), gp 8 (.call 35 [(.s 5), (.s 6), (.s 7)]), gp 9 (.not (.s 8)), gm 4 9]) .ret))
set_option maxRecDepth 100000 in
theorem ok48 : compileFn Try.prog M 48 = some (10, c48, [(.mov (.s 4))]) := by kernel_rfl
-- slices.IsSorted[[]int64,int64]
set_option maxRecDepth 100000 in
def c37 : ACode := (.seq (os [gp 2 (.mov (.c (.bool false)))]) (.seq (.seq (os [gm 4 0, gp 5 (.len (.s 4)), gp 6 (.bin 0 .sub (.s 5) (kk 1)), gm 3 6]) (.block 0 (.loop (.seq (.seq (os [gm 7 3, gp 8 (.bin 0 .gtr (.s 7) (kk 0))]) (.cond (.s 8) .skip (.exit 0))) (.seq (.block 1 (.seq (.ops [gm 11 0, gm 12 3, gp 13 (.idx 1 (.s 11) (.s 12)), gp 14 (ldi 13), gm 15 0, gm 16 3, gp 17 (.bin 0 .sub (.s 16) (kk 1)), gp 18 (.idx 1 (.s 15) (.s 17)), gp 19 (ldi 18), gp 20 (.call 49 [(.s 14), (.s 19)])] []) (.cond (.s 20) (.seq (os [gp 2 (.mov (.c (.bool false)))]) .ret) .skip))) (os [gm 9 3, gp 10 (.bin 0 .sub (.s 9) (kk 1)), gm 3 10])))))) (.seq (os [gp 2 (.mov (.c (.bool true)))]) .ret)))
set_option maxRecDepth 100000 in
theorem ok37 : compileFn Try.prog M 37 = some (21, c37, [(.mov (.s 2))]) := by kernel_rfl
-- slices.BinarySearch[[]int64,int64]
set_option maxRecDepth 100000 in
def c38 : ACode := (.seq (os [gz 4 0, gp 5 (.mov (.c (.bool false)))]) (.seq (os [gm 10 0, gp 11 (.len (.s 10)), gm 6 11]) (.seq (os [gm 12 6, gz 7 0, gm 8 12]) (.seq (.block 0 (.loop (.seq (.seq (os [gm 13 7, gm 14 8, gp 15 (.bin 0 .lss (.s 13) (.s 14))]) (.cond (.s 15) .skip (.exit 0))) (.block 1 (.seq (os [gm 16 7, gm 17 8, gp 18 (.bin 0 .add (.s 16) (.s 17)), gp 19 (.conv .u64 (.s 18)), gp 20 (.bin 0 .shr (.s 19) (.c (.int .u64 1))), gp 21 (.conv .i64 (.s 20)), gm 9 21]) (.seq (os [gm 22 0, gm 23 9, gp 24 (.idx 1 (.s 22) (.s 23)), gp 25 (ldi 24), gm 26 1, gp 27 (.call 49 [(.s 25), (.s 26)])]) (.cond (.s 27) (os [gm 28 9, gp 29 (.bin 0 .add (.s 28) (kk 1)), gm 7 29]) (os [gm 30 9, gm 8 30])))))))) (.seq (os [gm 31 7, gm 32 7, gm 33 6, gp 34 (.bin 0 .lss (.s 32) (.s 33)), gm 35 34, gq 36 35 true (.mov (.s 0)), gq 37 35 true (.mov (.s 7)), gq 38 35 true (.idx 1 (.s 36) (.s 37)), gq 39 35 true (ldi 38), gq 40 35 true (.mov (.s 1)), gq 41 35 true (.bin 0 .eql (.s 39) (.s 40)), gq 42 35 true (.mov (.s 41)), gq 43 42 false (.mov (.s 0)), gq 44 42 false (.mov (.s 7)), gq 45 42 false (.idx 1 (.s 43) (.s 44)), gq 46 42 false (ldi 45), gq 47 42 false (.call 50 [(.s 46)]), gq 48 42 false (.mov (.s 47)), gq 49 48 true (.mov (.s 1)), gq 50 48 true (.call 50 [(.s 49)]), gq 51 42 false (.pick (.s 48) (.s 50) (.c (.bool false))), gq 52 35 true (.pick (.s 42) (.c (.bool true)) (.s 51)), gp 53 (.pick (.s 35) (.s 52) (.c (.bool false))), gm 4 31, gm 5 53]) .ret)))))
set_option maxRecDepth 100000 in
theorem ok38 : compileFn Try.prog M 38 = some (54, c38, [(.mov (.s 4)), (.mov (.s 5))]) := by kernel_rfl
-- slices.ContainsFunc[[]int64,int64]
set_option maxRecDepth 100000 in
def c47 : ACode := (.seq (os [gp 4 (.mov (.c (.bool false)))]) (.seq (os [gm 5 0, gm 6 1, gp 7 (.call 52 [(.s 5), (.s 6)]), gp 8 (.bin 0 .geq (.s 7) (kk 0)), gm 4 8]) .ret))
set_option maxRecDepth 100000 in
theorem ok47 : compileFn Try.prog M 47 = some (9, c47, [(.mov (.s 4))]) := by kernel_rfl
-- slices.IndexFunc[[]int64,int64]
set_option maxRecDepth 100000 in
def c52 : ACode := (.seq (os [gz 4 0]) (.seq (.seq (os [gm 6 0, gp 7 (.len (.s 6)), gz 8 0]) (.block 0 (.loop (.seq (os [gp 9 (.bin 0 .lss (.s 8) (.s 7))]) (.seq (.cond (.s 9) .skip (.exit 0)) (.seq (.block 1 (.seq (os [gm 10 8, gm 5 10]) (.seq (os [gm 11 1, gm 12 0, gm 13 5, gp 14 (.idx 1 (.s 12) (.s 13)), gp 15 (ldi 14), gp 16 (.callv (.s 11) [(.s 15)])]) (.cond (.s 16) (.seq (os [gm 17 5, gm 4 17]) .ret) .skip)))) (os [gp 18 (.bin 0 .add (.s 8) (kk 1)), gm 8 18]))))))) (.seq (os [gz 4 (-1)]) .ret)))
set_option maxRecDepth 100000 in
theorem ok52 : compileFn Try.prog M 52 = some (19, c52, [(.mov (.s 4))]) := by kernel_rfl
end Go.Proofs.Ytdgcpjfffpkhkaa
set_option maxRecDepth 100000
namespace Go.Proofs.Ytdgcpjfffpkhkaa
open Go.Gov
-- loop.example/g01108/laws.markInt64S
set_option maxRecDepth 100000 in
def c24 : ACode := (.seq (os [gz 4 0]) (.seq (.seq (os [gz 5 0]) (.block 0 (.loop (.seq (.seq (os [gm 6 5, gm 7 0, gp 8 (.len (.s 7)), gp 9 (.bin 0 .lss (.s 6) (.s 8))]) (.cond (.s 9) .skip (.exit 0))) (.seq (.block 1 (.seq (os [gm 12 0, gm 13 5, gm 14 1, gp 15 (.idx 1 (.s 12) (.s 13)), ⟨none, none, (.store 1 (.s 15) (.s 14))⟩]) (os [gm 16 1, gp 17 (.bin 0 .add (.s 16) (kk 1)), gm 1 17]))) (os [gm 10 5, gp 11 (.bin 0 .add (.s 10) (kk 1)), gm 5 11])))))) (.seq (os [gm 18 1, gm 4 18]) .ret)))
set_option maxRecDepth 100000 in
theorem ok24 : compileFn Try.prog M 24 = some (19, c24, [(.mov (.s 4))]) := by kernel_rfl
-- loop.example/g01108/laws.heldInt64S
set_option maxRecDepth 100000 in
def c43 : ACode := (.seq (os [gz 4 0]) (.seq (.seq (os [gz 5 0]) (.block 0 (.loop (.seq (.seq (os [gm 6 5, gm 7 0, gp 8 (.len (.s 7)), gp 9 (.bin 0 .lss (.s 6) (.s 8))]) (.cond (.s 9) .skip (.exit 0))) (.seq (.block 1 (.seq (.seq (os [gm 12 0, gm 13 5, gp 14 (.idx 1 (.s 12) (.s 13)), gp 15 (ldi 14), gm 16 1, gp 17 (.bin 0 .neq (.s 15) (.s 16))]) (.cond (.s 17) (.seq (os [gz 4 (-1)]) .ret) .skip)) (os [gm 18 1, gp 19 (.bin 0 .add (.s 18) (kk 1)), gm 1 19]))) (os [gm 10 5, gp 11 (.bin 0 .add (.s 10) (kk 1)), gm 5 11])))))) (.seq (os [gm 20 1, gm 4 20]) .ret)))
set_option maxRecDepth 100000 in
theorem ok43 : compileFn Try.prog M 43 = some (21, c43, [(.mov (.s 4))]) := by kernel_rfl
-- loop.example/g01108/laws.markInt64SS
set_option maxRecDepth 100000 in
def c25 : ACode := (.seq (os [gz 4 0]) (.seq (.seq (os [gz 5 0]) (.block 0 (.loop (.seq (.seq (os [gm 6 5, gm 7 0, gp 8 (.len (.s 7)), gp 9 (.bin 0 .lss (.s 6) (.s 8))]) (.cond (.s 9) .skip (.exit 0))) (.seq (.block 1 (os [gm 12 0, gm 13 5, gp 14 (.idx 1 (.s 12) (.s 13)), gp 15 (.load (.slc 1 0 []) (.s 14)), gm 16 1, gp 17 (.call 24 [(.s 15), (.s 16)]), gm 1 17])) (os [gm 10 5, gp 11 (.bin 0 .add (.s 10) (kk 1)), gm 5 11])))))) (.seq (os [gm 18 1, gm 4 18]) .ret)))
set_option maxRecDepth 100000 in
theorem ok25 : compileFn Try.prog M 25 = some (19, c25, [(.mov (.s 4))]) := by kernel_rfl
-- loop.example/g01108/laws.heldInt64SS
set_option maxRecDepth 100000 in
def c26 : ACode := (.seq (os [gz 4 0]) (.seq (.seq (os [gz 5 0]) (.block 0 (.loop (.seq (.seq (os [gm 6 5, gm 7 0, gp 8 (.len (.s 7)), gp 9 (.bin 0 .lss (.s 6) (.s 8))]) (.cond (.s 9) .skip (.exit 0))) (.seq (.block 1 (.seq (os [gm 12 0, gm 13 5, gp 14 (.idx 1 (.s 12) (.s 13)), gp 15 (.load (.slc 1 0 []) (.s 14)), gm 16 1, gp 17 (.call 43 [(.s 15), (.s 16)]), gm 1 17]) (.seq (os [gm 18 1, gp 19 (.bin 0 .lss (.s 18) (kk 0))]) (.cond (.s 19) (.seq (os [gz 4 (-1)]) .ret) .skip)))) (os [gm 10 5, gp 11 (.bin 0 .add (.s 10) (kk 1)), gm 5 11])))))) (.seq (os [gm 20 1, gm 4 20]) .ret)))
set_option maxRecDepth 100000 in
theorem ok26 : compileFn Try.prog M 26 = some (21, c26, [(.mov (.s 4))]) := by kernel_rfl
-- loop.example/g01108/laws.markPoset
set_option maxRecDepth 100000 in
def c10 : ACode := (.seq (os [gp 2 (.box (.s 0)), gz 4 0]) (.seq (os [gp 5 (.fld 1 (.s 2)), gp 6 (.load (.slc 1 0 []) (.s 5)), gm 7 1, gp 8 (.call 24 [(.s 6), (.s 7)]), gm 1 8]) (.seq (os [gp 9 (.fld 2 (.s 2)), gp 10 (.load (.slc 1 0 []) (.s 9)), gm 11 1, gp 12 (.call 25 [(.s 10), (.s 11)]), gm 1 12]) (.seq (os [gm 13 1, gm 4 13]) .ret))))
set_option maxRecDepth 100000 in
theorem ok10 : compileFn Try.prog M 10 = some (14, c10, [(.mov (.s 4))]) := by kernel_rfl
end Go.Proofs.Ytdgcpjfffpkhkaa
set_option maxRecDepth 100000
namespace Go.Proofs.Ytdgcpjfffpkhkaa
open Go.Gov
end Go.Proofs.Ytdgcpjfffpkhkaa
