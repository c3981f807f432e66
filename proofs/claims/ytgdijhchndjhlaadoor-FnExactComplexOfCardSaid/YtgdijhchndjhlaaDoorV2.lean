/- Texts that belong together. -/
import Derived.Test.YtgdijhchndjhlaaDoorZc
import Derived.Test.YtgdijhchndjhlaaDoorX5
set_option linter.unusedSimpArgs false
set_option linter.unusedVariables false
set_option maxRecDepth 100000
namespace Go.Proofs.YtgdijhchndjhlaaDoor
open Go.Gov
-- (*loop.example/g01108/impl.Complex).depth
set_option maxRecDepth 100000 in
def c65 : ACode := (.seq (os [gz 2 0]) (.seq (os [gz 3 0]) (.seq (.seq (os [gm 6 0, gp 7 (.nck (.s 6)), gp 8 (.fld 1 (.s 7)), gp 9 (.load (.slc 1 0 []) (.s 8)), gp 10 (.len (.s 9)), gz 11 0]) (.block 0 (.loop (.seq (os [gp 12 (.bin 0 .lss (.s 11) (.s 10))]) (.seq (.cond (.s 12) .skip (.exit 0)) (.seq (.block 1 (.seq (os [gp 13 (.idx 1 (.s 9) (.s 11)), gp 14 (.load (.slc 1 0 []) (.s 13)), gm 5 14]) (os [gm 15 3, gm 16 5, gp 17 (.call 53 [(.s 16)]), gp 18 (.mxb (.s 15) (.s 17)), gm 3 18]))) (os [gp 19 (.bin 0 .add (.s 11) (kk 1)), gm 11 19]))))))) (.seq (os [gm 20 3, gm 2 20]) .ret))))
set_option maxRecDepth 100000 in
theorem ok65 : compileFn Tryd.prog M2 65 = some (21, c65, [(.mov (.s 2))]) := by kernel_rfl
-- (*loop.example/g01108/impl.Complex).facesWith
set_option maxRecDepth 100000 in
def c66 : ACode := (.seq (os [gn 4]) (.seq (os [gp 8 (.bsl 0 []), gm 5 8]) (.seq (.seq (os [gm 9 1, gp 10 (.bin 0 .eql (.s 9) (kk 0))]) (.cond (.s 10) (os [gm 11 5, ⟨(some 12), none, (.bsl 1 [⟨0, (.c (.slice none 0 0))⟩])⟩, gp 13 (.app 1 24 (.s 11) (.s 12)), gm 5 13]) .skip)) (.seq (.seq (os [gm 14 0, gp 15 (.nck (.s 14)), gp 16 (.fld 1 (.s 15)), gp 17 (.load (.slc 1 0 []) (.s 16)), gp 18 (.len (.s 17)), gz 19 0]) (.block 0 (.loop (.seq (os [gp 20 (.bin 0 .lss (.s 19) (.s 18))]) (.seq (.cond (.s 20) .skip (.exit 0)) (.seq (.block 1 (.seq (os [gp 21 (.idx 1 (.s 17) (.s 19)), gp 22 (.load (.slc 1 0 []) (.s 21)), gm 7 22]) (.seq (os [gm 23 1, gp 24 (.bin 0 .gtr (.s 23) (kk 0)), gm 25 24, gq 26 25 true (.mov (.s 1)), gq 27 25 true (.mov (.s 7)), gq 28 25 true (.call 53 [(.s 27)]), gq 29 25 true (.bin 0 .leq (.s 26) (.s 28)), gp 30 (.pick (.s 25) (.s 29) (.c (.bool false)))]) (.cond (.s 30) (os [gm 31 5, gm 32 7, gm 33 1, gp 34 (.call 67 [(.s 32), (.s 33)]), gp 35 (.app 1 24 (.s 31) (.s 34)), gm 5 35]) .skip)))) (os [gp 36 (.bin 0 .add (.s 19) (kk 1)), gm 19 36]))))))) (.seq (os [gm 37 5, gp 38 (.call 79 [(.s 37), (.f 62)])]) (.seq (os [gm 39 5, gp 40 (.call 86 [(.s 39), (.f 87)]), gm 4 40]) .ret))))))
set_option maxRecDepth 100000 in
theorem ok66 : compileFn Tryd.prog M2 66 = some (41, c66, [(.mov (.s 4))]) := by kernel_rfl
-- (*loop.example/g01108/impl.Complex).isPure
set_option maxRecDepth 100000 in
def c64 : ACode := (.seq (os [gp 2 (.mov (.c (.bool false)))]) (.seq (os [gm 4 0, gp 5 (.call 65 [(.s 4)]), gp 3 (.alloc [(.int .i64 0)]), ⟨none, none, (.store 1 (.s 3) (.s 5))⟩]) (.seq (os [gm 6 0, gp 7 (.nck (.s 6)), gp 8 (.fld 1 (.s 7)), gp 9 (.load (.slc 1 0 []) (.s 8)), gp 10 (.fn 85 [] [(.s 3)]), gp 11 (.call 84 [(.s 9), (.s 10)]), gp 12 (.not (.s 11)), gm 2 12]) .ret)))
set_option maxRecDepth 100000 in
theorem ok64 : compileFn Tryd.prog M2 64 = some (13, c64, [(.mov (.s 2))]) := by kernel_rfl
-- (*loop.example/g01108/impl.Complex).isPure$1
set_option maxRecDepth 100000 in
def c85 : ACode := (.seq (os [gp 3 (.mov (.c (.bool false)))]) (.seq (.ops [gm 4 0, gp 6 (ldi 1), gp 5 (.call 53 [(.s 4)]), gp 7 (.bin 0 .neq (.s 5) (.s 6)), gm 3 7] []) .ret))
set_option maxRecDepth 100000 in
theorem ok85 : compileFn Tryd.prog M2 85 = some (8, c85, [(.mov (.s 3))]) := by kernel_rfl
-- loop.example/g01108/spec.l17Euler
set_option maxRecDepth 100000 in
def c36 : ACode := (.seq (os [gz 2 0]) (.seq (os [gz 3 0, gz 4 1]) (.seq (.seq (os [gz 5 1]) (.block 0 (.loop (.seq (.seq (os [gm 6 5, gm 7 0, gp 8 (.len (.s 7)), gp 9 (.bin 0 .lss (.s 6) (.s 8))]) (.cond (.s 9) .skip (.exit 0))) (.seq (.block 1 (.seq (os [gm 12 3, gm 13 4, gm 14 0, gm 15 5, gp 16 (.idx 1 (.s 14) (.s 15)), gp 17 (ldi 16), gp 18 (.bin 0 .mul (.s 13) (.s 17)), gp 19 (.bin 0 .add (.s 12) (.s 18)), gm 3 19]) (os [gm 20 4, gp 21 (.neg (.s 20)), gm 4 21]))) (os [gm 10 5, gp 11 (.bin 0 .add (.s 10) (kk 1)), gm 5 11])))))) (.seq (os [gm 22 3, gm 2 22]) .ret))))
set_option maxRecDepth 100000 in
theorem ok36 : compileFn Tryd.prog M2 36 = some (23, c36, [(.mov (.s 2))]) := by kernel_rfl
-- loop.example/g01108/spec.l17F
set_option maxRecDepth 100000 in
def c37 : ACode := (.seq (os [gp 1 (.box (.s 0)), gn 2]) (.seq (os [gp 5 (.bsl 0 []), gm 3 5]) (.seq (.seq (os [gz 4 0]) (.block 0 (.loop (.seq (.seq (os [gm 6 4, gp 7 (.loads 2 (.s 1)), gp 8 (.call 33 [(.s 7)]), gp 9 (.bin 0 .leq (.s 6) (.s 8))]) (.cond (.s 9) .skip (.exit 0))) (.seq (.block 1 (os [gm 12 3, gp 13 (.loads 2 (.s 1)), gm 14 4, gp 15 (.call 34 [(.s 13), (.s 14)]), gp 16 (.len (.s 15)), ⟨(some 17), none, (.bsl 1 [⟨0, (.s 16)⟩])⟩, gp 18 (.app 1 8 (.s 12) (.s 17)), gm 3 18])) (os [gm 10 4, gp 11 (.bin 0 .add (.s 10) (kk 1)), gm 4 11])))))) (.seq (os [gm 19 3, gm 2 19]) .ret))))
set_option maxRecDepth 100000 in
theorem ok37 : compileFn Tryd.prog M2 37 = some (20, c37, [(.mov (.s 2))]) := by kernel_rfl
-- loop.example/g01108/spec.l17Faces
set_option maxRecDepth 100000 in
def c34 : ACode := (.seq (os [gp 2 (.box (.s 0)), gn 4]) (.seq (os [gp 7 (.bsl 0 []), gm 5 7]) (.seq (.seq (os [gm 8 1, gp 9 (.bin 0 .eql (.s 8) (kk 0))]) (.cond (.s 9) (.seq (os [gp 10 (.bsl 0 []), ⟨(some 11), none, (.bsl 1 [⟨0, (.s 10)⟩])⟩, gm 4 11]) .ret) .skip)) (.seq (.seq (os [gz 6 0]) (.block 0 (.loop (.seq (.seq (os [gm 12 6, gp 13 (.fld 1 (.s 2)), gp 14 (.load (.slc 1 0 []) (.s 13)), gp 15 (.len (.s 14)), gp 16 (.bin 0 .lss (.s 12) (.s 15))]) (.cond (.s 16) .skip (.exit 0))) (.seq (.block 1 (os [gm 19 5, gp 20 (.fld 1 (.s 2)), gp 21 (.load (.slc 1 0 []) (.s 20)), gm 22 6, gp 23 (.idx 1 (.s 21) (.s 22)), gp 24 (.load (.slc 1 0 []) (.s 23)), gm 25 1, gp 26 (.bsl 0 []), gp 27 (.call 59 [(.s 19), (.s 24), (.s 25), (.s 26), (kk 0)]), gm 5 27])) (os [gm 17 6, gp 18 (.bin 0 .add (.s 17) (kk 1)), gm 6 18])))))) (.seq (os [gm 28 5, gm 4 28]) .ret)))))
set_option maxRecDepth 100000 in
theorem ok34 : compileFn Tryd.prog M2 34 = some (29, c34, [(.mov (.s 4))]) := by kernel_rfl
-- loop.example/g01108/spec.l17Parts
set_option maxRecDepth 100000 in
def c59 : ACode := (.seq (os [gn 10]) (.seq (.seq (os [gm 12 3, gp 13 (.len (.s 12)), gm 14 2, gp 15 (.bin 0 .eql (.s 13) (.s 14))]) (.cond (.s 15) (.seq (os [gm 16 0, gm 17 3, gp 18 (.call 45 [(.s 16), (.s 17)]), gm 10 18]) .ret) .skip)) (.seq (.seq (os [gm 19 4, gm 11 19]) (.block 0 (.loop (.seq (.seq (os [gm 20 11, gm 21 1, gp 22 (.len (.s 21)), gp 23 (.bin 0 .lss (.s 20) (.s 22))]) (.cond (.s 23) .skip (.exit 0))) (.seq (.block 1 (.alts (.reg (gm 26 0) (.reg (gm 27 1) (.reg (gm 28 2) (.reg (gm 29 3) (.reg (gm 31 1) (.reg (gm 32 11) (.reg (gp 33 (.idx 1 (.s 31) (.s 32))) (.reg (gm 37 11) (.reg (gp 38 (.bin 0 .add (.s 37) (kk 1))) (.alt false (gp 30 (.call 80 [(.s 29)])) (.alt false (gp 34 (ldi 33)) (.alt false (⟨(some 35), none, (.bsl 1 [⟨0, (.s 34)⟩])⟩) (.alt false (gp 36 (.app 1 8 (.s 30) (.s 35))) (.alt false (gp 39 (.call 59 [(.s 26), (.s 27), (.s 28), (.s 36), (.s 38)])) (.reg (gm 0 39) .fin) .fin) .fin) .fin) .fin) (.alt false (gp 34 (ldi 33)) (.alt false (gp 30 (.call 80 [(.s 29)])) (.alt false (⟨(some 35), none, (.bsl 1 [⟨0, (.s 34)⟩])⟩) (.alt false (gp 36 (.app 1 8 (.s 30) (.s 35))) (.alt false (gp 39 (.call 59 [(.s 26), (.s 27), (.s 28), (.s 36), (.s 38)])) (.reg (gm 0 39) .fin) .fin) .fin) .fin) (.alt false (⟨(some 35), none, (.bsl 1 [⟨0, (.s 34)⟩])⟩) (.alt false (gp 30 (.call 80 [(.s 29)])) (.alt false (gp 36 (.app 1 8 (.s 30) (.s 35))) (.alt false (gp 39 (.call 59 [(.s 26), (.s 27), (.s 28), (.s 36), (.s 38)])) (.reg (gm 0 39) .fin) .fin) .fin) .fin) .fin)) .fin))))))))))))) (os [gm 24 11, gp 25 (.bin 0 .add (.s 24) (kk 1)), gm 11 25])))))) (.seq (os [gm 40 0, gm 10 40]) .ret))))
set_option maxRecDepth 100000 in
theorem ok59 : compileFn Tryd.prog M2 59 = some (41, c59, [(.mov (.s 10))]) := by kernel_rfl
-- loop.example/g01108/spec.l17Pure
set_option maxRecDepth 100000 in
def c32 : ACode := (.seq (os [gp 1 (.box (.s 0)), gp 2 (.mov (.c (.bool false)))]) (.seq (.seq (os [gz 3 0]) (.block 0 (.loop (.seq (.seq (os [gm 4 3, gp 5 (.fld 1 (.s 1)), gp 6 (.load (.slc 1 0 []) (.s 5)), gp 7 (.len (.s 6)), gp 8 (.bin 0 .lss (.s 4) (.s 7))]) (.cond (.s 8) .skip (.exit 0))) (.seq (.block 1 (.seq (.ops [gp 11 (.fld 1 (.s 1)), gp 12 (.load (.slc 1 0 []) (.s 11)), gm 13 3, gp 14 (.idx 1 (.s 12) (.s 13)), gp 15 (.load (.slc 1 0 []) (.s 14)), gp 16 (.len (.s 15)), gp 17 (.fld 1 (.s 1)), gp 18 (.load (.slc 1 0 []) (.s 17)), gp 19 (.idx 1 (.s 18) (kk 0)), gp 20 (.load (.slc 1 0 []) (.s 19)), gp 21 (.len (.s 20)), gp 22 (.bin 0 .neq (.s 16) (.s 21))] []) (.cond (.s 22) (.seq (os [gp 2 (.mov (.c (.bool false)))]) .ret) .skip))) (os [gm 9 3, gp 10 (.bin 0 .add (.s 9) (kk 1)), gm 3 10])))))) (.seq (os [gp 2 (.mov (.c (.bool true)))]) .ret)))
set_option maxRecDepth 100000 in
theorem ok32 : compileFn Tryd.prog M2 32 = some (23, c32, [(.mov (.s 2))]) := by kernel_rfl
-- loop.example/g01108/spec.l17Size
set_option maxRecDepth 100000 in
def c33 : ACode := (.seq (os [gp 1 (.box (.s 0)), gz 2 0]) (.seq (os [gz 3 0]) (.seq (.seq (os [gz 4 0]) (.block 0 (.loop (.seq (.seq (os [gm 5 4, gp 6 (.fld 1 (.s 1)), gp 7 (.load (.slc 1 0 []) (.s 6)), gp 8 (.len (.s 7)), gp 9 (.bin 0 .lss (.s 5) (.s 8))]) (.cond (.s 9) .skip (.exit 0))) (.seq (.block 1 (os [gm 12 3, gp 13 (.fld 1 (.s 1)), gp 14 (.load (.slc 1 0 []) (.s 13)), gm 15 4, gp 16 (.idx 1 (.s 14) (.s 15)), gp 17 (.load (.slc 1 0 []) (.s 16)), gp 18 (.len (.s 17)), gp 19 (.mxb (.s 12) (.s 18)), gm 3 19])) (os [gm 10 4, gp 11 (.bin 0 .add (.s 10) (kk 1)), gm 4 11])))))) (.seq (os [gm 20 3, gm 2 20]) .ret))))
set_option maxRecDepth 100000 in
theorem ok33 : compileFn Tryd.prog M2 33 = some (21, c33, [(.mov (.s 2))]) := by kernel_rfl
-- slices.CompactFunc[[][]int64,[]int64]
set_option maxRecDepth 100000 in
def c86 : ACode := (.seq (os [gn 4]) (.seq (.seq (os [gm 8 0, gp 9 (.len (.s 8)), gp 10 (.bin 0 .lss (.s 9) (kk 2))]) (.cond (.s 10) (.seq (os [gm 11 0, gm 4 11]) .ret) .skip)) (.seq (.seq (os [gz 5 1]) (.block 0 (.loop (.seq (.seq (os [gm 12 5, gm 13 0, gp 14 (.len (.s 13)), gp 15 (.bin 0 .lss (.s 12) (.s 14))]) (.cond (.s 15) .skip (.exit 0))) (.seq (.block 1 (.seq (.ops [gm 18 1, gm 19 0, gm 20 5, gp 21 (.idx 1 (.s 19) (.s 20)), gp 22 (.load (.slc 1 0 []) (.s 21)), gm 23 0, gm 24 5, gp 25 (.bin 0 .sub (.s 24) (kk 1)), gp 26 (.idx 1 (.s 23) (.s 25)), gp 27 (.load (.slc 1 0 []) (.s 26))] [gp 28 (.callv (.s 18) [(.s 22), (.s 27)])]) (.cond (.s 28) (.seq (os [gm 29 0, gm 30 5, gp 31 (.slice 1 (.s 29) (some (.s 30)) none), gm 6 31]) (.seq (.seq (os [gz 7 1]) (.block 2 (.loop (.seq (.seq (os [gm 32 7, gm 33 6, gp 34 (.len (.s 33)), gp 35 (.bin 0 .lss (.s 32) (.s 34))]) (.cond (.s 35) .skip (.exit 2))) (.seq (.block 3 (.seq (.ops [gm 38 1, gm 39 6, gm 40 7, gp 41 (.idx 1 (.s 39) (.s 40)), gp 42 (.load (.slc 1 0 []) (.s 41)), gm 43 6, gm 44 7, gp 45 (.bin 0 .sub (.s 44) (kk 1)), gp 46 (.idx 1 (.s 43) (.s 45)), gp 47 (.load (.slc 1 0 []) (.s 46))] [gp 48 (.callv (.s 38) [(.s 42), (.s 47)]), gp 49 (.not (.s 48))]) (.cond (.s 49) (.seq (os [gm 50 0, gm 51 5, gm 52 6, gm 53 7, gp 54 (.idx 1 (.s 52) (.s 53)), gp 55 (.load (.slc 1 0 []) (.s 54)), gp 56 (.idx 1 (.s 50) (.s 51)), ⟨none, none, (.store 1 (.s 56) (.s 55))⟩]) (os [gm 57 5, gp 58 (.bin 0 .add (.s 57) (kk 1)), gm 5 58])) .skip))) (os [gm 36 7, gp 37 (.bin 0 .add (.s 36) (kk 1)), gm 7 37])))))) (.seq (os [gm 59 0, gm 60 5, gp 61 (.slice 1 (.s 59) (some (.s 60)) none), ⟨none, none, (.clr [(.slice none 0 0)] (.s 61))⟩]) (.seq (os [gm 62 0, gm 63 5, gp 64 (.slice 1 (.s 62) none (some (.s 63))), gm 4 64]) .ret)))) .skip))) (os [gm 16 5, gp 17 (.bin 0 .add (.s 16) (kk 1)), gm 5 17])))))) (.seq (os [gm 65 0, gm 4 65]) .ret))))
set_option maxRecDepth 100000 in
theorem ok86 : compileFn Tryd.prog M2 86 = some (66, c86, [(.mov (.s 4))]) := by kernel_rfl
-- slices.ContainsFunc[[][]int64,[]int64]
set_option maxRecDepth 100000 in
def c84 : ACode := (.seq (os [gp 4 (.mov (.c (.bool false)))]) (.seq (os [gm 5 0, gm 6 1, gp 7 (.call 102 [(.s 5), (.s 6)]), gp 8 (.bin 0 .geq (.s 7) (kk 0)), gm 4 8]) .ret))
set_option maxRecDepth 100000 in
theorem ok84 : compileFn Tryd.prog M2 84 = some (9, c84, [(.mov (.s 4))]) := by kernel_rfl
-- slices.IndexFunc[[][]int64,[]int64]
set_option maxRecDepth 100000 in
def c102 : ACode := (.seq (os [gz 4 0]) (.seq (.seq (os [gm 6 0, gp 7 (.len (.s 6)), gz 8 0]) (.block 0 (.loop (.seq (os [gp 9 (.bin 0 .lss (.s 8) (.s 7))]) (.seq (.cond (.s 9) .skip (.exit 0)) (.seq (.block 1 (.seq (os [gm 10 8, gm 5 10]) (.seq (os [gm 11 1, gm 12 0, gm 13 5, gp 14 (.idx 1 (.s 12) (.s 13)), gp 15 (.load (.slc 1 0 []) (.s 14)), gp 16 (.callv (.s 11) [(.s 15)])]) (.cond (.s 16) (.seq (os [gm 17 5, gm 4 17]) .ret) .skip)))) (os [gp 18 (.bin 0 .add (.s 8) (kk 1)), gm 8 18]))))))) (.seq (os [gz 4 (-1)]) .ret)))
set_option maxRecDepth 100000 in
theorem ok102 : compileFn Tryd.prog M2 102 = some (19, c102, [(.mov (.s 4))]) := by kernel_rfl
end Go.Proofs.YtgdijhchndjhlaaDoor
