/- Texts that belong together. -/
import Derived.Test.YtnncgfapobilaaaGreatDoorZc
import Derived.Test.YtnncgfapobilaaaGreatDoorZg
set_option linter.unusedSimpArgs false
set_option linter.unusedVariables false
set_option maxRecDepth 100000
namespace Go.Proofs.YtnncgfapobilaaaGreatDoor
open Go.Gov
set_option maxRecDepth 100000 in
def c10 : ACode := (.seq (os [gp 2 (.box (.s 0)), gz 4 0]) (.seq (os [gp 5 (.fld 0 (.s 2)), gp 6 (.load (.slc 1 0 []) (.s 5)), gm 7 1, gp 8 (.call 22 [(.s 6), (.s 7)]), gm 1 8]) (.seq (.seq (os [gm 9 1, gp 10 (.bin 0 .lss (.s 9) (kk 0))]) (.cond (.s 10) (.seq (os [gz 4 (-1)]) .ret) .skip)) (.seq (os [gm 11 1, gm 4 11]) .ret))))
set_option maxRecDepth 100000 in
theorem ok10 : compileFn Tryz.prog M 10 = some (12, c10, [(.mov (.s 4))]) := by kernel_rfl
set_option maxRecDepth 100000 in
def c100 : ACode := (.seq (os [gn 2]) (.seq (os [gp 3 (.bsl 0 []), gm 4 0, gp 5 (.app 1 8 (.s 3) (.s 4)), gm 2 5]) .ret))
set_option maxRecDepth 100000 in
theorem ok100 : compileFn Tryz.prog M 100 = some (6, c100, [(.mov (.s 2))]) := by kernel_rfl
set_option maxRecDepth 100000 in
def c123 : ACode := (.seq (os [gn 2]) (.seq (.seq (os [gm 3 0, gp 4 (.bin 2 .eql (.s 3) (.c (.slice none 0 0)))]) (.cond (.s 4) (.seq (os [gn 2]) .ret) .skip)) (.seq (os [gp 5 (.bsl 0 []), gm 6 0, gp 7 (.app 1 8 (.s 5) (.s 6)), gm 2 7]) .ret)))
set_option maxRecDepth 100000 in
theorem ok123 : compileFn Tryz.prog M 123 = some (8, c123, [(.mov (.s 2))]) := by kernel_rfl
end Go.Proofs.YtnncgfapobilaaaGreatDoor
set_option maxRecDepth 100000
namespace Go.Proofs.YtnncgfapobilaaaGreatDoor
open Go.Gov
set_option maxRecDepth 100000 in
def c35 : ACode := (.seq (os [gp 2 (.box (.s 0)), gp 3 (.box (.s 1)), gp 4 (.alloc [(.slice none 0 0)])]) (.seq (os [gp 13 (.fld 0 (.s 3)), gp 14 (.load (.slc 1 0 []) (.s 13)), gp 15 (.len (.s 14)), gp 16 (.bld [(.slice none 0 0)] []), gp 6 (.alloc [(.slice none 0 0)]), gm 5 15, ⟨none, none, (.store 1 (.s 6) (.s 16))⟩]) (.seq (.seq (os [gz 7 0]) (.block 0 (.loop (.seq (.seq (os [gm 17 7, gp 18 (.bin 0 .lss (.s 17) (kk 3))]) (.cond (.s 18) .skip (.exit 0))) (.seq (.block 1 (.seq (os [gp 21 (.bsl 0 []), gm 8 21]) (.seq (.seq (os [gz 9 0]) (.block 2 (.loop (.seq (.seq (os [gm 22 9, gp 23 (.loads 1 (.s 2)), gp 24 (.call 45 [(.s 23)]), gp 25 (.bin 0 .lss (.s 22) (.s 24))]) (.cond (.s 25) .skip (.exit 2))) (.seq (.block 3 (.seq (os [gz 10 0]) (.block 4 (.loop (.seq (.seq (os [gm 28 10, gm 29 5, gp 30 (.bin 0 .lss (.s 28) (.s 29))]) (.cond (.s 30) .skip (.exit 4))) (.seq (.block 5 (.seq (os [gp 33 (.fld 0 (.s 3)), gp 34 (.load (.slc 1 0 []) (.s 33)), gm 35 10, gp 36 (.idx 1 (.s 34) (.s 35)), gp 37 (.load (.slc 1 0 []) (.s 36)), gm 38 7, gp 39 (.idx 2 (.s 37) (.s 38)), gp 40 (.loads 2 (.s 39)), gm 41 9, gp 11 (.alloc [(.int .i64 0), (.int .i64 0)]), ⟨none, none, (.store 2 (.s 11) (.s 40))⟩, gm 12 41]) (.seq (.seq (os [gp 42 (.fld 1 (.s 11)), gp 43 (ldi 42), gp 44 (.bin 0 .geq (.s 43) (kk 0))]) (.cond (.s 44) (os [gp 45 (.fld 0 (.s 2)), gp 46 (.load (.slc 1 0 []) (.s 45)), gp 47 (.fld 1 (.s 11)), gp 48 (ldi 47), gp 49 (.idx 1 (.s 46) (.s 48)), gp 50 (.load (.slc 1 0 []) (.s 49)), gm 51 9, gp 52 (.idx 1 (.s 50) (.s 51)), gp 53 (ldi 52), gm 12 53]) .skip)) (os [gm 54 8, gm 55 12, gm 56 5, gp 57 (.bin 0 .mul (.s 55) (.s 56)), gp 58 (.fld 0 (.s 11)), gp 59 (ldi 58), gp 60 (.bin 0 .add (.s 57) (.s 59)), ⟨(some 61), none, (.bsl 1 [⟨0, (.s 60)⟩])⟩, gp 62 (.app 1 8 (.s 54) (.s 61)), gm 8 62])))) (os [gm 31 10, gp 32 (.bin 0 .add (.s 31) (kk 1)), gm 10 32]))))))) (os [gm 26 9, gp 27 (.bin 0 .add (.s 26) (kk 1)), gm 9 27])))))) (os [gp 63 (.fld 0 (.s 6)), gp 64 (.load (.slc 1 0 []) (.s 63)), gm 65 8, ⟨(some 66), none, (.bsl 1 [⟨0, (.s 65)⟩])⟩, gp 67 (.app 1 24 (.s 64) (.s 66)), gp 68 (.fld 0 (.s 6)), ⟨none, none, (.store 1 (.s 68) (.s 67))⟩])))) (os [gm 19 7, gp 20 (.bin 0 .add (.s 19) (kk 1)), gm 7 20])))))) (.seq (os [gp 69 (.loads 1 (.s 6)), ⟨none, none, (.store 1 (.s 4) (.s 69))⟩]) .ret))))
set_option maxRecDepth 100000 in
theorem ok35 : compileFn Tryz.prog M 35 = some (70, c35, [(.loads 1 (.s 4))]) := by kernel_rfl
set_option maxRecDepth 100000 in
def c41 : ACode := (.seq (os [gp 2 (.box (.s 0)), gp 3 (.box (.s 1)), gp 4 (.alloc [(.slice none 0 0)])]) (.seq (os [gp 13 (.fld 0 (.s 3)), gp 14 (.load (.slc 1 0 []) (.s 13)), gp 15 (.call 80 [(.s 14)]), gm 5 15]) (.seq (os [gp 6 (.alloc [(.slice none 0 0)])]) (.seq (.seq (os [gz 16 0]) (.block 0 (.loop (.seq (os [gp 17 (.bin 0 .lss (.s 16) (kk 3))]) (.seq (.cond (.s 17) .skip (.exit 0)) (.seq (.block 1 (.seq (os [gm 18 16, gm 7 18]) (.seq (os [gn 8]) (.seq (.seq (os [gp 19 (.call 50 [(.s 2)]), gz 20 0]) (.block 2 (.loop (.seq (os [gp 21 (.bin 0 .lss (.s 20) (.s 19))]) (.seq (.cond (.s 21) .skip (.exit 2)) (.seq (.block 3 (.seq (os [gm 22 20, gm 9 22]) (.seq (os [gp 23 (.fld 0 (.s 3)), gp 24 (.load (.slc 1 0 []) (.s 23)), gp 25 (.len (.s 24)), gz 26 0]) (.block 4 (.loop (.seq (os [gp 27 (.bin 0 .lss (.s 26) (.s 25))]) (.seq (.cond (.s 27) .skip (.exit 4)) (.seq (.block 5 (.seq (os [gp 28 (.idx 1 (.s 24) (.s 26)), gp 29 (.load (.slc 1 0 []) (.s 28)), gm 11 29]) (.seq (os [gm 30 9, gm 12 30]) (.seq (.seq (os [gm 31 11, gm 32 7, gp 33 (.idx 2 (.s 31) (.s 32)), gp 34 (.fld 1 (.s 33)), gp 35 (ldi 34), gp 36 (.bin 0 .geq (.s 35) (kk 0))]) (.cond (.s 36) (.ops [gp 37 (.fld 0 (.s 2)), gp 38 (.load (.slc 1 0 []) (.s 37)), gm 39 11, gm 40 7, gp 41 (.idx 2 (.s 39) (.s 40)), gp 42 (.fld 1 (.s 41)), gp 43 (ldi 42), gp 44 (.idx 1 (.s 38) (.s 43)), gp 45 (.load (.slc 1 0 []) (.s 44)), gm 46 9, gp 47 (.idx 1 (.s 45) (.s 46)), gp 48 (ldi 47), gm 12 48] []) .skip)) (os [gm 49 8, gm 50 12, gm 51 5, gp 52 (.bin 0 .mul (.s 50) (.s 51)), gm 53 11, gm 54 7, gp 55 (.idx 2 (.s 53) (.s 54)), gp 56 (.fld 0 (.s 55)), gp 57 (ldi 56), gp 58 (.bin 0 .add (.s 52) (.s 57)), ⟨(some 59), none, (.bsl 1 [⟨0, (.s 58)⟩])⟩, gp 60 (.app 1 8 (.s 49) (.s 59)), gm 8 60]))))) (os [gp 61 (.bin 0 .add (.s 26) (kk 1)), gm 26 61]))))))))) (os [gp 62 (.bin 0 .add (.s 20) (kk 1)), gm 20 62]))))))) (os [gp 63 (.fld 0 (.s 6)), gp 64 (.load (.slc 1 0 []) (.s 63)), gm 65 8, ⟨(some 66), none, (.bsl 1 [⟨0, (.s 65)⟩])⟩, gp 67 (.app 1 24 (.s 64) (.s 66)), gp 68 (.fld 0 (.s 6)), ⟨none, none, (.store 1 (.s 68) (.s 67))⟩]))))) (os [gp 69 (.bin 0 .add (.s 16) (kk 1)), gm 16 69]))))))) (.seq (os [gp 70 (.loads 1 (.s 6)), ⟨none, none, (.store 1 (.s 4) (.s 70))⟩]) .ret)))))
set_option maxRecDepth 100000 in
theorem ok41 : compileFn Tryz.prog M 41 = some (71, c41, [(.loads 1 (.s 4))]) := by kernel_rfl
end Go.Proofs.YtnncgfapobilaaaGreatDoor
