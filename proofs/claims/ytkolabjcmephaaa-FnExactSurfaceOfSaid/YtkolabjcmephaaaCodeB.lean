/- The abstract code of some functions, as our compile gives it. -/
import Derived.Test.YtkolabjcmephaaaCodeA
import Derived.Test.YtkolabjcmephaaaGov12
set_option linter.unusedSimpArgs false
set_option linter.unusedVariables false
set_option maxRecDepth 100000
namespace Go.Proofs.Ytkolabjcmephaaa
open Go.Gov
-- loop.example/g01108/laws.markInt64S
set_option maxRecDepth 100000 in
def c16 : ACode := (.seq (os [gz 4 0]) (.seq (.seq (os [gz 5 0]) (.block 0 (.loop (.seq (.seq (os [gm 6 5, gm 7 0, gp 8 (.len (.s 7)), gp 9 (.bin 0 .lss (.s 6) (.s 8))]) (.cond (.s 9) .skip (.exit 0))) (.seq (.block 1 (.seq (os [gm 12 0, gm 13 5, gm 14 1, gp 15 (.idx 1 (.s 12) (.s 13)), ⟨none, none, (.store 1 (.s 15) (.s 14))⟩]) (os [gm 16 1, gp 17 (.bin 0 .add (.s 16) (kk 1)), gm 1 17]))) (os [gm 10 5, gp 11 (.bin 0 .add (.s 10) (kk 1)), gm 5 11])))))) (.seq (os [gm 18 1, gm 4 18]) .ret)))
set_option maxRecDepth 100000 in
theorem ok16 : compileFn Try.prog M 16 = some (19, c16, [(.mov (.s 4))]) := by kernel_rfl
-- loop.example/g01108/laws.heldInt64S
set_option maxRecDepth 100000 in
def c17 : ACode := (.seq (os [gz 4 0]) (.seq (.seq (os [gz 5 0]) (.block 0 (.loop (.seq (.seq (os [gm 6 5, gm 7 0, gp 8 (.len (.s 7)), gp 9 (.bin 0 .lss (.s 6) (.s 8))]) (.cond (.s 9) .skip (.exit 0))) (.seq (.block 1 (.seq (.seq (os [gm 12 0, gm 13 5, gp 14 (.idx 1 (.s 12) (.s 13)), gp 15 (ldi 14), gm 16 1, gp 17 (.bin 0 .neq (.s 15) (.s 16))]) (.cond (.s 17) (.seq (os [gz 4 (-1)]) .ret) .skip)) (os [gm 18 1, gp 19 (.bin 0 .add (.s 18) (kk 1)), gm 1 19]))) (os [gm 10 5, gp 11 (.bin 0 .add (.s 10) (kk 1)), gm 5 11])))))) (.seq (os [gm 20 1, gm 4 20]) .ret)))
set_option maxRecDepth 100000 in
theorem ok17 : compileFn Try.prog M 17 = some (21, c17, [(.mov (.s 4))]) := by kernel_rfl
-- loop.example/g01108/laws.markInt64SS
set_option maxRecDepth 100000 in
def c40 : ACode := (.seq (os [gz 4 0]) (.seq (.seq (os [gz 5 0]) (.block 0 (.loop (.seq (.seq (os [gm 6 5, gm 7 0, gp 8 (.len (.s 7)), gp 9 (.bin 0 .lss (.s 6) (.s 8))]) (.cond (.s 9) .skip (.exit 0))) (.seq (.block 1 (os [gm 12 0, gm 13 5, gp 14 (.idx 1 (.s 12) (.s 13)), gp 15 (.load (.slc 1 0 []) (.s 14)), gm 16 1, gp 17 (.call 16 [(.s 15), (.s 16)]), gm 1 17])) (os [gm 10 5, gp 11 (.bin 0 .add (.s 10) (kk 1)), gm 5 11])))))) (.seq (os [gm 18 1, gm 4 18]) .ret)))
set_option maxRecDepth 100000 in
theorem ok40 : compileFn Try.prog M 40 = some (19, c40, [(.mov (.s 4))]) := by kernel_rfl
-- loop.example/g01108/laws.heldInt64SS
set_option maxRecDepth 100000 in
def c64 : ACode := (.seq (os [gz 4 0]) (.seq (.seq (os [gz 5 0]) (.block 0 (.loop (.seq (.seq (os [gm 6 5, gm 7 0, gp 8 (.len (.s 7)), gp 9 (.bin 0 .lss (.s 6) (.s 8))]) (.cond (.s 9) .skip (.exit 0))) (.seq (.block 1 (.seq (os [gm 12 0, gm 13 5, gp 14 (.idx 1 (.s 12) (.s 13)), gp 15 (.load (.slc 1 0 []) (.s 14)), gm 16 1, gp 17 (.call 17 [(.s 15), (.s 16)]), gm 1 17]) (.seq (os [gm 18 1, gp 19 (.bin 0 .lss (.s 18) (kk 0))]) (.cond (.s 19) (.seq (os [gz 4 (-1)]) .ret) .skip)))) (os [gm 10 5, gp 11 (.bin 0 .add (.s 10) (kk 1)), gm 5 11])))))) (.seq (os [gm 20 1, gm 4 20]) .ret)))
set_option maxRecDepth 100000 in
theorem ok64 : compileFn Try.prog M 64 = some (21, c64, [(.mov (.s 4))]) := by kernel_rfl
end Go.Proofs.Ytkolabjcmephaaa
