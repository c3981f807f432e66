/- The abstract code of some functions, as our compile gives it. -/
import Derived.Test.YtkolabjcmephaaaCodeB
import Derived.Test.YtkolabjcmephaaaGov12
set_option linter.unusedSimpArgs false
set_option linter.unusedVariables false
set_option maxRecDepth 100000
namespace Go.Proofs.Ytkolabjcmephaaa
open Go.Gov
-- slices.Concat[[]int64,int64]
set_option maxRecDepth 100000 in
def c107 : ACode := (.seq (os [gn 2]) (.seq (os [gz 3 0]) (.seq (.seq (os [gm 9 0, gp 10 (.len (.s 9)), gz 11 0]) (.block 0 (.loop (.seq (os [gp 12 (.bin 0 .lss (.s 11) (.s 10))]) (.seq (.cond (.s 12) .skip (.exit 0)) (.seq (.block 1 (.seq (os [gp 13 (.idx 1 (.s 9) (.s 11)), gp 14 (.load (.slc 1 0 []) (.s 13)), gm 5 14]) (.seq (os [gm 15 3, gm 16 5, gp 17 (.len (.s 16)), gp 18 (.bin 0 .add (.s 15) (.s 17)), gm 3 18]) (.seq (os [gm 19 3, gp 20 (.bin 0 .lss (.s 19) (kk 0))]) (.cond (.s 20) (os [⟨(some 21), none, .bad⟩, ⟨none, none, .bad⟩]) .skip))))) (os [gp 22 (.bin 0 .add (.s 11) (kk 1)), gm 11 22]))))))) (.seq (os [gm 23 3, gp 24 (.call 117 [(.c (.slice none 0 0)), (.s 23)]), gm 6 24]) (.seq (.seq (os [gm 25 0, gp 26 (.len (.s 25)), gz 27 0]) (.block 2 (.loop (.seq (os [gp 28 (.bin 0 .lss (.s 27) (.s 26))]) (.seq (.cond (.s 28) .skip (.exit 2)) (.seq (.block 3 (.seq (os [gp 29 (.idx 1 (.s 25) (.s 27)), gp 30 (.load (.slc 1 0 []) (.s 29)), gm 8 30]) (os [gm 31 6, gm 32 8, gp 33 (.app 1 8 (.s 31) (.s 32)), gm 6 33]))) (os [gp 34 (.bin 0 .add (.s 27) (kk 1)), gm 27 34]))))))) (.seq (os [gm 35 6, gm 2 35]) .ret))))))
set_option maxRecDepth 100000 in
theorem ok107 : compileFn Try.prog M 107 = some (36, c107, [(.mov (.s 2))]) := by kernel_rfl
end Go.Proofs.Ytkolabjcmephaaa
