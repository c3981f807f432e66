/- Texts that belong together. -/
import Derived.Test.YtghhlcioabdpfaaDoorZc
import Derived.Test.YtghhlcioabdpfaaDoorZi
set_option linter.unusedSimpArgs false
set_option linter.unusedVariables false
set_option maxRecDepth 100000
namespace Go.Proofs.YtghhlcioabdpfaaDoor
open Go.Gov
end Go.Proofs.YtghhlcioabdpfaaDoor
set_option maxRecDepth 100000
namespace Go.Proofs.YtghhlcioabdpfaaDoor
open Go.Gov
set_option maxRecDepth 100000 in
def c144 : ACode := (.seq (os [gn 4]) (.seq (os [gn 5]) (.seq (.seq (os [gm 8 0, gp 9 (.len (.s 8)), gz 10 0]) (.block 0 (.loop (.seq (os [gp 11 (.bin 0 .lss (.s 10) (.s 9))]) (.seq (.cond (.s 11) .skip (.exit 0)) (.seq (.block 1 (.seq (os [gm 12 10, gp 13 (.idx 1 (.s 8) (.s 10)), gp 14 (ldi 13), gm 6 12, gm 7 14]) (.seq (os [gm 15 1, gm 16 7, gp 17 (.bin 0 .eql (.s 15) (.s 16))]) (.cond (.s 17) (os [gm 18 5, gm 19 6, ⟨(some 20), none, (.bsl 1 [⟨0, (.s 19)⟩])⟩, gp 21 (.app 1 8 (.s 18) (.s 20)), gm 5 21]) .skip)))) (os [gp 22 (.bin 0 .add (.s 10) (kk 1)), gm 10 22]))))))) (.seq (os [gm 23 5, gm 4 23]) .ret))))
set_option maxRecDepth 100000 in
theorem ok144 : compileFn Tryd.prog M 144 = some (24, c144, [(.mov (.s 4))]) := by kernel_rfl
end Go.Proofs.YtghhlcioabdpfaaDoor
