/- Texts that belong together. -/
import Derived.Test.YtgdijhchndjhlaaGreatDoorZc
import Derived.Test.YtgdijhchndjhlaaGreatDoorX5
set_option linter.unusedSimpArgs false
set_option linter.unusedVariables false
set_option maxRecDepth 100000
namespace Go.Proofs.YtgdijhchndjhlaaGreatDoor
open Go.Gov
set_option maxRecDepth 100000 in
def c24 : ACode := (.seq (os [gn 10]) (.seq (.seq (os [gm 12 3, gp 13 (.len (.s 12)), gm 14 2, gp 15 (.bin 0 .eql (.s 13) (.s 14))]) (.cond (.s 15) (.seq (os [gm 16 0, gm 17 3, gp 18 (.call 43 [(.s 16), (.s 17)]), gm 10 18]) .ret) .skip)) (.seq (.seq (os [gm 19 4, gm 11 19]) (.block 0 (.loop (.seq (.seq (os [gm 20 11, gm 21 1, gp 22 (.len (.s 21)), gp 23 (.bin 0 .lss (.s 20) (.s 22))]) (.cond (.s 23) .skip (.exit 0))) (.seq (.block 1 (.alts (.reg (gm 26 0) (.reg (gm 27 1) (.reg (gm 28 2) (.reg (gm 29 3) (.reg (gm 31 1) (.reg (gm 32 11) (.reg (gp 33 (.idx 1 (.s 31) (.s 32))) (.reg (gm 37 11) (.reg (gp 38 (.bin 0 .add (.s 37) (kk 1))) (.alt false (gp 30 (.call 44 [(.s 29)])) (.alt false (gp 34 (ldi 33)) (.alt false (⟨(some 35), none, (.bsl 1 [⟨0, (.s 34)⟩])⟩) (.alt false (gp 36 (.app 1 8 (.s 30) (.s 35))) (.alt false (gp 39 (.call 24 [(.s 26), (.s 27), (.s 28), (.s 36), (.s 38)])) (.reg (gm 0 39) .fin) .fin) .fin) .fin) .fin) (.alt false (gp 34 (ldi 33)) (.alt false (gp 30 (.call 44 [(.s 29)])) (.alt false (⟨(some 35), none, (.bsl 1 [⟨0, (.s 34)⟩])⟩) (.alt false (gp 36 (.app 1 8 (.s 30) (.s 35))) (.alt false (gp 39 (.call 24 [(.s 26), (.s 27), (.s 28), (.s 36), (.s 38)])) (.reg (gm 0 39) .fin) .fin) .fin) .fin) (.alt false (⟨(some 35), none, (.bsl 1 [⟨0, (.s 34)⟩])⟩) (.alt false (gp 30 (.call 44 [(.s 29)])) (.alt false (gp 36 (.app 1 8 (.s 30) (.s 35))) (.alt false (gp 39 (.call 24 [(.s 26), (.s 27), (.s 28), (.s 36), (.s 38)])) (.reg (gm 0 39) .fin) .fin) .fin) .fin) .fin)) .fin))))))))))))) (os [gm 24 11, gp 25 (.bin 0 .add (.s 24) (kk 1)), gm 11 25])))))) (.seq (os [gm 40 0, gm 10 40]) .ret))))
set_option maxRecDepth 100000 in
theorem ok24 : compileFn Tryz.prog M2 24 = some (41, c24, [(.mov (.s 10))]) := by kernel_rfl
end Go.Proofs.YtgdijhchndjhlaaGreatDoor
