/- Texts that belong together. -/
import Derived.Test.YtfcbamfkfadabaaGreatDoorRs
import Derived.Test.YtfcbamfkfadabaaGreatDoorS6
set_option linter.unusedSimpArgs false
set_option linter.unusedVariables false
set_option maxRecDepth 100000
namespace Go.Proofs.YtfcbamfkfadabaaGreatDoor
open Go.Gov Go.Nt
open Classical
theorem u8w (n:Nat)(h:n<256):IntKind.u8.wrap (n:Int)=(n:Int):=by
 simp only [IntKind.wrap,IntKind.bits,IntKind.signed]
 simp
 omega
theorem l01Dec1_c (v:Nat)(h:v<10):Pure Tryz.prog 107 [i64 (v:Int)] (sV (tx v)) []:=by
 have e1:(48:Int)+(v:Int)=((48+v:Nat):Int):=by omega
 have e2:=u8w (48+v) (by omega)
 have e3:tx v=[UInt8.ofNat (48+v)]:=by unfold tx;rw [if_pos h]
 rw [e3]
 refine pureV0 ok107 rfl rfl ?_;unfold c107
 refine RN ?_
 refine ⟨fun hc=>?_,fun hc=>absurd hc (by omega)⟩
 (repeat first | simp only [e1,e2,go_sem,↓reduceIte,Nat.reduceEqDiff,Nat.reduceAdd,reduceCtorEq] | refine RX ?_ | decide)
 all_goals first | done | rfl
set_option maxHeartbeats 1000000 in
theorem l01Dec_c (v:Nat)(h:v<100):Pure Tryz.prog 107 [i64 (v:Int)] (sV (tx v)) []:=by
 by_cases h1:v<10
 ·exact l01Dec1_c v h1
 ·have hmx:1099511627776000≤maxLen:=by decide
  have hd:=l01Dec1_c (v / 10) (by omega)
  have e0:tx (v / 10)=[UInt8.ofNat (48+v / 10)]:=by unfold tx;rw [if_pos (by omega)]
  rw [e0] at hd
  have e1:(48:Int)+((v%10:Nat):Int)=((48+v%10:Nat):Int):=by omega
  have e2:=u8w (48+v%10) (by omega)
  have e3:tx v=[UInt8.ofNat (48+v / 10),UInt8.ofNat (48+v%10)]:=by unfold tx;rw [if_neg h1]
  have e4:(v:Int).tdiv 10=((v / 10:Nat):Int):=(Int.ofNat_tdiv v 10).symm
  have e5:(v:Int).tmod 10=((v%10:Nat):Int):=(Int.ofNat_tmod v 10).symm
  rw [e3]
  refine pureV0 ok107 rfl rfl ?_;unfold c107
  refine RN ?_
  intro _
  refine V_W ?_
  refine V_altsS [(2,sV [UInt8.ofNat (48+v / 10),UInt8.ofNat (48+v%10)])] [] ?_ ?_
  ·(repeat' first | simp only [go_sem,↓reduceIte,Nat.reduceEqDiff,Nat.reduceAdd,reduceCtorEq] | with_reducible refine LT_reg ?_ | with_reducible refine LT_regz1 ?_ | with_reducible refine LT_fin ?_ | with_reducible exact LT_tt | with_reducible refine LT_alt ?_ ?_ | (with_reducible refine And.intro ?_ ?_;focus first | assumption | omega | grind))
   all_goals simp only [e4,e5,e1,e2,go_sem,↓reduceIte,Nat.reduceEqDiff,Nat.reduceAdd,reduceCtorEq]
   all_goals refine pureC1 (hd) ?_
   all_goals (repeat' first | simp only [go_sem,↓reduceIte,Nat.reduceEqDiff,Nat.reduceAdd,reduceCtorEq] | with_reducible refine LT_reg ?_ | with_reducible refine LT_regz1 ?_ | with_reducible refine LT_fin ?_ | with_reducible exact LT_tt | with_reducible refine LT_alt ?_ ?_ | (with_reducible refine And.intro ?_ ?_;focus first | assumption | omega | grind))
   all_goals exact Ref.gc1 []
  (refine RN ?_;try with_reducible exact trivial)
theorem tx_len (v:Nat):(tx v).length≤2:=by unfold tx;split<;>simp
end Go.Proofs.YtfcbamfkfadabaaGreatDoor
