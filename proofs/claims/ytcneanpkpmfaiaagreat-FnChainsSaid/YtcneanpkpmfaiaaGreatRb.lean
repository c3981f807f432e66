/- Texts that belong together. -/
import Derived.Test.YtcneanpkpmfaiaaGreatR5
import Derived.Test.YtcneanpkpmfaiaaGreatRa
set_option linter.unusedSimpArgs false
set_option linter.unusedVariables false
set_option maxRecDepth 100000
namespace Go.Proofs.YtcneanpkpmfaiaaGreat
open Go.Gov
open Classical
theorem jM (bs:List Int)(hl:bs.length≤9223372036854775807):Pure Tryz.prog 5 [Ee bs] (bl (decide (4096<(bs.length:Int)))) []:=by
 unfold Ee
 refine Bj wU rfl rfl ?_;unfold c5
 (refine RN ?_;try with_reducible exact trivial)
 try rfl
theorem Tr (xs ys:List Int)(hx:xs.length≤1048576)(hy:ys.length≤1048576):Pure Tryz.prog 9 [Ac xs,Ac ys] (bl (decide (xs=ys))) []:=by
 refine Er xU rfl ?_;unfold c9
 refine RN ?_
 refine ⟨fun hc=>?_,fun hc=>?_⟩
 ·(refine RN ?_;try with_reducible exact trivial)
  rw [decide_eq_false (fun h=>hc (by rw [h]))]
 ·have hl:xs.length=ys.length:=by omega
  refine RN ?_
  refine Aj (α:=Nat) (S:=fun i=>([(0,Ac xs),(1,Ac ys),(5,i64 i)],[])) (C:=fun i=>i≤xs.length∧∀ j,j<i→xs.getD j 0=ys.getD j 0) (μ:=fun i=>xs.length - i) 0 ⟨by omega,by omega⟩ (by exact Ref.frame (by simp [sub,Ab])) ?_
  rintro i ⟨hi,hall⟩
  refine RN ?_
  refine ⟨fun hc1=>?_,fun hc1=>?_⟩
  ·(refine RN ?_;try with_reducible exact trivial)
   refine ⟨fun hc2=>?_,fun hc2=>?_⟩
   ·(refine RN ?_;try with_reducible exact trivial)
    rw [decide_eq_false (fun h=>hc2 (by rw [h]))]
   ·(refine RN ?_;try with_reducible exact trivial)
    refine ⟨i+1,⟨by omega,fun j hj=>?_⟩,by omega,by exact Ref.frame (by simp [sub,Ab])⟩
    rcases Nat.lt_or_ge j i with h | h
    ·exact hall j h
    ·obtain rfl:j=i:=by omega
     simpa using hc2
  ·(refine RN ?_;try with_reducible exact trivial)
   rw [decide_eq_true]
   refine List.ext_getElem hl fun j h1 h2=>?_
   have:=hall j (by omega)
   simpa [h1,h2] using this
end Go.Proofs.YtcneanpkpmfaiaaGreat
