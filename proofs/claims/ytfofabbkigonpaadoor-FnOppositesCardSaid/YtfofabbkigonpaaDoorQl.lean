/- Texts that belong together. -/
import Derived.Test.YtfofabbkigonpaaDoorR5
set_option linter.unusedSimpArgs false
set_option linter.unusedVariables false
set_option maxRecDepth 100000
namespace Go.Proofs.YtfofabbkigonpaaDoor
section
open Go.Gov
open Classical
theorem eD (bs:List Int)(hl:bs.length≤9223372036854775807):Ao Tryd.prog 5 [Ds bs] (bl (decide (4096<(bs.length:Int)))) []:=by
 unfold Ds
 refine Gf pP rfl rfl ?_;unfold c5
 (refine RN ?_;try with_reducible exact trivial)
 try rfl
theorem X4 (xs ys:List Int)(hx:xs.length≤1048576)(hy:ys.length≤1048576):Ao Tryd.prog 24 [Ad xs,Ad ys] (bl (decide (xs=ys))) []:=by
 refine Cm Yt rfl ?_;unfold Qa
 refine RN ?_
 refine ⟨fun hc=>?_,fun hc=>?_⟩
 ·(refine RN ?_;try with_reducible exact trivial)
  rw [decide_eq_false (fun h=>hc (by rw [h]))]
 ·have hl:xs.length=ys.length:=by omega
  refine RN ?_
  refine Ak (α:=Nat) (S:=fun i=>([(0,Ad xs),(1,Ad ys),(5,i64 i)],[])) (C:=fun i=>i≤xs.length∧∀ j,j<i→xs.getD j 0=ys.getD j 0) (μ:=fun i=>xs.length - i) 0 ⟨by omega,by omega⟩ (by exact Ref.frame (by simp [sub,Ac])) ?_
  rintro i ⟨hi,hall⟩
  refine RN ?_
  refine ⟨fun hc1=>?_,fun hc1=>?_⟩
  ·(refine RN ?_;try with_reducible exact trivial)
   refine ⟨fun hc2=>?_,fun hc2=>?_⟩
   ·(refine RN ?_;try with_reducible exact trivial)
    rw [decide_eq_false (fun h=>hc2 (by rw [h]))]
   ·(refine RN ?_;try with_reducible exact trivial)
    refine ⟨i+1,⟨by omega,fun j hj=>?_⟩,by omega,by exact Ref.frame (by simp [sub,Ac])⟩
    rcases Nat.lt_or_ge j i with h | h
    ·exact hall j h
    ·obtain rfl:j=i:=by omega
     simpa using hc2
  ·(refine RN ?_;try with_reducible exact trivial)
   rw [decide_eq_true]
   refine List.ext_getElem hl fun j h1 h2=>?_
   have:=hall j (by omega)
   simpa [h1,h2] using this
end
section
open Go.Gov
open Classical
theorem lX (A B:List (List Int))(hA:A.length≤1048576)(hB:B.length≤1048576)(rA:∀ p∈A,p.length≤1048576)(rB:∀ p∈B,p.length≤1048576):Ao Tryd.prog 25 [Ae A,Ae B] (bl (decide (A=B))) []:=by
 refine Cm Yu rfl ?_;unfold Qb
 refine RN ?_
 refine ⟨fun hc=>?_,fun hc=>?_⟩
 ·(refine RN ?_;try with_reducible exact trivial)
  rw [decide_eq_false (fun h=>hc (by rw [h]))]
 ·have hl:A.length=B.length:=by omega
  refine RN ?_
  refine Ak (α:=Nat) (S:=fun i=>([(0,Ae A),(1,Ae B),(5,i64 i)],[])) (C:=fun i=>i≤A.length∧∀ j,j<i→A.getD j []=B.getD j []) (μ:=fun i=>A.length - i) 0 ⟨by omega,by omega⟩ (by exact Ref.frame (by simp [sub,Ac])) ?_
  rintro i ⟨hi,hall⟩
  refine RN ?_
  refine ⟨fun hc1=>?_,fun hc1=>?_⟩
  ·have hi1:i<A.length:=by omega
   have hli:=X4 (A.getD i []) (B.getD i []) (rA _ (by simp [hi1])) (rB _ (by simp [show i<B.length by omega]))
   refine RN ?_
   refine An (hli) ?_
   refine RN ?_
   refine ⟨fun hc2=>?_,fun hc2=>?_⟩
   ·(refine RN ?_;try with_reducible exact trivial)
    rw [decide_eq_false (fun h=>hc2 (by rw [h]))]
   ·(refine RN ?_;try with_reducible exact trivial)
    refine ⟨i+1,⟨by omega,fun j hj=>?_⟩,by omega,by exact Ref.frame (by simp [sub,Ac])⟩
    rcases Nat.lt_or_ge j i with h | h
    ·exact hall j h
    ·obtain rfl:j=i:=by omega
     simpa using hc2
  ·(refine RN ?_;try with_reducible exact trivial)
   rw [decide_eq_true]
   refine List.ext_getElem hl fun j h1 h2=>?_
   have:=hall j (by omega)
   simpa [h1,h2] using this
theorem X5 (r:Int)(R:List Int)(B:List (List Int))(h1:R.length≤1048576)(hl:B.length≤1048576)(hr:∀ p∈B,p.length≤1048576):Ao Tryd.prog 9 [A6 r R B,A6 r R B] (bl true) []:=by
 have a1:=X4 R R h1 h1
 have a2:=lX B B hl hl hr hr
 rw [decide_eq_true rfl] at a1 a2
 have hb:(r == r)=true:=by simp
 refine De Y1 rfl ?_;unfold c9
 refine RN ?_
 refine GCall.on rfl ?_
 refine An (a1) ?_
 refine RN ?_
 refine GCall.on rfl ?_
 refine An (a2) ?_
 refine RN ?_
 exact Ref.gc2 []
theorem lV:Ao Tryd.prog 24 [Ag,Ag] (bl true) []:=by
 refine Cm Yt rfl ?_;unfold Qa
 refine RN ?_
 refine Ak (α:=Unit) (S:=fun _=>([(0,Ag),(5,i64 0)],[])) (C:=fun _=>True) (μ:=fun _=>0) () trivial (Ref.to1) ?_
 intro _ _
 refine RN ?_
 refine fun _=>?_
 (refine RN ?_;try with_reducible exact trivial)
theorem lY:Ao Tryd.prog 25 [Ag,Ag] (bl true) []:=by
 refine Cm Yu rfl ?_;unfold Qb
 refine RN ?_
 refine Ak (α:=Unit) (S:=fun _=>([(0,Ag),(5,i64 0)],[])) (C:=fun _=>True) (μ:=fun _=>0) () trivial (Ref.to1) ?_
 intro _ _
 refine RN ?_
 refine fun _=>?_
 (refine RN ?_;try with_reducible exact trivial)
theorem lW:Ao Tryd.prog 9 [.agg [i64 0,Ag,Ag],.agg [i64 0,Ag,Ag]] (bl true) []:=by
 have a1:=lV
 have a2:=lY
 refine De Y1 rfl ?_;unfold c9
 refine RN ?_
 refine GCall.on rfl ?_
 refine An (a1) ?_
 refine RN ?_
 refine GCall.on rfl ?_
 refine An (a2) ?_
 refine RN ?_
 exact Ref.gc2 []
end
end Go.Proofs.YtfofabbkigonpaaDoor
