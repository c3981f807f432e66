/- Texts that belong together. -/
import Derived.Test.YtaekhhaaphgndaaGreatR5
import Derived.Test.YtaekhhaaphgndaaGreatRa
set_option linter.unusedSimpArgs false
set_option linter.unusedVariables false
set_option maxRecDepth 100000
namespace Go.Proofs.YtaekhhaaphgndaaGreat
open Go.Gov
open Classical
theorem big_c (bs:List Int)(hl:bs.length≤9223372036854775807):Pure Tryz.prog 4 [bytA' bs] (bl (decide (4096<(bs.length:Int)))) []:=by
 unfold bytA'
 refine pureV0 ok4 rfl rfl ?_;unfold c4
 (refine RN ?_;try with_reducible exact trivial)
 try rfl
theorem specIsMap_c (M:List (List Int))(hl:M.length≤1048576)(hr:∀ p∈M,p.length≤1048576):Pure Tryz.prog 19 [maniA M] (bl (decide (IsMap M))) []:=by
 have hi:=l14Is_c M hl hr
 refine pureRV ok19 rfl ?_;unfold c19
 refine RN ?_
 refine pureC1 (hi) ?_
 refine RN ?_
 exact Ref.gc2 []
theorem implIsMap_c (M:List (List Int))(hl:M.length≤1048576)(hr:∀ p∈M,p.length≤1048576):Pure Tryz.prog 18 [maniA M] (bl (decide (IsMap M))) []:=by
 have hi:=isMap_c M hl hr
 refine pureRV ok18 rfl ?_;unfold c18
 refine RN ?_
 refine pureC1 (hi) ?_
 refine RN ?_
 exact Ref.gc2 []
theorem flags9_c (M:List (List Int))(h1:1≤M.length)(hl:M.length≤1048576)(hr:∀ p∈M,p.length≤1048576):Pure Tryz.prog 13 [maniA M] (i64 (fl M)) []:=by
 have h2:(M.getD 0 []).length≤1048576:=hr _ (by simp [show 0<M.length from h1])
 unfold fl
 refine pureRV ok13 rfl ?_;unfold c13
 refine RN ?_
 intro _
 refine RN ?_
 exact Ref.gc2 []
theorem likeInts_c (xs ys:List Int)(hx:xs.length≤1048576)(hy:ys.length≤1048576):Pure Tryz.prog 17 [ints xs,ints ys] (bl (decide (xs=ys))) []:=by
 refine pureV ok17 rfl ?_;unfold c17
 refine RN ?_
 refine ⟨fun hc=>?_,fun hc=>?_⟩
 ·(refine RN ?_;try with_reducible exact trivial)
  rw [decide_eq_false (fun h=>hc (by rw [h]))]
 ·have hl:xs.length=ys.length:=by omega
  refine RN ?_
  refine V_loop (α:=Nat) (S:=fun i=>([(0,ints xs),(1,ints ys),(5,i64 i)],[])) (C:=fun i=>i≤xs.length∧∀ j,j<i→xs.getD j 0=ys.getD j 0) (μ:=fun i=>xs.length - i) 0 ⟨by omega,by omega⟩ (by exact Ref.frame (by simp [sub,fget])) ?_
  rintro i ⟨hi,hall⟩
  refine RN ?_
  refine ⟨fun hc1=>?_,fun hc1=>?_⟩
  ·(refine RN ?_;try with_reducible exact trivial)
   refine ⟨fun hc2=>?_,fun hc2=>?_⟩
   ·(refine RN ?_;try with_reducible exact trivial)
    rw [decide_eq_false (fun h=>hc2 (by rw [h]))]
   ·(refine RN ?_;try with_reducible exact trivial)
    refine ⟨i+1,⟨by omega,fun j hj=>?_⟩,by omega,by exact Ref.frame (by simp [sub,fget])⟩
    rcases Nat.lt_or_ge j i with h | h
    ·exact hall j h
    ·obtain rfl:j=i:=by omega
     simpa using hc2
  ·(refine RN ?_;try with_reducible exact trivial)
   rw [decide_eq_true]
   refine List.ext_getElem hl fun j h1 h2=>?_
   have:=hall j (by omega)
   simpa [h1,h2] using this
theorem same9_c (A B:List (List Int))(hA:A.length≤1048576)(hB:B.length≤1048576)(rA:∀ p∈A,p.length≤1048576)(rB:∀ p∈B,p.length≤1048576):Pure Tryz.prog 26 [mat A,mat B] (bl (decide (A=B))) []:=by
 refine pureV ok26 rfl ?_;unfold c26
 refine RN ?_
 refine ⟨fun hc=>?_,fun hc=>?_⟩
 ·(refine RN ?_;try with_reducible exact trivial)
  rw [decide_eq_false (fun h=>hc (by rw [h]))]
 ·have hl:A.length=B.length:=by omega
  refine RN ?_
  refine V_loop (α:=Nat) (S:=fun i=>([(0,mat A),(1,mat B),(5,i64 i)],[])) (C:=fun i=>i≤A.length∧∀ j,j<i→A.getD j []=B.getD j []) (μ:=fun i=>A.length - i) 0 ⟨by omega,by omega⟩ (by exact Ref.frame (by simp [sub,fget])) ?_
  rintro i ⟨hi,hall⟩
  refine RN ?_
  refine ⟨fun hc1=>?_,fun hc1=>?_⟩
  ·have hi1:i<A.length:=by omega
   have hli:=likeInts_c (A.getD i []) (B.getD i []) (rA _ (by simp [hi1])) (rB _ (by simp [show i<B.length by omega]))
   refine RN ?_
   refine pureC1 (hli) ?_
   refine RN ?_
   refine ⟨fun hc2=>?_,fun hc2=>?_⟩
   ·(refine RN ?_;try with_reducible exact trivial)
    rw [decide_eq_false (fun h=>hc2 (by rw [h]))]
   ·(refine RN ?_;try with_reducible exact trivial)
    refine ⟨i+1,⟨by omega,fun j hj=>?_⟩,by omega,by exact Ref.frame (by simp [sub,fget])⟩
    rcases Nat.lt_or_ge j i with h | h
    ·exact hall j h
    ·obtain rfl:j=i:=by omega
     simpa using hc2
  ·(refine RN ?_;try with_reducible exact trivial)
   rw [decide_eq_true]
   refine List.ext_getElem hl fun j h1 h2=>?_
   have:=hall j (by omega)
   simpa [h1,h2] using this
theorem equal9_c (A B:List (List Int))(hA:A.length≤1048576)(hB:B.length≤1048576)(rA:∀ p∈A,p.length≤1048576)(rB:∀ p∈B,p.length≤1048576):Pure Tryz.prog 8 [maniA A,maniA B] (bl (decide (A=B))) []:=by
 have hs:=same9_c A B hA hB rA rB
 refine pureRV ok8 rfl ?_;unfold c8
 refine RN ?_
 refine pureC1 (hs) ?_
 refine RN ?_
 exact Ref.gc2 []
end Go.Proofs.YtaekhhaaphgndaaGreat
