/- Texts that belong together. -/
import Derived.Test.YtfcbamfkfadabaaGreatDoorZr
import Derived.Test.YtfcbamfkfadabaaGreatDoorZt
set_option linter.unusedSimpArgs false
set_option linter.unusedVariables false
set_option maxRecDepth 100000
namespace Go.Proofs.YtfcbamfkfadabaaGreatDoor
open Go.Gov
open Classical
theorem indexFuncM_c (xs:List Int)(f:FuncId)(fs cs:List AV)(p:Int→Bool)(hl:xs.length≤1099511627776)(hf:∀ i,i<xs.length→Pure Tryz.prog f (fs++[i64 (xs.getD i 0)]++cs) (bl (p (xs.getD i 0))) [])(hk:callable Tryz.prog f=true)(h1:fs.map (frz [] 6)=fs)(h2:cs.map (frz [] 6)=cs):Pure Tryz.prog 171 [ints xs,.clo f fs cs] (i64 (fidx p xs)) []:=by
 refine pureV ok171 rfl ?_;unfold c171
 refine RN ?_
 refine V_loop (α:=Nat) (S:=fun i=>([(0,ints xs),(1,.clo f fs cs),(6,ints xs),(7,i64 xs.length),(8,i64 i)],[])) (C:=fun i=>i≤xs.length∧∀ j,j<i→p (xs.getD j 0)=false) (μ:=fun i=>xs.length - i) 0 ⟨by omega,by omega⟩ (by exact Ref.frame (by simp [sub,fget])) ?_
 rintro i ⟨hi,hall⟩
 refine RN ?_
 refine ⟨fun hc=>?_,fun hc=>?_⟩
 ·(refine RN ?_;try with_reducible exact trivial)
  refine call_pure (args:=fs++[i64 (xs.getD i 0)]++cs) (hf i (by omega)) (by simp only [List.map_append,h1,h2,go_sem,↓reduceIte,Nat.reduceEqDiff,Nat.reduceAdd,reduceCtorEq]) rfl rfl ?_
  (try simp only [go_sem,↓reduceIte,Nat.reduceEqDiff,Nat.reduceAdd,reduceCtorEq,go_sem,↓reduceIte,Nat.reduceEqDiff,Nat.reduceAdd,reduceCtorEq])
  refine RN ?_
  refine ⟨fun hc2=>?_,fun hc2=>?_⟩
  ·(refine RN ?_;try with_reducible exact trivial)
   rw [fidx_at hall (by omega) hc2]
  ·(refine RN ?_;try with_reducible exact trivial)
   refine ⟨i+1,⟨by omega,fun j hj=>?_⟩,by omega,by exact Ref.frame (by simp [sub,fget])⟩
   rcases Nat.lt_or_ge j i with h | h
   ·exact hall j h
   ·obtain rfl:j=i:=by omega
    exact hc2
 ·(refine RN ?_;try with_reducible exact trivial)
  rw [fidx_no (fun j hj=>hall j (by omega))]
theorem containsFuncM_c (xs:List Int)(f:FuncId)(fs cs:List AV)(p:Int→Bool)(hl:xs.length≤1099511627776)(hf:∀ i,i<xs.length→Pure Tryz.prog f (fs++[i64 (xs.getD i 0)]++cs) (bl (p (xs.getD i 0))) [])(hk:callable Tryz.prog f=true)(h1:fs.map (frz [] 6)=fs)(h2:cs.map (frz [] 6)=cs)(h3:fs.map (frz [] 5)=fs)(h4:cs.map (frz [] 5)=cs):Pure Tryz.prog 120 [ints xs,.clo f fs cs] (bl (xs.any p)) []:=by
 refine pureV ok120 rfl ?_;unfold c120
 refine RN ?_
 refine call_pure (indexFuncM_c xs f fs cs p hl hf hk h1 h2) (by simp only [h3,h4,go_sem,↓reduceIte,Nat.reduceEqDiff,Nat.reduceAdd,reduceCtorEq]) rfl rfl ?_
 (try simp only [go_sem,↓reduceIte,Nat.reduceEqDiff,Nat.reduceAdd,reduceCtorEq,go_sem,↓reduceIte,Nat.reduceEqDiff,Nat.reduceAdd,reduceCtorEq])
 refine RN ?_
 rw [fidx_ge]
end Go.Proofs.YtfcbamfkfadabaaGreatDoor
