/- Texts that belong together. -/
import Derived.Test.YtnompobcofhkpaaGreatDoorZr
import Derived.Test.YtnompobcofhkpaaGreatDoorZt
set_option linter.unusedSimpArgs false
set_option linter.unusedVariables false
set_option maxRecDepth 100000
namespace Go.Proofs.YtnompobcofhkpaaGreatDoor
open Go.Gov
open Classical
theorem wH (xs:List Int)(f:FuncId)(fs cs:List AV)(p:Int→Bool)(hl:xs.length≤1099511627776)(hf:∀ i,i<xs.length→Pure Tryz.prog f (fs++[i64 (xs.getD i 0)]++cs) (bl (p (xs.getD i 0))) [])(hk:Fz Tryz.prog f=true)(h1:fs.map (Aj [] 6)=fs)(h2:cs.map (Aj [] 6)=cs):Pure Tryz.prog 161 [Ad xs,.clo f fs cs] (i64 (J1 p xs)) []:=by
 refine Cu kQ rfl ?_;unfold Uj
 refine RN ?_
 refine Ah (α:=Nat) (S:=fun i=>([(0,Ad xs),(1,.clo f fs cs),(6,Ad xs),(7,i64 xs.length),(8,i64 i)],[])) (C:=fun i=>i≤xs.length∧∀ j,j<i→p (xs.getD j 0)=false) (μ:=fun i=>xs.length - i) 0 ⟨by omega,by omega⟩ (by exact Ref.frame (by simp [sub,Ab])) ?_
 rintro i ⟨hi,hall⟩
 refine RN ?_
 refine ⟨fun hc=>?_,fun hc=>?_⟩
 ·(refine RN ?_;try with_reducible exact trivial)
  refine Jw (args:=fs++[i64 (xs.getD i 0)]++cs) (hf i (by omega)) (by simp only [List.map_append,h1,h2,go_sem,↓reduceIte,Nat.reduceEqDiff,Nat.reduceAdd,reduceCtorEq]) rfl rfl ?_
  (try simp only [go_sem,↓reduceIte,Nat.reduceEqDiff,Nat.reduceAdd,reduceCtorEq,go_sem,↓reduceIte,Nat.reduceEqDiff,Nat.reduceAdd,reduceCtorEq])
  refine RN ?_
  refine ⟨fun hc2=>?_,fun hc2=>?_⟩
  ·(refine RN ?_;try with_reducible exact trivial)
   rw [dR hall (by omega) hc2]
  ·(refine RN ?_;try with_reducible exact trivial)
   refine ⟨i+1,⟨by omega,fun j hj=>?_⟩,by omega,by exact Ref.frame (by simp [sub,Ab])⟩
   rcases Nat.lt_or_ge j i with h | h
   ·exact hall j h
   ·obtain rfl:j=i:=by omega
    exact hc2
 ·(refine RN ?_;try with_reducible exact trivial)
  rw [dT (fun j hj=>hall j (by omega))]
theorem tM (xs:List Int)(f:FuncId)(fs cs:List AV)(p:Int→Bool)(hl:xs.length≤1099511627776)(hf:∀ i,i<xs.length→Pure Tryz.prog f (fs++[i64 (xs.getD i 0)]++cs) (bl (p (xs.getD i 0))) [])(hk:Fz Tryz.prog f=true)(h1:fs.map (Aj [] 6)=fs)(h2:cs.map (Aj [] 6)=cs)(h3:fs.map (Aj [] 5)=fs)(h4:cs.map (Aj [] 5)=cs):Pure Tryz.prog 131 [Ad xs,.clo f fs cs] (bl (xs.any p)) []:=by
 refine Cu kN rfl ?_;unfold Ug
 refine RN ?_
 refine Jw (wH xs f fs cs p hl hf hk h1 h2) (by simp only [h3,h4,go_sem,↓reduceIte,Nat.reduceEqDiff,Nat.reduceAdd,reduceCtorEq]) rfl rfl ?_
 (try simp only [go_sem,↓reduceIte,Nat.reduceEqDiff,Nat.reduceAdd,reduceCtorEq,go_sem,↓reduceIte,Nat.reduceEqDiff,Nat.reduceAdd,reduceCtorEq])
 refine RN ?_
 rw [dS]
end Go.Proofs.YtnompobcofhkpaaGreatDoor
