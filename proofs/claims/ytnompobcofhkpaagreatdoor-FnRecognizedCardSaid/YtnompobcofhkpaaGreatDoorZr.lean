/- Texts that belong together. -/
import Derived.Test.YtnompobcofhkpaaGreatDoorZj
set_option linter.unusedSimpArgs false
set_option linter.unusedVariables false
set_option maxRecDepth 100000
namespace Go.Proofs.YtnompobcofhkpaaGreatDoor
open Go.Gov
open Classical
theorem qX (n lo hi:Int):Pure Tryz.prog 192 [i64 n,.pto [i64 lo] 0,.pto [i64 hi] 0] (bl (!(decide (lo≤n)&&decide (n≤hi)))) []:=by
 refine Cu Adc rfl ?_;unfold Zv
 refine RN ?_
 refine Ag (Lr n lo hi) ?_
 (refine RN ?_;try with_reducible exact trivial)
def J1 (p:Int→Bool)(xs:List Int):Int:=if xs.any p then xs.findIdx p else -1
theorem dR {p:Int→Bool}{xs:List Int}{i:Nat}(h:∀ j,j<i→p (xs.getD j 0)=false)(hi:i<xs.length)(he:p (xs.getD i 0)=true):J1 p xs=i:=by
 have he' : p xs[i]=true:=by simpa [hi] using he
 unfold J1
 rw [if_pos (List.any_eq_true.2 ⟨_,List.getElem_mem hi,he'⟩)]
 congr 1
 have h1:xs.findIdx p≤i:=by
  rcases Nat.lt_or_ge i (xs.findIdx p) with h2 | h2
  ·have:=List.not_of_lt_findIdx h2
   simp [he'] at this
  ·exact h2
 rcases Nat.lt_or_ge (xs.findIdx p) i with h2 | h2
 ·have h3:=h _ h2
  have h4:p xs[xs.findIdx p]=true:=List.findIdx_getElem (w:=by omega)
  simp [show xs.findIdx p<xs.length by omega,h4] at h3
 ·omega
theorem dT {p:Int→Bool}{xs:List Int}(h:∀ j,j<xs.length→p (xs.getD j 0)=false):J1 p xs = -1:=by
 unfold J1
 rw [if_neg]
 intro ha
 obtain ⟨x,hx,hp⟩:=List.any_eq_true.1 ha
 obtain ⟨j,hj,rfl⟩:=List.mem_iff_getElem.1 hx
 have:=h j hj
 simp [hj,hp] at this
theorem dS (p:Int→Bool)(xs:List Int):decide (0≤J1 p xs)=xs.any p:=by
 unfold J1
 by_cases h:xs.any p=true<;>simp [h]
theorem wK (xs:List Int)(f:FuncId)(fs cs:List AV)(p:Int→Bool)(hl:xs.length≤1099511627776)(hf:∀ n,Pure Tryz.prog f (fs++[i64 n]++cs) (bl (p n)) [])(hk:Fz Tryz.prog f=true)(h1:fs.map (Aj [] 6)=fs)(h2:cs.map (Aj [] 6)=cs):Pure Tryz.prog 161 [Ad xs,.clo f fs cs] (i64 (J1 p xs)) []:=by
 refine Cu kQ rfl ?_;unfold Uj
 refine RN ?_
 refine Ah (α:=Nat) (S:=fun i=>([(0,Ad xs),(1,.clo f fs cs),(6,Ad xs),(7,i64 xs.length),(8,i64 i)],[])) (C:=fun i=>i≤xs.length∧∀ j,j<i→p (xs.getD j 0)=false) (μ:=fun i=>xs.length - i) 0 ⟨by omega,by omega⟩ (by exact Ref.frame (by simp [sub,Ab])) ?_
 rintro i ⟨hi,hall⟩
 refine RN ?_
 refine ⟨fun hc=>?_,fun hc=>?_⟩
 ·(refine RN ?_;try with_reducible exact trivial)
  refine Jw (args:=fs++[i64 (xs.getD i 0)]++cs) (hf _) (by simp only [List.map_append,h1,h2,go_sem,↓reduceIte,Nat.reduceEqDiff,Nat.reduceAdd,reduceCtorEq]) rfl rfl ?_
  (try simp only [go_sem,↓reduceIte,Nat.reduceEqDiff,Nat.reduceAdd,reduceCtorEq,go_sem,↓reduceIte,Nat.reduceEqDiff,Nat.reduceAdd,reduceCtorEq])
  refine RN ?_
  refine ⟨fun hc2=>?_,fun hc2=>?_⟩
  ·(refine RN ?_;try with_reducible exact trivial)
   rw [dR hall (by omega) hc2]
  ·(refine RN ?_;try with_reducible exact trivial)
   refine ⟨i+1,⟨by omega,fun j hj=>?_⟩,by omega,by exact Ref.frame (by simp [sub,Ab])⟩
   rcases Nat.lt_or_ge j i with h | h
   ·exact hall j h
   ·obtain rfl:j=i:=by omega
    exact hc2
 ·(refine RN ?_;try with_reducible exact trivial)
  rw [dT (fun j hj=>hall j (by omega))]
theorem tP (xs:List Int)(f:FuncId)(fs cs:List AV)(p:Int→Bool)(hl:xs.length≤1099511627776)(hf:∀ n,Pure Tryz.prog f (fs++[i64 n]++cs) (bl (p n)) [])(hk:Fz Tryz.prog f=true)(h1:fs.map (Aj [] 6)=fs)(h2:cs.map (Aj [] 6)=cs)(h3:fs.map (Aj [] 5)=fs)(h4:cs.map (Aj [] 5)=cs):Pure Tryz.prog 131 [Ad xs,.clo f fs cs] (bl (xs.any p)) []:=by
 refine Cu kN rfl ?_;unfold Ug
 refine RN ?_
 refine Jw (wK xs f fs cs p hl hf hk h1 h2) (by simp only [h3,h4,go_sem,↓reduceIte,Nat.reduceEqDiff,Nat.reduceAdd,reduceCtorEq]) rfl rfl ?_
 (try simp only [go_sem,↓reduceIte,Nat.reduceEqDiff,Nat.reduceAdd,reduceCtorEq,go_sem,↓reduceIte,Nat.reduceEqDiff,Nat.reduceAdd,reduceCtorEq])
 refine RN ?_
 rw [dS]
theorem qY (xs:List Int)(lo hi:Int)(hl:xs.length≤1099511627776):Pure Tryz.prog 164 [Ad xs,i64 lo,i64 hi] (bl (xs.all fun n=>decide (lo≤n)&&decide (n≤hi))) []:=by
 refine Ao Ac3 rfl rfl ?_;unfold Zn
 refine RN ?_
 refine Ag (tP xs 192 [] [.pto [i64 lo] 0,.pto [i64 hi] 0] (fun n=>!(decide (lo≤n)&&decide (n≤hi))) hl (fun n=>qX n lo hi) (by kernel_rfl) rfl rfl rfl rfl) ?_
 refine RN ?_
 rw [List.all_eq_not_any_not]
end Go.Proofs.YtnompobcofhkpaaGreatDoor
