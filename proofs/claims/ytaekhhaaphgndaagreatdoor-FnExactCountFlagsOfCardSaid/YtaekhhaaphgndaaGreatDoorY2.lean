/- Texts that belong together. -/
import Derived.Test.YtaekhhaaphgndaaGreatDoorZv
import Derived.Test.YtaekhhaaphgndaaGreatDoorY1
set_option linter.unusedSimpArgs false
set_option linter.unusedVariables false
set_option maxRecDepth 100000
namespace Go.Proofs.YtaekhhaaphgndaaGreatDoor
section
open Go.Gov
open Classical
def plcN (R:List Int)(i:Int)(k:Nat):List Int:=((List.range k).filter fun e=>decide (R.getD e 0=i)).map fun e:Nat=>(e:Int)
def plc (R:List Int)(i:Int):List Int:=plcN R i R.length
theorem plcN_succ (R:List Int)(i:Int)(k:Nat):plcN R i (k+1)=if R.getD k 0=i then plcN R i k++[(k:Int)] else plcN R i k:=by
 unfold plcN
 rw [List.range_succ,List.filter_append,List.map_append]
 by_cases h:R.getD k 0=i
 ·rw [if_pos h,List.filter_cons_of_pos (by simpa using h)];rfl
 ·rw [if_neg h,List.filter_cons_of_neg (by simpa using h)];simp
theorem plcN_len (R:List Int)(i:Int)(k:Nat):(plcN R i k).length≤k:=by
 unfold plcN
 rw [List.length_map]
 have:=List.length_filter_le (fun e=>decide (R.getD e 0=i)) (List.range k)
 rwa [List.length_range] at this
theorem mem_plcN {R:List Int}{i:Int}{k:Nat}{e:Int}:e∈plcN R i k ↔ 0≤e∧e<k∧R.getD e.toNat 0=i:=by
 unfold plcN
 simp only [List.mem_map,List.mem_filter,List.mem_range,decide_eq_true_eq]
 constructor
 ·rintro ⟨n,⟨h1,h2⟩,rfl⟩
  exact ⟨by omega,by omega,by simpa using h2⟩
 ·rintro ⟨h1,h2,h3⟩
  exact ⟨e.toNat,⟨by omega,h3⟩,by omega⟩
theorem placesOf_p (R:List Int)(i:Int)(h1:R.length≤1048576):Pure Tryz.prog 114 [ints R,i64 i] (.sl 0 1 0 (plc R i).length) [some (intsC (plc R i))]:=by
 unfold plc
 refine pureVg [0] ok114 rfl ?_;unfold c114
 refine RN ?_
 refine V_loop (α:=Nat) (S:=fun k=>([(1,i64 i),(5,.sl 0 1 0 (plcN R i k).length),(8,ints R),(9,i64 R.length),(10,i64 k)],[some (intsC (plcN R i k))])) (C:=fun k=>k≤R.length) (μ:=fun k=>R.length - k) 0 (by omega) ((Ref.nil 5 1 rfl).trans (Ref.to (by simp [intsC,plcN]) (by simp [sub,fget,plcN]))) ?_
 intro k hk
 have hln:=plcN_len R i k
 have hst:=plcN_succ R i k
 generalize hL:plcN R i k=L at hln hst ⊢
 refine RN ?_
 refine ⟨fun hc=>?_,fun hc=>?_⟩
 ·(refine RN ?_;try with_reducible exact trivial)
  refine ⟨fun hc2=>?_,fun hc2=>?_⟩
  ·rw [if_pos (by first | exact hc2 | exact hc2.symm)] at hst
   refine RN ?_
   refine ⟨k+1,by omega,by omega,?_⟩
   rw [hst]
   refine Ref.gc [2] rfl ?_ (by simp [sub,fget,go_sem,↓reduceIte,Nat.reduceEqDiff,Nat.reduceAdd,reduceCtorEq])
   (try simp only [go_sem,↓reduceIte,Nat.reduceEqDiff,Nat.reduceAdd,reduceCtorEq,take_len,one_intsC,app_intsC])
  ·rw [if_neg (by first | exact hc2 | exact fun h=>hc2 h.symm)] at hst
   refine RN ?_
   refine ⟨k+1,by omega,by omega,?_⟩
   rw [hst]
   exact Ref.frame (by simp [sub,fget])
 ·obtain rfl:k=R.length:=by omega
  subst hL
  (refine RN ?_;try with_reducible exact trivial)
  (try simp only [go_sem,↓reduceIte,Nat.reduceEqDiff,Nat.reduceAdd,reduceCtorEq,and_self])
end
section
open Go.Gov
open Classical
abbrev Pr:=List Int×List Int
def P0:Pr:=([],[])
def flP:List Pr→List (List Int)
 | []=>[]
 | p :: l=>p.1 :: p.2 :: flP l
theorem flP_len:∀ P:List Pr,(flP P).length=P.length*2
 | []=>rfl
 | p :: l=>by rw [flP,List.length_cons,List.length_cons,flP_len l,List.length_cons];omega
theorem flP_at0:∀ (l:List Pr) (i:Nat),(flP l).getD (i*2) []=(l.getD i P0).1
 | [],i=>by simp [flP,P0]
 | p :: l,0=>rfl
 | p :: l,i+1=>by
  rw [show (i+1)*2=i*2+1+1 by omega,flP,List.getD_cons_succ,List.getD_cons_succ,flP_at0 l i,List.getD_cons_succ]
theorem flP_at1:∀ (l:List Pr) (i:Nat),(flP l).getD (i*2+1) []=(l.getD i P0).2
 | [],i=>by simp [flP,P0]
 | p :: l,0=>rfl
 | p :: l,i+1=>by
  rw [show (i+1)*2+1=(i*2+1)+1+1 by omega,flP,List.getD_cons_succ,List.getD_cons_succ,flP_at1 l i,List.getD_cons_succ]
attribute [go_sem] flP_at0 flP_at1 flP_len
end
end Go.Proofs.YtaekhhaaphgndaaGreatDoor
