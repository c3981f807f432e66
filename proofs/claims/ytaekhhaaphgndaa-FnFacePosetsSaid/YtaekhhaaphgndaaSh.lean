/- Texts that belong together. -/
import Derived.Test.YtaekhhaaphgndaaZr
import Derived.Test.YtaekhhaaphgndaaZt
set_option linter.unusedSimpArgs false
set_option linter.unusedVariables false
set_option maxRecDepth 100000
namespace Go.Proofs.Ytaekhhaaphgndaa
open Go.Gov
open Classical
def pshZ (out:List Int)(x:Int):List Int:=if out.getLast? = some x then out else out++[x]
def ddZ (S:List Int):List Int:=S.foldl pshZ []
theorem takeZ_one {S:List Int}{j:Nat}(hj:j<S.length):S.take (j+1)=S.take j++[S.getD j 0]:=by
 rw [List.take_succ_eq_append_getElem hj]
 simp [hj]
theorem ddZ_take {S:List Int}{j:Nat}(hj:j<S.length):ddZ (S.take (j+1))=pshZ (ddZ (S.take j)) (S.getD j 0):=by
 unfold ddZ
 rw [takeZ_one hj,List.foldl_append]
 rfl
theorem pshZ_last (out:List Int)(x:Int):(pshZ out x).getLast? = some x:=by
 unfold pshZ
 split
 ·assumption
 ·simp
theorem ddZ_last {S:List Int}{j:Nat}(hj:j<S.length):(ddZ (S.take (j+1))).getLast? = some (S.getD j 0):=by
 rw [ddZ_take hj]
 exact pshZ_last _ _
theorem ddZ_same {S:List Int}{j:Nat}(hj:j<S.length)(h0:0<j)(h:S.getD j 0=S.getD (j - 1) 0):ddZ (S.take (j+1))=ddZ (S.take j):=by
 obtain ⟨i,rfl⟩:∃ i,j=i+1:=⟨j - 1,by omega⟩
 rw [ddZ_take hj,pshZ,if_pos]
 rw [ddZ_last (by omega),h]
 rfl
theorem ddZ_new {S:List Int}{j:Nat}(hj:j<S.length)(h0:0<j)(h:S.getD j 0≠S.getD (j - 1) 0):ddZ (S.take (j+1))=ddZ (S.take j)++[S.getD j 0]:=by
 obtain ⟨i,rfl⟩:∃ i,j=i+1:=⟨j - 1,by omega⟩
 rw [ddZ_take hj,pshZ,if_neg]
 rw [ddZ_last (by omega)]
 exact fun e=>h (Option.some.inj e).symm
theorem ddZ_one {S:List Int}(h:0<S.length):ddZ (S.take 1)=S.take 1:=by
 rw [takeZ_one h]
 rfl
theorem ddZ_short {S:List Int}(h:S.length<2):ddZ S=S:=by
 match S,h with
 | [],_=>rfl
 | [x],_=>rfl
theorem ddZ_le (S:List Int):(ddZ S).length≤S.length:=by
 have h:∀ (S out:List Int),(S.foldl pshZ out).length≤out.length+S.length:=by
  intro S
  induction S with
  | nil=>intro out;simp
  | cons x S ih=>
   intro out
   rw [List.foldl_cons]
   have h1:=ih (pshZ out x)
   have h2:(pshZ out x).length≤out.length+1:=by
    unfold pshZ
    split<;>simp
   rw [List.length_cons]
   omega
 have:=h S []
 simp only [List.length_nil,Nat.zero_add] at this
 exact this
theorem ddZ_ok {S:List Int}(hS:S.Pairwise (· ≤ ·)):sst (ddZ S)∧∀ y,y∈ddZ S ↔ y∈S:=by
 have h:∀ (S out:List Int),sst out→S.Pairwise (· ≤ ·)→(∀ x∈S,∀ y∈out,y≤x)→(sst (S.foldl pshZ out)∧∀ y,y∈S.foldl pshZ out ↔ y∈out∨y∈S):=by
  intro S
  induction S with
  | nil=>intro out ho _ _;exact ⟨ho,fun y=>by simp⟩
  | cons x S ih=>
   intro out ho hS h
   obtain ⟨h1,h2⟩:=List.pairwise_cons.1 hS
   have hp:sst (pshZ out x)∧∀ y,y∈pshZ out x ↔ y∈out∨y=x:=by
    unfold pshZ
    split
    ·rename_i hl
     have hm:x∈out:=List.mem_of_getLast? hl
     exact ⟨ho,fun y=>⟨.inl,fun hy=>hy.elim id fun e=>e ▸ hm⟩⟩
    ·rename_i hl
     refine ⟨List.pairwise_append.2 ⟨ho,by simp,fun a ha b hb=>?_⟩,fun y=>by simp⟩
     obtain rfl:=List.mem_singleton.1 hb
     have h3:=h b List.mem_cons_self a ha
     refine Classical.byContradiction fun hlt=>hl ?_
     obtain rfl:a=b:=by omega
     obtain ⟨i,hi,e⟩:=List.mem_iff_getElem.1 ha
     have hlast:out.length - 1<out.length:=by omega
     rw [List.getLast?_eq_getElem?,List.getElem?_eq_getElem hlast]
     by_cases e2:i=out.length - 1
     ·subst e2;rw [e]
     ·have h5:=List.pairwise_iff_getElem.1 ho i (out.length - 1) hi hlast (by omega)
      rw [e] at h5
      have h6:=h _ List.mem_cons_self _ (List.getElem_mem hlast)
      omega
   obtain ⟨p1,p2⟩:=hp
   obtain ⟨q1,q2⟩:=ih (pshZ out x) p1 h2 fun z hz y hy=>by
    rcases (p2 y).1 hy with h5 | h5
    ·exact h z (List.mem_cons_of_mem _ hz) y h5
    ·rw [h5];exact h1 z hz
   exact ⟨q1,fun y=>by rw [List.foldl_cons,q2 y,p2 y,List.mem_cons,or_assoc]⟩
 obtain ⟨h1,h2⟩:=h S [] List.Pairwise.nil hS (by simp)
 exact ⟨h1,fun y=>by rw [ddZ,h2 y];simp⟩
set_option maxHeartbeats 4000000 in
theorem compactZ_w (S : List Int) (hl : S.length ≤ 1099511627776) :
    Wri Try.prog 43 [.sl 0 1 0 S.length] [some (intsC S)] (.sl 0 1 0 (ddZ S).length) [some (intsC (ddZ S++List.replicate (S.length - (ddZ S).length) 0))]:=by
 refine wriRV ok43 rfl ?_;unfold c43
 refine RN ?_
 refine ⟨fun hc=>?_,fun hc=>?_⟩
 ·rw [ddZ_short (by omega),Nat.sub_self]
  refine RN ?_
  exact Ref.to (by simp) (by simp [sub,fget])
 ·(refine RN ?_;try with_reducible exact trivial)
  refine V_loop (α:=Nat) (S:=fun k=>([(0,.sl 0 1 0 S.length),(3,i64 (k:Int))],[some (intsC S)])) (C:=fun k=>1≤k∧k≤S.length∧ddZ (S.take k)=S.take k) (μ:=fun k=>S.length - k) 1 ⟨Nat.le_refl _,by omega,ddZ_one (by omega)⟩ (by exact Ref.frame (by simp [sub,fget])) ?_
  rintro k ⟨h1,h2,h3⟩
  refine RN ?_
  refine ⟨fun hc2=>?_,fun hc2=>?_⟩
  ·have hkm:((k:Int) - 1).toNat=k - 1:=by omega
   (refine RN ?_;try with_reducible exact trivial)
   (try simp only [hkm,go_sem,↓reduceIte,Nat.reduceEqDiff,Nat.reduceAdd,reduceCtorEq])
   refine RN ?_
   refine ⟨fun hc3=>?_,fun hc3=>?_⟩
   ·have h4:ddZ (S.take (k+1))=S.take k:=(ddZ_same (by omega) h1 hc3).trans h3
    clear hkm
    refine RN ?_
    refine V_loop (α:=Nat) (S:=fun j=>([(0,.sl 0 1 0 S.length),(3,i64 ((ddZ (S.take (k+j))).length:Int)),(4,.sl 0 1 k (S.length - k)),(5,i64 (j:Int))],[some (intsC (ddZ (S.take (k+j))++S.drop (ddZ (S.take (k+j))).length))])) (C:=fun j=>1≤j∧k+j≤S.length∧(ddZ (S.take (k+j))).length<k+j) (μ:=fun j=>S.length - (k+j)) 1 ⟨Nat.le_refl _,by omega,by rw [h4,List.length_take];omega⟩ ?_ ?_
    ·have h5:(S.take k).length=k:=by rw [List.length_take];omega
     rw [h4,h5,List.take_append_drop]
     exact Ref.to1
    rintro j ⟨j1,j2,j3⟩
    obtain ⟨O,hO⟩:∃ O,O=ddZ (S.take (k+j)):=⟨_,rfl⟩
    rw [← hO] at j3 ⊢
    obtain ⟨T,hT⟩:∃ T,T=O++S.drop O.length:=⟨_,rfl⟩
    have hTl:T.length=S.length:=by rw [hT];simp;omega
    have gT:∀ i,O.length≤i→T.getD i 0=S.getD i 0:=fun i hi=>by
     rw [hT,List.getD_eq_getElem?_getD,List.getElem?_append_right hi,List.getElem?_drop,show O.length+(i - O.length)=i by omega,← List.getD_eq_getElem?_getD]
    rw [← hT]
    refine RN ?_
    refine ⟨fun hc4=>?_,fun hc4=>?_⟩
    ·have hjm:((j:Int) - 1).toNat=j - 1:=by omega
     have t1:=gT (k+j) (by omega)
     have t2:=gT (k+(j - 1)) (by omega)
     obtain ⟨y,hy⟩:∃ y,y=S.getD (k+j) 0:=⟨_,rfl⟩
     rw [← hy] at t1
     (refine RN ?_;try with_reducible exact trivial)
     (try simp only [hjm,t1,t2,go_sem,↓reduceIte,Nat.reduceEqDiff,Nat.reduceAdd,reduceCtorEq])
     (refine RN ?_;try with_reducible exact trivial)
     (try simp only [t1,t2,go_sem,↓reduceIte,Nat.reduceEqDiff,Nat.reduceAdd,reduceCtorEq])
     refine ⟨fun hc5=>?_,fun hc5=>?_⟩
     ·have hO2 : ddZ (S.take (k + (j + 1))) = O ++ [y] := by
        rw [hy] at hc5 ⊢
        have hn:=ddZ_new (S:=S) (j:=k+j) (by omega) (by omega) (by rw [show k+j - 1=k+(j - 1) by omega];exact hc5)
        rw [hO,← hn]
        rfl
      have hset:T.set O.length y=(O++[y])++S.drop (O++[y]).length:=by
       rw [hT,List.set_append_right _ _ (Nat.le_refl _),Nat.sub_self,List.length_append,List.length_singleton,List.append_assoc]
       rw [List.drop_eq_getElem_cons (by omega:O.length<S.length)]
       rfl
      (refine RN ?_;try with_reducible exact trivial)
      (try simp only [t1,go_sem,↓reduceIte,Nat.reduceEqDiff,Nat.reduceAdd,reduceCtorEq])
      refine RN ?_
      refine ⟨j+1,⟨by omega,by omega,by rw [hO2];simp;omega⟩,by omega,Ref.to ?_ (by simp [sub,fget,hO2])⟩
      rw [hO2,← hset]
     ·have hO2 : ddZ (S.take (k + (j + 1))) = O := by
        rw [hy] at hc5
        have hn:=ddZ_same (S:=S) (j:=k+j) (by omega) (by omega) (by rw [show k+j - 1=k+(j - 1) by omega];exact hc5)
        rw [hO,← hn]
        rfl
      refine RN ?_
      exact ⟨j+1,⟨by omega,by omega,by rw [hO2];omega⟩,by omega,Ref.to (by rw [hO2,hT]) (by simp [sub,fget,hO2])⟩
    ·obtain rfl:j=S.length - k:=by omega
     rw [show k+(S.length - k)=S.length by omega,List.take_length] at hO
     refine RN ?_
     rw [← hO]
     have e1:((S.length:Int) - (O.length:Int)).toNat=S.length - O.length:=by omega
     have e2:(intsC T).take O.length=intsC O:=by rw [hT];simp [intsC]
     refine Ref.to ?_ (by simp [sub,fget])
     rw [e1,e2,List.drop_eq_nil_of_le (by simp [intsC];omega),List.append_nil]
     simp [intsC]
   ·(refine RN ?_;try with_reducible exact trivial)
    exact ⟨k+1,⟨by omega,by omega,by rw [ddZ_new (by omega) h1 hc3,h3,takeZ_one (by omega)]⟩,by omega,by exact Ref.frame (by simp [sub,fget])⟩
  ·obtain rfl:k=S.length:=by omega
   rw [List.take_length] at h3
   rw [h3,Nat.sub_self]
   refine RN ?_
   exact Ref.to (by simp) (by simp [sub,fget])
end Go.Proofs.Ytaekhhaaphgndaa
