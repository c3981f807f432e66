/- Texts that belong together. -/
import Derived.Test.YtnompobcofhkpaaGreatDoorS4
set_option linter.unusedSimpArgs false
set_option linter.unusedVariables false
set_option maxRecDepth 100000
namespace Go.Proofs.YtnompobcofhkpaaGreatDoor
open Go.Gov Go.Nt
open Classical
def drN:List UInt8:=[100,97,116,99,98,101,106,107,109,110,111,122]
def drS:List (List UInt8):=[[84],[67],[79],[68],[73],[72],[90],[84],[67],[79]]
theorem uB:∀ k,(drS.getD k []).length≤1:=fun k=>by
 rcases Nat.lt_or_ge k 10 with h | h
 ·have:∀ s∈drS,s.length≤1:=by decide
  have hk:k<drS.length:=h
  rw [List.getD_eq_getElem?_getD,List.getElem?_eq_getElem hk]
  exact this _ (List.getElem_mem hk)
 ·rw [List.getD_eq_getElem?_getD,List.getElem?_eq_none (show drS.length≤k from h)]
  exact Nat.zero_le _
theorem All (ks:List Nat)(H:Heap)(bs:List Int)(a:Nat)(h:Int):(Az bs a h).map (E9 ks H)=Az bs a h:=by
 simp [Az,Ep, E9,Am,Db,Bu]
attribute [go_sem] All
set_option maxHeartbeats 4000000 in
theorem yV (bs : List Int) (hb : Fa bs) (a : Nat) (h : Int) (hs : a ≤ bs.length) (m : Nat) (hm : m ≤ 13) :
    E1 Tryz.prog 13 [.ref 0 0,i64 (m:Int)] [some (Az bs a h)] (fun o:Nat×Int×List UInt8=>o.1≤bs.length∧o.2.2.length≤m+3) (fun o=>sV o.2.2) (fun o=>[some (Az bs o.1 o.2.1)]):=by
 refine Hn Acf rfl ?_;unfold Y0
 refine RN ?_
 refine Bv (C2 bs hb a h hs ((m:Int)+1)) [0] (by first | rfl | simp) (by simp only [go_sem,↓reduceIte,Nat.reduceEqDiff,Nat.reduceAdd,reduceCtorEq]<;>rfl) (by simp only [go_sem,↓reduceIte,Nat.reduceEqDiff,Nat.reduceAdd,reduceCtorEq]<;>rfl) fun o ho=>?_
 obtain ⟨a1,b1,k⟩:=o
 obtain ⟨q1,q2,q3⟩:=ho
 dsimp only at q1 q2 q3
 obtain ⟨k,rfl⟩:=Int.eq_ofNat_of_zero_le q2
 refine RN ?_
 refine Ah (α:=(Nat×Int)×(Nat×List UInt8)) (S:=fun o=>([(0,.ref 0 0),(5,sV drN),(6,sV o.2.2),(7,i64 (o.2.1:Int))],[some (Az bs o.1.1 o.1.2)])) (C:=fun o=>o.1.1≤bs.length∧o.2.2.length+o.2.1≤m) (μ:=fun o=>o.2.1) ((a1,b1),(k,[])) ⟨q1,by simp only [List.length_nil];omega⟩ ?_ ?_
 ·exact Ref.sel [0] rfl (by simp only [go_sem,↓reduceIte,Nat.reduceEqDiff,Nat.reduceAdd,reduceCtorEq]) (by simp [sub,Ab,go_sem,↓reduceIte,Nat.reduceEqDiff,Nat.reduceAdd,reduceCtorEq,drN])
 rintro ⟨⟨a2,b2⟩,⟨k,out⟩⟩ ⟨h1,h2⟩
 dsimp only at h1 h2 ⊢
 refine RN ?_
 refine ⟨fun hc=>?_,fun hc=>?_⟩
 ·(refine RN ?_;try with_reducible exact trivial)
  refine Bv (C2 bs hb a2 b2 h1 12) [0] (by first | rfl | simp) (by simp only [go_sem,↓reduceIte,Nat.reduceEqDiff,Nat.reduceAdd,reduceCtorEq]<;>rfl) (by simp only [go_sem,↓reduceIte,Nat.reduceEqDiff,Nat.reduceAdd,reduceCtorEq]<;>rfl) fun o ho=>?_
  obtain ⟨a3,b3,i⟩:=o
  obtain ⟨r1,r2,r3⟩:=ho
  dsimp only at r1 r2 r3
  obtain ⟨i,rfl⟩:=Int.eq_ofNat_of_zero_le r2
  have hi:i<12:=by omega
  have hdl:drN.length=12:=rfl
  have e1:((i:Int)+1).toNat=i+1:=by omega
  have hpl:((drN.take (i+1)).drop i).length≤1:=by rw [List.length_drop,List.length_take];omega
  generalize drN=D at hdl hpl ⊢
  have hmx:1099511627776000≤maxLen:=by decide
  generalize hpc:(D.take (i+1)).drop i=pc at hpl ⊢
  (repeat first | simp only [e1,hdl,hpc,go_sem,↓reduceIte,Nat.reduceEqDiff,Nat.reduceAdd,reduceCtorEq] | refine RX ?_ | decide)
  refine ⟨((a3,b3),(k - 1,out++pc)),⟨r1,by simp only [List.length_append];omega⟩,by simp only;omega,?_⟩
  exact Ref.sel [0] rfl (by simp only [go_sem,↓reduceIte,Nat.reduceEqDiff,Nat.reduceAdd,reduceCtorEq]) (by simp [sub,Ab,go_sem,↓reduceIte,Nat.reduceEqDiff,Nat.reduceAdd,reduceCtorEq];omega)
 ·obtain rfl:k=0:=by omega
  (repeat first | simp only [hs,go_sem,↓reduceIte,Nat.reduceEqDiff,Nat.reduceAdd,reduceCtorEq] | (with_reducible refine And.intro ?_ ?_;focus first | assumption | omega | decide | grind))
  refine Bj ?_
  (repeat first | simp only [hs,go_sem,↓reduceIte,Nat.reduceEqDiff,Nat.reduceAdd,reduceCtorEq] | (with_reducible refine And.intro ?_ ?_;focus first | assumption | omega | decide | grind))
  refine Fx (Ref.sel [0,1] (F' := [(0,.ref 0 0),(6,sV out),(9,.sl 1 1 0 10)]) (H' := [some (Az bs a2 b2),some (As drS)]) rfl ?_ ?_) ?_
  ·simp [go_sem,↓reduceIte,Nat.reduceEqDiff,Nat.reduceAdd,reduceCtorEq,drS,As]
  ·simp [sub,Ab,go_sem,↓reduceIte,Nat.reduceEqDiff,Nat.reduceAdd,reduceCtorEq]
  have hmx:1099511627776000≤maxLen:=by decide
  have hdl:drS.length=10:=rfl
  refine RN ?_
  refine Bv (C2 bs hb a2 b2 h1 10) [0] (by first | rfl | simp) (by simp only [go_sem,↓reduceIte,Nat.reduceEqDiff,Nat.reduceAdd,reduceCtorEq]<;>rfl) (by simp only [go_sem,↓reduceIte,Nat.reduceEqDiff,Nat.reduceAdd,reduceCtorEq]<;>rfl) fun o ho=>?_
  obtain ⟨a3,b3,i⟩:=o
  obtain ⟨r1,r2,r3⟩:=ho
  dsimp only at r1 r2 r3
  obtain ⟨i,rfl⟩:=Int.eq_ofNat_of_zero_le r2
  have hi:i<10:=by omega
  have hsl:=uB i
  generalize hsd:drS.getD i []=sd at hsl
  (repeat first | simp only [hdl,hsd,go_sem,↓reduceIte,Nat.reduceEqDiff,Nat.reduceAdd,reduceCtorEq] | refine RX ?_ | decide)
  refine ⟨fun hc1=>?_,fun hc1=>?_⟩
  ·refine Bv (C2 bs hb a3 b3 r1 6) [0] (by first | rfl | simp) (by simp only [go_sem,↓reduceIte,Nat.reduceEqDiff,Nat.reduceAdd,reduceCtorEq]<;>rfl) (by simp only [go_sem,↓reduceIte,Nat.reduceEqDiff,Nat.reduceAdd,reduceCtorEq]<;>rfl) fun o ho=>?_
   obtain ⟨a4,b4,n⟩:=o
   obtain ⟨t1,t2,t3⟩:=ho
   dsimp only at t1 t2 t3
   obtain ⟨n,rfl⟩:=Int.eq_ofNat_of_zero_le t2
   have e5:(2:Int)+(n:Int)=((2+n:Nat):Int):=by omega
   have hd:=Vo (2+n) (by omega)
   have ht:=Pz (2+n)
   generalize tx (2+n)=t at hd ht
   (repeat first | simp only [e5,go_sem,↓reduceIte,Nat.reduceEqDiff,Nat.reduceAdd,reduceCtorEq] | refine RX ?_ | decide)
   refine Ag (hd) ?_
   refine RN ?_
   exact ⟨(a4,b4,out++(sd++t)),⟨t1,by simp only [List.length_append];omega⟩,Ref.sel1 [0]⟩
  ·(refine RN ?_;try with_reducible exact trivial)
   exact ⟨(a3,b3,out++sd),⟨r1,by simp only [List.length_append];omega⟩,Ref.sel1 [0]⟩
end Go.Proofs.YtnompobcofhkpaaGreatDoor
