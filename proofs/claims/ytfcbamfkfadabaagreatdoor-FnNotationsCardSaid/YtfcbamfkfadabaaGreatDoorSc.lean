/- Texts that belong together. -/
import Derived.Test.YtfcbamfkfadabaaGreatDoorS4
set_option maxHeartbeats 16000000
set_option linter.unusedSimpArgs false
set_option linter.unusedVariables false
set_option maxRecDepth 100000
namespace Go.Proofs.YtfcbamfkfadabaaGreatDoor
open Go.Gov Go.Nt
open Classical
def drN:List UInt8:=[100,97,116,99,98,101,106,107,109,110,111,122]
def drS:List (List UInt8):=[[84],[67],[79],[68],[73],[72],[90],[84],[67],[79]]
theorem drS_one:∀ k,(drS.getD k []).length≤1:=fun k=>by
 rcases Nat.lt_or_ge k 10 with h | h
 ·have:∀ s∈drS,s.length≤1:=by decide
  have hk:k<drS.length:=h
  rw [List.getD_eq_getElem?_getD,List.getElem?_eq_getElem hk]
  exact this _ (List.getElem_mem hk)
 ·rw [List.getD_eq_getElem?_getD,List.getElem?_eq_none (show drS.length≤k from h)]
  exact Nat.zero_le _
theorem vwC_src (ks:List Nat)(H:Heap)(bs:List Int)(a:Nat)(h:Int):(srcC bs a h).map (vwC ks H)=srcC bs a h:=by
 simp [srcC,bytA', vwC,rnm,u8s,rnmL_map]
attribute [go_sem] vwC_src
theorem l15Draw_w (bs : List Int) (hb : Byt bs) (a : Nat) (h : Int) (hs : a ≤ bs.length) (m : Nat) (hm : m ≤ 13) :
    WriE Tryz.prog 61 [.ref 0 0,i64 (m:Int)] [some (srcC bs a h)] (fun o:Nat×Int×List UInt8=>o.1≤bs.length∧o.2.2.length≤m+3) (fun o=>sV o.2.2) (fun o=>[some (srcC bs o.1 o.2.1)]):=by
 refine wriREV ok61 rfl ?_;unfold c61
 refine RN ?_
 refine wriEF (l01Next_w bs hb a h hs ((m:Int)+1)) [0] (by first | rfl | simp) (by simp only [go_sem,↓reduceIte,Nat.reduceEqDiff,Nat.reduceAdd,reduceCtorEq]<;>rfl) (by simp only [go_sem,↓reduceIte,Nat.reduceEqDiff,Nat.reduceAdd,reduceCtorEq]<;>rfl) fun o ho=>?_
 obtain ⟨a1,b1,k⟩:=o
 obtain ⟨q1,q2,q3⟩:=ho
 dsimp only at q1 q2 q3
 obtain ⟨k,rfl⟩:=Int.eq_ofNat_of_zero_le q2
 refine RN ?_
 refine V_loop (α:=(Nat×Int)×(Nat×List UInt8)) (S:=fun o=>([(0,.ref 0 0),(5,sV drN),(6,sV o.2.2),(7,i64 (o.2.1:Int))],[some (srcC bs o.1.1 o.1.2)])) (C:=fun o=>o.1.1≤bs.length∧o.2.2.length+o.2.1≤m) (μ:=fun o=>o.2.1) ((a1,b1),(k,[])) ⟨q1,by simp only [List.length_nil];omega⟩ ?_ ?_
 ·exact Ref.sel [0] rfl (by simp only [go_sem,↓reduceIte,Nat.reduceEqDiff,Nat.reduceAdd,reduceCtorEq]) (by simp [sub,fget,go_sem,↓reduceIte,Nat.reduceEqDiff,Nat.reduceAdd,reduceCtorEq,drN])
 rintro ⟨⟨a2,b2⟩,⟨k,out⟩⟩ ⟨h1,h2⟩
 dsimp only at h1 h2 ⊢
 refine RN ?_
 refine ⟨fun hc=>?_,fun hc=>?_⟩
 ·(refine RN ?_;try with_reducible exact trivial)
  refine wriEF (l01Next_w bs hb a2 b2 h1 12) [0] (by first | rfl | simp) (by simp only [go_sem,↓reduceIte,Nat.reduceEqDiff,Nat.reduceAdd,reduceCtorEq]<;>rfl) (by simp only [go_sem,↓reduceIte,Nat.reduceEqDiff,Nat.reduceAdd,reduceCtorEq]<;>rfl) fun o ho=>?_
  obtain ⟨a3,b3,i⟩:=o
  obtain ⟨r1,r2,r3⟩:=ho
  dsimp only at r1 r2 r3
  obtain ⟨i,rfl⟩:=Int.eq_ofNat_of_zero_le r2
  have hi:i<12:=by omega
  have hdl:drN.length=12:=rfl
  have e1:((i:Int)+1).toNat=i+1:=by omega
  have hpl:((drN.take (i+1)).drop i).length≤1:=by rw [List.length_drop,List.length_take];omega
  generalize drN=D at hdl hpl ⊢
  have hmx:1099511627776000≤maxLen:=by decide
  generalize hpc:(D.take (i+1)).drop i=pc at hpl ⊢
  (repeat first | simp only [e1,hdl,hpc,go_sem,↓reduceIte,Nat.reduceEqDiff,Nat.reduceAdd,reduceCtorEq] | refine RX ?_ | decide)
  refine ⟨((a3,b3),(k - 1,out++pc)),⟨r1,by simp only [List.length_append];omega⟩,by simp only;omega,?_⟩
  exact Ref.sel [0] rfl (by simp only [go_sem,↓reduceIte,Nat.reduceEqDiff,Nat.reduceAdd,reduceCtorEq]) (by simp [sub,fget,go_sem,↓reduceIte,Nat.reduceEqDiff,Nat.reduceAdd,reduceCtorEq];omega)
 ·obtain rfl:k=0:=by omega
  (repeat first | simp only [hs,go_sem,↓reduceIte,Nat.reduceEqDiff,Nat.reduceAdd,reduceCtorEq] | (with_reducible refine And.intro ?_ ?_;focus first | assumption | omega | decide | grind))
  refine V_W ?_
  (repeat first | simp only [hs,go_sem,↓reduceIte,Nat.reduceEqDiff,Nat.reduceAdd,reduceCtorEq] | (with_reducible refine And.intro ?_ ?_;focus first | assumption | omega | decide | grind))
  refine W_ref (Ref.sel [0,1] (F' := [(0,.ref 0 0),(6,sV out),(9,.sl 1 1 0 10)]) (H' := [some (srcC bs a2 b2),some (sVs drS)]) rfl ?_ ?_) ?_
  ·simp [go_sem,↓reduceIte,Nat.reduceEqDiff,Nat.reduceAdd,reduceCtorEq,drS,sVs]
  ·simp [sub,fget,go_sem,↓reduceIte,Nat.reduceEqDiff,Nat.reduceAdd,reduceCtorEq]
  have hmx:1099511627776000≤maxLen:=by decide
  have hdl:drS.length=10:=rfl
  refine RN ?_
  refine wriEF (l01Next_w bs hb a2 b2 h1 10) [0] (by first | rfl | simp) (by simp only [go_sem,↓reduceIte,Nat.reduceEqDiff,Nat.reduceAdd,reduceCtorEq]<;>rfl) (by simp only [go_sem,↓reduceIte,Nat.reduceEqDiff,Nat.reduceAdd,reduceCtorEq]<;>rfl) fun o ho=>?_
  obtain ⟨a3,b3,i⟩:=o
  obtain ⟨r1,r2,r3⟩:=ho
  dsimp only at r1 r2 r3
  obtain ⟨i,rfl⟩:=Int.eq_ofNat_of_zero_le r2
  have hi:i<10:=by omega
  have hsl:=drS_one i
  generalize hsd:drS.getD i []=sd at hsl
  (repeat first | simp only [hdl,hsd,go_sem,↓reduceIte,Nat.reduceEqDiff,Nat.reduceAdd,reduceCtorEq] | refine RX ?_ | decide)
  refine ⟨fun hc1=>?_,fun hc1=>?_⟩
  ·refine wriEF (l01Next_w bs hb a3 b3 r1 6) [0] (by first | rfl | simp) (by simp only [go_sem,↓reduceIte,Nat.reduceEqDiff,Nat.reduceAdd,reduceCtorEq]<;>rfl) (by simp only [go_sem,↓reduceIte,Nat.reduceEqDiff,Nat.reduceAdd,reduceCtorEq]<;>rfl) fun o ho=>?_
   obtain ⟨a4,b4,n⟩:=o
   obtain ⟨t1,t2,t3⟩:=ho
   dsimp only at t1 t2 t3
   obtain ⟨n,rfl⟩:=Int.eq_ofNat_of_zero_le t2
   have e5:(2:Int)+(n:Int)=((2+n:Nat):Int):=by omega
   have hd:=l01Dec_c (2+n) (by omega)
   have ht:=tx_len (2+n)
   generalize tx (2+n)=t at hd ht
   (repeat first | simp only [e5,go_sem,↓reduceIte,Nat.reduceEqDiff,Nat.reduceAdd,reduceCtorEq] | refine RX ?_ | decide)
   refine pureC1 (hd) ?_
   refine RN ?_
   exact ⟨(a4,b4,out++(sd++t)),⟨t1,by simp only [List.length_append];omega⟩,Ref.sel1 [0]⟩
  ·(refine RN ?_;try with_reducible exact trivial)
   exact ⟨(a3,b3,out++sd),⟨r1,by simp only [List.length_append];omega⟩,Ref.sel1 [0]⟩
def sgL:List (List UInt8):=[[48],[49],[50],[53],[57],[45],[47],[32],[44],[59],[40],[41],[123],[125],[58],[97],[100],[116],[107],[114],[46],[10]]
theorem sgL_one:∀ k,(sgL.getD k []).length≤1:=fun k=>by
 rcases Nat.lt_or_ge k 22 with h | h
 ·have:∀ s∈sgL,s.length≤1:=by decide
  have hk:k<sgL.length:=h
  rw [List.getD_eq_getElem?_getD,List.getElem?_eq_getElem hk]
  exact this _ (List.getElem_mem hk)
 ·rw [List.getD_eq_getElem?_getD,List.getElem?_eq_none (show sgL.length≤k from h)]
  exact Nat.zero_le _
theorem l01Damage_w (bs : List Int) (hb : Byt bs) (a : Nat) (h : Int) (hs : a ≤ bs.length) (t : List UInt8) (ht : t.length ≤ 1000) :
    WriE Tryz.prog 72 [.ref 0 0,sV t] [some (srcC bs a h)] (fun o:Nat×Int×List UInt8=>o.1≤bs.length∧o.2.2.length≤t.length+1) (fun o=>sV o.2.2) (fun o=>[some (srcC bs o.1 o.2.1)]):=by
 have hmx:1099511627776000≤maxLen:=by decide
 have hsl:sgL.length=22:=rfl
 refine wriREV ok72 rfl ?_;unfold c72
 (repeat first | simp only [hs,go_sem,↓reduceIte,Nat.reduceEqDiff,Nat.reduceAdd,reduceCtorEq] | (with_reducible refine And.intro ?_ ?_;focus first | assumption | omega | decide | grind))
 refine V_W ?_
 (repeat first | simp only [hs,go_sem,↓reduceIte,Nat.reduceEqDiff,Nat.reduceAdd,reduceCtorEq] | (with_reducible refine And.intro ?_ ?_;focus first | assumption | omega | decide | grind))
 refine W_ref (Ref.sel [0,1] (F' := [(0,.ref 0 0),(1,sV t),(5,.sl 1 1 0 22)]) (H' := [some (srcC bs a h),some (sVs sgL)]) rfl ?_ ?_) ?_
 ·simp [go_sem,↓reduceIte,Nat.reduceEqDiff,Nat.reduceAdd,reduceCtorEq,sgL,sVs]
 ·simp [sub,fget,go_sem,↓reduceIte,Nat.reduceEqDiff,Nat.reduceAdd,reduceCtorEq]
 refine RN ?_
 refine wriEF (l01Next_w bs hb a h hs 22) [0] (by first | rfl | simp) (by simp only [go_sem,↓reduceIte,Nat.reduceEqDiff,Nat.reduceAdd,reduceCtorEq]<;>rfl) (by simp only [go_sem,↓reduceIte,Nat.reduceEqDiff,Nat.reduceAdd,reduceCtorEq]<;>rfl) fun o ho=>?_
 obtain ⟨a1,b1,i⟩:=o
 obtain ⟨q1,q2,q3⟩:=ho
 dsimp only at q1 q2 q3
 obtain ⟨i,rfl⟩:=Int.eq_ofNat_of_zero_le q2
 have hi:i<22:=by omega
 have hcl:=sgL_one i
 generalize hcd:sgL.getD i []=c at hcl
 (repeat first | simp only [hsl,hcd,go_sem,↓reduceIte,Nat.reduceEqDiff,Nat.reduceAdd,reduceCtorEq] | refine RX ?_ | decide)
 refine ⟨fun hc1=>?_,fun hc1=>?_⟩
 ·(refine RN ?_;try with_reducible exact trivial)
  exact ⟨(a1,b1,c),⟨q1,by simp only;omega⟩,Ref.sel1 [0]⟩
 ·(refine RN ?_;try with_reducible exact trivial)
  refine wriEF (l01Next_w bs hb a1 b1 q1 t.length) [0] (by first | rfl | simp) (by simp only [go_sem,↓reduceIte,Nat.reduceEqDiff,Nat.reduceAdd,reduceCtorEq]<;>rfl) (by simp only [go_sem,↓reduceIte,Nat.reduceEqDiff,Nat.reduceAdd,reduceCtorEq]<;>rfl) fun o ho=>?_
  obtain ⟨a2,b2,k⟩:=o
  obtain ⟨r1,r2,r3⟩:=ho
  dsimp only at r1 r2 r3
  obtain ⟨k,rfl⟩:=Int.eq_ofNat_of_zero_le r2
  have hk:k<t.length:=by omega
  have e1:((k:Int)+1).toNat=k+1:=by omega
  have e2:(k:Int).toNat=k:=by omega
  have h1:(t.take k).length=k:=by rw [List.length_take];omega
  have h2:(t.drop (k+1)).length=t.length - (k+1):=List.length_drop
  have h3:(t.drop k).length=t.length - k:=List.length_drop
  have tk:t.take t.length=t:=List.take_length
  refine RN ?_
  refine wriEF (l01Next_w bs hb a2 b2 r1 3) [0] (by first | rfl | simp) (by simp only [go_sem,↓reduceIte,Nat.reduceEqDiff,Nat.reduceAdd,reduceCtorEq]<;>rfl) (by simp only [go_sem,↓reduceIte,Nat.reduceEqDiff,Nat.reduceAdd,reduceCtorEq]<;>rfl) fun o ho=>?_
  obtain ⟨a3,b3,n⟩:=o
  obtain ⟨t1,t2,t3⟩:=ho
  dsimp only at t1 t2 t3
  refine RN ?_
  refine ⟨fun hc2=>?_,fun hc2=>?_⟩
  ·(repeat first | simp only [e1,e2,tk,go_sem,↓reduceIte,Nat.reduceEqDiff,Nat.reduceAdd,reduceCtorEq] | refine RX ?_ | decide)
   exact ⟨(a3,b3,t.take k++c++t.drop (k+1)),⟨t1,by simp only [List.length_append];omega⟩,Ref.sel1 [0]⟩
  ·(refine RN ?_;try with_reducible exact trivial)
   refine ⟨fun hc3=>?_,fun hc3=>?_⟩
   ·(repeat first | simp only [e1,e2,tk,go_sem,↓reduceIte,Nat.reduceEqDiff,Nat.reduceAdd,reduceCtorEq] | refine RX ?_ | decide)
    exact ⟨(a3,b3,t.take k++t.drop (k+1)),⟨t1,by simp only [List.length_append];omega⟩,Ref.sel1 [0]⟩
   ·(repeat first | simp only [e1,e2,tk,go_sem,↓reduceIte,Nat.reduceEqDiff,Nat.reduceAdd,reduceCtorEq] | refine RX ?_ | decide)
    exact ⟨(a3,b3,t.take k++c++t.drop k),⟨t1,by simp only [List.length_append];omega⟩,Ref.sel1 [0]⟩
theorem l15DrawAny_w (bs : List Int) (hb : Byt bs) (a : Nat) (h : Int) (hs : a ≤ bs.length) (m : Nat) (hm : m ≤ 13) :
    WriE Tryz.prog 33 [.ref 0 0,i64 (m:Int)] [some (srcC bs a h)] (fun o:Nat×Int×List UInt8=>o.1≤bs.length∧o.2.2.length≤m+4) (fun o=>sV o.2.2) (fun o=>[some (srcC bs o.1 o.2.1)]):=by
 refine wriREV ok33 rfl ?_;unfold c33
 refine RN ?_
 refine wriEF (l15Draw_w bs hb a h hs m hm) [0] (by first | rfl | simp) (by simp only [go_sem,↓reduceIte,Nat.reduceEqDiff,Nat.reduceAdd,reduceCtorEq]<;>rfl) (by simp only [go_sem,↓reduceIte,Nat.reduceEqDiff,Nat.reduceAdd,reduceCtorEq]<;>rfl) fun o ho=>?_
 obtain ⟨a1,b1,t⟩:=o
 obtain ⟨q1,q2⟩:=ho
 dsimp only at q1 q2
 refine RN ?_
 refine wriEF (l01Next_w bs hb a1 b1 q1 10) [0] (by first | rfl | simp) (by simp only [go_sem,↓reduceIte,Nat.reduceEqDiff,Nat.reduceAdd,reduceCtorEq]<;>rfl) (by simp only [go_sem,↓reduceIte,Nat.reduceEqDiff,Nat.reduceAdd,reduceCtorEq]<;>rfl) fun o ho=>?_
 obtain ⟨a2,b2,n⟩:=o
 obtain ⟨r1,r2,r3⟩:=ho
 dsimp only at r1 r2 r3
 refine RN ?_
 refine ⟨fun hc=>?_,fun hc=>?_⟩
 ·(refine RN ?_;try with_reducible exact trivial)
  refine wriEF (l01Damage_w bs hb a2 b2 r1 t (by omega)) [0] (by first | rfl | simp) (by simp only [go_sem,↓reduceIte,Nat.reduceEqDiff,Nat.reduceAdd,reduceCtorEq]<;>rfl) (by simp only [go_sem,↓reduceIte,Nat.reduceEqDiff,Nat.reduceAdd,reduceCtorEq]<;>rfl) fun o ho=>?_
  obtain ⟨a3,b3,u⟩:=o
  obtain ⟨t1,t2⟩:=ho
  dsimp only at t1 t2
  refine RN ?_
  exact ⟨(a3,b3,u),⟨t1,by simp only;omega⟩,Ref.sel1 [0]⟩
 ·(refine RN ?_;try with_reducible exact trivial)
  exact ⟨(a2,b2,t),⟨r1,by simp only;omega⟩,Ref.sel1 [0]⟩
theorem drawMap_e (bs:List Int)(hb:Byt bs):PureE Tryz.prog 8 [bytA' bs] (fun l:List UInt8=>l.length≤6) (fun l=>sV l) (fun _=>[]):=by
 have hf:=l01From_p bs hb
 unfold bytA' at *
 refine pureREV ok8 rfl ?_;unfold c8
 refine RN ?_
 refine pureEG hf (by first | rfl | simp only [go_sem,↓reduceIte,Nat.reduceEqDiff,Nat.reduceAdd,reduceCtorEq]) fun h0 _=>?_
 refine RN ?_
 refine wriEF (l15DrawAny_w bs hb 0 h0 (Nat.zero_le _) 2 (by omega)) [0] (by first | rfl | simp) (by simp only [go_sem,↓reduceIte,Nat.reduceEqDiff,Nat.reduceAdd,reduceCtorEq]<;>rfl) (by simp only [go_sem,↓reduceIte,Nat.reduceEqDiff,Nat.reduceAdd,reduceCtorEq]<;>rfl) fun o ho=>?_
 obtain ⟨a1,b1,t⟩:=o
 obtain ⟨q1,q2⟩:=ho
 dsimp only at q1 q2
 refine RN ?_
 exact ⟨t,(show t.length≤6 by omega),Ref.gc1 []⟩
end Go.Proofs.YtfcbamfkfadabaaGreatDoor
