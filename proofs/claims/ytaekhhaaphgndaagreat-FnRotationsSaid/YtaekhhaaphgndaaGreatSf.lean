/- Texts that belong together. -/
import Derived.Test.YtaekhhaaphgndaaGreatV1
import Derived.Test.YtaekhhaaphgndaaGreatS7
set_option maxHeartbeats 16000000
set_option linter.unusedSimpArgs false
set_option linter.unusedVariables false
set_option maxRecDepth 100000
namespace Go.Proofs.YtaekhhaaphgndaaGreat
section
open Go.Gov
open Classical
def ngc:List Int→Nat
 | []=>0
 | x :: l=>(if x<0 then 1 else 0)+ngc l
theorem ngc_set:∀ (l:List Int) (d:Nat) (v:Int),d<l.length→l.getD d 0<0→0≤v→ngc (l.set d v)+1=ngc l
 | [],_,_,h,_,_=>by simp at h
 | x :: l,0,v,_,h,hv=>by
  have hx:x<0:=by simpa using h
  simp only [List.set_cons_zero,ngc,if_pos hx,if_neg (show ¬ v<0 by omega)]
  omega
 | x :: l,d+1,v,h,h2,hv=>by
  have ih:=ngc_set l d v (by simpa using h) (by simpa using h2) hv
  simp only [List.set_cons_succ,ngc]
  omega
theorem ngc_le:∀ l:List Int,ngc l≤l.length
 | []=>Nat.le_refl _
 | x :: l=>by
  have:=ngc_le l
  simp only [ngc,List.length_cons]
  split<;>omega
def OkV (M K:List (List Int))(c x:Nat)(v:Int):Prop:=v = -1∨∃ y:Nat,v=(y:Int)∧y<fl K∧∀ ψ,IsoM M K ψ→ψ 0=c→y=ψ x
structure CvI (M K:List (List Int)) (c:Nat) (L Q:List Int):Prop where
 len:L.length=fl M
 ok:∀ x,x<fl M→OkV M K c x (L.getD x 0)
 qu:∀ q∈Q,∃ x:Nat,q=(x:Int)∧x<fl M∧0≤L.getD x 0
theorem CvI.put {M K:List (List Int)}{c:Nat}{L Q:List Int}(h:CvI M K c L Q){g y:Nat}(hg:g<fl M)(hy:y<fl K)(hψ:∀ ψ,IsoM M K ψ→ψ 0=c→y=ψ g):CvI M K c (L.set g (y:Int)) (Q++[(g:Int)]):=by
 have hat:(L.set g (y:Int)).getD g 0=(y:Int):=by
  have:g<L.length:=by rw [h.len];exact hg
  simp [this]
 have hot:∀ x,x≠g→(L.set g (y:Int)).getD x 0=L.getD x 0:=fun x hx=>by
  simp [List.getD_eq_getElem?_getD,List.getElem?_set_ne (fun e=>hx e.symm)]
 refine ⟨by rw [List.length_set,h.len],fun x hx=>?_,fun q hq=>?_⟩
 ·by_cases e:x=g
  ·rw [e,hat];exact .inr ⟨y,rfl,hy,hψ⟩
  ·rw [hot x e];exact h.ok x hx
 ·rcases List.mem_append.1 hq with hq | hq
  ·obtain ⟨x,e1,e2,e3⟩:=h.qu q hq
   refine ⟨x,e1,e2,?_⟩
   by_cases e:x=g
   ·rw [e,hat];omega
   ·rw [hot x e];exact e3
  ·refine ⟨g,List.mem_singleton.1 hq,hg,by rw [hat];omega⟩
def cvR:Option (List Int)→AV
 | none=>nilS
 | some L=>ints L
theorem coveringTo_e (M K : List (List Int)) (hM : IsMap M) (hK : IsMap K) (hn : fl M = fl K) (c : Nat) (hc : c < fl K) :
    PureE Tryz.prog 75 [maniA M,maniA K,i64 (c:Int)] (fun o:Option (List Int)=>(∀ L,o=some L→L.length=fl M)∧((∃ ψ,IsoM M K ψ∧ψ 0=c)→o.isSome=true)) cvR (fun _=>[]):=by
 have hM3:M.length=3:=hM.2
 have hK3:K.length=3:=hK.2
 have h4:=hM.1.f4
 have h2:=hM.1.f2
 have hI:=hM.mvi
 have hJ:=hK.mvi
 have r1:=rank_c M (by omega)
 have r2:=rank_c K (by omega)
 have f1:=flags_c M (by omega) (by omega) (by change fl M≤1048576;omega)
 change Gov.Pure _ _ _ (i64 ((fl M:Nat):Int)) _ at f1
 have hrp:=repeat_c (-1) (fl M) (by omega)
 rw [hM3] at r1
 rw [hK3] at r2
 refine pureREV ok75 rfl ?_;unfold c75
 refine RN ?_
 refine pureC1 (r1) ?_
 refine RN ?_
 refine pureC1 (r2) ?_
 refine RN ?_
 refine pureC1 (f1) ?_
 refine RN ?_
 refine pureC1 (hrp) ?_
 refine RN ?_
 have hs0:CvI M K c (List.replicate (fl M) (-1)) []:=⟨by simp,fun x hx=>.inl (by simp [hx]),fun q hq=>by cases hq⟩
 have hs1:=hs0.put (g:=0) (y:=c) (by omega) hc fun ψ _ h=>h.symm
 refine V_loop (α:=List Int×List Int×Nat) (S:=fun p=>([(3,.ref 0 0),(4,.ref 1 0),(7,.sl 2 1 0 (fl M)),(8,.sl 3 1 p.2.2 (p.2.1.length - p.2.2))],[some [mat M],some [mat K],some (intsC p.1),some (intsC p.2.1)]))
  (C:=fun p=>CvI M K c p.1 (p.2.1.drop p.2.2)∧p.2.2≤p.2.1.length∧ngc p.1+(p.2.1.length - p.2.2)≤fl M+1) (μ:=fun p=>ngc p.1+(p.2.1.length - p.2.2)) ((List.replicate (fl M) (-1)).set 0 (c:Int),[0],0) ⟨hs1,by simp,?_⟩ ?_ ?_
 ·have:=ngc_le ((List.replicate (fl M) (-1)).set 0 (c:Int))
  rw [List.length_set,List.length_replicate] at this
  simp only [List.length_singleton]
  omega
 ·exact Ref.gc2 [0,1,3,4]
 rintro ⟨L,V,a⟩ ⟨h1,h5,h6⟩
 dsimp only at h1 h5 h6 ⊢
 have hLl:=h1.len
 refine RN ?_
 refine ⟨fun hc1=>?_,fun hc1=>?_⟩
 ·have ha:a<V.length:=by omega
  have hd:V.drop a=V[a] :: V.drop (a+1):=List.drop_eq_getElem_cons ha
  obtain ⟨f,e1,e2,e3⟩:=h1.qu V[a] (by rw [hd];exact List.mem_cons_self)
  have hVa:V.getD a 0=(f:Int):=by
   rw [List.getD_eq_getElem?_getD,List.getElem?_eq_getElem ha]
   exact e1
  (repeat first | simp only [hVa,go_sem,↓reduceIte,Nat.reduceEqDiff,Nat.reduceAdd,reduceCtorEq] | refine RX ?_ | decide)
  refine V_loop (α:=(List Int×List Int×Nat)×Nat) (S:=fun p=>([(3,.ref 0 0),(4,.ref 1 0),(7,.sl 2 1 0 (fl M)),(8,.sl 3 1 p.1.2.2 (p.1.2.1.length - p.1.2.2)),(9,i64 (f:Int)),(33,mat M),(34,i64 3),(35,i64 (p.2:Int))],[some [mat M],some [mat K],some (intsC p.1.1),some (intsC p.1.2.1)]))
   (C:=fun p=>p.2≤3∧CvI M K c p.1.1 (p.1.2.1.drop p.1.2.2)∧p.1.2.2<p.1.2.1.length∧p.1.2.1.getD p.1.2.2 0=(f:Int)∧ngc p.1.1+(p.1.2.1.length - p.1.2.2)=ngc L+(V.length - a)) (μ:=fun p=>3 - p.2) ((L,V,a),0) ⟨by omega,h1,ha,hVa,rfl⟩ ?_ ?_
  ·exact Ref.to rfl (by simp [sub,fget,hM3])
  clear h1 hd hLl hs0 hs1
  rintro ⟨⟨L2,V2,a2⟩,i⟩ ⟨g1,g2,g3,g4,g5⟩
  dsimp only at g1 g2 g3 g4 g5 ⊢
  have hLl:=g2.len
  have hd2:V2.drop a2=(f:Int) :: V2.drop (a2+1):=by
   rw [List.drop_eq_getElem_cons g3]
   rw [List.getD_eq_getElem?_getD,List.getElem?_eq_getElem g3] at g4
   exact congrArg (· :: _) g4
  obtain ⟨f', e1', _,hf0⟩:=g2.qu (f:Int) (by rw [hd2];exact List.mem_cons_self)
  obtain rfl:f' = f:=by omega
  refine RN ?_
  refine ⟨fun hc2=>?_,fun hc2=>?_⟩
  ·have hi3:i<3:=by omega
   obtain ⟨y,ey,ylt,yψ⟩:∃ y:Nat,L2.getD f' 0=(y:Int)∧y<fl K∧∀ ψ,IsoM M K ψ→ψ 0=c→y=ψ f' := by
    rcases g2.ok f' e2 with h | h
    ·omega
    ·exact h
   have q1:=hI.row i hi3
   have q2:=hI.val i f' hi3 e2
   have q3:=hI.lt i f' hi3 e2
   have q4:=hJ.row i hi3
   have q5:=hJ.val i y hi3 ylt
   have q6:=hJ.lt i y hi3 ylt
   have hto:∀ ψ,IsoM M K ψ→ψ 0=c→mv K i y=ψ (mv M i f'):=fun ψ h h0=>by rw [yψ ψ h h0,h.mv i f' hi3 e2]
   generalize mv M i f' = g at q2 q3 hto
   generalize mv K i y=z at q5 q6 hto
   have t1:((f' : Nat):Int).toNat=f' := by omega
   have t2:((y:Nat):Int).toNat=y:=by omega
   have t3:((g:Nat):Int).toNat=g:=by omega
   (repeat first | simp only [q2,ey,q5,t1,t2,t3,go_sem,↓reduceIte,Nat.reduceEqDiff,Nat.reduceAdd,reduceCtorEq] | refine RX ?_ | decide)
   refine ⟨fun hneg=>?_,fun hneg=>?_⟩
   ·have hset:=ngc_set L2 g (z:Int) (by omega) hneg (by omega)
    have hput:=g2.put q3 q6 hto
    have hdl:(V2.drop a2).length=V2.length - a2:=List.length_drop
    have hng:=ngc_le (L2.set g (z:Int))
    rw [List.length_set] at hng
    have htk:(V2.drop a2).take (V2.length - a2)=V2.drop a2:=List.take_of_length_le (by omega)
    (repeat first | simp only [t3,q2,ey,q5,go_sem,↓reduceIte,Nat.reduceEqDiff,Nat.reduceAdd,reduceCtorEq] | refine RX ?_ | decide)
    refine ⟨((L2.set g (z:Int),V2.drop a2++[(g:Int)],0),i+1),⟨by dsimp only;omega,by dsimp only;rw [List.drop_zero];exact hput,by simp only [List.length_append,List.length_singleton];omega,by rw [hd2];rfl,by simp only [List.length_append,List.length_singleton,hdl];omega⟩,by dsimp only;omega,?_⟩
    have hic:List.take (V2.length - a2) (List.drop a2 (intsC V2))++[i64 (g:Int)]=intsC (V2.drop a2++[(g:Int)]):=by
     rw [intsC,intsC,List.map_append,← List.map_drop,← List.map_take,htk];rfl
    rw [hic]
    exact Ref.gc [0,1,2,5] rfl (by simp only [go_sem,↓reduceIte,Nat.reduceEqDiff,Nat.reduceAdd,reduceCtorEq]<;>rfl) (by simp [sub,fget,hdl,go_sem,↓reduceIte,Nat.reduceEqDiff,Nat.reduceAdd,reduceCtorEq])
   ·(repeat first | simp only [t3,go_sem,↓reduceIte,Nat.reduceEqDiff,Nat.reduceAdd,reduceCtorEq] | refine RX ?_ | decide)
    refine ⟨fun hne=>?_,fun he=>?_⟩
    ·(refine RN ?_;try with_reducible exact trivial)
     refine ⟨none,⟨fun L' h=>(by cases h),fun ⟨ψ,k1,k2⟩=>?_⟩,?_⟩
     ·exfalso
      have h3:=hto ψ k1 k2
      rcases g2.ok g q3 with h | ⟨v,h,_,hv⟩
      ·omega
      ·exact hne (by rw [h,h3,hv ψ k1 k2])
     ·exact Ref.gc [] rfl (by simp only [go_sem,↓reduceIte,Nat.reduceEqDiff,Nat.reduceAdd,reduceCtorEq]) (by simp [sub,fget,cvR,go_sem,↓reduceIte,Nat.reduceEqDiff,Nat.reduceAdd,reduceCtorEq])
    ·(refine RN ?_;try with_reducible exact trivial)
     refine ⟨((L2,V2,a2),i+1),⟨by dsimp only;omega,g2,g3,g4,g5⟩,by dsimp only;omega,?_⟩
     exact Ref.to1
  ·obtain rfl:i=3:=by omega
   refine RN ?_
   refine ⟨(L2,V2,a2+1),⟨⟨g2.len,g2.ok,fun q hq=>g2.qu q (by rw [hd2];exact List.mem_cons_of_mem _ hq)⟩,by dsimp only;omega,by dsimp only;omega⟩,by dsimp only;omega,?_⟩
   exact Ref.to rfl (by simp [sub,fget];omega)
 ·(refine RN ?_;try with_reducible exact trivial)
  refine ⟨some L,⟨fun L' h=>?_,fun _=>rfl⟩,?_⟩
  ·obtain rfl:=Option.some.inj h
   exact hLl
  ·have htk:List.take (fl M) (intsC L)=intsC L:=List.take_of_length_le (by rw [len_intsC];omega)
   exact (Ref.dead (F' := [(0,ints L)]) (by simp [sub,fget,frzF,htk,hLl,ints,go_sem,↓reduceIte,Nat.reduceEqDiff,Nat.reduceAdd,reduceCtorEq])).trans (Ref.gc [] rfl rfl (by simp [sub,fget,cvR,ints,go_sem,↓reduceIte,Nat.reduceEqDiff,Nat.reduceAdd,reduceCtorEq]))
end
section
open Go.Gov
open Classical
theorem coveringsOf_e (M K : List (List Int)) (hM : IsMap M) (hK : IsMap K) (hn : fl M = fl K) :
    PureE Tryz.prog 66 [maniA M,maniA K] (fun R:List (List Int)=>(∀ r∈R,r≠[])∧((∃ ψ,IsoM M K ψ)→R≠[])) (fun R=>.sl 0 1 0 R.length) (fun R=>[some (R.map ints)]):=by
 have hK3:K.length=3:=hK.2
 have h4:=hK.1.f4
 have h2:=hK.1.f2
 have f1:=flags_c K (by omega) (by omega) (by change fl K≤1048576;omega)
 change Gov.Pure _ _ _ (i64 ((fl K:Nat):Int)) _ at f1
 have hn1:∀ H:Heap,nilOf H nilS=some true:=fun _=>rfl
 refine pureREV ok66 rfl ?_;unfold c66
 refine RN ?_
 refine pureC1 (f1) ?_
 refine RN ?_
 refine V_loop (α:=List (List Int)×Nat) (S:=fun p=>([(2,.ref 0 0),(3,.ref 1 0),(5,.sl 2 1 0 p.1.length),(8,i64 ((fl K:Nat):Int)),(9,i64 (p.2:Int))],[some [mat M],some [mat K],some (p.1.map ints)]))
  (C:=fun p=>p.2≤fl K∧p.1.length≤p.2∧(∀ r∈p.1,r≠[])∧∀ ψ,IsoM M K ψ→ψ 0<p.2→p.1≠[]) (μ:=fun p=>fl K - p.2) ([],0) ⟨by omega,by simp,by simp,fun ψ _ h=>by omega⟩ ?_ ?_
 ·exact (Ref.nil 5 1 rfl).trans (Ref.to1)
 rintro ⟨R,f⟩ ⟨g1,g3,g4,g2⟩
 dsimp only at g1 g2 g3 g4 ⊢
 refine RN ?_
 refine ⟨fun hc=>?_,fun hc=>?_⟩
 ·(refine RN ?_;try with_reducible exact trivial)
  refine pureEG (coveringTo_e M K hM hK hn f (by omega)) (by simp only [go_sem,↓reduceIte,Nat.reduceEqDiff,Nat.reduceAdd,reduceCtorEq]<;>rfl) fun o ho=>?_
  obtain ⟨h1,h2⟩:=ho
  cases o with
  | none=>
   simp only [cvR]
   (repeat first | simp only [hn1,Option.isSome_some,Option.getD_some,Bool.not_true,Bool.not_false,true_and,go_sem,↓reduceIte,Nat.reduceEqDiff,Nat.reduceAdd,reduceCtorEq] | refine RX ?_ | decide)
   refine ⟨(R,f+1),⟨by dsimp only;omega,by dsimp only;omega,g4,fun ψ k1 k2=>?_⟩,by dsimp only;omega,?_⟩
   ·by_cases e:ψ 0=f
    ·have:=h2 ⟨ψ,k1,e⟩
     cases this
    ·exact g2 ψ k1 (by dsimp only at k2;omega)
   ·exact Ref.to1
  | some L=>
   have hL:=h1 L rfl
   obtain ⟨x,L,rfl⟩:∃ x L', L=x :: L' := by cases L with
    | nil => have : fl M = 0 := hL.symm
             omega
    | cons x L=>exact ⟨x,L,rfl⟩
   have hn2:∀ H:Heap,nilOf H (.slc 1 (L.length+1) (intsC (x :: L)))=some false:=fun _=>rfl
   simp only [cvR]
   (repeat first | simp only [hn2,Option.isSome_some,Option.getD_some,Bool.not_true,Bool.not_false,true_and,go_sem,↓reduceIte,Nat.reduceEqDiff,Nat.reduceAdd,reduceCtorEq] | refine RX ?_ | decide)
   refine ⟨(R++[x :: L],f+1),⟨by dsimp only;omega,by simp only [List.length_append,List.length_singleton];omega,fun r hr=>by
    rcases List.mem_append.1 hr with h | h
    ·exact g4 r h
    ·rw [List.mem_singleton.1 h];simp,fun ψ _ _=>by simp⟩,by dsimp only;omega,?_⟩
   exact Ref.gc [0,1,4] rfl (by simp only [List.map_append,ints,go_sem,↓reduceIte,Nat.reduceEqDiff,Nat.reduceAdd,reduceCtorEq]<;>rfl) (by simp [sub,fget,go_sem,↓reduceIte,Nat.reduceEqDiff,Nat.reduceAdd,reduceCtorEq])
 ·(refine RN ?_;try with_reducible exact trivial)
  refine ⟨R,⟨g4,fun ⟨ψ,k1⟩=>g2 ψ k1 ?_⟩,?_⟩
  ·have:=k1.lt 0 (by omega)
   omega
  ·exact Ref.gc2 [2]
theorem isomorphismOf_e (M K : List (List Int)) (hM : IsMap M) (hK : IsMap K) :
    PureE Tryz.prog 57 [maniA M,maniA K] (fun b:Option (Int×List Int)=>Iso M K→b.isSome=true) (fun b=>b.elim nilS fun p=>.slc 1 (p.2.length+1) (intsC (p.1 :: p.2))) (fun _=>[]):=by
 have hM3:M.length=3:=hM.2
 have hK3:K.length=3:=hK.2
 have h4:=hM.1.f4
 have h2:=hM.1.f2
 have k4:=hK.1.f4
 have f1:=flags_c M (by omega) (by omega) (by change fl M≤1048576;omega)
 change Gov.Pure _ _ _ (i64 ((fl M:Nat):Int)) _ at f1
 have f2:=flags_c K (by omega) (by omega) (by change fl K≤1048576;omega)
 change Gov.Pure _ _ _ (i64 ((fl K:Nat):Int)) _ at f2
 refine pureREV ok57 rfl ?_;unfold c57
 refine RN ?_
 refine pureC1 (f1) ?_
 refine RN ?_
 refine pureC1 (f2) ?_
 refine RN ?_
 refine ⟨fun hne=>?_,fun he=>?_⟩
 ·(refine RN ?_;try with_reducible exact trivial)
  refine ⟨none,fun ⟨ψ,k1⟩=>absurd k1.n (by omega),?_⟩
  exact Ref.gc1 []
 ·(refine RN ?_;try with_reducible exact trivial)
  refine pureEG (coveringsOf_e M K hM hK (by omega)) (by simp only [go_sem,↓reduceIte,Nat.reduceEqDiff,Nat.reduceAdd,reduceCtorEq]<;>rfl) fun o ho=>?_
  obtain ⟨h5,h6⟩:=ho
  refine RN ?_
  refine ⟨fun h0=>?_,fun h0=>?_⟩
  ·(refine RN ?_;try with_reducible exact trivial)
   refine ⟨none,fun h=>absurd (List.eq_nil_of_length_eq_zero (by omega)) (h6 h),?_⟩
   exact Ref.gc1 []
  ·obtain ⟨r, R, rfl⟩ : ∃ r R', o = r :: R' := by cases o with
     | nil=>exact absurd rfl h0
     | cons r R=>exact ⟨r,R,rfl⟩
   obtain ⟨x,L,rfl⟩:∃ x L', r=x :: L' := by cases r with
    | nil=>exact absurd rfl (h5 _ List.mem_cons_self)
    | cons x L=>exact ⟨x,L,rfl⟩
   refine RN ?_
   refine ⟨some (x,L),fun _=>rfl,?_⟩
   exact Ref.gc1 []
theorem areIso_e (M K : List (List Int)) (hM : IsMap M) (hK : IsMap K) :
    PureE Tryz.prog 36 [maniA M,maniA K] (fun b:Bool=>Iso M K→b=true) (fun b=>.tup [bl b,i64 0]) (fun _=>[]):=by
 have hM3:M.length=3:=hM.2
 have hK3:K.length=3:=hK.2
 have h4:=hM.1.f4
 have h2:=hM.1.f2
 have k4:=hK.1.f4
 have m1:=isManiplex_c M (by omega) fun p hp=>by
  obtain ⟨k,hk,rfl⟩:=List.mem_iff_getElem.1 hp
  have h1:=(hM.1.rows k hk).1
  rw [show M.getD k []=M[k] by simp [hk]] at h1
  omega
 have m2:=isManiplex_c K (by omega) fun p hp=>by
  obtain ⟨k,hk,rfl⟩:=List.mem_iff_getElem.1 hp
  have h1:=(hK.1.rows k hk).1
  rw [show K.getD k []=K[k] by simp [hk]] at h1
  omega
 rw [decide_eq_true hM.1] at m1
 rw [decide_eq_true hK.1] at m2
 have hn1:∀ H:Heap,nilOf H nilS=some true:=fun _=>rfl
 refine pureREV ok36 rfl ?_;unfold c36
 refine RN ?_
 refine pureC1 (m1) ?_
 refine RN ?_
 refine GC1 (bl true ) (fun hg =>  m2) ?_
 refine RN ?_
 refine pureEG (isomorphismOf_e M K hM hK) (by simp only [go_sem,↓reduceIte,Nat.reduceEqDiff,Nat.reduceAdd,reduceCtorEq]<;>rfl) fun o ho=>?_
 cases o with
 | none=>
  simp only [Option.elim_none]
  (repeat first | simp only [hn1,Option.isSome_some,Option.getD_some,Bool.not_true,Bool.not_false,true_and,go_sem,↓reduceIte,Nat.reduceEqDiff,Nat.reduceAdd,reduceCtorEq] | refine RX ?_ | decide)
  refine ⟨false,ho,?_⟩
  exact Ref.gc1 []
 | some p=>
  have hn2:∀ H:Heap,nilOf H (.slc 1 (p.2.length+1) (intsC (p.1 :: p.2)))=some false:=fun _=>rfl
  simp only [Option.elim_some]
  (repeat first | simp only [hn2,Option.isSome_some,Option.getD_some,Bool.not_true,Bool.not_false,true_and,go_sem,↓reduceIte,Nat.reduceEqDiff,Nat.reduceAdd,reduceCtorEq] | refine RX ?_ | decide)
  refine ⟨true,fun _=>rfl,?_⟩
  exact Ref.gc1 []
theorem alike9_e (M K:List (List Int))(hM:IsMap M)(hK:IsMap K)(h:Iso M K):Pure Tryz.prog 20 [maniA M,maniA K] (bl true) []:=by
 have ha:=areIso_e M K hM hK
 refine pureRV ok20 rfl ?_;unfold c20
 refine RN ?_
 refine pureEG (ha) (by simp only [go_sem,↓reduceIte,Nat.reduceEqDiff,Nat.reduceAdd,reduceCtorEq]<;>rfl) fun o ho=>?_
 obtain rfl:o=true:=ho h
 refine RN ?_
 exact Ref.gc1 []
end
end Go.Proofs.YtaekhhaaphgndaaGreat
