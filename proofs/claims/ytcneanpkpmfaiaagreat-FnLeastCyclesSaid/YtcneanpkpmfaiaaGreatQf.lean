/- Texts that belong together. -/
import Derived.Test.YtcneanpkpmfaiaaGreatQg
import Derived.Test.YtcneanpkpmfaiaaGreatQe
set_option linter.unusedSimpArgs false
set_option linter.unusedVariables false
set_option maxRecDepth 100000
namespace Go.Proofs.YtcneanpkpmfaiaaGreat
section
open Go.Gov
open Classical
theorem Afz (j:Int)(h0:0≤j)(h3:j=0∨j<3):∃ K,K7 (1+j) K:=by
 rcases (by omega:j=0∨j=1∨j=2) with rfl | rfl | rfl
 ·exact ⟨_,Afw⟩
 ·exact ⟨_,Afx⟩
 ·exact ⟨_,Afy⟩
theorem fJ {M:List (List Int)}(h:M=[]∨IsMan M):∃ n,n≤400∧RgOk n M:=by
 rcases h with rfl | h
 ·exact ⟨0,by decide,fun p hp=>by cases hp⟩
 ·exact ⟨fl M,h.f4,h.mv.rg⟩
theorem eY {r:Nat}{R:List Int}{B:List (List Int)}(hp:K3 r R B):Gx R B:=by
 have h1:=hp.few
 have h2:=hp.len
 refine ⟨by omega,by omega,fun xs hx=>?_⟩
 obtain ⟨k,hk,rfl⟩:=List.mem_iff_getElem.1 hx
 have:=hp.row k (by omega)
 rw [show B.getD k []=B[k] by simp [hk]] at this
 omega
set_option maxHeartbeats 4000000 in
theorem tS (bs : List Int) (hb : E6 bs) (a : Nat) (h : Int) (hs : a ≤ bs.length) (most : Nat) (hm1 : 16 ≤ most) (hm2 : most ≤ 400) :
    Ds Tryz.prog 33 [.ref 0 0,i64 (most:Int)] [some (A5 bs a h)] (fun o:Nat×Int×Int×List Int×List (List Int)=>o.1≤bs.length∧(0≤o.2.2.1∧o.2.2.1≤6)∧Gx o.2.2.2.1 o.2.2.2.2) (fun o=>Bo o.2.2.1 o.2.2.2.1 o.2.2.2.2) (fun o=>[some (A5 bs o.1 o.2.1)]):=by
 refine Hd yO rfl ?_;unfold Xw
 refine RN ?_
 refine Bq (C5 bs hb a h hs 6) [0] (by first | rfl | simp) (by simp only [go_sem,↓reduceIte,Nat.reduceEqDiff,Nat.reduceAdd,reduceCtorEq]<;>rfl) (by simp only [go_sem,↓reduceIte,Nat.reduceEqDiff,Nat.reduceAdd,reduceCtorEq]<;>rfl) fun o ho=>?_
 obtain ⟨a1,b1,k⟩:=o
 obtain ⟨q1,q2,q3⟩:=ho
 dsimp only at q1 q2 q3
 refine RN ?_
 refine ⟨fun c0=>?_,fun c0=>?_⟩
 ·(refine RN ?_;try with_reducible exact trivial)
  refine Bq (rM bs hb a1 b1 q1 most (by omega) hm2) [0] (by first | rfl | simp) (by simp only [go_sem,↓reduceIte,Nat.reduceEqDiff,Nat.reduceAdd,reduceCtorEq]<;>rfl) (by simp only [go_sem,↓reduceIte,Nat.reduceEqDiff,Nat.reduceAdd,reduceCtorEq]<;>rfl) fun o ho=>?_
  obtain ⟨a2,b2,r,R,B⟩:=o
  dsimp only at ho
  refine RN ?_
  exact ⟨(a2,b2,r,R,B),ho,Ref.gc [0] rfl (by simp only [go_sem,↓reduceIte,Nat.reduceEqDiff,Nat.reduceAdd,reduceCtorEq]<;>rfl) (by simp [sub,Ab,Bo,go_sem,↓reduceIte,Nat.reduceEqDiff,Nat.reduceAdd,reduceCtorEq])⟩
 ·(refine RN ?_;try with_reducible exact trivial)
  refine ⟨fun c1=>?_,fun c1=>?_⟩
  ·(refine RN ?_;try with_reducible exact trivial)
   refine Bq (C5 bs hb a1 b1 q1 3) [0] (by first | rfl | simp) (by simp only [go_sem,↓reduceIte,Nat.reduceEqDiff,Nat.reduceAdd,reduceCtorEq]<;>rfl) (by simp only [go_sem,↓reduceIte,Nat.reduceEqDiff,Nat.reduceAdd,reduceCtorEq]<;>rfl) fun o ho=>?_
   obtain ⟨a2,b2,j⟩:=o
   obtain ⟨y1,y2,y3⟩:=ho
   dsimp only at y1 y2 y3
   obtain ⟨K,hK⟩:=Afz j y2 y3
   by_cases hsm:I3 2 w3
   ·have hw:=Af1 (1+j) K hK hsm
    refine RN ?_
    refine CallsX.ice 2 ?_
    refine Ob hw (by simp only [go_sem,↓reduceIte,Nat.reduceEqDiff,Nat.reduceAdd,reduceCtorEq]<;>rfl) fun o ho=>?_
    refine RN ?_
    exact ⟨(a2,b2,2,o.1,o.2),⟨y1,by show (0:Int)≤2∧(2:Int)≤6;decide,ho⟩,Ref.gc [0] rfl (by simp only [go_sem,↓reduceIte,Nat.reduceEqDiff,Nat.reduceAdd,reduceCtorEq]<;>rfl) (by simp [sub,Ab,Bo,Ac,Af,go_sem,↓reduceIte,Nat.reduceEqDiff,Nat.reduceAdd,reduceCtorEq])⟩
   ·have hw:=Af0 (1+j) K hK hsm
    refine RN ?_
    refine Ak (hw) ?_
    (repeat' first | simp only [go_sem,↓reduceIte,Nat.reduceEqDiff,Nat.reduceAdd,reduceCtorEq,List.getD_nil,Az,Int.cast_ofNat_Int,Int.reduceAdd,Int.reduceSub,Int.reduceMul,Int.reduceNeg,Int.reduceLT,Int.reduceLE,Int.reduceEq,Int.reduceNe,Int.reduceBEq,Int.reduceBNe,Int.reduceToNat,Nat.reduceSub,Nat.reduceMul,Nat.reduceLT,Nat.reduceLeDiff,decide_true,decide_false,Bool.not_true,Bool.not_false,Bool.and_true,Bool.true_and,Bool.or_false,Bool.false_or,Int.reduceTDiv] | with_reducible refine GCall.on rfl ?_ | with_reducible refine Au (bl false) rfl ?_ | with_reducible refine Ar ?_ | with_reducible refine Aq ?_ | with_reducible exact As | with_reducible refine Ap ?_ ?_ | with_reducible refine An ?_ | (with_reducible refine And.intro ?_ ?_;focus first | assumption | omega | decide))
    refine Bq (bV bs hb a2 b2 y1 most hm1 hm2) [0] (by first | rfl | simp) (by simp only [go_sem,↓reduceIte,Nat.reduceEqDiff,Nat.reduceAdd,reduceCtorEq]<;>rfl) (by simp only [go_sem,↓reduceIte,Nat.reduceEqDiff,Nat.reduceAdd,reduceCtorEq]<;>rfl) fun o ho=>?_
    obtain ⟨a3,b3,M⟩:=o
    obtain ⟨p1,p2,p3⟩:=ho
    dsimp only at p1 p2 p3
    obtain ⟨n,hn,hrg⟩:=fJ p3
    have hps:=Qu n M hrg p2.1 hn
    refine RN ?_
    refine B0 hps (by simp only [B4,Af,go_sem,↓reduceIte,Nat.reduceEqDiff,Nat.reduceAdd,reduceCtorEq]<;>rfl) (fun o=>by first | rfl | simp only [go_sem,↓reduceIte,Nat.reduceEqDiff,Nat.reduceAdd,reduceCtorEq]) fun o ho=>?_
    obtain ⟨R,B⟩:=o
    obtain ⟨hp,_⟩:=ho
    dsimp only at hp ⊢
    have hR:=hp.few
    have hB:=hp.len
    have hM6:=p2.1
    have hDr:Gx R B:=eY hp
    have tk1:(Aa R).take R.length=Aa R:=List.take_of_length_le (by simp [Aa])
    have tkB:(B.map Ad).take R.length=B.map Ad:=List.take_of_length_le (by simp [hB])
    refine RN ?_
    refine ⟨(a3,b3,(M.length:Int),R,B),⟨p1,⟨by dsimp only;omega,by dsimp only;omega⟩,hDr⟩,Ref.sel [0] rfl (by simp only [go_sem,↓reduceIte,Nat.reduceEqDiff,Nat.reduceAdd,reduceCtorEq]) ?_⟩
    simp only [sub,List.all_cons,List.all_nil,go_sem,↓reduceIte,Nat.reduceEqDiff,Nat.reduceAdd,reduceCtorEq]
    rw [tkB,Ff]
    simp [Bo,Ac,Af,hB]
  ·(refine RN ?_;try with_reducible exact trivial)
   refine Bq (bV bs hb a1 b1 q1 most hm1 hm2) [0] (by first | rfl | simp) (by simp only [go_sem,↓reduceIte,Nat.reduceEqDiff,Nat.reduceAdd,reduceCtorEq]<;>rfl) (by simp only [go_sem,↓reduceIte,Nat.reduceEqDiff,Nat.reduceAdd,reduceCtorEq]<;>rfl) fun o ho=>?_
   obtain ⟨a3,b3,M⟩:=o
   obtain ⟨p1,p2,p3⟩:=ho
   dsimp only at p1 p2 p3
   obtain ⟨n,hn,hrg⟩:=fJ p3
   have hps:=Qu n M hrg p2.1 hn
   refine RN ?_
   refine B0 hps (by simp only [B4,Af,go_sem,↓reduceIte,Nat.reduceEqDiff,Nat.reduceAdd,reduceCtorEq]<;>rfl) (fun o=>by first | rfl | simp only [go_sem,↓reduceIte,Nat.reduceEqDiff,Nat.reduceAdd,reduceCtorEq]) fun o ho=>?_
   obtain ⟨R,B⟩:=o
   obtain ⟨hp,_⟩:=ho
   dsimp only at hp ⊢
   have hR:=hp.few
   have hB:=hp.len
   have hM6:=p2.1
   have hDr:Gx R B:=eY hp
   have tk1:(Aa R).take R.length=Aa R:=List.take_of_length_le (by simp [Aa])
   have tkB:(B.map Ad).take R.length=B.map Ad:=List.take_of_length_le (by simp [hB])
   refine RN ?_
   refine ⟨(a3,b3,(M.length:Int),R,B),⟨p1,⟨by dsimp only;omega,by dsimp only;omega⟩,hDr⟩,Ref.sel [0] rfl (by simp only [go_sem,↓reduceIte,Nat.reduceEqDiff,Nat.reduceAdd,reduceCtorEq]) ?_⟩
   simp only [sub,List.all_cons,List.all_nil,go_sem,↓reduceIte,Nat.reduceEqDiff,Nat.reduceAdd,reduceCtorEq]
   rw [tkB,Ff]
   simp [Bo,Ac,Af,hB]
end
section
open Go.Gov
open Classical
theorem oD (bs:List Int)(hb:E6 bs):Cf Tryz.prog 16 [Es bs] (fun o:Int×List Int×List (List Int)=>(0≤o.1∧o.1≤6)∧Gx o.2.1 o.2.2) (fun o=>Bo o.1 o.2.1 o.2.2) (fun _=>[]):=by
 have hf:=qZ bs hb
 unfold Es at *
 refine Fh yG rfl ?_;unfold Xo
 refine RN ?_
 refine Ob hf (by first | rfl | simp only [go_sem,↓reduceIte,Nat.reduceEqDiff,Nat.reduceAdd,reduceCtorEq]) fun h0 _=>?_
 refine RN ?_
 refine Bq (tS bs hb 0 h0 (Nat.zero_le _) 24 (by decide) (by decide)) [1] (by first | rfl | simp) (by simp only [go_sem,↓reduceIte,Nat.reduceEqDiff,Nat.reduceAdd,reduceCtorEq]<;>rfl) (by simp only [go_sem,↓reduceIte,Nat.reduceEqDiff,Nat.reduceAdd,reduceCtorEq]<;>rfl) fun o ho=>?_
 obtain ⟨a1,b1,r,R,B⟩:=o
 obtain ⟨q1,q2,q3⟩:=ho
 dsimp only at q1 q2 q3 ⊢
 refine RN ?_
 exact ⟨(r,R,B),⟨q2,q3⟩,Ref.gc [] rfl (by simp only [go_sem,↓reduceIte,Nat.reduceEqDiff,Nat.reduceAdd,reduceCtorEq]<;>rfl) (by simp [sub,Ab,Bo,Ac,Af,go_sem,↓reduceIte,Nat.reduceEqDiff,Nat.reduceAdd,reduceCtorEq])⟩
end
end Go.Proofs.YtcneanpkpmfaiaaGreat
