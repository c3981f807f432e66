/- Texts that belong together. -/
import Derived.Test.YtcneanpkpmfaiaaGreatQg
import Derived.Test.YtcneanpkpmfaiaaGreatQe
set_option maxHeartbeats 16000000
set_option linter.unusedSimpArgs false
set_option linter.unusedVariables false
set_option maxRecDepth 100000
namespace Go.Proofs.YtcneanpkpmfaiaaGreat
section
open Go.Gov
open Classical
theorem Ad8 (j:Int)(h0:0≤j)(h3:j=0∨j<3):∃ K,Ku (1+j) K:=by
 rcases (by omega:j=0∨j=1∨j=2) with rfl | rfl | rfl
 ·exact ⟨_,Ad5⟩
 ·exact ⟨_,Ad6⟩
 ·exact ⟨_,Ad7⟩
theorem dT {M:List (List Int)}(h:M=[]∨IsMan M):∃ n,n≤400∧RgOk n M:=by
 rcases h with rfl | h
 ·exact ⟨0,by decide,fun p hp=>by cases hp⟩
 ·exact ⟨fl M,h.f4,h.mv.rg⟩
theorem dJ {r:Nat}{R:List Int}{B:List (List Int)}(hp:Kp r R B):E9 R B:=by
 have h1:=hp.few
 have h2:=hp.len
 refine ⟨by omega,by omega,fun xs hx=>?_⟩
 obtain ⟨k,hk,rfl⟩:=List.mem_iff_getElem.1 hx
 have:=hp.row k (by omega)
 rw [show B.getD k []=B[k] by simp [hk]] at this
 omega
theorem rJ (bs : List Int) (hb : Ec bs) (a : Nat) (h : Int) (hs : a ≤ bs.length) (most : Nat) (hm1 : 16 ≤ most) (hm2 : most ≤ 400) :
    Dg Tryz.prog 33 [.ref 0 0,i64 (most:Int)] [some (Ax bs a h)] (fun o:Nat×Int×Int×List Int×List (List Int)=>o.1≤bs.length∧(0≤o.2.2.1∧o.2.2.1≤6)∧E9 o.2.2.2.1 o.2.2.2.2) (fun o=>A6 o.2.2.1 o.2.2.2.1 o.2.2.2.2) (fun o=>[some (Ax bs o.1 o.2.1)]):=by
 refine Fq wK rfl ?_;unfold Wz
 refine RN ?_
 refine Bb (B7 bs hb a h hs 6) [0] (by first | rfl | simp) (by simp only [go_sem,↓reduceIte,Nat.reduceEqDiff,Nat.reduceAdd,reduceCtorEq]<;>rfl) (by simp only [go_sem,↓reduceIte,Nat.reduceEqDiff,Nat.reduceAdd,reduceCtorEq]<;>rfl) fun o ho=>?_
 obtain ⟨a1,b1,k⟩:=o
 obtain ⟨q1,q2,q3⟩:=ho
 dsimp only at q1 q2 q3
 refine RN ?_
 refine ⟨fun c0=>?_,fun c0=>?_⟩
 ·(refine RN ?_;try with_reducible exact trivial)
  refine Bb (pH bs hb a1 b1 q1 most (by omega) hm2) [0] (by first | rfl | simp) (by simp only [go_sem,↓reduceIte,Nat.reduceEqDiff,Nat.reduceAdd,reduceCtorEq]<;>rfl) (by simp only [go_sem,↓reduceIte,Nat.reduceEqDiff,Nat.reduceAdd,reduceCtorEq]<;>rfl) fun o ho=>?_
  obtain ⟨a2,b2,r,R,B⟩:=o
  dsimp only at ho
  refine RN ?_
  exact ⟨(a2,b2,r,R,B),ho,Ref.gc [0] rfl (by simp only [go_sem,↓reduceIte,Nat.reduceEqDiff,Nat.reduceAdd,reduceCtorEq]<;>rfl) (by simp [sub,Ab,A6,go_sem,↓reduceIte,Nat.reduceEqDiff,Nat.reduceAdd,reduceCtorEq])⟩
 ·(refine RN ?_;try with_reducible exact trivial)
  refine ⟨fun c1=>?_,fun c1=>?_⟩
  ·(refine RN ?_;try with_reducible exact trivial)
   refine Bb (B7 bs hb a1 b1 q1 3) [0] (by first | rfl | simp) (by simp only [go_sem,↓reduceIte,Nat.reduceEqDiff,Nat.reduceAdd,reduceCtorEq]<;>rfl) (by simp only [go_sem,↓reduceIte,Nat.reduceEqDiff,Nat.reduceAdd,reduceCtorEq]<;>rfl) fun o ho=>?_
   obtain ⟨a2,b2,j⟩:=o
   obtain ⟨y1,y2,y3⟩:=ho
   dsimp only at y1 y2 y3
   obtain ⟨K,hK⟩:=Ad8 j y2 y3
   by_cases hsm:Im 2 w3
   ·have hw:=Aea (1+j) K hK hsm
    refine RN ?_
    refine CallsX.ice 2 ?_
    refine Nf hw (by simp only [go_sem,↓reduceIte,Nat.reduceEqDiff,Nat.reduceAdd,reduceCtorEq]<;>rfl) fun o ho=>?_
    refine RN ?_
    exact ⟨(a2,b2,2,o.1,o.2),⟨y1,by show (0:Int)≤2∧(2:Int)≤6;decide,ho⟩,Ref.gc [0] rfl (by simp only [go_sem,↓reduceIte,Nat.reduceEqDiff,Nat.reduceAdd,reduceCtorEq]<;>rfl) (by simp [sub,Ab,A6,Ac,Ae,go_sem,↓reduceIte,Nat.reduceEqDiff,Nat.reduceAdd,reduceCtorEq])⟩
   ·have hw:=Ad9 (1+j) K hK hsm
    refine RN ?_
    refine Am (hw) ?_
    (repeat' first | simp only [go_sem,↓reduceIte,Nat.reduceEqDiff,Nat.reduceAdd,reduceCtorEq,List.getD_nil,Ay,Int.cast_ofNat_Int,Int.reduceAdd,Int.reduceSub,Int.reduceMul,Int.reduceNeg,Int.reduceLT,Int.reduceLE,Int.reduceEq,Int.reduceNe,Int.reduceBEq,Int.reduceBNe,Int.reduceToNat,Nat.reduceSub,Nat.reduceMul,Nat.reduceLT,Nat.reduceLeDiff,decide_true,decide_false,Bool.not_true,Bool.not_false,Bool.and_true,Bool.true_and,Bool.or_false,Bool.false_or,Int.reduceTDiv] | with_reducible refine GCall.on rfl ?_ | with_reducible refine Av (bl false) rfl ?_ | with_reducible refine Ar ?_ | with_reducible refine Aq ?_ | with_reducible exact As | with_reducible refine Ap ?_ ?_ | with_reducible refine Al ?_ | (with_reducible refine And.intro ?_ ?_;focus first | assumption | omega | decide))
    refine Bb (aD bs hb a2 b2 y1 most hm1 hm2) [0] (by first | rfl | simp) (by simp only [go_sem,↓reduceIte,Nat.reduceEqDiff,Nat.reduceAdd,reduceCtorEq]<;>rfl) (by simp only [go_sem,↓reduceIte,Nat.reduceEqDiff,Nat.reduceAdd,reduceCtorEq]<;>rfl) fun o ho=>?_
    obtain ⟨a3,b3,M⟩:=o
    obtain ⟨p1,p2,p3⟩:=ho
    dsimp only at p1 p2 p3
    obtain ⟨n,hn,hrg⟩:=dT p3
    have hps:=Pq n M hrg p2.1 hn
    refine RN ?_
    refine Bx hps (by simp only [Bw,Ae,go_sem,↓reduceIte,Nat.reduceEqDiff,Nat.reduceAdd,reduceCtorEq]<;>rfl) (fun o=>by first | rfl | simp only [go_sem,↓reduceIte,Nat.reduceEqDiff,Nat.reduceAdd,reduceCtorEq]) fun o ho=>?_
    obtain ⟨R,B⟩:=o
    obtain ⟨hp,_⟩:=ho
    dsimp only at hp ⊢
    have hR:=hp.few
    have hB:=hp.len
    have hM6:=p2.1
    have hDr:E9 R B:=dJ hp
    have tk1:(Aa R).take R.length=Aa R:=List.take_of_length_le (by simp [Aa])
    have tkB:(B.map Ad).take R.length=B.map Ad:=List.take_of_length_le (by simp [hB])
    refine RN ?_
    refine ⟨(a3,b3,(M.length:Int),R,B),⟨p1,⟨by dsimp only;omega,by dsimp only;omega⟩,hDr⟩,Ref.sel [0] rfl (by simp only [go_sem,↓reduceIte,Nat.reduceEqDiff,Nat.reduceAdd,reduceCtorEq]) ?_⟩
    simp only [sub,List.all_cons,List.all_nil,go_sem,↓reduceIte,Nat.reduceEqDiff,Nat.reduceAdd,reduceCtorEq]
    rw [tkB,E0]
    simp [A6,Ac,Ae,hB]
  ·(refine RN ?_;try with_reducible exact trivial)
   refine Bb (aD bs hb a1 b1 q1 most hm1 hm2) [0] (by first | rfl | simp) (by simp only [go_sem,↓reduceIte,Nat.reduceEqDiff,Nat.reduceAdd,reduceCtorEq]<;>rfl) (by simp only [go_sem,↓reduceIte,Nat.reduceEqDiff,Nat.reduceAdd,reduceCtorEq]<;>rfl) fun o ho=>?_
   obtain ⟨a3,b3,M⟩:=o
   obtain ⟨p1,p2,p3⟩:=ho
   dsimp only at p1 p2 p3
   obtain ⟨n,hn,hrg⟩:=dT p3
   have hps:=Pq n M hrg p2.1 hn
   refine RN ?_
   refine Bx hps (by simp only [Bw,Ae,go_sem,↓reduceIte,Nat.reduceEqDiff,Nat.reduceAdd,reduceCtorEq]<;>rfl) (fun o=>by first | rfl | simp only [go_sem,↓reduceIte,Nat.reduceEqDiff,Nat.reduceAdd,reduceCtorEq]) fun o ho=>?_
   obtain ⟨R,B⟩:=o
   obtain ⟨hp,_⟩:=ho
   dsimp only at hp ⊢
   have hR:=hp.few
   have hB:=hp.len
   have hM6:=p2.1
   have hDr:E9 R B:=dJ hp
   have tk1:(Aa R).take R.length=Aa R:=List.take_of_length_le (by simp [Aa])
   have tkB:(B.map Ad).take R.length=B.map Ad:=List.take_of_length_le (by simp [hB])
   refine RN ?_
   refine ⟨(a3,b3,(M.length:Int),R,B),⟨p1,⟨by dsimp only;omega,by dsimp only;omega⟩,hDr⟩,Ref.sel [0] rfl (by simp only [go_sem,↓reduceIte,Nat.reduceEqDiff,Nat.reduceAdd,reduceCtorEq]) ?_⟩
   simp only [sub,List.all_cons,List.all_nil,go_sem,↓reduceIte,Nat.reduceEqDiff,Nat.reduceAdd,reduceCtorEq]
   rw [tkB,E0]
   simp [A6,Ac,Ae,hB]
end
section
open Go.Gov
open Classical
theorem Vj {r:Int}{R:List Int}{B:List (List Int)}{c:List Int}(hp:IsPos r R B):(B9 R B c).length≤500:=by
 have hf:∀ e,sst (At R B e):=Gj hp.rows.2
 obtain ⟨h1,h2⟩:=Gq hf c
 refine Cb h1 fun e he=>?_
 have h3:=(h2 e).1 he
 obtain ⟨x,x1,x2⟩:=List.countP_pos_iff.1 (show 0<c.countP fun x=>decide (e∈At R B x) by omega)
 have hm:=(List.mem_filter.1 (of_decide_eq_true x2)).1
 obtain ⟨_,_,h5,h6,_⟩:=hp.rank
 by_cases hx:x.toNat<B.length
 ·obtain ⟨t,ht,hte⟩:=List.mem_iff_getElem.1 hm
  have:=hp.rows.1 x.toNat hx t ht
  rw [Dj _ t ht,hte] at this
  omega
 ·rw [show B.getD x.toNat []=[] by rw [List.getD_eq_getElem?_getD,List.getElem?_eq_none (by omega)];rfl] at hm
  cases hm
theorem aH (bs : List Int) (hb : Ec bs) (a : Nat) (h : Int) (hs : a ≤ bs.length) (r : Int) (R : List Int) (B : List (List Int)) (hr : 0 ≤ r ∧ r ≤ 6) (hd : E9 R B) (i : Int) (hi : -10 ≤ i ∧ i ≤ 10) :
    Dg Tryz.prog 22 [.ref 0 0,A6 r R B,i64 i] [some (Ax bs a h)] (fun o:Nat×Int×List Int=>o.1≤bs.length∧o.2.2.length≤50000) (fun o=>Ac o.2.2) (fun o=>[some (Ax bs o.1 o.2.1)]):=by
 obtain ⟨d1,d2,d3⟩:=hd
 refine Fq wA rfl ?_;unfold Wq
 refine RN ?_
 refine Bb (B7 bs hb a h hs 2) [0] (by first | rfl | simp) (by simp only [go_sem,↓reduceIte,Nat.reduceEqDiff,Nat.reduceAdd,reduceCtorEq]<;>rfl) (by simp only [go_sem,↓reduceIte,Nat.reduceEqDiff,Nat.reduceAdd,reduceCtorEq]<;>rfl) fun o ho=>?_
 obtain ⟨a1,b1,k⟩:=o
 obtain ⟨q1,q2,q3⟩:=ho
 dsimp only at q1 q2 q3
 have his:=Tj r R B (by omega) (by omega) (fun xs hx=>by have:=d3 xs hx;omega)
 (repeat first | simp only [go_sem,go_sem,↓reduceIte,Nat.reduceEqDiff,Nat.reduceAdd,reduceCtorEq] | (with_reducible refine And.intro ?_ ?_;focus first | assumption | omega | decide | grind))
 refine N8 (fun rk:Int => -20≤rk) (fun rk=>[(0,.ref 0 0),(2,i64 i),(4,.ref 1 0),(7,i64 rk)]) (fun _=>[some (Ax bs a1 b1),some [i64 r,Ac R,Ae B]]) ?_ ?_
 ·(refine RN ?_;try with_reducible exact trivial)
  refine ⟨fun c0=>?_,fun c0=>?_⟩
  ·(refine RN ?_;try with_reducible exact trivial)
   exact ⟨i+1,by omega,Ref.to1⟩
  ·(refine RN ?_;try with_reducible exact trivial)
   exact ⟨i,by omega,Ref.to1⟩
 intro rk _
 refine RN ?_
 refine Aj (α:=Nat×Nat×Int×List Int) (S:=fun o=>([(0,.ref 0 0),(2,i64 i),(4,.ref 1 0),(7,i64 rk),(8,.sl 2 1 0 o.2.2.2.length),(9,i64 (o.1:Int))],[some (Ax bs o.2.1 o.2.2.1),some [i64 r,Ac R,Ae B],some (Aa o.2.2.2)])) (C:=fun o=>o.1≤R.length∧o.2.1≤bs.length∧o.2.2.2.length≤o.1∧∀ x∈o.2.2.2,0≤x∧x≤(R.length:Int) - 1) (μ:=fun o=>R.length - o.1) (0,a1,b1,[]) ⟨Nat.zero_le _,q1,Nat.zero_le _,by simp⟩ (Ref.to (by rfl) (by simp [sub,Ab])) ?_
 rintro ⟨e,a2,b2,c⟩ ⟨he,y1,y2,y3⟩
 dsimp only at he y1 y2 y3 ⊢
 have tkc:(Aa c).take c.length=Aa c:=List.take_of_length_le (by simp [Aa])
 refine RN ?_
 refine ⟨fun hc=>?_,fun hc=>?_⟩
 ·have heR:e<R.length:=by omega
  refine RN ?_
  by_cases hq:R.getD e 0=rk
  ·have hG:(R.getD e 0 == rk)=true:=beq_iff_eq.2 hq
   simp only [hG,eq_true hq,go_sem,↓reduceIte,Nat.reduceEqDiff,Nat.reduceAdd,reduceCtorEq]
   refine GCall.on rfl ?_
   refine Bb (B7 bs hb a2 b2 y1 3) [0] (by first | rfl | simp) (by simp only [go_sem,↓reduceIte,Nat.reduceEqDiff,Nat.reduceAdd,reduceCtorEq]<;>rfl) (by simp only [go_sem,↓reduceIte,Nat.reduceEqDiff,Nat.reduceAdd,reduceCtorEq]<;>rfl) fun o ho=>?_
   obtain ⟨a3,b3,j⟩:=o
   obtain ⟨z1,z2,z3⟩:=ho
   dsimp only at z1 z2 z3
   refine RN ?_
   refine ⟨fun c1=>?_,fun c1=>?_⟩
   ·(refine RN ?_;try with_reducible exact trivial)
    refine ⟨(e+1,a3,b3,c++[(e:Int)]),⟨by dsimp only;omega,z1,by simp;omega,fun x hx=>?_⟩,by dsimp only;omega,Ref.gc [0,1,4] rfl (by simp only [tkc,go_sem,↓reduceIte,Nat.reduceEqDiff,Nat.reduceAdd,reduceCtorEq];simp [Aa]) (by simp [sub,Ab,go_sem,↓reduceIte,Nat.reduceEqDiff,Nat.reduceAdd,reduceCtorEq])⟩
    rcases List.mem_append.1 hx with h | h
    ·exact y3 x h
    ·rw [List.mem_singleton.1 h];omega
   ·(refine RN ?_;try with_reducible exact trivial)
    exact ⟨(e+1,a3,b3,c),⟨by dsimp only;omega,z1,by dsimp only;omega,y3⟩,by dsimp only;omega,Ref.to1⟩
  ·have hG:(R.getD e 0 == rk)=false:=beq_eq_false_iff_ne.2 hq
   simp only [hG,eq_false hq,go_sem,↓reduceIte,Nat.reduceEqDiff,Nat.reduceAdd,reduceCtorEq]
   refine Av (i64 0) rfl ?_
   refine RN ?_
   exact ⟨(e+1,a2,b2,c),⟨by dsimp only;omega,y1,by dsimp only;omega,y3⟩,by dsimp only;omega,Ref.to1⟩
 ·refine N9 ?_
  refine N8 (fun o:List Int=>o.length≤40500) (fun o=>[(0,.ref 0 0),(4,.ref 1 0),(8,.sl 2 1 0 o.length)]) (fun o=>[some (Ax bs a2 b2),some [i64 r,Ac R,Ae B],some (Aa o)]) ?_ ?_
  ·(refine RN ?_;try with_reducible exact trivial)
   by_cases hik:i<rk
   ·simp only [decide_eq_true hik,eq_true hik,go_sem,↓reduceIte,Nat.reduceEqDiff,Nat.reduceAdd,reduceCtorEq]
    refine GCall.on rfl ?_
    refine Am (his) ?_
    refine RN ?_
    refine ⟨fun hp=>?_,fun _=>⟨c,by omega,Ref.to1⟩⟩
    obtain ⟨_,_,x5,x6,x7⟩:=hp.rank
    have hbf:=Vj (c:=c) hp
    have hbd:=rG r R B c (by omega) x6 (fun xs hx=>by have:=d3 xs hx;omega) hp.rows.1 (fun x hx=>by have:=x7 x hx;omega) (by omega) (fun k hk=>y3 _ (Pc hk))
    refine Bn hbd (by simp only [go_sem,↓reduceIte,Nat.reduceEqDiff,Nat.reduceAdd,reduceCtorEq,A6,Ac,tkc]) (by simp only [go_sem,↓reduceIte,Nat.reduceEqDiff,Nat.reduceAdd,reduceCtorEq]) ?_
    exact ⟨B9 R B c,by omega,Ref.gc2 [0,1,3]⟩
   ·simp only [decide_eq_false hik,eq_false hik,go_sem,↓reduceIte,Nat.reduceEqDiff,Nat.reduceAdd,reduceCtorEq]
    refine Av (bl false) rfl ?_
    refine RN ?_
    exact ⟨c,by omega,Ref.to1⟩
  ·intro c2 hc2
   have tk2:(Aa c2).take c2.length=Aa c2:=List.take_of_length_le (by simp [Aa])
   refine RN ?_
   refine Bb (B7 bs hb a2 b2 y1 24) [0] (by first | rfl | simp) (by simp only [go_sem,↓reduceIte,Nat.reduceEqDiff,Nat.reduceAdd,reduceCtorEq]<;>rfl) (by simp only [go_sem,↓reduceIte,Nat.reduceEqDiff,Nat.reduceAdd,reduceCtorEq]<;>rfl) fun o ho=>?_
   obtain ⟨a3,b3,j⟩:=o
   obtain ⟨z1,z2,z3⟩:=ho
   dsimp only at z1 z2 z3
   refine RN ?_
   refine ⟨fun c1=>?_,fun c1=>?_⟩
   ·(refine RN ?_;try with_reducible exact trivial)
    refine Bb (B7 bs hb a3 b3 z1 ((R.length:Int)+1)) [0] (by first | rfl | simp) (by simp only [go_sem,↓reduceIte,Nat.reduceEqDiff,Nat.reduceAdd,reduceCtorEq]<;>rfl) (by simp only [go_sem,↓reduceIte,Nat.reduceEqDiff,Nat.reduceAdd,reduceCtorEq]<;>rfl) fun o ho=>?_
    obtain ⟨a4,b4,t⟩:=o
    obtain ⟨x1,x2,x3⟩:=ho
    dsimp only at x1 x2 x3
    refine RN ?_
    refine ⟨(a4,b4,c2++[t]),⟨x1,by simp;omega⟩,(Ref.gc [0,4] (F' := [(0,.sl 1 1 0 (c2.length+1))]) (H' := [some (Ax bs a4 b4),some (Aa (c2++[t]))]) rfl (by simp only [tk2,go_sem,↓reduceIte,Nat.reduceEqDiff,Nat.reduceAdd,reduceCtorEq];simp [Aa]) (by simp [sub,Ab,go_sem,↓reduceIte,Nat.reduceEqDiff,Nat.reduceAdd,reduceCtorEq])).trans (Ref.sel [0] rfl (by simp only [go_sem,↓reduceIte,Nat.reduceEqDiff,Nat.reduceAdd,reduceCtorEq]) ?_)⟩
    simp only [sub,List.all_cons,List.all_nil,go_sem,↓reduceIte,Nat.reduceEqDiff,Nat.reduceAdd,reduceCtorEq]
    rw [List.take_of_length_le (by simp [Aa]),F7]
    simp [Ac]
   ·(refine RN ?_;try with_reducible exact trivial)
    refine ⟨(a3,b3,c2),⟨z1,by dsimp only;omega⟩,Ref.sel [0] rfl (by simp only [go_sem,↓reduceIte,Nat.reduceEqDiff,Nat.reduceAdd,reduceCtorEq]) ?_⟩
    simp only [sub,List.all_cons,List.all_nil,tk2,go_sem,↓reduceIte,Nat.reduceEqDiff,Nat.reduceAdd,reduceCtorEq]
end
section
open Go.Gov
open Classical
theorem Aa8 {F:List (Nat×AV)}{H:List (Option (List AV))}(a b c d:AOp)(K:AV→List (Option (List AV))→Prop):Gt [a,b,c,d] K F H=(A8 a F H∧A8 b F H∧A8 c F H∧A8 d F H∧K (.tup [Ao a F H,Ao b F H,Ao c F H,Ao d F H]) H):=by simp [Gt,and_assoc]
theorem yR {r:Int}(h0:0≤r)(h6:r≤6):∀ {x:Nat},x<[-1,r].length → -10≤[-1,r].getD x 0∧[-1,r].getD x 0≤10
 | 0,_=>by simp
 | 1,_=>by simp;omega
theorem rI (bs : List Int) (hb : Ec bs) (a : Nat) (h : Int) (hs : a ≤ bs.length) :
    Dg Tryz.prog 21 [.ref 0 0] [some (Ax bs a h)] (fun o:(Nat×Int)×(Int×List Int×List (List Int))×Int×List Int=>o.1.1≤bs.length∧((0≤o.2.1.1∧o.2.1.1≤6)∧E9 o.2.1.2.1 o.2.1.2.2)∧(-10≤o.2.2.1∧o.2.2.1≤10)∧o.2.2.2.length≤50000) (fun o=>.tup [A6 o.2.1.1 o.2.1.2.1 o.2.1.2.2,i64 o.2.2.1,Ac o.2.2.2]) (fun o=>[some (Ax bs o.1.1 o.1.2)]):=by
 refine Fq vZ rfl ?_;unfold Wp
 refine RN ?_
 refine Bb (rJ bs hb a h hs 32 (by decide) (by decide)) [0] (by first | rfl | simp) (by simp only [go_sem,↓reduceIte,Nat.reduceEqDiff,Nat.reduceAdd,reduceCtorEq]<;>rfl) (by simp only [go_sem,↓reduceIte,Nat.reduceEqDiff,Nat.reduceAdd,reduceCtorEq]<;>rfl) fun o ho=>?_
 obtain ⟨a1,b1,r,R,B⟩:=o
 obtain ⟨q1,⟨q2,q3⟩,q4⟩:=ho
 dsimp only at q1 q2 q3 q4 ⊢
 refine RN ?_
 refine Bb (B7 bs hb a1 b1 q1 (if 1<r then r else 1)) [0] (by first | rfl | simp) (by simp only [go_sem,↓reduceIte,Nat.reduceEqDiff,Nat.reduceAdd,reduceCtorEq]<;>rfl) (by simp only [go_sem,↓reduceIte,Nat.reduceEqDiff,Nat.reduceAdd,reduceCtorEq]<;>rfl) fun o ho=>?_
 obtain ⟨a2,b2,i⟩:=o
 obtain ⟨y1,y2,y3⟩:=ho
 dsimp only at y1 y2 y3 ⊢
 have y4:i≤10:=by
  rcases y3 with rfl | y3
  ·decide
  ·split at y3<;>omega
 refine RN ?_
 refine Bb (B7 bs hb a2 b2 y1 24) [0] (by first | rfl | simp) (by simp only [go_sem,↓reduceIte,Nat.reduceEqDiff,Nat.reduceAdd,reduceCtorEq]<;>rfl) (by simp only [go_sem,↓reduceIte,Nat.reduceEqDiff,Nat.reduceAdd,reduceCtorEq]<;>rfl) fun o ho=>?_
 obtain ⟨a3,b3,k⟩:=o
 obtain ⟨z1,z2,z3⟩:=ho
 dsimp only at z1 z2 z3 ⊢
 refine RN ?_
 refine ⟨fun hc=>?_,fun hc=>?_⟩
 ·refine Ks (fun o:Nat×Int×Int=>o.1≤bs.length ∧ -10≤o.2.2∧o.2.2≤10) (fun o=>[(0,.ref 0 0),(2,.ref 1 0),(3,i64 o.2.2),(4,Ac [])]) (fun o=>[some (Ax bs o.1 o.2.1),some [i64 r,Ac R,Ae B]]) ?_ ?_
  ·repeat' first
     | simp only [go_sem,↓reduceIte,Nat.reduceEqDiff,Nat.reduceAdd,reduceCtorEq]
     | with_reducible refine Ar ?_
     | with_reducible refine Aq ?_
     | with_reducible exact As
     | with_reducible refine Ap ?_ ?_
     | (with_reducible refine And.intro ?_ ?_;focus first | assumption | omega | grind)
     | refine Bb (Th bs hb a3 b3 z1 [-1,r] (by simp) (by simp)) [0,3] (by first | rfl | simp) (by simp only [go_sem,↓reduceIte,Nat.reduceEqDiff,Nat.reduceAdd,reduceCtorEq]<;>rfl) (by simp only [go_sem,↓reduceIte,Nat.reduceEqDiff,Nat.reduceAdd,reduceCtorEq]<;>rfl) fun o ho=>?_
   all_goals
    have hv : -10≤[-1,r].getD o.2.2 0∧[-1,r].getD o.2.2 0≤10:=yR q2 q3 ho.2
    exact ⟨(o.1,o.2.1,[-1,r].getD o.2.2 0),⟨ho.1,hv⟩,(Ref.nil 4 1 rfl).trans (Ref.sel [0,1] rfl (by simp only [go_sem,↓reduceIte,Nat.reduceEqDiff,Nat.reduceAdd,reduceCtorEq]) (by simp [sub,Ab,Ac,Aa,go_sem,↓reduceIte,Nat.reduceEqDiff,Nat.reduceAdd,reduceCtorEq]))⟩
  ·rintro ⟨a4,b4,v⟩ ⟨x1,x2,x3⟩
   dsimp only at x1 x2 x3 ⊢
   refine RN ?_
   exact ⟨((a4,b4),(r,R,B),v,[]),⟨x1,⟨⟨q2,q3⟩,q4⟩,⟨x2,x3⟩,by simp⟩,Ref.gc [0] rfl (by simp only [go_sem,↓reduceIte,Nat.reduceEqDiff,Nat.reduceAdd,reduceCtorEq]<;>rfl) (by simp [sub,Ab,A6,Ac,Ae,go_sem,↓reduceIte,Nat.reduceEqDiff,Nat.reduceAdd,reduceCtorEq])⟩
 ·refine N9 ?_
  refine Al ?_
  refine Ks (fun o:Nat×Int×List Int=>o.1≤bs.length∧o.2.2.length≤50000) (fun o=>[(0,.ref 0 0),(2,.ref 1 0),(3,i64 i),(4,Ac o.2.2)]) (fun o=>[some (Ax bs o.1 o.2.1),some [i64 r,Ac R,Ae B]]) ?_ ?_
  ·repeat' first
     | simp only [go_sem,↓reduceIte,Nat.reduceEqDiff,Nat.reduceAdd,reduceCtorEq]
     | with_reducible refine Ar ?_
     | with_reducible refine Aq ?_
     | with_reducible exact As
     | with_reducible refine Ap ?_ ?_
     | (with_reducible refine And.intro ?_ ?_;focus first | assumption | omega | grind)
     | refine Bb (aH bs hb a3 b3 z1 r R B ⟨q2,q3⟩ q4 i (by omega)) [0] (by first | rfl | simp) (by simp only [go_sem,↓reduceIte,Nat.reduceEqDiff,Nat.reduceAdd,reduceCtorEq]<;>rfl) (by simp only [go_sem,↓reduceIte,Nat.reduceEqDiff,Nat.reduceAdd,reduceCtorEq]<;>rfl) fun o ho=>?_
   all_goals exact ⟨(o.1,o.2.1,o.2.2),ho,Ref.gc [0,1] rfl (by simp only [go_sem,↓reduceIte,Nat.reduceEqDiff,Nat.reduceAdd,reduceCtorEq]<;>rfl) (by simp [sub,Ab,Ac,go_sem,↓reduceIte,Nat.reduceEqDiff,Nat.reduceAdd,reduceCtorEq])⟩
  ·rintro ⟨a4,b4,c⟩ ⟨x1,x2⟩
   dsimp only at x1 x2 ⊢
   refine RN ?_
   exact ⟨((a4,b4),(r,R,B),i,c),⟨x1,⟨⟨q2,q3⟩,q4⟩,⟨by dsimp only;omega,by dsimp only;omega⟩,x2⟩,Ref.gc [0] rfl (by simp only [go_sem,↓reduceIte,Nat.reduceEqDiff,Nat.reduceAdd,reduceCtorEq]<;>rfl) (by simp [sub,Ab,A6,Ac,Ae,go_sem,↓reduceIte,Nat.reduceEqDiff,Nat.reduceAdd,reduceCtorEq])⟩
theorem lT (bs:List Int)(hb:Ec bs):B1 Tryz.prog 6 [Ee bs] (fun o:(Int×List Int×List (List Int))×Int×List Int×List Int=>((0≤o.1.1∧o.1.1≤6)∧E9 o.1.2.1 o.1.2.2)∧(-10≤o.2.1∧o.2.1≤10)∧o.2.2.1.length≤50000∧o.2.2.2.length≤50000) (fun o=>.tup [A6 o.1.1 o.1.2.1 o.1.2.2,i64 o.2.1,Ac o.2.2.1,Ac o.2.2.2]) (fun _=>[]):=by
 have hf:=oS bs hb
 unfold Ee at *
 refine E5 xC rfl ?_;unfold c6
 refine RN ?_
 refine Nf hf (by first | rfl | simp only [go_sem,↓reduceIte,Nat.reduceEqDiff,Nat.reduceAdd,reduceCtorEq]) fun h0 _=>?_
 refine RN ?_
 refine Bb (rI bs hb 0 h0 (Nat.zero_le _)) [1] (by first | rfl | simp) (by simp only [go_sem,↓reduceIte,Nat.reduceEqDiff,Nat.reduceAdd,reduceCtorEq]<;>rfl) (by simp only [go_sem,↓reduceIte,Nat.reduceEqDiff,Nat.reduceAdd,reduceCtorEq]<;>rfl) fun o ho=>?_
 obtain ⟨⟨a1,b1⟩,⟨r,R,B⟩,i,c⟩:=o
 obtain ⟨q1,⟨⟨q2,q3⟩,q4⟩,⟨q5,q6⟩,q7⟩:=ho
 dsimp only at q1 q2 q3 q4 q5 q6 q7 ⊢
 refine RN ?_
 refine Ks (fun c2:List Int=>c2.length≤50000) (fun c2=>[(2,.ref 0 0),(3,i64 i),(4,Ac c),(5,Ac c2)]) (fun _=>[some [i64 r,Ac R,Ae B]]) ?_ ?_
 ·repeat' first
    | simp only [go_sem,↓reduceIte,Nat.reduceEqDiff,Nat.reduceAdd,reduceCtorEq]
    | with_reducible refine Ar ?_
    | with_reducible refine Aq ?_
    | with_reducible exact As
    | with_reducible refine Ap ?_ ?_
    | (with_reducible refine And.intro ?_ ?_;focus first | assumption | omega | grind)
    | refine Bb (aH bs hb a1 b1 q1 r R B ⟨q2,q3⟩ q4 i ⟨by omega,by omega⟩) [1] (by first | rfl | simp) (by simp only [go_sem,↓reduceIte,Nat.reduceEqDiff,Nat.reduceAdd,reduceCtorEq]<;>rfl) (by simp only [go_sem,↓reduceIte,Nat.reduceEqDiff,Nat.reduceAdd,reduceCtorEq]<;>rfl) fun o ho=>?_
  all_goals exact ⟨o.2.2,ho.2,Ref.gc [0] rfl (by simp only [go_sem,↓reduceIte,Nat.reduceEqDiff,Nat.reduceAdd,reduceCtorEq]<;>rfl) (by simp [sub,Ab,Ac,go_sem,↓reduceIte,Nat.reduceEqDiff,Nat.reduceAdd,reduceCtorEq])⟩
 ·intro c2 x2
  refine RN ?_
  simp only [Aa8,go_sem,↓reduceIte,Nat.reduceEqDiff,Nat.reduceAdd,reduceCtorEq]
  refine RN ?_
  exact ⟨((r,R,B),i,c,c2),⟨⟨⟨q2,q3⟩,q4⟩,⟨q5,q6⟩,q7,x2⟩,Ref.gc [] rfl (by simp only [go_sem,↓reduceIte,Nat.reduceEqDiff,Nat.reduceAdd,reduceCtorEq]<;>rfl) (by simp [sub,Ab,A6,Ac,Ae,go_sem,↓reduceIte,Nat.reduceEqDiff,Nat.reduceAdd,reduceCtorEq])⟩
end
end Go.Proofs.YtcneanpkpmfaiaaGreat
