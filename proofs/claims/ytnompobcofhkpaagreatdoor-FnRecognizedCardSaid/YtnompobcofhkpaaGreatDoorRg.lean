/- Texts that belong together. -/
import Derived.Test.YtnompobcofhkpaaGreatDoorRc
set_option maxHeartbeats 16000000
set_option linter.unusedSimpArgs false
set_option linter.unusedVariables false
set_option maxRecDepth 100000
namespace Go.Gov
variable {P:Program} {N:Nat} {F:Frame} {H:Heap} {M:List Nat} {n0:Nat}
theorem qF {x z:ACode}{Q:Exit→Frame→Heap→Prop}(F1:Frame)(H1:Heap)(hx:W P M N n0 x (E8 (fun F' H' => Ref n0 F' H' F1 H1) Q) F H)(hn:W P M N n0 z Q F1 H1):W P M N n0 x (E8 (W P M N n0 z Q) Q) F H:=
 X2 hx fun e F' H' h=>by
  cases e with
  | normal=>exact Fx h hn
  | _=>exact h
end Go.Gov
namespace Go.Proofs.YtnompobcofhkpaaGreatDoor
section
open Go.Gov
open Classical
theorem yO (T U:List (List Tg))(hT:Bs T)(hU:Bs U):Pure Tryz.prog 71 [Nd T,Nd U] (.agg [.sl 0 1 0 (T.length*U.length)]) [some ((D5 T U).map Bw)]:=by
 have hT2:=hT.p2
 have hU2:=hU.p2
 have hT1:=hT.p1
 have hU1:=hU.p1
 refine Ga [4] Ael rfl ?_;unfold aZ
 refine RN ?_
 refine Ah (α:=Nat) (S:=fun j=>([(2,.ref 0 0),(3,.ref 1 0),(4,.ref 2 0),(5,i64 U.length),(6,.ref 3 0),(7,i64 j)],[some [Cv T],some [Cv U],some [Ai],some [.sl 4 1 0 (j*U.length)],some ((Dj T U j).map Bw)])) (C:=fun j=>j≤T.length) (μ:=fun j=>T.length - j) 0 (by omega) ((Ref.nilC 3 0 1 rfl rfl).trans (Ref.to (by simp [Dj]) (by simp [sub,Ab]))) ?_
 intro j hj
 have hkl:=Kr T U j
 have hjU:j*U.length≤12*12:=Nat.mul_le_mul (by omega) hU2
 refine RN ?_
 refine ⟨fun hc=>?_,fun hc=>?_⟩
 ·have hjl:j<T.length:=by omega
  have g1:=Nc T j hjl
  have g2:=Nb T j hjl
  refine RN ?_
  refine Ah (α:=Nat) (S:=fun k=>([(2,.ref 0 0),(3,.ref 1 0),(4,.ref 2 0),(5,i64 U.length),(6,.ref 3 0),(7,i64 j),(8,i64 k)],[some [Cv T],some [Cv U],some [Ai],some [.sl 4 1 0 (j*U.length+k)],some ((Dj T U j++Di T U j k).map Bw)])) (C:=fun k=>k≤U.length) (μ:=fun k=>U.length - k) 0 (by omega) (Ref.to (by simp [Di]) (by simp [sub,Ab])) ?_
  intro k hk
  have hll:(Dj T U j++Di T U j k).length=j*U.length+k:=by rw [List.length_append,hkl];simp [Di]
  have hst:Dj T U j++Di T U j (k+1)=(Dj T U j++Di T U j k)++[B8 T U j k 3]:=by rw [cM,List.append_assoc]
  generalize hL:Dj T U j++Di T U j k=L at *
  refine RN ?_
  refine ⟨fun hc1=>?_,fun hc1=>?_⟩
  ·have hku:k<U.length:=by omega
   have g3:=Nc U k hku
   have g4:=Nb U k hku
   have h3:=hU.len k hku
   have h3T:=hT.len j hjl
   have hl6:(Ar (U.getD k [])).length=6:=by rw [G7,h3]
   have hl6T:(Ar (T.getD j [])).length=6:=by rw [G7,h3T]
   refine RN ?_
   refine Ah (α:=Nat) (S:=fun i=>([(2,.ref 0 0),(3,.ref 1 0),(4,.ref 2 0),(5,i64 U.length),(6,.ref 3 0),(7,i64 j),(8,i64 k),(10,i64 i),(9,.sl 5 2 0 i)],[some [Cv T],some [Cv U],some [Ai],some [.sl 4 1 0 (j*U.length+k)],some (L.map Bw),some (Aa (Ar (B8 T U j k i)))])) (C:=fun i=>i≤3) (μ:=fun i=>3 - i) 0 (by omega) (Ref.to (by simp [B8,Ar,Aa,Ib]) (by simp [sub,Ab])) ?_
   intro i hi
   have hrl:(B8 T U j k i).length=i:=by simp [B8]
   have hfl:=G7 (B8 T U j k i)
   refine RN ?_
   refine ⟨fun hc2=>?_,fun hc2=>?_⟩
   ·have hi3:i<3:=by omega
    have g5:(Ar (U.getD k [])).getD (i*2) 0=(tg U k i).1:=Oc (U.getD k []) i
    have g6:(Ar (U.getD k [])).getD (i*2+1) 0=(tg U k i).2:=Oe (U.getD k []) i
    obtain ⟨o1,o2,o3,o4,_⟩:=hU.ok k i hku hi3
    have g7:=Og (U.getD k []) i (by omega)
    rw [show (U.getD k []).getD i T0=tg U k i from rfl] at g7
    have hx2:0≤(tg U k i).2→(tg U k i).2.toNat<3:=fun h=>by omega
    have g8:∀ h:0≤(tg U k i).2,((Aa (Ar (T.getD j []))).drop ((tg U k i).2.toNat*2)).take 2=[i64 (tg T j (tg U k i).2.toNat).1,i64 (tg T j (tg U k i).2.toNat).2]:=fun h=>Og (T.getD j []) _ (by omega)
    have hE:Gj T U j k i=((if 0≤(tg U k i).2 then (tg T j (tg U k i).2.toNat).1 else (j:Int))*U.length+(tg U k i).1,if 0≤(tg U k i).2 then (tg T j (tg U k i).2.toNat).2 else -1):=rfl
    have hok2:0≤(tg U k i).2→Kn T j (tg U k i).2.toNat:=fun h=>hT.ok j _ hjl (by omega)
    have hcs:=cO T U j k i
    have jU:0≤(j:Int)*U.length∧(j:Int)*U.length≤12*12:=⟨Int.mul_nonneg (by omega) (by omega),Int.mul_le_mul (by omega) (by omega) (by omega) (by omega)⟩
    generalize hx:tg U k i=x at *
    refine RN ?_
    simp only [g3,g4,go_sem,↓reduceIte,Nat.reduceEqDiff,Nat.reduceAdd,reduceCtorEq]
    refine RN ?_
    refine And.intro ⟨by omega,by rw [g7];rfl⟩ ?_
    refine And.intro (by rw [List.length_drop,A2];omega) ?_
    simp only [g7,go_sem,↓reduceIte,Nat.reduceEqDiff,Nat.reduceAdd,reduceCtorEq]
    refine RN ?_
    refine ⟨fun hc3=>?_,fun hc3=>?_⟩
    ·have h8:=g8 hc3
     have hx3:=hx2 hc3
     obtain ⟨u1,u2,u3,u4,_⟩:=hok2 hc3
     rw [if_pos hc3,if_pos hc3] at hE
     generalize tg T j x.2.toNat=y at *
     have yU:0≤y.1*U.length∧y.1*U.length≤12*12:=⟨Int.mul_nonneg u1 (by omega),Int.mul_le_mul (by omega) (by omega) (by omega) (by omega)⟩
     refine RN ?_
     simp only [g1,g2,go_sem,↓reduceIte,Nat.reduceEqDiff,Nat.reduceAdd,reduceCtorEq]
     refine RN ?_
     refine And.intro ⟨by omega,by rw [h8];rfl⟩ ?_
     refine And.intro (by rw [List.length_drop,A2];omega) ?_
     simp only [h8,go_sem,↓reduceIte,Nat.reduceEqDiff,Nat.reduceAdd,reduceCtorEq]
     refine RN ?_
     refine ⟨i+1,by omega,by omega,?_⟩
     rw [hcs,hE,Mb,Of]
     have tk1:(Aa (Ar (B8 T U j k i))).take (i*2)=Aa (Ar (B8 T U j k i)):=List.take_of_length_le (by rw [A2];omega)
     generalize Ar (B8 T U j k i)=R at *
     refine Ref.gc [0,1,2,3,4,9] rfl ?_ (by simp [sub,Ab,go_sem,↓reduceIte,Nat.reduceEqDiff,Nat.reduceAdd,reduceCtorEq])
     simp only [go_sem,↓reduceIte,Nat.reduceEqDiff,Nat.reduceAdd,reduceCtorEq]
     rw [tk1,Cr]
     simp [Aa]
    ·rw [if_neg (by omega),if_neg (by omega)] at hE
     refine RN ?_
     refine ⟨i+1,by omega,by omega,?_⟩
     rw [hcs,hE,Mb,Of]
     have tk1:(Aa (Ar (B8 T U j k i))).take (i*2)=Aa (Ar (B8 T U j k i)):=List.take_of_length_le (by rw [A2];omega)
     generalize Ar (B8 T U j k i)=R at *
     refine Ref.gc [0,1,2,3,4,9] rfl ?_ (by simp [sub,Ab,go_sem,↓reduceIte,Nat.reduceEqDiff,Nat.reduceAdd,reduceCtorEq])
     simp only [go_sem,↓reduceIte,Nat.reduceEqDiff,Nat.reduceAdd,reduceCtorEq]
     rw [tk1,Cr]
     simp [Aa]
   ·obtain rfl:i=3:=by omega
    refine RN ?_
    refine ⟨k+1,by omega,by omega,?_⟩
    rw [hst,← Nat.add_assoc]
    refine (Ref.close 7 (j*U.length+k) 5 (k:=2) (n:=3) (cs2:=Aa (Ar (B8 T U j k 3))) rfl (by rw [List.getElem?_append_right (by simp [hll])];simp [hll]) rfl (by decide) (by rw [A2];omega)).trans (Ref.gc [0,1,2,3,7] rfl ?_ (by simp [sub,Ab,go_sem,↓reduceIte,Nat.reduceEqDiff,Nat.reduceAdd,reduceCtorEq]))
    have hset:∀ x y:AV,(L.map Bw++[x]).set (j*U.length+k) y=L.map Bw++[y]:=fun x y=>W6 _ _ _ (by simp [hll])
    rw [List.take_of_length_le (by simp [hll]),hset]
    simp only [go_sem,↓reduceIte,Nat.reduceEqDiff,Nat.reduceAdd,reduceCtorEq]
    all_goals simp [Bw,hrl]
  ·obtain rfl:k=U.length:=by omega
   refine RN ?_
   refine ⟨j+1,by omega,by omega,?_⟩
   rw [Qn,hL,Nat.add_mul,Nat.one_mul]
   exact Ref.to1
 ·obtain rfl:j=T.length:=by omega
  refine RN ?_
  rfl
theorem uT (T:List (List Tg))(j:Nat):(T.map Ar).getD j []=Ar (T.getD j []):=by
 by_cases h:j<T.length
 ·simp [h]
 ·simp [h,Ar]
theorem gW (n:Int)(h:n=100∨n=97∨n=116∨n=99):Pure Tryz.prog 70 [.val (.int .u8 n)] (.agg [.sl 0 1 0 (bT (UInt8.ofNat n.toNat)).length]) [some ((bT (UInt8.ofNat n.toNat)).map Bw)]:=by
 have hok:Bs (bT (UInt8.ofNat n.toNat)):=by rcases h with rfl | rfl | rfl | rfl<;>exact Gi (by decide)
 have hT2:=hok.p2
 refine Bh Aek rfl ?_;unfold aY
 simp only [go_sem,↓reduceIte,Nat.reduceEqDiff,Nat.reduceAdd,reduceCtorEq]
 refine Bj ?_
 simp only [go_sem,↓reduceIte,Nat.reduceEqDiff,Nat.reduceAdd,reduceCtorEq]
 refine And.intro (by decide) ?_
 refine Bj ?_
 simp only [go_sem,↓reduceIte,Nat.reduceEqDiff,Nat.reduceAdd,reduceCtorEq]
 refine qF [(2,.ref 0 0),(3,Ae ((bT (UInt8.ofNat n.toNat)).map Ar))] [some [Ai]] ?_ ?_
 ·rcases h with rfl | rfl | rfl | rfl
  all_goals (iterate 16 ((try (refine RN ?_;try with_reducible exact trivial));(try with_reducible refine fun _=>?_)))
  all_goals refine Ref.sel [0] rfl rfl ?_
  ·rw [show bT (UInt8.ofNat (Int.toNat 100))=tD from rfl]
   simp [sub,Ab,go_sem,↓reduceIte,Nat.reduceEqDiff,Nat.reduceAdd,reduceCtorEq,Ae,Ad,Aa,Ar,tD]
  ·rw [show bT (UInt8.ofNat (Int.toNat 97))=tA from rfl]
   simp [sub,Ab,go_sem,↓reduceIte,Nat.reduceEqDiff,Nat.reduceAdd,reduceCtorEq,Ae,Ad,Aa,Ar,tA]
  ·rw [show bT (UInt8.ofNat (Int.toNat 116))=tT from rfl]
   simp [sub,Ab,go_sem,↓reduceIte,Nat.reduceEqDiff,Nat.reduceAdd,reduceCtorEq,Ae,Ad,Aa,Ar,tT]
  ·rw [show bT (UInt8.ofNat (Int.toNat 99))=tC from rfl]
   simp [sub,Ab,go_sem,↓reduceIte,Nat.reduceEqDiff,Nat.reduceAdd,reduceCtorEq,Ae,Ad,Aa,Ar,tC]
 generalize hTT:bT (UInt8.ofNat n.toNat)=T at *
 have hTl:(T.map Ar).length=T.length:=by simp
 refine RN ?_
 refine Ah (α:=Nat) (S:=fun j=>([(2,.ref 0 0),(3,Ae (T.map Ar)),(4,.ref 1 0),(5,i64 (j:Int))],[some [Ai],some [.sl 2 1 0 j],some ((T.take j).map Bw)])) (C:=fun j=>j≤T.length) (μ:=fun j=>T.length - j) 0 (by omega) ((Ref.nilC 1 0 1 rfl rfl).trans (Ref.to (by simp) (by simp [sub,Ab]))) ?_
 intro j hj
 have htl:(T.take j).length=j:=by simp;omega
 refine RN ?_
 refine ⟨fun hc=>?_,fun hc=>?_⟩
 ·have hjl:j<T.length:=by simp at hc;omega
  have h3:=hok.len j hjl
  have hrw:=uT T j
  have hl6:(Ar (T.getD j [])).length=6:=by rw [G7,h3]
  have hst:T.take (j+1)=T.take j++[T.getD j []]:=by rw [List.take_succ_eq_append_getElem hjl];simp [hjl]
  generalize hR:T.getD j []=R at *
  refine RN ?_
  refine Ah (α:=Nat) (S:=fun k=>([(2,.ref 0 0),(3,Ae (T.map Ar)),(4,.ref 1 0),(5,i64 (j:Int)),(6,.sl 3 2 0 k),(7,i64 (2*(k:Int)))],[some [Ai],some [.sl 2 1 0 j],some ((T.take j).map Bw),some (Aa (Ar (R.take k)))])) (C:=fun k=>k≤3) (μ:=fun k=>3 - k) 0 (by omega) (Ref.to (by simp [Ar,Aa,Ib]) (by simp [sub,Ab])) ?_
  intro k hk
  have hkl:(R.take k).length=k:=by simp;omega
  have hfl:=G7 (R.take k)
  refine RN ?_
  refine ⟨fun hc1=>?_,fun hc1=>?_⟩
  ·have hk3:k<3:=by omega
   have ek:(2*(k:Int)).toNat=k*2:=by omega
   have ek1:(2*(k:Int)+1).toNat=k*2+1:=by omega
   have e0:(Ar R).getD (k*2) 0=(R.getD k T0).1:=Oc R k
   have e1:(Ar R).getD (k*2+1) 0=(R.getD k T0).2:=Oe R k
   have hsk:R.take (k+1)=R.take k++[R.getD k T0]:=by rw [List.take_succ_eq_append_getElem (by omega)];simp [show k<R.length by omega]
   refine RN ?_
   simp only [hrw,ek,ek1,e0,e1,go_sem,↓reduceIte,Nat.reduceEqDiff,Nat.reduceAdd,reduceCtorEq]
   refine RN ?_
   refine ⟨k+1,by omega,by omega,?_⟩
   rw [hsk,Mb,Of]
   have tk1:(Aa (Ar (R.take k))).take (k*2)=Aa (Ar (R.take k)):=List.take_of_length_le (by rw [A2];omega)
   generalize Ar (R.take k)=Z at *
   refine Ref.gc [0,1,2,5] rfl ?_ ?_
   ·simp only [go_sem,↓reduceIte,Nat.reduceEqDiff,Nat.reduceAdd,reduceCtorEq]
    rw [tk1,Cr]
    simp [Aa]
   ·have e2:2*(k:Int)+2=2*((k:Int)+1):=by omega
    generalize T.map Ar=FL
    simp [sub,Ab,go_sem,↓reduceIte,Nat.reduceEqDiff,Nat.reduceAdd,reduceCtorEq,e2]
  ·obtain rfl:k=3:=by omega
   rw [List.take_of_length_le (show R.length≤3 by omega)] at *
   refine RN ?_
   refine ⟨j+1,by omega,by omega,?_⟩
   rw [hst]
   generalize T.take j=TJ at *
   generalize T.map Ar=FL at *
   refine (Ref.close 5 j 3 (k:=2) (n:=3) (cs2:=Aa (Ar R)) rfl (by rw [List.getElem?_append_right (by simp [htl])];simp [htl]) rfl (by decide) (by rw [A2];omega)).trans (Ref.gc [0,1,5] rfl ?_ (by simp [sub,Ab,go_sem,↓reduceIte,Nat.reduceEqDiff,Nat.reduceAdd,reduceCtorEq]))
   have hset:∀ x y:AV,(TJ.map Bw++[x]).set j y=TJ.map Bw++[y]:=fun x y=>W6 _ _ _ (by simp [htl])
   rw [List.take_of_length_le (by simp [htl]),hset]
   simp only [go_sem,↓reduceIte,Nat.reduceEqDiff,Nat.reduceAdd,reduceCtorEq]
   all_goals simp [Bw,h3]
 ·obtain rfl:j=T.length:=by simp at hc;omega
  rw [List.take_length] at *
  refine RN ?_
  exact Ref.gc2 [2]
end
section
open Go.Gov
open Classical
theorem Alu (n:Int)(h:n∈Iv):Pure Tryz.prog 53 [.val (.int .u8 n)] (sV (B0 n)) []:=by
 simp only [Iv,List.mem_cons,List.not_mem_nil,or_false] at h
 rcases h with rfl | rfl | rfl | rfl | rfl | rfl | rfl | rfl | rfl | rfl | rfl | rfl
 all_goals
  refine Ao F9 rfl rfl ?_;unfold c53
  (iterate 16 ((try (refine RN ?_;try with_reducible exact trivial));(try with_reducible refine fun _=>?_)))
  try rfl
theorem yS (n:Int)(h:n∈Iv):Pure Tryz.prog 36 [.val (.int .u8 n)] (.agg [.sl 0 1 0 (wT (B0 n)).length]) [some ((wT (B0 n)).map Bw)]:=by
 obtain ⟨_,_,h1,h3,hw,hok⟩:=Nh n h
 have hb:=Alu n h
 generalize B0 n=w at *
 refine Bh Adu rfl ?_;unfold aA
 (iterate 16 ((try (refine RN ?_;try with_reducible exact trivial));(try with_reducible refine fun _=>?_)))
 refine Ag (hb) ?_
 refine RN ?_
 have l0:=gW ((w.getD 0 0).toNat:Int) (by rcases hw 0 (by omega) with e | e | e | e<;>rw [e]<;>decide)
 rw [Rb w 0 (by omega)] at l0
 refine Ag (l0) ?_
 refine RN ?_
 refine Ah (α:=Nat) (S:=fun i=>([(2,.ref 0 0),(3,sV w),(4,.ref 1 0),(5,i64 (i:Int))],[some [Ai],some [.sl 2 1 0 (wT (w.take i)).length],some ((wT (w.take i)).map Bw)])) (C:=fun i=>1≤i∧i≤w.length) (μ:=fun i=>w.length - i) 1 ⟨Nat.le_refl _,h1⟩ ?_ ?_
 ·dsimp only
  rw [Xn h1]
  exact Ref.gc2 [0,2,1]
 rintro i ⟨i1,i2⟩
 refine RN ?_
 refine ⟨fun hc=>?_,fun hc=>?_⟩
 ·have hiw:i<w.length:=by omega
  have li:=gW ((w.getD i 0).toNat:Int) (by rcases hw i hiw with e | e | e | e<;>rw [e]<;>decide)
  rw [Rb w i hiw] at li
  have hco:=yO (wT (w.take i)) (bT (w.getD i 0)) (hok i i1 hiw) (Gi (hw i hiw))
  have hsu:=Xo i1 hiw
  have hln:(wT (w.take (i+1))).length=(wT (w.take i)).length*(bT (w.getD i 0)).length:=by rw [hsu,Fg]
  refine RN ?_
  refine Ag (li) ?_
  refine RN ?_
  refine Ag (hco) ?_
  refine RN ?_
  refine ⟨i+1,by omega,by omega,?_⟩
  rw [hln,hsu]
  exact Ref.gc2 [0,1,4]
 ·obtain rfl:i=w.length:=by omega
  rw [List.take_length]
  refine RN ?_
  exact Ref.gc2 [2]
end
end Go.Proofs.YtnompobcofhkpaaGreatDoor
