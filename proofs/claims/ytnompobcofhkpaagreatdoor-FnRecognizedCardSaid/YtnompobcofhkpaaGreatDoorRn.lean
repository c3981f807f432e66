/- Texts that belong together. -/
import Derived.Test.YtnompobcofhkpaaGreatDoorR2
set_option maxHeartbeats 16000000
set_option linter.unusedSimpArgs false
set_option linter.unusedVariables false
set_option maxRecDepth 100000
namespace Go.Proofs.YtnompobcofhkpaaGreatDoor
section
open Go.Gov Go.Ce
open Classical
abbrev Sy (I:List (List Int))(l:List Int)(b:Bool):AV:=.pto [Ae I,Ad l,bl b] 0
theorem U8 (I:List (List Int))(l:List Int)(b:Bool)(h:Ic l)(hl:l.length≤2000)(c:Nat)(hc:c<l.length):Pure Tryz.prog 195 [Sy I l b,i64 (c:Int)] (i64 (A0 l c:Nat)) []:=by
 refine Ao Adf rfl rfl ?_;unfold Zx
 refine RN ?_
 refine Ah (α:=Nat) (S:=fun d=>([(0,.pto [Ae I,Ad l,bl b] 0),(1,i64 (d:Int)),(4,i64 0)],[])) (C:=fun d=>d<l.length∧A0 l d=A0 l c) (μ:=fun d=>d) c ⟨hc,rfl⟩ (Ref.to1) ?_
 rintro d ⟨h1,h2⟩
 have hlo:=h d h1
 refine RN ?_
 refine ⟨fun hc1=>?_,fun hc1=>?_⟩
 ·have hst:=Vb h h1 hc1
  refine RN ?_
  refine ⟨(l.getD d 0).toNat,⟨by omega,by rw [← hst];exact h2⟩,by omega,?_⟩
  rw [show (((l.getD d 0).toNat:Nat):Int)=l.getD d 0 by omega]
  exact Ref.to1
 ·have hs:=Va (l:=l) (c:=d) (by omega)
  rw [← h2,hs]
  (refine RN ?_;try with_reducible exact trivial)
theorem fI (G:Nat)(I:List (List Int))(l:List Int)(b:Bool)(h:Ok G I l)(hl:l.length≤2000)(c g:Nat)(hc:c<l.length)(hg:g<G)(hG:G≤5):Pure Tryz.prog 168 [Sy I l b,i64 (c:Int),i64 (g:Int)] (i64 (img I l c g)) []:=by
 have hcl:c<I.length:=by rw [h.len];exact hc
 have hil:I.length≤2000:=by rw [h.len];exact hl
 have hrow:=h.row c hcl
 have hent:=h.ent c g hcl hg
 have hdef:A7 I c g=(I.getD c []).getD g 0:=rfl
 rw [hdef] at hent
 refine Ao Ac4 rfl rfl ?_;unfold c168
 refine RN ?_
 refine ⟨fun hc1=>?_,fun hc1=>?_⟩
 ·have e:img I l c g=(A0 l ((I.getD c []).getD g 0).toNat:Nat):=by unfold img;rw [if_neg (by rw [hdef];omega),hdef]
  have hf:=U8 I l b h.low hl ((I.getD c []).getD g 0).toNat (by omega)
  rw [show (((I.getD c []).getD g 0).toNat:Int)=(I.getD c []).getD g 0 by omega] at hf
  rw [e]
  refine RN ?_
  refine Ag (hf) ?_
  (refine RN ?_;try with_reducible exact trivial)
 ·have e:img I l c g = -1:=by unfold img;rw [if_pos (by rw [hdef];omega)]
  rw [e]
  (refine RN ?_;try with_reducible exact trivial)
end
section
open Go.Gov Go.Ce
open Classical
abbrev cS (o p:Nat)(S:St):List AV:=[.sl o 1 0 S.im.length,.sl p 1 0 S.le.length,bl S.bad]
theorem iT (G : Nat) (I : List (List Int)) (l : List Int) (b : Bool) (h : Ok G I l) (hl : l.length ≤ 2000) (c d g : Nat) (hc : c < l.length) (hd : d < l.length) (hne : c ≠ d) (hg : g < G) (hG : G ≤ 5) :
    Ec Tryz.prog 194 [.ref 0 0,i64 (c:Int),i64 (d:Int),i64 (g:Int)] [some [.sl 1 1 0 I.length,.sl 2 1 0 l.length,bl b],some (I.map Ac),some (Aa l)]
     (.tup []) [some [.sl 1 1 0 I.length,.sl 2 1 0 l.length,bl b],some ((Bf (Bf I c g d) d g c).map Ac),some (Aa l)]:=by
 have hIl:=h.len
 have hpp:Bf (Bf I c g d) d g c=((I.set c ((I.getD c []).set g (d:Int))).set d ((I.getD d []).set g (c:Int))):=by
  unfold Bf
  rw [List.getD_eq_getElem?_getD (l:=List.set _ _ _),List.getElem?_set_ne hne,← List.getD_eq_getElem?_getD]
 have hgc:=h.row c (by omega)
 have hgd:=h.row d (by omega)
 obtain ⟨t1,t2,t3,t4⟩:=Py (I:=I) (c:=c) (d:=d) (by omega) (by omega) hne (.sl 3 1 0 (I.getD c []).length) (.sl 4 1 0 (I.getD d []).length)
 have o2:((I.map Ac).set c (.sl 3 1 0 (I.getD c []).length))[d]? = some (.osl 1 (I.getD d []).length (Aa (I.getD d []))):=by
  rw [List.getElem?_set_ne hne];exact Fp (by omega)
 have t5:=t4 ((I.getD c []).set g (d:Int)) ((I.getD d []).set g (c:Int))
 rw [hpp]
 refine Gz kV rfl ?_;unfold Un
 refine E0 ((Ref.open 1 c (cs:=I.map Ac) rfl (Fp (by omega))).trans ((Ref.open 1 d (cs:=(I.map Ac).set c (.sl 3 1 0 (I.getD c []).length)) rfl o2).trans (Ref.to (F' := [(0,.ref 0 0),(1,i64 (c:Int)),(2,i64 (d:Int)),(3,i64 (g:Int))])
  (H' := [some [.sl 1 1 0 I.length,.sl 2 1 0 l.length,bl b],some (((I.map Ac).set c (.sl 3 1 0 (I.getD c []).length)).set d (.sl 4 1 0 (I.getD d []).length)),some (Aa l),some (Aa (I.getD c [])),some (Aa (I.getD d []))]) rfl (by simp [sub,go_sem,↓reduceIte,Nat.reduceEqDiff,Nat.reduceAdd,reduceCtorEq])))) ?_
 generalize ((I.map Ac).set c (AV.sl 3 1 0 (I.getD c []).length)).set d (AV.sl 4 1 0 (I.getD d []).length)=D at *
 have g1:∀ z,D.getD c z = .sl 3 1 0 (I.getD c []).length:=fun z=>F5 t2
 have g2:∀ z,D.getD d z = .sl 4 1 0 (I.getD d []).length:=fun z=>F5 t3
 generalize I.getD c []=A at *
 generalize I.getD d []=B at *
 have e1:∀ v:Int,AV.osl 1 A.length (Aa (A.set g v))=Ac (A.set g v):=fun v=>by simp [Ac]
 have e2:∀ v:Int,AV.osl 1 B.length (Aa (B.set g v))=Ac (B.set g v):=fun v=>by simp [Ac]
 have t6:(D.set c (Ac (A.set g (d:Int))))[d]? = some (.sl 4 1 0 B.length):=by rw [List.getElem?_set_ne hne];exact t3
 refine Nq ?_
 refine (id:LT _ _ _ _ _ _→_) ?_
 repeat' first
  | simp only [g1,g2,t1,Int.toNat_natCast,go_sem,↓reduceIte,Nat.reduceEqDiff,Nat.reduceAdd,reduceCtorEq]
  | with_reducible refine Ck ?_
  | with_reducible refine Cj ?_
  | with_reducible exact Cm
  | with_reducible refine Ci ?_ ?_
  | (with_reducible refine And.intro ?_ ?_;focus first | assumption | omega | grind)
 all_goals refine (Ref.close 1 c 3 (cs:=D) (cs2:=Aa (A.set g (d:Int))) rfl t2 rfl (by decide) (by simp [Aa])).trans ?_
 all_goals rw [e1]
 all_goals refine (Ref.close 1 d 4 (cs:=D.set c (Ac (A.set g (d:Int)))) (cs2:=Aa (B.set g (c:Int))) rfl t6 rfl (by decide) (by simp [Aa])).trans ?_
 all_goals rw [e2,t5]
 all_goals exact Ref.gc1 [0,1,2]
theorem zY (G : Nat) (I : List (List Int)) (l : List Int) (b : Bool) (h : Ok G I l) (hl : l.length ≤ 2000) (c g : Nat) (hc : c < l.length) (hg : g < G) (hG : G ≤ 5) :
    Ec Tryz.prog 194 [.ref 0 0,i64 (c:Int),i64 (c:Int),i64 (g:Int)] [some [.sl 1 1 0 I.length,.sl 2 1 0 l.length,bl b],some (I.map Ac),some (Aa l)]
     (.tup []) [some [.sl 1 1 0 I.length,.sl 2 1 0 l.length,bl b],some ((Bf (Bf I c g c) c g c).map Ac),some (Aa l)]:=by
 have hIl:=h.len
 have hpp:Bf (Bf I c g c) c g c=(I.set c ((I.getD c []).set g (c:Int))):=by
  unfold Bf
  rw [List.set_set]
  congr 1
  rw [List.getD_eq_getElem?_getD,List.getElem?_set_self (by omega),Option.getD_some,List.set_set]
 have hgc:=h.row c (by omega)
 obtain ⟨t1,t2,t4⟩:=Sm (I:=I) (c:=c) (by omega) (.sl 3 1 0 (I.getD c []).length)
 have t5:=t4 ((I.getD c []).set g (c:Int))
 rw [hpp]
 refine Gz kV rfl ?_;unfold Un
 refine E0 ((Ref.open 1 c (cs:=I.map Ac) rfl (Fp (by omega))).trans (Ref.to (F' := [(0,.ref 0 0),(1,i64 (c:Int)),(2,i64 (c:Int)),(3,i64 (g:Int))])
  (H' := [some [.sl 1 1 0 I.length,.sl 2 1 0 l.length,bl b],some ((I.map Ac).set c (.sl 3 1 0 (I.getD c []).length)),some (Aa l),some (Aa (I.getD c []))]) rfl (by simp [sub,go_sem,↓reduceIte,Nat.reduceEqDiff,Nat.reduceAdd,reduceCtorEq]))) ?_
 generalize (I.map Ac).set c (AV.sl 3 1 0 (I.getD c []).length)=D at *
 have g1:∀ z,D.getD c z = .sl 3 1 0 (I.getD c []).length:=fun z=>F5 t2
 generalize I.getD c []=A at *
 have e1:∀ v:Int,AV.osl 1 A.length (Aa (A.set g v))=Ac (A.set g v):=fun v=>by simp [Ac]
 refine Nq ?_
 refine (id:LT _ _ _ _ _ _→_) ?_
 repeat' first
  | simp only [g1,t1,List.set_set,Int.toNat_natCast,go_sem,↓reduceIte,Nat.reduceEqDiff,Nat.reduceAdd,reduceCtorEq]
  | with_reducible refine Ck ?_
  | with_reducible refine Cj ?_
  | with_reducible exact Cm
  | with_reducible refine Ci ?_ ?_
  | (with_reducible refine And.intro ?_ ?_;focus first | assumption | omega | grind)
 all_goals refine (Ref.close 1 c 3 (cs:=D) (cs2:=Aa (A.set g (c:Int))) rfl t2 rfl (by decide) (by simp [Aa])).trans ?_
 all_goals rw [e1,t5]
 all_goals exact Ref.gc1 [0,1,2]
end
section
open Go.Gov Go.Ce
open Classical
theorem W8 (M:List (List Int))(hl:M.length≤1048576):Pure Tryz.prog 121 [Ae M] (i64 M.length) []:=by
 refine Cu kL rfl ?_;unfold Ue
 (refine RN ?_;try with_reducible exact trivial)
theorem cY (I : List (List Int)) (l : List Int) (b : Bool) (c g : Nat) (hI : I.length = 2000) :
    Ec Tryz.prog 167 [.ref 0 0,i64 (c:Int),i64 (g:Int)] [some [.sl 1 1 0 I.length,.sl 2 1 0 l.length,bl b],some (I.map Ac),some (Aa l)]
     (i64 (c:Int)) [some [.sl 1 1 0 I.length,.sl 2 1 0 l.length,bl true],some (I.map Ac),some (Aa l)]:=by
 refine Gz kT rfl ?_;unfold c167
 refine RN ?_
 refine Kh (W8 I (by omega)) (by simp only [go_sem,↓reduceIte,Nat.reduceEqDiff,Nat.reduceAdd,reduceCtorEq,Bl _ _ I I.length rfl]) ?_
 refine RN ?_
 refine ⟨fun _=>?_,fun hc=>absurd hc (by omega)⟩
 refine RN ?_
 exact Ref.gc2 [0,1,2]
theorem cZ (G : Nat) (hG : G ≤ 5) (r0 : List Int) (J : List (List Int)) (l : List Int) (b : Bool) (h : Ok G (r0 :: J) l) (hn : l.length < 2000) (c g : Nat) (hc : c < l.length) (hg : g < G) :
    Ec Tryz.prog 167 [.ref 0 0,i64 (c:Int),i64 (g:Int)] [some [.sl 1 1 0 (r0 :: J).length,.sl 2 1 0 l.length,bl b],some ((r0 :: J).map Ac),some (Aa l)]
     (i64 (l.length:Int)) [some [.sl 3 1 0 (l.length+1),.sl 4 1 0 (l.length+1),bl b],none,none,some ((Eg G (r0 :: J) c g).map Ac),some (Aa (l++[(l.length:Int)]))]:=by
 have hl:l.length=J.length+1:=by rw [← h.len];rfl
 have hr0:r0.length=G:=by have:=h.row 0 (by simp);simpa using this
 refine Gz kT rfl ?_;unfold c167
 refine RN ?_
 refine Kh (W8 (r0 :: J) (by simp;omega)) (by simp only [go_sem,↓reduceIte,Nat.reduceEqDiff,Nat.reduceAdd,reduceCtorEq];simp [Ae,Ad,Bl _ _ J J.length rfl]) ?_
 refine RN ?_
 intro _
 refine E0 ((Ref.open 1 0 (cs:=(r0 :: J).map Ac) (cs2:=Aa r0) (k:=1) (n:=r0.length) rfl rfl).trans (Ref.to (F' := [(0,.ref 0 0),(1,i64 (c:Int)),(2,i64 (g:Int)),(6,i64 0),(7,i64 (l.length:Int))])
  (H' := [some [.sl 1 1 0 l.length,.sl 2 1 0 l.length,bl b],some (.sl 3 1 0 r0.length :: J.map Ac),some (Aa l),some (Aa r0)]) (by simp [hl]) (by simp [sub,go_sem,↓reduceIte,Nat.reduceEqDiff,Nat.reduceAdd,reduceCtorEq,hl]))) ?_
 have hR:=S4 (-1) r0.length (by omega)
 refine Ho [(0,.ref 0 0),(1,i64 (c:Int)),(2,i64 (g:Int)),(6,i64 0),(7,i64 (l.length:Int))] [some [.sl 3 1 0 (l.length+1),.sl 2 1 0 l.length,bl b],none,some (Aa l),some ((r0 :: J++[List.replicate r0.length (-1)]).map Ac)] ?_ ?_
 ·repeat' first
    | simp only [go_sem,↓reduceIte,Nat.reduceEqDiff,Nat.reduceAdd,reduceCtorEq]
    | with_reducible refine Ck ?_
    | with_reducible refine Cj ?_
    | with_reducible exact Cm
    | with_reducible refine Ci ?_ ?_
    | (with_reducible refine And.intro ?_ ?_;focus first | assumption | omega | grind)
    | refine Ag (hR) ?_
  have htk:(AV.sl 3 1 0 r0.length :: J.map Ac).take l.length = .sl 3 1 0 r0.length :: J.map Ac:=List.take_of_length_le (by simp [hl])
  rw [htk]
  have hset:∀ x y:AV,((AV.sl 3 1 0 r0.length :: J.map Ac)++[x]).set l.length y=(AV.sl 3 1 0 r0.length :: J.map Ac)++[y]:=fun x y=>by
   rw [List.set_append_right _ _ (by simp [hl])];simp [hl]
  refine (Ref.close 7 l.length 5 (k:=1) (n:=r0.length) (cs2:=Aa (List.replicate r0.length (-1))) rfl (by rw [List.getElem?_append_right (by simp [hl])];simp [hl]) rfl (by decide) (by simp [Aa])).trans ?_
  rw [hset]
  refine (Ref.close 7 0 3 (k:=1) (n:=r0.length) (cs2:=Aa r0) rfl rfl rfl (by decide) (by simp [Aa])).trans (Ref.gc [0,1,2,7] rfl ?_ ?_)
  ·simp only [go_sem,↓reduceIte,Nat.reduceEqDiff,Nat.reduceAdd,reduceCtorEq]
   simp [Ac,List.map_append,Aa]
  ·simp [sub,Ab,go_sem,↓reduceIte,Nat.reduceEqDiff,Nat.reduceAdd,reduceCtorEq]
 ·have hlen2:((r0 :: J)++[List.replicate r0.length (-1)]).length=l.length+1:=by simp [hl]
  have hok2:Ok G ((r0 :: J)++[List.replicate r0.length (-1)]) (l++[(l.length:Int)]):=by rw [hr0];exact T8 h
  have hL:=iT G ((r0 :: J)++[List.replicate r0.length (-1)]) (l++[(l.length:Int)]) b hok2 (by simp;omega) c l.length g (by simp;omega) (by simp) (by omega) hg hG
  rw [hlen2] at hL
  simp only [List.length_append,List.length_singleton] at hL
  have hnew:Bf (Bf ((r0 :: J)++[List.replicate r0.length (-1)]) c g (l.length:Int)) l.length g (c:Int)=Eg G (r0 :: J) c g:=by
   unfold Eg;rw [hr0,h.len]
  rw [hnew] at hL
  have hil:Aa l++[i64 (l.length:Int)]=Aa (l++[(l.length:Int)]):=by simp [Aa]
  refine RN ?_
  simp only [hil]
  refine Ft (hL) [0,3,5] ?_
  refine RN ?_
  exact Ref.gc2 [0,1,2,3,5]
end
section
open Go.Gov Go.Ce
open Classical
def C1:List (Nat×Nat)→List AV
 | []=>[]
 | p :: r=>i64 (p.1:Int) :: i64 (p.2:Int) :: C1 r
theorem Sx:∀ q:List (Nat×Nat),(C1 q).length=2*q.length
 | []=>rfl
 | p :: r=>by simp only [C1,List.length_cons,Sx r];omega
theorem lR:∀ (q r:List (Nat×Nat)),C1 (q++r)=C1 q++C1 r
 | [],r=>rfl
 | p :: q,r=>by simp [C1,lR q r]
theorem Ws:∀ (i:Nat) (q:List (Nat×Nat)),(C1 q).drop (2*i)=C1 (q.drop i)
 | 0,q=>rfl
 | i+1,[]=>by simp [C1]
 | i+1,p :: q=>by
  rw [show 2*(i+1)=2*i+2 by omega]
  simp only [C1,List.drop_succ_cons]
  exact Ws i q
theorem Agz {q:List (Nat×Nat)}{i:Nat}{a e:Nat}(h:q[i]? = some (a,e))(d:AV):(C1 q).getD (2*i) d=i64 (a:Int)∧(C1 q).getD (2*i+1) d=i64 (e:Int):=by
 have h1:(C1 q).drop (2*i)=i64 (a:Int) :: i64 (e:Int) :: C1 (q.drop (i+1)):=by
  obtain ⟨hi,he⟩:=List.getElem?_eq_some_iff.1 h
  rw [Ws,List.drop_eq_getElem_cons hi,he]
  rfl
 constructor
 ·rw [List.getD_eq_getElem?_getD,show 2*i=2*i+0 by omega,← List.getElem?_drop,h1];rfl
 ·rw [List.getD_eq_getElem?_getD,← List.getElem?_drop,h1];rfl
theorem Wt (τ:Nat→Option Nat):∀ q:List (Nat×Nat),A5 τ (C1 q)=C1 q
 | []=>by simp [C1,A5]
 | p :: r=>by simp [C1,A5,Am,Wt τ r]
theorem Ag0 (Ps R:List (Nat×Nat))(n:Nat)(x y:Int)(hn:n=R.length)(hx:0≤x)(hy:0≤y):((C1 (Ps++R)).drop (2*Ps.length)).take (n*2)++[i64 x,i64 y]=C1 (R++[(x.toNat,y.toNat)]):=by
 have ex:((x.toNat:Nat):Int)=x:=by omega
 have ey:((y.toNat:Nat):Int)=y:=by omega
 rw [Ws,List.drop_left,List.take_of_length_le (by rw [Sx,hn];omega),lR]
 simp only [C1,ex,ey]
theorem fD (G : Nat) (hG : G ≤ 5) (I0 : List (List Int)) (l0 : List Int) (b : Bool) (h : Ok G I0 l0) (hfew : l0.length ≤ 2000) (c d : Nat) (hc : c < l0.length) (hd : d < l0.length) :
    Ec Tryz.prog 193 [.ref 0 0,i64 (c:Int),i64 (d:Int)] [some [.sl 1 1 0 I0.length,.sl 2 1 0 l0.length,bl b],some (I0.map Ac),some (Aa l0)]
     (.tup []) [some [.sl 1 1 0 I0.length,.sl 2 1 0 l0.length,bl b],some ((B2 G I0 l0 c d).1.map Ac),some (Aa (B2 G I0 l0 c d).2)]:=by
 have hl:=h.len
 refine Gz Ade rfl ?_;unfold Zw
 refine RN ?_
 refine Ah (α := List (List Int) × List Int × List (Nat × Nat) × List (Nat × Nat)) (S := fun p => ([(0, .ref 0 0), (6, .sl 3 2 (2 * p.2.2.1.length) p.2.2.2.length)],
     [some [.sl 1 1 0 I0.length,.sl 2 1 0 l0.length,bl b],some (p.1.map Ac),some (Aa p.2.1),some (C1 (p.2.2.1++p.2.2.2))]))
  (C:=fun p=>IdI G I0 l0 (B2 G I0 l0 c d) p.1 p.2.1 p.2.2.2∧By p.2.1 p.2.2.2≤12001) (μ:=fun p=>By p.2.1 p.2.2.2) (I0,l0,[],[(c,d)]) ?_ ?_ ?_
 ·have hr:=W2 l0
  refine ⟨IdI.start h hc hd,?_⟩
  unfold By
  simp only [List.length_cons,List.length_nil]
  omega
 ·exact Ref.to1
 rintro ⟨I,l,Ps,Qs⟩ ⟨hI,hm⟩
 dsimp only at hI hm ⊢
 have hIl:I.length=l0.length:=by rw [hI.ok.len,hI.len]
 have hll:=hI.len
 have hQ:Qs.length≤12001:=by
  have:Qs.length≤By l Qs:=by unfold By;omega
  omega
 have hpl:=Sx (Ps++Qs)
 rw [List.length_append] at hpl
 refine RN ?_
 refine ⟨fun hc1=>?_,fun hc1=>?_⟩
 ·obtain ⟨⟨a, e⟩, Q, rfl⟩ : ∃ p Q, Qs = p :: Q := by
    cases Qs with
    | nil=>simp at hc1
    | cons p Q=>exact ⟨p,Q,rfl⟩
  have hab:=hI.qb (a,e) (by simp)
  dsimp only at hab
  have hat:=Agz (q:=Ps++(a,e) :: Q) (i:=Ps.length) (a:=a) (e:=e) (by simp)
  have hF1:=U8 I l b hI.ok.low (by omega) a hab.1
  have hF2:=U8 I l b hI.ok.low (by omega) e hab.2
  have f1:=J3 hI.ok.low a hab.1
  have f2:=J3 hI.ok.low e hab.2
  have hsame:=fun h=>hI.same h
  have hstep:=fun h=>hI.step hG rfl rfl h
  generalize A0 l a=x at *
  generalize A0 l e=y at *
  have ha:=fun z=>(hat z).1
  have he:=fun z=>(hat z).2
  have hI0:I.length=I0.length:=by omega
  simp only [List.length_cons] at hpl hQ
  refine RN ?_
  simp only [ha,he,go_sem,↓reduceIte,Nat.reduceEqDiff,Nat.reduceAdd,reduceCtorEq]
  refine ⟨by omega,⟨by omega,by omega⟩,by omega,?_⟩
  refine A9 hF1 (by simp only [go_sem,↓reduceIte,Nat.reduceEqDiff,Nat.reduceAdd,reduceCtorEq,Bl _ _ I I0.length hI0,Hu _ _ l l0.length hll];simp only [Sy,Ae,Ad,hI0,hll]) (by first | rfl | simp only [go_sem,↓reduceIte,Nat.reduceEqDiff,Nat.reduceAdd,reduceCtorEq]) ?_
  simp only [ha,he,go_sem,↓reduceIte,Nat.reduceEqDiff,Nat.reduceAdd,reduceCtorEq]
  refine A9 hF2 (by simp only [go_sem,↓reduceIte,Nat.reduceEqDiff,Nat.reduceAdd,reduceCtorEq,Bl _ _ I I0.length hI0,Hu _ _ l l0.length hll];simp only [Sy,Ae,Ad,hI0,hll]) (by first | rfl | simp only [go_sem,↓reduceIte,Nat.reduceEqDiff,Nat.reduceAdd,reduceCtorEq]) ?_
  refine RN ?_
  refine ⟨fun hxy=>?_,fun hxy=>?_⟩
  ·have hI2:=hsame (by omega)
   have hm2:By l Q+1=By l ((a,e) :: Q):=by unfold By;simp;omega
   refine RN ?_
   refine ⟨(I,l,Ps++[(a,e)],Q),⟨hI2,by dsimp only;omega⟩,by dsimp only;omega,?_⟩
   exact Ref.to (by simp) (by simp [sub,Ab];omega)
  ·obtain ⟨hI2,hm2⟩:=hstep (by omega)
   have emx:(if (x:Int)<(y:Int) then (y:Int) else (x:Int))=((max x y:Nat):Int):=by split<;>omega
   have emn:(if (y:Int)<(x:Int) then (y:Int) else (x:Int))=((min x y:Nat):Int):=by split<;>omega
   obtain ⟨lo,hlo⟩:∃ lo,lo=min x y:=⟨_,rfl⟩
   obtain ⟨hi,hhi⟩:∃ hi,hi=max x y:=⟨_,rfl⟩
   rw [← hlo,← hhi] at hI2 hm2
   rw [← hhi] at emx
   rw [← hlo] at emn
   have hlh:lo<hi:=by omega
   have hhl:hi<l.length:=by omega
   have hloI:lo<I.length:=by omega
   have hhiI:hi<I.length:=by omega
   obtain ⟨t1,t2,t3,t4⟩:=Py (I:=I) (c:=hi) (d:=lo) hhiI hloI (by omega) (.sl 4 1 0 (I.getD hi []).length) (.sl 5 1 0 (I.getD lo []).length)
   have o2:((I.map Ac).set hi (.sl 4 1 0 (I.getD hi []).length))[lo]? = some (.osl 1 (I.getD lo []).length (Aa (I.getD lo []))):=by
    rw [List.getElem?_set_ne (by omega)];exact Fp hloI
   refine Fx ((Ref.open 1 hi (cs:=I.map Ac) rfl (Fp hhiI)).trans ((Ref.open 1 lo (cs:=(I.map Ac).set hi (.sl 4 1 0 (I.getD hi []).length)) rfl o2).trans (Ref.to (F' := [(0,.ref 0 0),(6,.sl 3 2 (2*Ps.length) (Q.length+1)),(7,i64 (x:Int)),(8,i64 (y:Int))])
    (H' := [some [.sl 1 1 0 I0.length,.sl 2 1 0 l0.length,bl b],some (((I.map Ac).set hi (.sl 4 1 0 (I.getD hi []).length)).set lo (.sl 5 1 0 (I.getD lo []).length)),some (Aa l),some (C1 (Ps++(a,e) :: Q)),some (Aa (I.getD hi [])),some (Aa (I.getD lo []))]) rfl (by simp [sub,Ab])))) ?_
   have hQl:=R4 I lo hi
   have hst:=V0 hloI (show lo≠hi by omega)
   have hln:=R5 hloI (show lo≠hi by omega)
   have hse2:mI I lo hi G=I.set lo (mR I lo hi G):=(R0 hloI (show lo≠hi by omega) G).1
   have hmo:=fun k hk=>(Mj hI.ok (by omega) hhl k hk:Ok G (mI I lo hi k) l∧_)
   have hBe:∀ k,k≤G→∀ j,j<G → -1≤(mR I lo hi k).getD j 0∧(mR I lo hi k).getD j 0<(l.length:Int):=fun k hk j hj=>(hmo k hk).1.ent lo j (by rw [Ow];exact hloI) hj
   have hAe:∀ k,k<G → -1≤(I.getD hi []).getD k 0∧(I.getD hi []).getD k 0<(l.length:Int):=fun k hk=>hI.ok.ent hi k hhiI hk
   have hR0:mR I lo hi 0=I.getD lo []:=rfl
   have hra:=hI.ok.row hi hhiI
   have hrb:=hI.ok.row lo hloI
   have t5:=t4 (I.getD hi []) (mR I lo hi G)
   have t7:((I.set hi (I.getD hi [])).set lo (mR I lo hi G))=mI I lo hi G:=by
    rw [hse2]
    congr 1
    refine List.ext_getElem (by simp) fun j a b=>?_
    rw [List.getElem_set]
    split
    ·rename_i e;subst e;simp [b]
    ·rfl
   rw [t7] at t5
   obtain ⟨D,hD⟩:∃ D,D=((I.map Ac).set hi (.sl 4 1 0 (I.getD hi []).length)).set lo (.sl 5 1 0 (I.getD lo []).length):=⟨_,rfl⟩
   have hDr:∀ τ:Nat→Option Nat,τ 4=some 4→τ 5=some 5→A5 τ D=D:=fun τ h6 h7=>by
    rw [hD,Pj,Pj,Lh]
    simp [Am,h6,h7]
   rw [← hD] at t1 t2 t3 t5 ⊢
   have g1:∀ d,D.getD hi d = .sl 4 1 0 (I.getD hi []).length:=fun d=>F5 t2
   have g2:∀ d,D.getD lo d = .sl 5 1 0 (I.getD lo []).length:=fun d=>F5 t3
   rw [hra] at t2 g1
   rw [hrb] at t3 g2
   (repeat first | simp only [emx,emn,g1,g2,t1,Int.toNat_natCast,go_sem,↓reduceIte,Nat.reduceEqDiff,Nat.reduceAdd,reduceCtorEq] | with_reducible refine Bj ?_ | (with_reducible refine And.intro ?_ ?_;focus first | assumption | omega | decide | grind) | (with_reducible refine Br.mk ?_ ?_;focus (intros;omega)))
   refine Ah (α:=Nat×List (Nat×Nat)) (S:=fun q=>([(0,.ref 0 0),(6,.sl 3 2 (2*q.2.length) (Q.length+1+(mQ I lo hi q.1).length)),(7,i64 (lo:Int)),(8,i64 (hi:Int)),(55,.sl 4 1 0 G),(56,i64 (G:Int)),(57,i64 (q.1:Int))],
    [some [.sl 1 1 0 I0.length,.sl 2 1 0 l0.length,bl b],some D,some (Aa (l.set hi (lo:Int))),some (C1 (q.2++((a,e) :: Q++mQ I lo hi q.1))),some (Aa (I.getD hi [])),some (Aa (mR I lo hi q.1))])) (C:=fun q=>q.1≤G) (μ:=fun q=>G - q.1) (0,Ps) (Nat.zero_le _) ?_ ?_
   ·have hm0:mQ I lo hi 0=[]:=rfl
    simp only [hm0,hR0,List.append_nil,List.length_nil,Nat.add_zero]
    exact Ref.to1
   rintro ⟨k,Pk⟩ hk
   dsimp only at hk ⊢
   have hQk:=hQl k
   obtain ⟨hs1,hs2⟩:=hst k
   have hlk:=hln k
   have hBk:=hBe k hk
   obtain ⟨B,hB⟩:∃ B,B=mR I lo hi k:=⟨_,rfl⟩
   obtain ⟨W,hW⟩:∃ W,W=mQ I lo hi k:=⟨_,rfl⟩
   rw [← hB] at hs1 hs2 hlk hBk ⊢
   rw [← hW] at hs2 hQk ⊢
   have hpk:=Sx (Pk++((a,e) :: Q++W))
   simp only [List.length_append,List.length_cons] at hpk
   (repeat first | simp only [g1,g2,t1,hra,hrb,Int.toNat_natCast,go_sem,↓reduceIte,Nat.reduceEqDiff,Nat.reduceAdd,reduceCtorEq] | with_reducible refine Bj ?_ | (with_reducible refine And.intro ?_ ?_;focus first | assumption | omega | decide | grind) | (with_reducible refine Br.mk ?_ ?_;focus (intros;omega)))
   refine ⟨fun hc4=>?_,fun hc4=>?_⟩
   ·have hkG:k<G:=by omega
    have hAk:=hAe k hkG
    have hBg:=hBk k hkG
    (repeat first | simp only [g1,g2,t1,hra,hrb,Int.toNat_natCast,go_sem,↓reduceIte,Nat.reduceEqDiff,Nat.reduceAdd,reduceCtorEq] | with_reducible refine Bj ?_ | (with_reducible refine And.intro ?_ ?_;focus first | assumption | omega | decide | grind) | (with_reducible refine Br.mk ?_ ?_;focus (intros;omega)))
    refine ⟨fun hc5=>?_,fun hc5=>?_⟩
    ·rw [if_pos (.inl hc5)] at hs1
     rw [if_neg (by omega)] at hs2
     refine RN ?_
     refine ⟨(k+1,Pk),by dsimp only;omega,by dsimp only;omega,?_⟩
     dsimp only
     rw [hs1,hs2]
     exact Ref.to1
    ·(repeat first | simp only [g1,g2,t1,hra,hrb,Int.toNat_natCast,go_sem,↓reduceIte,Nat.reduceEqDiff,Nat.reduceAdd,reduceCtorEq] | with_reducible refine Bj ?_ | (with_reducible refine And.intro ?_ ?_;focus first | assumption | omega | decide | grind) | (with_reducible refine Br.mk ?_ ?_;focus (intros;omega)))
     refine ⟨fun hc6=>?_,fun hc6=>?_⟩
     ·rw [if_pos (.inr (by omega))] at hs1
      rw [if_pos ⟨by omega,by omega⟩] at hs2
      (repeat first | simp only [g1,g2,t1,hra,hrb,Int.toNat_natCast,go_sem,↓reduceIte,Nat.reduceEqDiff,Nat.reduceAdd,reduceCtorEq] | with_reducible refine Bj ?_ | (with_reducible refine And.intro ?_ ?_;focus first | assumption | omega | decide | grind) | (with_reducible refine Br.mk ?_ ?_;focus (intros;omega)))
      refine ⟨(k+1,[]),by dsimp only;omega,by dsimp only;omega,?_⟩
      dsimp only
      rw [hs1,hs2]
      have hmv:=Ag0 Pk ((a,e) :: (Q++W)) (Q.length+1+W.length) ((I.getD hi []).getD k 0) (B.getD k 0) (by simp;omega) (by omega) (by omega)
      rw [hmv]
      refine Ref.gc [0,1,2,7,4,5] rfl ?_ (by simp [sub,Ab,go_sem,↓reduceIte,Nat.reduceEqDiff,Nat.reduceAdd,reduceCtorEq,Nat.add_assoc])
      simp only [go_sem,↓reduceIte,Nat.reduceEqDiff,Nat.reduceAdd,reduceCtorEq]
      rw [Wt,hDr]
      ·simp [List.append_assoc]
      ·rfl
      ·rfl
     ·rw [if_neg (by omega)] at hs1
      rw [if_neg (by omega)] at hs2
      (repeat first | simp only [g1,g2,t1,hra,hrb,Int.toNat_natCast,go_sem,↓reduceIte,Nat.reduceEqDiff,Nat.reduceAdd,reduceCtorEq] | with_reducible refine Bj ?_ | (with_reducible refine And.intro ?_ ?_;focus first | assumption | omega | decide | grind) | (with_reducible refine Br.mk ?_ ?_;focus (intros;omega)))
      refine ⟨(k+1,Pk),by dsimp only;omega,by dsimp only;omega,?_⟩
      dsimp only
      rw [hs1,hs2]
      exact Ref.to1
   ·obtain rfl:k=G:=by omega
    refine RN ?_
    refine ⟨(mI I lo hi k,l.set hi (lo:Int),Pk++[(a,e)],Q++W),⟨?_,?_⟩,?_,?_⟩
    ·dsimp only;rw [hW];exact hI2
    ·dsimp only;rw [hW];omega
    ·dsimp only;rw [hW];exact hm2
    ·have ea:AV.osl 1 k (Aa (I.getD hi []))=Ac (I.getD hi []):=by simp only [Ac,hra]
     have eb:AV.osl 1 k (Aa B)=Ac B:=by simp only [Ac,hlk,hrb]
     have t6:(D.set hi (Ac (I.getD hi [])))[lo]? = some (.sl 5 1 0 k):=by rw [List.getElem?_set_ne (by omega)];exact t3
     refine (Ref.close 1 hi 4 (cs:=D) (n:=k) (cs2:=Aa (I.getD hi [])) rfl t2 rfl (by decide) (by rw [A2,hra,Nat.mul_one])).trans ?_
     rw [ea]
     refine (Ref.close 1 lo 5 (cs:=D.set hi (Ac (I.getD hi []))) (n:=k) (cs2:=Aa B) rfl t6 rfl (by decide) (by rw [A2,hlk,hrb,Nat.mul_one])).trans ?_
     rw [eb,hB,t5]
     exact Ref.gc [0,1,2,3] rfl (by simp only [go_sem,↓reduceIte,Nat.reduceEqDiff,Nat.reduceAdd,reduceCtorEq,Wt];simp) (by simp [sub,Ab,go_sem,↓reduceIte,Nat.reduceEqDiff,Nat.reduceAdd,reduceCtorEq];omega)
 ·obtain rfl : Qs = [] := by
    cases Qs with
    | nil=>rfl
    | cons p Q=>exact absurd hc1 (by simp)
  have hdn:=hI.done
  rw [hdn]
  refine RN ?_
  exact Ref.gc2 [0,1,2]
end
section
open Go.Gov Go.Ce
open Classical
theorem sS (G : Nat) (hG : G ≤ 5) (S : St) (h : Ss G S) (hb : S.bad = false) (c : Nat) (hc : c < S.le.length) (w : List Int) (hw : Ca G w) (hwl : w.length ≤ 1048576) :
    Ec Tryz.prog 166 [.ref 0 0,Ad w,i64 (c:Int)] [some (cS 1 2 S),some (S.im.map Ac),some (Aa S.le)]
     (.tup []) [some (cS 3 4 (Bg G S w c)),none,none,some ((Bg G S w c).im.map Ac),some (Aa (Bg G S w c).le)]:=by
 have hSl:=h.ok.len
 by_cases h0:w.length=0
 ·have e:Bg G S w c=S:=by unfold Bg;rw [if_pos h0]
  rw [e]
  refine Gz kS rfl ?_;unfold Ul
  refine RN ?_
  refine ⟨fun _=>?_,fun hc1=>absurd (by omega) hc1⟩
  refine RN ?_
  exact (Ref.mv 1 (cs:=S.im.map Ac) (F' := [(0,.tup [])]) (H' := [some [.sl 3 1 0 S.im.length,.sl 2 1 0 S.le.length,bl S.bad],none,some (Aa S.le),some (S.im.map Ac)]) rfl (by simp only [go_sem,↓reduceIte,Nat.reduceEqDiff,Nat.reduceAdd,reduceCtorEq]<;>rfl) (by simp [sub,Ab,go_sem,↓reduceIte,Nat.reduceEqDiff,Nat.reduceAdd,reduceCtorEq])).trans
   (Ref.mv 2 (cs:=Aa S.le) rfl (by simp only [go_sem,↓reduceIte,Nat.reduceEqDiff,Nat.reduceAdd,reduceCtorEq]<;>rfl) (by simp [sub,Ab,go_sem,↓reduceIte,Nat.reduceEqDiff,Nat.reduceAdd,reduceCtorEq]))
 ·have ecl:Bg G S w c=if (Ay G S w c (w.length - 1)).1.bad=true then (Ay G S w c (w.length - 1)).1 else fin G (Ay G S w c (w.length - 1)).1 c (Ay G S w c (w.length - 1)).2 (w.getD (w.length - 1) 0).toNat:=by unfold Bg;rw [if_neg h0]
  refine Gz kS rfl ?_;unfold Ul
  refine RN ?_
  intro _
  refine RN ?_
  obtain ⟨n,hn⟩:∃ n,n=w.length - 1:=⟨_,rfl⟩
  have hwn:w.length=n+1:=by omega
  have en:((w.length:Int) - 1 - 0).toNat=n:=by omega
  obtain ⟨u,hu⟩:∃ u,u=w.take n:=⟨_,rfl⟩
  have hul:u.length=n:=by rw [hu,List.length_take];omega
  have hug:∀ k,k<n→u.getD k 0=w.getD k 0:=fun k hk=>by
   rw [hu,List.getD_eq_getElem?_getD,List.getElem?_take_of_lt hk,← List.getD_eq_getElem?_getD]
  refine Ah (α:=Nat) (S:=fun k=>([(0,.ref 0 0),(1,Ad w),(2,i64 (c:Int)),(6,i64 ((Ay G S w c k).2:Int)),(7,i64 ((w.length:Int) - 1)),(23,Ad u),(24,i64 (n:Int)),(25,i64 (k:Int))],
   [some (cS 3 4 (Ay G S w c k).1),none,none,some ((Ay G S w c k).1.im.map Ac),some (Aa (Ay G S w c k).1.le)]))
   (C:=fun k=>k≤n∧(Ay G S w c k).1.bad=false) (μ:=fun k=>n - k) 0 ⟨by omega,hb⟩ ?_ ?_
  ·have etk:(Aa w).take n=Aa u:=by rw [hu];simp [Aa,List.map_take]
   rw [en,etk]
   refine (Ref.mv 1 (cs:=S.im.map Ac) (F' := [(0,.ref 0 0),(1,Ad w),(2,i64 (c:Int)),(6,i64 (c:Int)),(7,i64 ((w.length:Int) - 1)),(23,Ad u),(24,i64 (n:Int)),(25,i64 0)]) (H' := [some [.sl 3 1 0 S.im.length,.sl 2 1 0 S.le.length,bl S.bad],none,some (Aa S.le),some (S.im.map Ac)]) rfl (by simp only [go_sem,↓reduceIte,Nat.reduceEqDiff,Nat.reduceAdd,reduceCtorEq]<;>rfl) (by simp [sub,Ab,go_sem,↓reduceIte,Nat.reduceEqDiff,Nat.reduceAdd,reduceCtorEq,hul])).trans
    (Ref.mv 2 (cs:=Aa S.le) rfl (by simp only [go_sem,↓reduceIte,Nat.reduceEqDiff,Nat.reduceAdd,reduceCtorEq]<;>rfl) (by simp [sub,Ab,go_sem,↓reduceIte,Nat.reduceEqDiff,Nat.reduceAdd,reduceCtorEq,Ay]))
  rintro k ⟨hk,hkb⟩
  obtain ⟨s1,s2,s3⟩:=L6 h hw hc k (by omega)
  have hcs:Ay G S w c (k+1)=nx G (Ay G S w c k).1 (Ay G S w c k).2 (w.getD k 0).toNat:=by rw [Ay,if_neg (by rw [hkb];decide)]
  have hct:=Nat.lt_of_lt_of_le hc s2.len
  have hcb:=fun hb2=>cH (G:=G) (S:=S) (w:=w) (c:=c) (k:=k+1) (n:=w.length - 1) hb2
  obtain ⟨p,hp⟩:∃ p,p=Ay G S w c k:=⟨_,rfl⟩
  rw [← hp] at s1 s2 s3 hcs hct hkb ⊢
  obtain ⟨⟨I,l,b⟩,d⟩:=p
  dsimp only at s1 s2 s3 hcs hct hkb ⊢
  subst hkb
  have hIl:=s1.ok.len
  have hfew:=s1.few
  dsimp only at hIl hfew
  have hIm:=fun x g hx hg=>fI G I l false s1.ok hfew x g hx hg hG
  refine RN ?_
  refine ⟨fun hc2=>?_,fun hc2=>?_⟩
  ·have hlet:=hw k (by omega)
   have hw2:=hug k (by omega)
   obtain ⟨g,hg⟩:∃ g,g=(w.getD k 0).toNat:=⟨_,rfl⟩
   have hgz:w.getD k 0=(g:Int):=by omega
   rw [hgz] at hw2
   rw [← hg] at hcs
   have hI1:=hIm d g s3 (by omega)
   have b1:=s1.ok.img (c:=d) (g:=g) (by dsimp only;omega) (by omega)
   dsimp only at b1
   unfold nx at hcs
   dsimp only at hcs
   refine RN ?_
   simp only [hw2,go_sem,↓reduceIte,Nat.reduceEqDiff,Nat.reduceAdd,reduceCtorEq]
   refine A9 hI1 (by simp only [go_sem,↓reduceIte,Nat.reduceEqDiff,Nat.reduceAdd,reduceCtorEq,Bl _ _ I I.length rfl,Hu _ _ l l.length rfl]) (by first | rfl | simp only [go_sem,↓reduceIte,Nat.reduceEqDiff,Nat.reduceAdd,reduceCtorEq]) ?_
   refine RN ?_
   refine ⟨fun hc3=>?_,fun hc3=>?_⟩
   ·rw [if_neg (by omega)] at hcs
    by_cases h2:l.length=2000
    ·rw [if_pos h2] at hcs
     have hcl:=hcb (by rw [hcs]) (by omega)
     rw [hcl,hcs] at ecl
     dsimp only at ecl
     rw [if_pos rfl] at ecl
     rw [ecl]
     have hD:=cY I l false d g (by omega)
     dsimp only [cS]
     refine Ft (hD) [0,3,4] ?_
     refine RN ?_
     exact Ref.gc2 [0,1,2,3,4]
    ·rw [if_neg h2] at hcs
     obtain ⟨r0,J,rfl⟩:∃ r0 J,I=r0 :: J:=by
      cases I with
      | nil=>simp at hIl;omega
      | cons a J=>exact ⟨a,J,rfl⟩
     have hD:=cZ G hG r0 J l false s1.ok (by omega) d g s3 (by omega)
     have hnl:(Eg G (r0 :: J) d g).length=l.length+1:=by unfold Eg;rw [Fq,Fq,List.length_append,hIl];rfl
     dsimp only [cS]
     refine Ft (hD) [0,3,4] ?_
     refine RN ?_
     refine ⟨k+1,⟨by omega,by rw [hcs]⟩,by omega,?_⟩
     rw [hcs]
     dsimp only [cS]
     rw [hnl]
     exact Ref.gc2 [0,1,2,5,6]
   ·rw [if_pos (by omega)] at hcs
    have e:(((img I l d g).toNat:Nat):Int)=img I l d g:=by omega
    dsimp only [cS]
    refine RN ?_
    refine ⟨k+1,⟨by omega,by rw [hcs]⟩,by omega,?_⟩
    rw [hcs]
    dsimp only [cS]
    rw [e]
    exact Ref.to1
  ·obtain rfl:k=n:=by omega
   rw [← hn,← hp] at ecl
   dsimp only at ecl
   rw [if_neg (by decide)] at ecl
   have hlet:=hw k (by omega)
   obtain ⟨g,hg⟩:∃ g,g=(w.getD k 0).toNat:=⟨_,rfl⟩
   have hgz:w.getD k 0=(g:Int):=by omega
   have en2:((w.length:Int) - 1).toNat=k:=by omega
   rw [← hg] at ecl
   have hI1:=hIm d g s3 (by omega)
   have hI2:=hIm c g hct (by omega)
   have b1:=s1.ok.img (c:=d) (g:=g) (by dsimp only;omega) (by omega)
   have b2:=s1.ok.img (c:=c) (g:=g) (by dsimp only;omega) (by omega)
   dsimp only at b1 b2
   have hfin:fin G ⟨I,l,false⟩ c d g=if 0≤img I l d g then ⟨(B2 G I l (img I l d g).toNat c).1,(B2 G I l (img I l d g).toNat c).2,false⟩
    else if 0≤img I l c g then ⟨(B2 G I l (img I l c g).toNat d).1,(B2 G I l (img I l c g).toNat d).2,false⟩
    else ⟨Bf (Bf I d g (c:Int)) c g (d:Int),l,false⟩:=rfl
   rw [← ecl] at hfin
   clear ecl
   generalize Bg G S w c=Z at *
   have hlenR:∀ a b', a<l.length→b' < l.length→(B2 G I l a b').1.length=I.length∧(B2 G I l a b').2.length=l.length:=fun a b' ha hb' => by
    have:=Rf hG _ (Nat.le_refl _) (IdI.start s1.ok ha hb')
    change IdI G I l (B2 G I l a b') (B2 G I l a b').1 (B2 G I l a b').2 [] at this
    exact ⟨by rw [this.ok.len,this.len,hIl],this.len⟩
   dsimp only [cS]
   (repeat first | simp only [en2,hgz,Int.toNat_natCast,go_sem,↓reduceIte,Nat.reduceEqDiff,Nat.reduceAdd,reduceCtorEq] | with_reducible refine Bj ?_ | (with_reducible refine And.intro ?_ ?_;focus first | assumption | omega | decide | grind))
   refine A9 hI1 (by simp only [go_sem,↓reduceIte,Nat.reduceEqDiff,Nat.reduceAdd,reduceCtorEq,Bl _ _ I I.length rfl,Hu _ _ l l.length rfl]) (by first | rfl | simp only [go_sem,↓reduceIte,Nat.reduceEqDiff,Nat.reduceAdd,reduceCtorEq]) ?_
   simp only [go_sem,↓reduceIte,Nat.reduceEqDiff,Nat.reduceAdd,reduceCtorEq]
   refine A9 hI2 (by simp only [go_sem,↓reduceIte,Nat.reduceEqDiff,Nat.reduceAdd,reduceCtorEq,Bl _ _ I I.length rfl,Hu _ _ l l.length rfl]) (by first | rfl | simp only [go_sem,↓reduceIte,Nat.reduceEqDiff,Nat.reduceAdd,reduceCtorEq]) ?_
   refine RN ?_
   refine ⟨fun hc3=>?_,fun hc3=>?_⟩
   ·rw [if_pos hc3] at hfin
    have hD:=fD G hG I l false s1.ok hfew (img I l d g).toNat c (by omega) hct
    obtain ⟨r1,r2⟩:=hlenR (img I l d g).toNat c (by omega) hct
    rw [show (((img I l d g).toNat:Nat):Int)=img I l d g by omega] at hD
    rw [hfin]
    generalize B2 G I l (img I l d g).toNat c=R at *
    refine Ft (hD) [0,3,4] ?_
    refine RN ?_
    exact Ref.gc [0,1,2,3,4] rfl (by simp only [go_sem,↓reduceIte,Nat.reduceEqDiff,Nat.reduceAdd,reduceCtorEq,r1,r2]<;>rfl) (by simp [sub,Ab,go_sem,↓reduceIte,Nat.reduceEqDiff,Nat.reduceAdd,reduceCtorEq])
   ·rw [if_neg (by omega)] at hfin
    refine RN ?_
    refine ⟨fun hc4=>?_,fun hc4=>?_⟩
    ·rw [if_pos hc4] at hfin
     have hD:=fD G hG I l false s1.ok hfew (img I l c g).toNat d (by omega) s3
     obtain ⟨r1,r2⟩:=hlenR (img I l c g).toNat d (by omega) s3
     rw [show (((img I l c g).toNat:Nat):Int)=img I l c g by omega] at hD
     rw [hfin]
     generalize B2 G I l (img I l c g).toNat d=R at *
     refine Ft (hD) [0,3,4] ?_
     refine RN ?_
     exact Ref.gc [0,1,2,3,4] rfl (by simp only [go_sem,↓reduceIte,Nat.reduceEqDiff,Nat.reduceAdd,reduceCtorEq,r1,r2]<;>rfl) (by simp [sub,Ab,go_sem,↓reduceIte,Nat.reduceEqDiff,Nat.reduceAdd,reduceCtorEq])
    ·rw [if_neg (by omega)] at hfin
     have hpl:(Bf (Bf I d g (c:Int)) c g (d:Int)).length=I.length:=by rw [Fq,Fq]
     rw [hfin]
     by_cases hcd:c=d
     ·subst hcd
      have hL:=zY G I l false s1.ok hfew c g hct (by omega) hG
      dsimp only
      rw [hpl]
      refine Ft (hL) [0,3,4] ?_
      refine RN ?_
      exact Ref.gc2 [0,1,2,3,4]
     ·have hL:=iT G I l false s1.ok hfew c d g hct s3 hcd (by omega) hG
      have hcm:Bf (Bf I c g (d:Int)) d g (c:Int)=Bf (Bf I d g (c:Int)) c g (d:Int):=by
       unfold Bf
       rw [List.getD_eq_getElem?_getD (l:=List.set I c _),List.getElem?_set_ne hcd,← List.getD_eq_getElem?_getD,List.getD_eq_getElem?_getD (l:=List.set I d _),List.getElem?_set_ne (fun e=>hcd e.symm),← List.getD_eq_getElem?_getD,List.set_comm _ _ hcd]
      rw [hcm] at hL
      dsimp only
      rw [hpl]
      refine Ft (hL) [0,3,4] ?_
      refine RN ?_
      exact Ref.gc2 [0,1,2,3,4]
end
end Go.Proofs.YtnompobcofhkpaaGreatDoor
namespace Go.Ce
open Classical
theorem kI (S:St)(O:List Nat)(x m:Nat):∀ k:Nat,∃ L,oG S O x (m+k)=oG S O x m++L
 | 0=>⟨[],by simp⟩
 | k+1=>by
  obtain ⟨L,h⟩:=kI S O x m k
  obtain ⟨L2,h2⟩:=My (oG S O x (m+k)) (Cx S x (m+k))
  exact ⟨L++L2,by rw [← Nat.add_assoc,oG,h2,h,List.append_assoc]⟩
theorem kG (G:Nat)(S:St):∀ (k:Nat) (O:List Nat) (i:Nat),∃ L,oF G S k O i=O++L
 | 0,O,i=>⟨[],by simp [oF]⟩
 | k+1,O,i=>by
  unfold oF
  split
  ·obtain ⟨L,h⟩:=kG G S k (oG S O (O.getD i 0) G) (i+1)
   obtain ⟨L2,h2⟩:=Pa S O (O.getD i 0) G
   exact ⟨L2++L,by rw [h,h2,List.append_assoc]⟩
  ·exact ⟨[],by simp⟩
theorem Oi.pre {G:Nat}{S:St}{O:List Nat}{i:Nat}(h:Oi G S O i):∃ L,B7 G S=O++L:=by
 obtain ⟨L,hL⟩:=kG G S (2001 - i) O i
 exact ⟨L,by rw [← h.res,hL]⟩
noncomputable def D0 (G:Nat)(S:St)(i m:Nat):List (List Int):=(List.range G).map fun g=>Da S (B7 G S) g (if g<m then i+1 else i)
theorem Ak2 (G:Nat)(S:St)(i m:Nat):(D0 G S i m).length=G:=by simp [D0]
theorem Ak0 {G:Nat}{S:St}{i m g:Nat}(hg:g<G):(D0 G S i m)[g]? = some (Da S (B7 G S) g (if g<m then i+1 else i)):=by simp [D0,hg]
theorem Ak3 (G:Nat)(S:St)(i:Nat):D0 G S i G=D0 G S (i+1) 0:=by
 unfold D0
 refine List.map_congr_left fun g hg=>?_
 have:=List.mem_range.1 hg
 rw [if_pos this,if_neg (by omega)]
theorem Ak5 {G:Nat}{S:St}{i m:Nat}:(D0 G S i m).set m (Da S (B7 G S) m (i+1))=D0 G S i (m+1):=by
 refine List.ext_getElem (by simp [D0]) fun j h1 h2=>?_
 rw [List.getElem_set]
 simp only [D0,List.getElem_map,List.getElem_range]
 by_cases e:m=j
 ·subst e
  rw [if_pos rfl,if_pos (by omega)]
 ·rw [if_neg e]
  by_cases h:j<m
  ·rw [if_pos h,if_pos (by omega)]
  ·rw [if_neg h,if_neg (by omega)]
theorem Ak1 (G:Nat)(S:St):D0 G S (B7 G S).length 0=D1 G S:=by
 unfold D0 D1
 refine List.map_congr_left fun g _=>by rw [if_neg (by omega)]
theorem Ak4 (G:Nat)(S:St):D0 G S 0 0=List.replicate G []:=by
 refine List.ext_getElem (by simp [D0]) fun j h1 h2=>?_
 simp [D0,Da]
def It (O:List Nat):List (Int×Int):=O.zipIdx.map fun p=>((p.1:Int),(p.2:Int))
theorem Abl (O:List Nat)(d:Nat):It (O++[d])=It O++[((d:Int),(O.length:Int))]:=by simp [It,List.zipIdx_append]
open Go.Gov in
theorem fF (d:Nat):∀ (O:List Nat) (s:Nat),(Hb (d:Int) ((O.zipIdx s).map fun p=>((p.1:Int),(p.2:Int)))).map (·.2)=if d∈O then some ((s+A4 O d:Nat):Int) else none
 | [],s=>by simp [Hb]
 | x :: O,s=>by
  have ih:=fF d O (s+1)
  simp only [List.zipIdx_cons,List.map_cons,Hb]
  by_cases e:d=x
  ·subst e
   simp [A4]
  ·have e2:((d:Int) == (x:Int))=false:=by simpa using (by omega:¬ (d:Int)=x)
   rw [e2,if_neg (by decide),Option.map_map]
   have e3:((fun q:Nat×Int=>q.2) ∘ fun q:Nat×Int=>(q.1+1,q.2))=fun q=>q.2:=rfl
   rw [e3,ih]
   by_cases hm:d∈O
   ·rw [if_pos hm,if_pos (by simp [hm])]
    congr 2
    unfold A4
    rw [List.idxOf_cons,beq_eq_false_iff_ne.2 (fun h=>e h.symm:x≠d),cond_false]
    omega
   ·rw [if_neg hm,if_neg (by simp [hm,e])]
open Go.Gov in
theorem fG (O:List Nat)(d:Nat):K1 (d:Int) (It O)=if d∈O then some (A4 O d:Int) else none:=by
 unfold K1 It
 rw [fF]
 simp
open Go.Gov in
theorem wL {O:List Nat}{d:Nat}(h:d∉O):Om (d:Int) (O.length:Int) (It O)=It (O++[d]):=by
 have h1:=fG O d
 rw [if_neg h] at h1
 unfold K1 at h1
 rw [Option.map_eq_none_iff] at h1
 unfold Om
 rw [h1,Abl]
end Go.Ce
namespace Go.Proofs.YtnompobcofhkpaaGreatDoor
open Go.Gov Go.Ce
open Classical
def iN (n:Int):AV:=i64 n
theorem vX (n:Int):iN n=i64 n:=rfl
theorem wD (l:List (Int×Int)):B5 (fun x=>i64 x) l=B5 iN l:=rfl
theorem Aa5 (l:List (Int×Int))(n x:Int):O4 (.int .i64 n) (i64 x) (B5 iN l)=B5 iN (Om n x l):=jK iN l n x
attribute [go_sem] vX wD Aa5
abbrev Qw (G:Nat)(S:St):AV:=if S.bad=true then .tup [Ai,bl false] else .tup [.sl 0 1 0 G,bl true]
noncomputable abbrev Qx (G:Nat)(S:St):Heap:=if S.bad=true then [] else [some ((D1 G S).map Ac)]
theorem uI (G : Nat) (hG1 : 1 ≤ G) (hG : G ≤ 5) (rs : List (List Int)) (hrl : rs.length ≤ 1048576) (hrs : ∀ k, k < rs.length → Ca G (rs.getD k []) ∧ (rs.getD k []).length ≤ 1048576) :
    Pure Tryz.prog 139 [Dq G rs,Ai] (Qw G (Ba G rs)) (Qx G (Ba G rs)):=by
 have hlet:∀ k,k<rs.length→Ca G (rs.getD k []):=fun k hk=>(hrs k hk).1
 have hR:=S4 (-1) G (by omega)
 refine Bh Acm rfl ?_;unfold Y7
 refine RN ?_
 refine Ag (hR) ?_
 refine RN ?_
 refine Ah (α:=Unit) (S:=fun _=>([(2,.ref 0 0),(6,.ref 1 0),(29,Ai),(30,i64 0),(31,i64 0)],[some [i64 (G:Int),Ae rs],some [.sl 2 1 0 1,.sl 3 1 0 1,bl false],some [Ac (List.replicate G (-1))],some (Aa [0])])) (C:=fun _=>True) (μ:=fun _=>0) () trivial ?_ ?_
 ·refine (Ref.close 3 0 2 (k:=1) (n:=G) (cs2:=Aa (List.replicate G (-1))) rfl rfl rfl (by decide) (by simp [Aa])).trans (Ref.gc [0,5,3,4] rfl ?_ (by simp [sub,Ab,go_sem,↓reduceIte,Nat.reduceEqDiff,Nat.reduceAdd,reduceCtorEq]))
  simp only [go_sem,↓reduceIte,Nat.reduceEqDiff,Nat.reduceAdd,reduceCtorEq]
  simp [Ac,Aa]
 rintro _ _
 refine RN ?_
 intro _
 refine RN ?_
 refine Ah (α:=St×Nat) (S:=fun p=>([(2,.ref 0 0),(6,.ref 1 0),(9,i64 (p.2:Int))],[some [i64 (G:Int),Ae rs],some [.sl 2 1 0 p.1.im.length,.sl 3 1 0 p.1.le.length,bl p.1.bad],some (p.1.im.map Ac),some (Aa p.1.le)]))
  (C:=fun p=>Ei G rs p.1 p.2) (μ:=fun p=>2001 - p.2) (Go.Ce.start G,0) (Qv G rs) (Ref.to (by simp [Go.Ce.start,Ac]) (by simp [sub,Ab])) ?_
 rintro ⟨S,c⟩ hE
 dsimp only at hE ⊢
 have hfew:=hE.ok.few
 have hle:=hE.le
 have hSl:=hE.ok.ok.len
 have hsz:=W8 S.im (by omega)
 refine RN ?_
 refine A9 hsz (by simp only [go_sem,↓reduceIte,Nat.reduceEqDiff,Nat.reduceAdd,reduceCtorEq,Bl _ _ S.im S.im.length rfl]) (by first | rfl | simp only [go_sem,↓reduceIte,Nat.reduceEqDiff,Nat.reduceAdd,reduceCtorEq]) ?_
 refine RN ?_
 refine ⟨fun hc1=>?_,fun hc1=>?_⟩
 ·obtain ⟨hcl,hcb⟩:=hc1
  have hcl' : c<S.le.length:=by omega
  have hES:=hE.step hG hlet hcl' hcb
  obtain ⟨r1,r2⟩:=Ki hG hE.ok hlet hcl' rs.length (Nat.le_refl _)
  have hrk:=fun k hk=>Ki hG hE.ok hlet hcl' k (hk:k≤rs.length)
  refine RN ?_
  refine Ah (α:=Nat) (S:=fun k=>([(2,.ref 0 0),(6,.ref 1 0),(9,i64 (c:Int)),(56,Ae rs),(57,i64 (rs.length:Int)),(58,i64 (k:Int))],[some [i64 (G:Int),Ae rs],some [.sl 2 1 0 (Bq G S rs c k).im.length,.sl 3 1 0 (Bq G S rs c k).le.length,bl (Bq G S rs c k).bad],some ((Bq G S rs c k).im.map Ac),some (Aa (Bq G S rs c k).le)]))
   (C:=fun k=>k≤rs.length) (μ:=fun k=>rs.length - k) 0 (Nat.zero_le _) (Ref.to1) ?_
  intro k hk
  obtain ⟨q1,q2⟩:=hrk k hk
  have hst:Bq G S rs c (k+1)=if Go (Bq G S rs c k) c then Bg G (Bq G S rs c k) (rs.getD k []) c else Bq G S rs c k:=rfl
  by_cases hend:k=rs.length
  ·subst hend
   obtain ⟨T,hT⟩:∃ T,T=Bq G S rs c rs.length:=⟨_,rfl⟩
   rw [← hT] at q1 q2 r1 r2 hES ⊢
   have hcT:c<T.le.length:=Nat.lt_of_lt_of_le hcl' q2.len
   have hgk:=fun m hm=>Md r1 hcT m (hm:m≤G)
   refine RN ?_
   intro _
   refine RN ?_
   refine Ah (α:=Nat) (S:=fun m=>([(2,.ref 0 0),(6,.ref 1 0),(9,i64 (c:Int)),(84,i64 (G:Int)),(85,i64 (m:Int))],[some [i64 (G:Int),Ae rs],some [.sl 2 1 0 (Bo G T c m).im.length,.sl 3 1 0 (Bo G T c m).le.length,bl (Bo G T c m).bad],some ((Bo G T c m).im.map Ac),some (Aa (Bo G T c m).le)]))
    (C:=fun m=>m≤G) (μ:=fun m=>G - m) 0 (Nat.zero_le _) (Ref.to1) ?_
   intro m hm
   obtain ⟨u1,u2,u3⟩:=hgk m hm
   have hgs:Bo G T c (m+1)=if Go (Bo G T c m) c then (nx G (Bo G T c m) c m).1 else Bo G T c m:=rfl
   obtain ⟨V,hV⟩:∃ V,V=Bo G T c m:=⟨_,rfl⟩
   by_cases hend:m=G
   ·subst hend
    rw [← hV] at hES ⊢
    refine RN ?_
    intro _
    refine RN ?_
    refine ⟨(V,c+1),hES,by dsimp only;omega,?_⟩
    exact Ref.to1
   rw [← hV] at u1 u2 u3 hgs ⊢
   have hcV:c<V.le.length:=Nat.lt_of_lt_of_le hcT u2.len
   have hVl:=u1.ok.len
   have hVf:=u1.few
   have hrow:=u1.ok.row c (by omega)
   have hde:A7 V.im c m=(V.im.getD c []).getD m 0:=rfl
   have hin:=fJ (I:=V.im) (l:=V.le) (c:=c) (g:=m)
   obtain ⟨t1,t2,t4⟩:=Sm (I:=V.im) (c:=c) (by omega) (.sl 4 1 0 (V.im.getD c []).length)
   have t5:=t4 (V.im.getD c [])
   have hself:V.im.set c (V.im.getD c [])=V.im:=by
    refine List.ext_getElem (by simp) fun j h1 h2=>?_
    rw [List.getElem_set]
    split
    ·rename_i e;subst e;rw [List.getD_eq_getElem?_getD,List.getElem?_eq_getElem h2];rfl
    ·rfl
   rw [hself] at t5
   refine RN ?_
   refine ⟨fun _=>?_,fun h=>absurd h (by omega)⟩
   refine E0 ((Ref.open 2 c (cs:=V.im.map Ac) (cs2:=Aa (V.im.getD c [])) (k:=1) (n:=(V.im.getD c []).length) rfl (Fp (by omega))).trans (Ref.to (F' := [(2,.ref 0 0),(6,.ref 1 0),(9,i64 (c:Int)),(84,i64 (G:Int)),(85,i64 (m:Int))])
    (H' := [some [i64 (G:Int),Ae rs],some [.sl 2 1 0 V.im.length,.sl 3 1 0 V.le.length,bl V.bad],some ((V.im.map Ac).set c (.sl 4 1 0 (V.im.getD c []).length)),some (Aa V.le),some (Aa (V.im.getD c []))]) rfl (by simp [sub,go_sem,↓reduceIte,Nat.reduceEqDiff,Nat.reduceAdd,reduceCtorEq]))) ?_
   generalize (V.im.map Ac).set c (AV.sl 4 1 0 (V.im.getD c []).length)=D at *
   have g1:∀ z,D.getD c z = .sl 4 1 0 (V.im.getD c []).length:=fun z=>F5 t2
   (repeat first | simp only [g1,t1,Int.toNat_natCast,go_sem,↓reduceIte,Nat.reduceEqDiff,Nat.reduceAdd,reduceCtorEq] | (with_reducible refine And.intro ?_ ?_;focus first | assumption | omega | decide | grind))
   refine Bj ?_
   (repeat first | simp only [g1,t1,Int.toNat_natCast,go_sem,↓reduceIte,Nat.reduceEqDiff,Nat.reduceAdd,reduceCtorEq] | (with_reducible refine And.intro ?_ ?_;focus first | assumption | omega | decide | grind))
   skip
   have eo:∀ r:List Int,AV.osl 1 r.length (Aa r)=Ac r:=fun r=>rfl
   refine E0 ((Ref.close 2 c 4 (cs:=D) (k:=1) (n:=(V.im.getD c []).length) (cs2:=Aa (V.im.getD c [])) rfl t2 rfl (by decide) (by simp [Aa])).trans (Ref.gc [0,1,2,3] (F' := [(2,.ref 0 0),(6,.ref 1 0),(9,i64 (c:Int)),(12,i64 (m:Int)),(84,i64 (G:Int)),(85,i64 (m:Int)),(116,bl (V.le.getD c 0 == (c:Int) && !V.bad&&decide ((V.im.getD c []).getD m 0<0)))])
    (H' := [some [i64 (G:Int),Ae rs],some [.sl 2 1 0 V.im.length,.sl 3 1 0 V.le.length,bl V.bad],some (V.im.map Ac),some (Aa V.le)]) rfl ?_ (by simp [sub,Ab,go_sem,↓reduceIte,Nat.reduceEqDiff,Nat.reduceAdd,reduceCtorEq]))) ?_
   ·rw [eo,t5]
    simp only [go_sem,↓reduceIte,Nat.reduceEqDiff,Nat.reduceAdd,reduceCtorEq]
   clear t1 t2 t4 t5 g1
   refine RN ?_
   refine ⟨fun hc6=>?_,fun hc6=>?_⟩
   ·obtain ⟨hc7,hc9⟩:=hc6
    have hgo:Go V c:=hc7
    rw [if_pos hgo] at hgs
    unfold nx at hgs
    rw [if_neg (by omega)] at hgs
    by_cases h2:V.le.length=2000
    ·rw [if_pos h2] at hgs
     have hD:=cY V.im V.le V.bad c m (by omega)
     refine RN ?_
     refine Ft (hD) [1,2,3] ?_
     refine RN ?_
     refine ⟨m+1,by omega,by omega,?_⟩
     rw [hgs]
     exact Ref.gc1 [0,1,2,3]
    ·rw [if_neg h2] at hgs
     obtain ⟨⟨I,l,b⟩,hVe⟩:∃ x,x=V:=⟨_,rfl⟩
     subst hVe
     dsimp only at *
     obtain ⟨r0,J,rfl⟩:∃ r0 J,I=r0 :: J:=by
      cases I with
      | nil=>simp at hVl;omega
      | cons a J=>exact ⟨a,J,rfl⟩
     have hD:=cZ G hG r0 J l b u1.ok (by omega) c m hcV (by omega)
     have hnl:(Eg G (r0 :: J) c m).length=l.length+1:=by unfold Eg;rw [Fq,Fq,List.length_append,hVl];rfl
     refine RN ?_
     refine Ft (hD) [1,2,3] ?_
     refine RN ?_
     refine ⟨m+1,by omega,by omega,?_⟩
     rw [hgs]
     dsimp only
     rw [hnl]
     exact Ref.gc [0,1,4,5] rfl (by simp only [go_sem,↓reduceIte,Nat.reduceEqDiff,Nat.reduceAdd,reduceCtorEq]<;>simp) (by simp [sub,Ab,go_sem,↓reduceIte,Nat.reduceEqDiff,Nat.reduceAdd,reduceCtorEq])
   ·have hgs2 : Bo G T c (m + 1) = V := by
      rw [hgs]
      split
      ·rename_i hg
       unfold nx
       rw [if_pos]
       rcases hc6 with h6 | h6
       ·exact absurd hg (by rintro ⟨g1,g2⟩;rcases h6 with h | h;exact h g1;rw [g2] at h;cases h)
       ·omega
      ·rfl
    refine RN ?_
    refine ⟨m+1,by omega,by omega,?_⟩
    rw [hgs2]
    exact Ref.to1
  ·have hkl:k<rs.length:=by omega
   obtain ⟨T,hT⟩:∃ T,T=Bq G S rs c k:=⟨_,rfl⟩
   obtain ⟨U,hU⟩:∃ U,U=Bq G S rs c (k+1):=⟨_,rfl⟩
   rw [← hT] at q1 q2 hst ⊢
   have hcT:c<T.le.length:=Nat.lt_of_lt_of_le hcl' q2.len
   have hTl:=q1.ok.len
   have hTf:=q1.few
   refine RN ?_
   refine ⟨fun _=>?_,fun h=>absurd h (by omega)⟩
   refine RN ?_
   refine ⟨fun hc2=>?_,fun hc2=>?_⟩
   ·rw [if_pos (by exact hc2),← hU] at hst
    obtain ⟨w1,w2⟩:=hrs k hkl
    have hC:=sS G hG T q1 hc2.2 c hcT (rs.getD k []) w1 w2
    rw [← hst] at hC
    dsimp only [cS] at hC
    refine RN ?_
    refine Ft (hC) [1,2,3] ?_
    refine RN ?_
    refine ⟨k+1,by omega,by omega,?_⟩
    rw [← hU]
    exact Ref.gc1 [0,1,4,5]
   ·rw [if_neg (by intro h;unfold Go at h;rcases hc2 with h2 | h2;exact h2 h.1;rw [h.2] at h2;cases h2)] at hst
    refine RN ?_
    refine ⟨k+1,by omega,by omega,?_⟩
    rw [hst]
    exact Ref.to1
 ·have hdone:=hE.done (by rintro ⟨h1,h2⟩;rcases hc1 with h | h;omega;rw [h2] at h;cases h)
  have hE2:=fun hb=>U5 (rs:=rs) hG hlet hb
  rw [← hdone] at hE2 ⊢
  clear hdone
  refine RN ?_
  refine ⟨fun hb=>?_,fun hb=>?_⟩
  ·(refine RN ?_;try with_reducible exact trivial)
   simp only [Qw,Qx,if_pos hb]
   exact Ref.gc1 []
  ·have hEd:=hE2 hb
   have hbn:¬ S.bad=true:=by rw [hb];decide
   have eA:Qw G S = .tup [.sl 0 1 0 G,bl true]:=if_neg hbn
   have eH:Qx G S=[some ((D1 G S).map Ac)]:=if_neg hbn
   rw [eA,eH]
   have hSf:=hEd.ok.few
   refine RN ?_
   refine Ah (α:=List Nat×Nat) (S:=fun p=>([(2,.ref 0 0),(6,.ref 1 0),(13,.sl 4 1 0 p.1.length),(14,.mp 5),(15,.sl 6 1 0 G),(16,i64 (p.2:Int))],[some [i64 (G:Int),Ae rs],some [.sl 2 1 0 S.im.length,.sl 3 1 0 S.le.length,bl S.bad],some (S.im.map Ac),some (Aa S.le),some (Aa (oz p.1)),some [.mpc (B5 iN (It p.1))],some ((D0 G S p.2 0).map Ac)]))
    (C:=fun p=>Oi G S p.1 p.2) (μ:=fun p=>2001 - p.2) ([0],0) (Sk hEd) ((Ref.nils 6 1 G rfl).trans (Ref.to (by rw [Ak4];simp [Ac,Aa];exact ⟨rfl,rfl⟩) (by simp [sub,Ab]))) ?_
   rintro ⟨O,i⟩ hO
   dsimp only at hO ⊢
   have hol:=Ke hO.od
   have hle2:=hO.le
   have hoz:=H6 O
   refine RN ?_
   refine ⟨fun hc2=>?_,fun hc2=>?_⟩
   ·have hiO:i<O.length:=by omega
    have hmem:=Et hiO
    have hrt:=hO.od.rt _ hmem
    have hgok:=fun m hm=>Mr hEd hO.od hmem m (hm:m≤G)
    have hgp:=Pa S O (O.getD i 0)
    have hOs:=hO.step hEd hiO
    have hpre:=hOs.pre
    have hgm:=kI S O (O.getD i 0)
    refine RN ?_
    refine Ah (α:=Nat) (S:=fun m=>([(2,.ref 0 0),(6,.ref 1 0),(13,.sl 4 1 0 (oG S O (O.getD i 0) m).length),(14,.mp 5),(15,.sl 6 1 0 G),(16,i64 (i:Int)),(139,i64 (G:Int)),(140,i64 (m:Int))],[some [i64 (G:Int),Ae rs],some [.sl 2 1 0 S.im.length,.sl 3 1 0 S.le.length,bl S.bad],some (S.im.map Ac),some (Aa S.le),some (Aa (oz (oG S O (O.getD i 0) m))),some [.mpc (B5 iN (It (oG S O (O.getD i 0) m)))],some ((D0 G S i m).map Ac)]))
     (C:=fun m=>m≤G) (μ:=fun m=>G - m) 0 (Nat.zero_le _) (Ref.to rfl (by simp [sub,Ab,oG])) ?_
    intro m hm
    obtain ⟨v1,v2⟩:=hgok m hm
    obtain ⟨L,hL⟩:=hgp m
    have hst:oG S O (O.getD i 0) (m+1)=C6 (oG S O (O.getD i 0) m) (Cx S (O.getD i 0) m):=rfl
    by_cases hend:m=G
    ·subst hend
     rw [Ak3]
     refine RN ?_
     intro _
     refine RN ?_
     exact ⟨(oG S O (O.getD i 0) m,i+1),hOs,by dsimp only;omega,Ref.to1⟩
    have hpm:∃ L,B7 G S=oG S O (O.getD i 0) (m+1)++L:=by
     obtain ⟨L1,h1⟩:=hpre
     obtain ⟨L2,h2⟩:=hgm (m+1) (G - (m+1))
     rw [show m+1+(G - (m+1))=G by omega] at h2
     exact ⟨L2++L1,by rw [h1,h2,List.append_assoc]⟩
    obtain ⟨x,hx⟩:∃ x,x=O.getD i 0:=⟨_,rfl⟩
    rw [← hx] at hrt hst hL v1 v2 hpm ⊢
    have hat:(oG S O x m).getD i 0=x:=by rw [hL,J6 hiO,hx]
    obtain ⟨V,hV⟩:∃ V,V=oG S O x m:=⟨_,rfl⟩
    obtain ⟨W,hW⟩:∃ W,W=oG S O x (m+1):=⟨_,rfl⟩
    rw [← hV] at v1 v2 hst hL hat ⊢
    rw [← hW] at hst hpm
    have hvl:=Ke v1
    have hvz:=H6 V
    have hiV:i<V.length:=by rw [hL,List.length_append];omega
    have hoa:=Kg hiV
    rw [hat] at hoa
    obtain ⟨i1,i2⟩:=K2 hEd hrt (show m<G by omega)
    have hIm:=fI G S.im S.le S.bad hEd.ok.ok hSf x m hrt.1 (by omega) hG
    rw [i1] at hIm
    have hto:(B7 G S).getD i 0=x:=by
     obtain ⟨L1,h1⟩:=hpm
     obtain ⟨L2,h2⟩:=My V (Cx S x m)
     rw [h1,hst,h2,List.append_assoc,J6 hiV,hat]
    have hdW:Cx S x m∈W:=by rw [hst];exact Wv _ _
    have hpW:A4 (B7 G S) (Cx S x m)=A4 W (Cx S x m):=by
     obtain ⟨L1,h1⟩:=hpm
     rw [h1,Wr hdW]
    have hts:=oH S (B7 G S) m i
    rw [hto,hpW] at hts
    have hset:=Ak5 (G:=G) (S:=S) (i:=i) (m:=m)
    rw [hts] at hset
    have hRat:=Ak0 (G:=G) (S:=S) (i:=i) (m:=m) (g:=m) (by omega)
    rw [if_neg (by omega)] at hRat
    have hRl:=Xh S (B7 G S) m i
    have hTl:=Ak2 G S i m
    have hlk:=fG V (Cx S x m)
    have hip:=fun h=>wL (O:=V) (d:=Cx S x m) h
    obtain ⟨d,hd⟩:∃ d,d=Cx S x m:=⟨_,rfl⟩
    rw [← hd] at hIm i2 hst hts hset hdW hpW hlk hip
    obtain ⟨R,hR2⟩:∃ R,R=Da S (B7 G S) m i:=⟨_,rfl⟩
    rw [← hR2] at hRat hRl hset
    obtain ⟨T2,hT2⟩:∃ T2,T2=D0 G S i (m+1):=⟨_,rfl⟩
    rw [← hT2] at hset
    generalize hT1:D0 G S i m=T1 at *
    have hsz:=Pq (oz V) (by omega)
    simp only [Ad,hvz] at hsz
    have hmT:m<T1.length:=by omega
    have hRg:T1.getD m []=R:=by rw [List.getD_eq_getElem?_getD,hRat];rfl
    obtain ⟨t1,t2,t4⟩:=Sm (I:=T1) (c:=m) hmT (.sl 7 1 0 R.length)
    have t5:=t4 (R++[(A4 W d:Int)])
    have hop:(T1.map Ac)[m]? = some (.osl 1 R.length (Aa R)):=by rw [← hRg];exact Fp hmT
    rw [hset] at t5
    have e9:AV.osl 1 (R.length+1) (Aa R++[i64 (A4 W d:Int)])=Ac (R++[(A4 W d:Int)]):=by simp [Ac,Aa]
    refine RN ?_
    refine ⟨fun _=>?_,fun h=>absurd h (by omega)⟩
    refine E0 ((Ref.open 6 m (cs:=T1.map Ac) (cs2:=Aa R) (k:=1) (n:=R.length) rfl hop).trans (Ref.to (F' := [(2,.ref 0 0),(6,.ref 1 0),(13,.sl 4 1 0 V.length),(14,.mp 5),(15,.sl 6 1 0 G),(16,i64 (i:Int)),(139,i64 (G:Int)),(140,i64 (m:Int))])
     (H' := [some [i64 (G:Int),Ae rs],some [.sl 2 1 0 S.im.length,.sl 3 1 0 S.le.length,bl S.bad],some (S.im.map Ac),some (Aa S.le),some (Aa (oz V)),some [.mpc (B5 iN (It V))],some ((T1.map Ac).set m (.sl 7 1 0 R.length)),some (Aa R)]) rfl (by simp [sub,go_sem,↓reduceIte,Nat.reduceEqDiff,Nat.reduceAdd,reduceCtorEq]))) ?_
    generalize (T1.map Ac).set m (AV.sl 7 1 0 R.length)=D at *
    have g1:∀ z,D.getD m z = .sl 7 1 0 R.length:=fun z=>F5 t2
    refine RN ?_
    simp only [hoa]
    refine A9 hIm (by simp only [go_sem,↓reduceIte,Nat.reduceEqDiff,Nat.reduceAdd,reduceCtorEq,Bl _ _ S.im S.im.length rfl,Hu _ _ S.le S.le.length rfl]) (by first | rfl | simp only [go_sem,↓reduceIte,Nat.reduceEqDiff,Nat.reduceAdd,reduceCtorEq]) ?_
    by_cases hdV:d∈V
    ·rw [if_pos hdV] at hlk
     refine RN ?_
     simp only [hlk,go_sem,↓reduceIte,Nat.reduceEqDiff,Nat.reduceAdd,reduceCtorEq]
     (repeat first | simp only [g1,t1,Int.toNat_natCast,go_sem,↓reduceIte,Nat.reduceEqDiff,Nat.reduceAdd,reduceCtorEq] | refine RX ?_ | decide)
     have hWV:W=V:=by rw [hst];unfold C6;rw [if_pos hdV]
     refine ⟨m+1,by omega,by omega,?_⟩
     rw [← hW,← hT2,hWV]
     rw [hWV] at t5 e9
     refine (Ref.close 6 m 9 (cs:=D.set m (.sl 9 1 0 (R.length+1))) (k:=1) (n:=R.length+1) (cs2:=Aa R++[i64 (A4 V d:Int)]) rfl (by rw [List.getElem?_set_self (by omega)]) rfl (by decide) (by simp [Aa])).trans (Ref.gc [0,1,2,3,4,5,6] rfl ?_ (by simp [sub,Ab,go_sem,↓reduceIte,Nat.reduceEqDiff,Nat.reduceAdd,reduceCtorEq]))
     rw [e9,List.set_set,t5]
     simp only [go_sem,↓reduceIte,Nat.reduceEqDiff,Nat.reduceAdd,reduceCtorEq]
    ·rw [if_neg hdV] at hlk
     have hWV:W=V++[d]:=by rw [hst];unfold C6;rw [if_neg hdV]
     have hpw:A4 W d=V.length:=by rw [hWV];exact lQ hdV
     rw [hpw] at t5 e9
     have hip2:=hip hdV
     rw [← hWV] at hip2
     refine RN ?_
     simp only [hlk,go_sem,↓reduceIte,Nat.reduceEqDiff,Nat.reduceAdd,reduceCtorEq]
     refine RN ?_
     refine A9 hsz (by simp only [go_sem,↓reduceIte,Nat.reduceEqDiff,Nat.reduceAdd,reduceCtorEq,Hu _ _ (oz V) V.length hvz]) (by first | rfl | simp only [go_sem,↓reduceIte,Nat.reduceEqDiff,Nat.reduceAdd,reduceCtorEq]) ?_
     (repeat first | simp only [g1,t1,Int.toNat_natCast,go_sem,↓reduceIte,Nat.reduceEqDiff,Nat.reduceAdd,reduceCtorEq] | refine RX ?_ | decide)
     refine ⟨m+1,by omega,by omega,?_⟩
     rw [← hW,← hT2,hip2]
     have tk1:(Aa (oz V)).take V.length=Aa (oz V):=List.take_of_length_le (by rw [A2,hvz];exact Nat.le_refl _)
     have hwl:W.length=V.length+1:=by rw [hWV];simp
     have eoz:Aa (oz V)++[i64 (d:Int)]=Aa (oz W):=by rw [hWV];simp [Aa,oz]
     refine (Ref.close 6 m 11 (cs:=D.set m (.sl 11 1 0 (R.length+1))) (k:=1) (n:=R.length+1) (cs2:=Aa R++[i64 (V.length:Int)]) rfl (by rw [List.getElem?_set_self (by omega)]) rfl (by decide) (by simp [Aa])).trans (Ref.gc [0,1,2,3,9,5,6] rfl ?_ (by simp [sub,Ab,hwl,go_sem,↓reduceIte,Nat.reduceEqDiff,Nat.reduceAdd,reduceCtorEq]))
     rw [e9,List.set_set,t5,tk1,eoz]
     simp only [go_sem,↓reduceIte,Nat.reduceEqDiff,Nat.reduceAdd,reduceCtorEq]
   ·have hdo:=hO.done hEd (by omega)
    obtain rfl:i=O.length:=by omega
    rw [hdo,Ak1]
    refine RN ?_
    exact Ref.gc1 [6]
end Go.Proofs.YtnompobcofhkpaaGreatDoor
