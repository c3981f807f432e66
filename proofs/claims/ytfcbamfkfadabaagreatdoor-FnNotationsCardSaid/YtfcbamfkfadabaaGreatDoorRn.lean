/- Texts that belong together. -/
import Derived.Test.YtfcbamfkfadabaaGreatDoorR2
set_option maxHeartbeats 16000000
set_option linter.unusedSimpArgs false
set_option linter.unusedVariables false
set_option maxRecDepth 100000
namespace Go.Proofs.YtfcbamfkfadabaaGreatDoor
section
open Go.Gov Go.Ce
open Classical
abbrev ptA (I:List (List Int))(l:List Int)(b:Bool):AV:=.pto [mat I,ints l,bl b] 0
theorem findI_c (I:List (List Int))(l:List Int)(b:Bool)(h:Low l)(hl:l.length≤2000)(c:Nat)(hc:c<l.length):Pure Tryz.prog 260 [ptA I l b,i64 (c:Int)] (i64 (find l c:Nat)) []:=by
 refine pureV0 ok260 rfl rfl ?_;unfold c260
 refine RN ?_
 refine V_loop (α:=Nat) (S:=fun d=>([(0,.pto [mat I,ints l,bl b] 0),(1,i64 (d:Int)),(4,i64 0)],[])) (C:=fun d=>d<l.length∧find l d=find l c) (μ:=fun d=>d) c ⟨hc,rfl⟩ (Ref.to1) ?_
 rintro d ⟨h1,h2⟩
 have hlo:=h d h1
 refine RN ?_
 refine ⟨fun hc1=>?_,fun hc1=>?_⟩
 ·have hst:=find_step h h1 hc1
  refine RN ?_
  refine ⟨(l.getD d 0).toNat,⟨by omega,by rw [← hst];exact h2⟩,by omega,?_⟩
  rw [show (((l.getD d 0).toNat:Nat):Int)=l.getD d 0 by omega]
  exact Ref.to1
 ·have hs:=find_self (l:=l) (c:=d) (by omega)
  rw [← h2,hs]
  (refine RN ?_;try with_reducible exact trivial)
theorem imageI_c (G:Nat)(I:List (List Int))(l:List Int)(b:Bool)(h:Ok G I l)(hl:l.length≤2000)(c g:Nat)(hc:c<l.length)(hg:g<G)(hG:G≤5):Pure Tryz.prog 219 [ptA I l b,i64 (c:Int),i64 (g:Int)] (i64 (img I l c g)) []:=by
 have hcl:c<I.length:=by rw [h.len];exact hc
 have hil:I.length≤2000:=by rw [h.len];exact hl
 have hrow:=h.row c hcl
 have hent:=h.ent c g hcl hg
 have hdef:at2 I c g=(I.getD c []).getD g 0:=rfl
 rw [hdef] at hent
 refine pureV0 ok219 rfl rfl ?_;unfold c219
 refine RN ?_
 refine ⟨fun hc1=>?_,fun hc1=>?_⟩
 ·have e:img I l c g=(find l ((I.getD c []).getD g 0).toNat:Nat):=by unfold img;rw [if_neg (by rw [hdef];omega),hdef]
  have hf:=findI_c I l b h.low hl ((I.getD c []).getD g 0).toNat (by omega)
  rw [show (((I.getD c []).getD g 0).toNat:Int)=(I.getD c []).getD g 0 by omega] at hf
  rw [e]
  refine RN ?_
  refine pureC1 (hf) ?_
  (refine RN ?_;try with_reducible exact trivial)
 ·have e:img I l c g = -1:=by unfold img;rw [if_pos (by rw [hdef];omega)]
  rw [e]
  (refine RN ?_;try with_reducible exact trivial)
end
section
open Go.Gov Go.Ce
open Classical
abbrev cS (o p:Nat)(S:St):List AV:=[.sl o 1 0 S.im.length,.sl p 1 0 S.le.length,bl S.bad]
theorem linkI_w (G : Nat) (I : List (List Int)) (l : List Int) (b : Bool) (h : Ok G I l) (hl : l.length ≤ 2000) (c d g : Nat) (hc : c < l.length) (hd : d < l.length) (hne : c ≠ d) (hg : g < G) (hG : G ≤ 5) :
    Wri Tryz.prog 259 [.ref 0 0,i64 (c:Int),i64 (d:Int),i64 (g:Int)] [some [.sl 1 1 0 I.length,.sl 2 1 0 l.length,bl b],some (I.map oints),some (intsC l)]
     (.tup []) [some [.sl 1 1 0 I.length,.sl 2 1 0 l.length,bl b],some ((put2 (put2 I c g d) d g c).map oints),some (intsC l)]:=by
 have hIl:=h.len
 have hpp:put2 (put2 I c g d) d g c=((I.set c ((I.getD c []).set g (d:Int))).set d ((I.getD d []).set g (c:Int))):=by
  unfold put2
  rw [List.getD_eq_getElem?_getD (l:=List.set _ _ _),List.getElem?_set_ne hne,← List.getD_eq_getElem?_getD]
 have hgc:=h.row c (by omega)
 have hgd:=h.row d (by omega)
 obtain ⟨t1,t2,t3,t4⟩:=two_open (I:=I) (c:=c) (d:=d) (by omega) (by omega) hne (.sl 3 1 0 (I.getD c []).length) (.sl 4 1 0 (I.getD d []).length)
 have o2:((I.map oints).set c (.sl 3 1 0 (I.getD c []).length))[d]? = some (.osl 1 (I.getD d []).length (intsC (I.getD d []))):=by
  rw [List.getElem?_set_ne hne];exact orow_at (by omega)
 have t5:=t4 ((I.getD c []).set g (d:Int)) ((I.getD d []).set g (c:Int))
 rw [hpp]
 refine wriRV ok259 rfl ?_;unfold c259
 refine V_ref ((Ref.open 1 c (cs:=I.map oints) rfl (orow_at (by omega))).trans ((Ref.open 1 d (cs:=(I.map oints).set c (.sl 3 1 0 (I.getD c []).length)) rfl o2).trans (Ref.to (F' := [(0,.ref 0 0),(1,i64 (c:Int)),(2,i64 (d:Int)),(3,i64 (g:Int))])
  (H' := [some [.sl 1 1 0 I.length,.sl 2 1 0 l.length,bl b],some (((I.map oints).set c (.sl 3 1 0 (I.getD c []).length)).set d (.sl 4 1 0 (I.getD d []).length)),some (intsC l),some (intsC (I.getD c [])),some (intsC (I.getD d []))]) rfl (by simp [sub,go_sem,↓reduceIte,Nat.reduceEqDiff,Nat.reduceAdd,reduceCtorEq])))) ?_
 generalize ((I.map oints).set c (AV.sl 3 1 0 (I.getD c []).length)).set d (AV.sl 4 1 0 (I.getD d []).length)=D at *
 have g1:∀ z,D.getD c z = .sl 3 1 0 (I.getD c []).length:=fun z=>getD_of t2
 have g2:∀ z,D.getD d z = .sl 4 1 0 (I.getD d []).length:=fun z=>getD_of t3
 generalize I.getD c []=A at *
 generalize I.getD d []=B at *
 have e1:∀ v:Int,AV.osl 1 A.length (intsC (A.set g v))=oints (A.set g v):=fun v=>by simp [oints]
 have e2:∀ v:Int,AV.osl 1 B.length (intsC (B.set g v))=oints (B.set g v):=fun v=>by simp [oints]
 have t6:(D.set c (oints (A.set g (d:Int))))[d]? = some (.sl 4 1 0 B.length):=by rw [List.getElem?_set_ne hne];exact t3
 refine V_alts ?_
 refine (id:LT _ _ _ _ _ _→_) ?_
 repeat' first
  | simp only [g1,g2,t1,Int.toNat_natCast,go_sem,↓reduceIte,Nat.reduceEqDiff,Nat.reduceAdd,reduceCtorEq]
  | with_reducible refine LT_reg ?_
  | with_reducible refine LT_fin ?_
  | with_reducible exact LT_tt
  | with_reducible refine LT_alt ?_ ?_
  | (with_reducible refine And.intro ?_ ?_;focus first | assumption | omega | grind)
 all_goals refine (Ref.close 1 c 3 (cs:=D) (cs2:=intsC (A.set g (d:Int))) rfl t2 rfl (by decide) (by simp [intsC])).trans ?_
 all_goals rw [e1]
 all_goals refine (Ref.close 1 d 4 (cs:=D.set c (oints (A.set g (d:Int)))) (cs2:=intsC (B.set g (c:Int))) rfl t6 rfl (by decide) (by simp [intsC])).trans ?_
 all_goals rw [e2,t5]
 all_goals exact Ref.gc1 [0,1,2]
theorem linkI_e (G : Nat) (I : List (List Int)) (l : List Int) (b : Bool) (h : Ok G I l) (hl : l.length ≤ 2000) (c g : Nat) (hc : c < l.length) (hg : g < G) (hG : G ≤ 5) :
    Wri Tryz.prog 259 [.ref 0 0,i64 (c:Int),i64 (c:Int),i64 (g:Int)] [some [.sl 1 1 0 I.length,.sl 2 1 0 l.length,bl b],some (I.map oints),some (intsC l)]
     (.tup []) [some [.sl 1 1 0 I.length,.sl 2 1 0 l.length,bl b],some ((put2 (put2 I c g c) c g c).map oints),some (intsC l)]:=by
 have hIl:=h.len
 have hpp:put2 (put2 I c g c) c g c=(I.set c ((I.getD c []).set g (c:Int))):=by
  unfold put2
  rw [List.set_set]
  congr 1
  rw [List.getD_eq_getElem?_getD,List.getElem?_set_self (by omega),Option.getD_some,List.set_set]
 have hgc:=h.row c (by omega)
 obtain ⟨t1,t2,t4⟩:=one_open (I:=I) (c:=c) (by omega) (.sl 3 1 0 (I.getD c []).length)
 have t5:=t4 ((I.getD c []).set g (c:Int))
 rw [hpp]
 refine wriRV ok259 rfl ?_;unfold c259
 refine V_ref ((Ref.open 1 c (cs:=I.map oints) rfl (orow_at (by omega))).trans (Ref.to (F' := [(0,.ref 0 0),(1,i64 (c:Int)),(2,i64 (c:Int)),(3,i64 (g:Int))])
  (H' := [some [.sl 1 1 0 I.length,.sl 2 1 0 l.length,bl b],some ((I.map oints).set c (.sl 3 1 0 (I.getD c []).length)),some (intsC l),some (intsC (I.getD c []))]) rfl (by simp [sub,go_sem,↓reduceIte,Nat.reduceEqDiff,Nat.reduceAdd,reduceCtorEq]))) ?_
 generalize (I.map oints).set c (AV.sl 3 1 0 (I.getD c []).length)=D at *
 have g1:∀ z,D.getD c z = .sl 3 1 0 (I.getD c []).length:=fun z=>getD_of t2
 generalize I.getD c []=A at *
 have e1:∀ v:Int,AV.osl 1 A.length (intsC (A.set g v))=oints (A.set g v):=fun v=>by simp [oints]
 refine V_alts ?_
 refine (id:LT _ _ _ _ _ _→_) ?_
 repeat' first
  | simp only [g1,t1,List.set_set,Int.toNat_natCast,go_sem,↓reduceIte,Nat.reduceEqDiff,Nat.reduceAdd,reduceCtorEq]
  | with_reducible refine LT_reg ?_
  | with_reducible refine LT_fin ?_
  | with_reducible exact LT_tt
  | with_reducible refine LT_alt ?_ ?_
  | (with_reducible refine And.intro ?_ ?_;focus first | assumption | omega | grind)
 all_goals refine (Ref.close 1 c 3 (cs:=D) (cs2:=intsC (A.set g (c:Int))) rfl t2 rfl (by decide) (by simp [intsC])).trans ?_
 all_goals rw [e1,t5]
 all_goals exact Ref.gc1 [0,1,2]
end
section
open Go.Gov Go.Ce
open Classical
theorem sizeK_c (M:List (List Int))(hl:M.length≤1048576):Pure Tryz.prog 154 [mat M] (i64 M.length) []:=by
 refine pureV ok154 rfl ?_;unfold c154
 (refine RN ?_;try with_reducible exact trivial)
theorem defineI_bad (I : List (List Int)) (l : List Int) (b : Bool) (c g : Nat) (hI : I.length = 2000) :
    Wri Tryz.prog 218 [.ref 0 0,i64 (c:Int),i64 (g:Int)] [some [.sl 1 1 0 I.length,.sl 2 1 0 l.length,bl b],some (I.map oints),some (intsC l)]
     (i64 (c:Int)) [some [.sl 1 1 0 I.length,.sl 2 1 0 l.length,bl true],some (I.map oints),some (intsC l)]:=by
 refine wriRV ok218 rfl ?_;unfold c218
 refine RN ?_
 refine pureC2 (sizeK_c I (by omega)) (by simp only [go_sem,↓reduceIte,Nat.reduceEqDiff,Nat.reduceAdd,reduceCtorEq,frz_im _ _ I I.length rfl]) ?_
 refine RN ?_
 refine ⟨fun _=>?_,fun hc=>absurd hc (by omega)⟩
 refine RN ?_
 exact Ref.gc2 [0,1,2]
theorem defineI_w (G : Nat) (hG : G ≤ 5) (r0 : List Int) (J : List (List Int)) (l : List Int) (b : Bool) (h : Ok G (r0 :: J) l) (hn : l.length < 2000) (c g : Nat) (hc : c < l.length) (hg : g < G) :
    Wri Tryz.prog 218 [.ref 0 0,i64 (c:Int),i64 (g:Int)] [some [.sl 1 1 0 (r0 :: J).length,.sl 2 1 0 l.length,bl b],some ((r0 :: J).map oints),some (intsC l)]
     (i64 (l.length:Int)) [some [.sl 3 1 0 (l.length+1),.sl 4 1 0 (l.length+1),bl b],none,none,some ((newI G (r0 :: J) c g).map oints),some (intsC (l++[(l.length:Int)]))]:=by
 have hl:l.length=J.length+1:=by rw [← h.len];rfl
 have hr0:r0.length=G:=by have:=h.row 0 (by simp);simpa using this
 refine wriRV ok218 rfl ?_;unfold c218
 refine RN ?_
 refine pureC2 (sizeK_c (r0 :: J) (by simp;omega)) (by simp only [go_sem,↓reduceIte,Nat.reduceEqDiff,Nat.reduceAdd,reduceCtorEq];simp [mat,ints,frz_im _ _ J J.length rfl]) ?_
 refine RN ?_
 intro _
 refine V_ref ((Ref.open 1 0 (cs:=(r0 :: J).map oints) (cs2:=intsC r0) (k:=1) (n:=r0.length) rfl rfl).trans (Ref.to (F' := [(0,.ref 0 0),(1,i64 (c:Int)),(2,i64 (g:Int)),(6,i64 0),(7,i64 (l.length:Int))])
  (H' := [some [.sl 1 1 0 l.length,.sl 2 1 0 l.length,bl b],some (.sl 3 1 0 r0.length :: J.map oints),some (intsC l),some (intsC r0)]) (by simp [hl]) (by simp [sub,go_sem,↓reduceIte,Nat.reduceEqDiff,Nat.reduceAdd,reduceCtorEq,hl]))) ?_
 have hR:=repeat_c (-1) r0.length (by omega)
 refine V_altsS [(0,.ref 0 0),(1,i64 (c:Int)),(2,i64 (g:Int)),(6,i64 0),(7,i64 (l.length:Int))] [some [.sl 3 1 0 (l.length+1),.sl 2 1 0 l.length,bl b],none,some (intsC l),some ((r0 :: J++[List.replicate r0.length (-1)]).map oints)] ?_ ?_
 ·repeat' first
    | simp only [go_sem,↓reduceIte,Nat.reduceEqDiff,Nat.reduceAdd,reduceCtorEq]
    | with_reducible refine LT_reg ?_
    | with_reducible refine LT_fin ?_
    | with_reducible exact LT_tt
    | with_reducible refine LT_alt ?_ ?_
    | (with_reducible refine And.intro ?_ ?_;focus first | assumption | omega | grind)
    | refine pureC1 (hR) ?_
  have htk:(AV.sl 3 1 0 r0.length :: J.map oints).take l.length = .sl 3 1 0 r0.length :: J.map oints:=List.take_of_length_le (by simp [hl])
  rw [htk]
  have hset:∀ x y:AV,((AV.sl 3 1 0 r0.length :: J.map oints)++[x]).set l.length y=(AV.sl 3 1 0 r0.length :: J.map oints)++[y]:=fun x y=>by
   rw [List.set_append_right _ _ (by simp [hl])];simp [hl]
  refine (Ref.close 7 l.length 5 (k:=1) (n:=r0.length) (cs2:=intsC (List.replicate r0.length (-1))) rfl (by rw [List.getElem?_append_right (by simp [hl])];simp [hl]) rfl (by decide) (by simp [intsC])).trans ?_
  rw [hset]
  refine (Ref.close 7 0 3 (k:=1) (n:=r0.length) (cs2:=intsC r0) rfl rfl rfl (by decide) (by simp [intsC])).trans (Ref.gc [0,1,2,7] rfl ?_ ?_)
  ·simp only [go_sem,↓reduceIte,Nat.reduceEqDiff,Nat.reduceAdd,reduceCtorEq]
   simp [oints,List.map_append,intsC]
  ·simp [sub,fget,go_sem,↓reduceIte,Nat.reduceEqDiff,Nat.reduceAdd,reduceCtorEq]
 ·have hlen2:((r0 :: J)++[List.replicate r0.length (-1)]).length=l.length+1:=by simp [hl]
  have hok2:Ok G ((r0 :: J)++[List.replicate r0.length (-1)]) (l++[(l.length:Int)]):=by rw [hr0];exact app_ok h
  have hL:=linkI_w G ((r0 :: J)++[List.replicate r0.length (-1)]) (l++[(l.length:Int)]) b hok2 (by simp;omega) c l.length g (by simp;omega) (by simp) (by omega) hg hG
  rw [hlen2] at hL
  simp only [List.length_append,List.length_singleton] at hL
  have hnew:put2 (put2 ((r0 :: J)++[List.replicate r0.length (-1)]) c g (l.length:Int)) l.length g (c:Int)=newI G (r0 :: J) c g:=by
   unfold newI;rw [hr0,h.len]
  rw [hnew] at hL
  have hil:intsC l++[i64 (l.length:Int)]=intsC (l++[(l.length:Int)]):=by simp [intsC]
  refine RN ?_
  simp only [hil]
  refine wriC1 (hL) [0,3,5] ?_
  refine RN ?_
  exact Ref.gc2 [0,1,2,3,5]
end
section
open Go.Gov Go.Ce
open Classical
def prA:List (Nat×Nat)→List AV
 | []=>[]
 | p :: r=>i64 (p.1:Int) :: i64 (p.2:Int) :: prA r
theorem prA_len:∀ q:List (Nat×Nat),(prA q).length=2*q.length
 | []=>rfl
 | p :: r=>by simp only [prA,List.length_cons,prA_len r];omega
theorem prA_app:∀ (q r:List (Nat×Nat)),prA (q++r)=prA q++prA r
 | [],r=>rfl
 | p :: q,r=>by simp [prA,prA_app q r]
theorem prA_drop:∀ (i:Nat) (q:List (Nat×Nat)),(prA q).drop (2*i)=prA (q.drop i)
 | 0,q=>rfl
 | i+1,[]=>by simp [prA]
 | i+1,p :: q=>by
  rw [show 2*(i+1)=2*i+2 by omega]
  simp only [prA,List.drop_succ_cons]
  exact prA_drop i q
theorem prA_at0 {q:List (Nat×Nat)}{i:Nat}{a e:Nat}(h:q[i]? = some (a,e))(d:AV):(prA q).getD (2*i) d=i64 (a:Int)∧(prA q).getD (2*i+1) d=i64 (e:Int):=by
 have h1:(prA q).drop (2*i)=i64 (a:Int) :: i64 (e:Int) :: prA (q.drop (i+1)):=by
  obtain ⟨hi,he⟩:=List.getElem?_eq_some_iff.1 h
  rw [prA_drop,List.drop_eq_getElem_cons hi,he]
  rfl
 constructor
 ·rw [List.getD_eq_getElem?_getD,show 2*i=2*i+0 by omega,← List.getElem?_drop,h1];rfl
 ·rw [List.getD_eq_getElem?_getD,← List.getElem?_drop,h1];rfl
theorem prA_rn (τ:Nat→Option Nat):∀ q:List (Nat×Nat),rnmL τ (prA q)=prA q
 | []=>by simp [prA,rnmL]
 | p :: r=>by simp [prA,rnmL,rnm,prA_rn τ r]
theorem prA_mv (Ps R:List (Nat×Nat))(n:Nat)(x y:Int)(hn:n=R.length)(hx:0≤x)(hy:0≤y):((prA (Ps++R)).drop (2*Ps.length)).take (n*2)++[i64 x,i64 y]=prA (R++[(x.toNat,y.toNat)]):=by
 have ex:((x.toNat:Nat):Int)=x:=by omega
 have ey:((y.toNat:Nat):Int)=y:=by omega
 rw [prA_drop,List.drop_left,List.take_of_length_le (by rw [prA_len,hn];omega),prA_app]
 simp only [prA,ex,ey]
theorem identifyI_w (G : Nat) (hG : G ≤ 5) (I0 : List (List Int)) (l0 : List Int) (b : Bool) (h : Ok G I0 l0) (hfew : l0.length ≤ 2000) (c d : Nat) (hc : c < l0.length) (hd : d < l0.length) :
    Wri Tryz.prog 258 [.ref 0 0,i64 (c:Int),i64 (d:Int)] [some [.sl 1 1 0 I0.length,.sl 2 1 0 l0.length,bl b],some (I0.map oints),some (intsC l0)]
     (.tup []) [some [.sl 1 1 0 I0.length,.sl 2 1 0 l0.length,bl b],some ((ident G I0 l0 c d).1.map oints),some (intsC (ident G I0 l0 c d).2)]:=by
 have hl:=h.len
 refine wriRV ok258 rfl ?_;unfold c258
 refine RN ?_
 refine V_loop (α := List (List Int) × List Int × List (Nat × Nat) × List (Nat × Nat)) (S := fun p => ([(0, .ref 0 0), (6, .sl 3 2 (2 * p.2.2.1.length) p.2.2.2.length)],
     [some [.sl 1 1 0 I0.length,.sl 2 1 0 l0.length,bl b],some (p.1.map oints),some (intsC p.2.1),some (prA (p.2.2.1++p.2.2.2))]))
  (C:=fun p=>IdI G I0 l0 (ident G I0 l0 c d) p.1 p.2.1 p.2.2.2∧meas p.2.1 p.2.2.2≤12001) (μ:=fun p=>meas p.2.1 p.2.2.2) (I0,l0,[],[(c,d)]) ?_ ?_ ?_
 ·have hr:=roots_le l0
  refine ⟨IdI.start h hc hd,?_⟩
  unfold meas
  simp only [List.length_cons,List.length_nil]
  omega
 ·exact Ref.to1
 rintro ⟨I,l,Ps,Qs⟩ ⟨hI,hm⟩
 dsimp only at hI hm ⊢
 have hIl:I.length=l0.length:=by rw [hI.ok.len,hI.len]
 have hll:=hI.len
 have hQ:Qs.length≤12001:=by
  have:Qs.length≤meas l Qs:=by unfold meas;omega
  omega
 have hpl:=prA_len (Ps++Qs)
 rw [List.length_append] at hpl
 refine RN ?_
 refine ⟨fun hc1=>?_,fun hc1=>?_⟩
 ·obtain ⟨⟨a, e⟩, Q, rfl⟩ : ∃ p Q, Qs = p :: Q := by
    cases Qs with
    | nil=>simp at hc1
    | cons p Q=>exact ⟨p,Q,rfl⟩
  have hab:=hI.qb (a,e) (by simp)
  dsimp only at hab
  have hat:=prA_at0 (q:=Ps++(a,e) :: Q) (i:=Ps.length) (a:=a) (e:=e) (by simp)
  have hF1:=findI_c I l b hI.ok.low (by omega) a hab.1
  have hF2:=findI_c I l b hI.ok.low (by omega) e hab.2
  have f1:=find_ok hI.ok.low a hab.1
  have f2:=find_ok hI.ok.low e hab.2
  have hsame:=fun h=>hI.same h
  have hstep:=fun h=>hI.step hG rfl rfl h
  generalize find l a=x at *
  generalize find l e=y at *
  have ha:=fun z=>(hat z).1
  have he:=fun z=>(hat z).2
  have hI0:I.length=I0.length:=by omega
  simp only [List.length_cons] at hpl hQ
  refine RN ?_
  simp only [ha,he,go_sem,↓reduceIte,Nat.reduceEqDiff,Nat.reduceAdd,reduceCtorEq]
  refine ⟨by omega,⟨by omega,by omega⟩,by omega,?_⟩
  refine pureC hF1 (by simp only [go_sem,↓reduceIte,Nat.reduceEqDiff,Nat.reduceAdd,reduceCtorEq,frz_im _ _ I I0.length hI0,frz_li _ _ l l0.length hll];simp only [ptA,mat,ints,hI0,hll]) (by first | rfl | simp only [go_sem,↓reduceIte,Nat.reduceEqDiff,Nat.reduceAdd,reduceCtorEq]) ?_
  simp only [ha,he,go_sem,↓reduceIte,Nat.reduceEqDiff,Nat.reduceAdd,reduceCtorEq]
  refine pureC hF2 (by simp only [go_sem,↓reduceIte,Nat.reduceEqDiff,Nat.reduceAdd,reduceCtorEq,frz_im _ _ I I0.length hI0,frz_li _ _ l l0.length hll];simp only [ptA,mat,ints,hI0,hll]) (by first | rfl | simp only [go_sem,↓reduceIte,Nat.reduceEqDiff,Nat.reduceAdd,reduceCtorEq]) ?_
  refine RN ?_
  refine ⟨fun hxy=>?_,fun hxy=>?_⟩
  ·have hI2:=hsame (by omega)
   have hm2:meas l Q+1=meas l ((a,e) :: Q):=by unfold meas;simp;omega
   refine RN ?_
   refine ⟨(I,l,Ps++[(a,e)],Q),⟨hI2,by dsimp only;omega⟩,by dsimp only;omega,?_⟩
   exact Ref.to (by simp) (by simp [sub,fget];omega)
  ·obtain ⟨hI2,hm2⟩:=hstep (by omega)
   have emx:(if (x:Int)<(y:Int) then (y:Int) else (x:Int))=((max x y:Nat):Int):=by split<;>omega
   have emn:(if (y:Int)<(x:Int) then (y:Int) else (x:Int))=((min x y:Nat):Int):=by split<;>omega
   obtain ⟨lo,hlo⟩:∃ lo,lo=min x y:=⟨_,rfl⟩
   obtain ⟨hi,hhi⟩:∃ hi,hi=max x y:=⟨_,rfl⟩
   rw [← hlo,← hhi] at hI2 hm2
   rw [← hhi] at emx
   rw [← hlo] at emn
   have hlh:lo<hi:=by omega
   have hhl:hi<l.length:=by omega
   have hloI:lo<I.length:=by omega
   have hhiI:hi<I.length:=by omega
   obtain ⟨t1,t2,t3,t4⟩:=two_open (I:=I) (c:=hi) (d:=lo) hhiI hloI (by omega) (.sl 4 1 0 (I.getD hi []).length) (.sl 5 1 0 (I.getD lo []).length)
   have o2:((I.map oints).set hi (.sl 4 1 0 (I.getD hi []).length))[lo]? = some (.osl 1 (I.getD lo []).length (intsC (I.getD lo []))):=by
    rw [List.getElem?_set_ne (by omega)];exact orow_at hloI
   refine W_ref ((Ref.open 1 hi (cs:=I.map oints) rfl (orow_at hhiI)).trans ((Ref.open 1 lo (cs:=(I.map oints).set hi (.sl 4 1 0 (I.getD hi []).length)) rfl o2).trans (Ref.to (F' := [(0,.ref 0 0),(6,.sl 3 2 (2*Ps.length) (Q.length+1)),(7,i64 (x:Int)),(8,i64 (y:Int))])
    (H' := [some [.sl 1 1 0 I0.length,.sl 2 1 0 l0.length,bl b],some (((I.map oints).set hi (.sl 4 1 0 (I.getD hi []).length)).set lo (.sl 5 1 0 (I.getD lo []).length)),some (intsC l),some (prA (Ps++(a,e) :: Q)),some (intsC (I.getD hi [])),some (intsC (I.getD lo []))]) rfl (by simp [sub,fget])))) ?_
   have hQl:=mQ_len I lo hi
   have hst:=mR_step hloI (show lo≠hi by omega)
   have hln:=mR_len hloI (show lo≠hi by omega)
   have hse2:mI I lo hi G=I.set lo (mR I lo hi G):=(mI_set hloI (show lo≠hi by omega) G).1
   have hmo:=fun k hk=>(mI_ok hI.ok (by omega) hhl k hk:Ok G (mI I lo hi k) l∧_)
   have hBe:∀ k,k≤G→∀ j,j<G → -1≤(mR I lo hi k).getD j 0∧(mR I lo hi k).getD j 0<(l.length:Int):=fun k hk j hj=>(hmo k hk).1.ent lo j (by rw [mI_len];exact hloI) hj
   have hAe:∀ k,k<G → -1≤(I.getD hi []).getD k 0∧(I.getD hi []).getD k 0<(l.length:Int):=fun k hk=>hI.ok.ent hi k hhiI hk
   have hR0:mR I lo hi 0=I.getD lo []:=rfl
   have hra:=hI.ok.row hi hhiI
   have hrb:=hI.ok.row lo hloI
   have t5:=t4 (I.getD hi []) (mR I lo hi G)
   have t7:((I.set hi (I.getD hi [])).set lo (mR I lo hi G))=mI I lo hi G:=by
    rw [hse2]
    congr 1
    refine List.ext_getElem (by simp) fun j a b=>?_
    rw [List.getElem_set]
    split
    ·rename_i e;subst e;simp [b]
    ·rfl
   rw [t7] at t5
   obtain ⟨D,hD⟩:∃ D,D=((I.map oints).set hi (.sl 4 1 0 (I.getD hi []).length)).set lo (.sl 5 1 0 (I.getD lo []).length):=⟨_,rfl⟩
   have hDr:∀ τ:Nat→Option Nat,τ 4=some 4→τ 5=some 5→rnmL τ D=D:=fun τ h6 h7=>by
    rw [hD,rnmL_set,rnmL_set,rnmL_orows]
    simp [rnm,h6,h7]
   rw [← hD] at t1 t2 t3 t5 ⊢
   have g1:∀ d,D.getD hi d = .sl 4 1 0 (I.getD hi []).length:=fun d=>getD_of t2
   have g2:∀ d,D.getD lo d = .sl 5 1 0 (I.getD lo []).length:=fun d=>getD_of t3
   rw [hra] at t2 g1
   rw [hrb] at t3 g2
   (repeat first | simp only [emx,emn,g1,g2,t1,Int.toNat_natCast,go_sem,↓reduceIte,Nat.reduceEqDiff,Nat.reduceAdd,reduceCtorEq] | with_reducible refine V_W ?_ | (with_reducible refine And.intro ?_ ?_;focus first | assumption | omega | decide | grind) | (with_reducible refine Br.mk ?_ ?_;focus (intros;omega)))
   refine V_loop (α:=Nat×List (Nat×Nat)) (S:=fun q=>([(0,.ref 0 0),(6,.sl 3 2 (2*q.2.length) (Q.length+1+(mQ I lo hi q.1).length)),(7,i64 (lo:Int)),(8,i64 (hi:Int)),(55,.sl 4 1 0 G),(56,i64 (G:Int)),(57,i64 (q.1:Int))],
    [some [.sl 1 1 0 I0.length,.sl 2 1 0 l0.length,bl b],some D,some (intsC (l.set hi (lo:Int))),some (prA (q.2++((a,e) :: Q++mQ I lo hi q.1))),some (intsC (I.getD hi [])),some (intsC (mR I lo hi q.1))])) (C:=fun q=>q.1≤G) (μ:=fun q=>G - q.1) (0,Ps) (Nat.zero_le _) ?_ ?_
   ·have hm0:mQ I lo hi 0=[]:=rfl
    simp only [hm0,hR0,List.append_nil,List.length_nil,Nat.add_zero]
    exact Ref.to1
   rintro ⟨k,Pk⟩ hk
   dsimp only at hk ⊢
   have hQk:=hQl k
   obtain ⟨hs1,hs2⟩:=hst k
   have hlk:=hln k
   have hBk:=hBe k hk
   obtain ⟨B,hB⟩:∃ B,B=mR I lo hi k:=⟨_,rfl⟩
   obtain ⟨W,hW⟩:∃ W,W=mQ I lo hi k:=⟨_,rfl⟩
   rw [← hB] at hs1 hs2 hlk hBk ⊢
   rw [← hW] at hs2 hQk ⊢
   have hpk:=prA_len (Pk++((a,e) :: Q++W))
   simp only [List.length_append,List.length_cons] at hpk
   (repeat first | simp only [g1,g2,t1,hra,hrb,Int.toNat_natCast,go_sem,↓reduceIte,Nat.reduceEqDiff,Nat.reduceAdd,reduceCtorEq] | with_reducible refine V_W ?_ | (with_reducible refine And.intro ?_ ?_;focus first | assumption | omega | decide | grind) | (with_reducible refine Br.mk ?_ ?_;focus (intros;omega)))
   refine ⟨fun hc4=>?_,fun hc4=>?_⟩
   ·have hkG:k<G:=by omega
    have hAk:=hAe k hkG
    have hBg:=hBk k hkG
    (repeat first | simp only [g1,g2,t1,hra,hrb,Int.toNat_natCast,go_sem,↓reduceIte,Nat.reduceEqDiff,Nat.reduceAdd,reduceCtorEq] | with_reducible refine V_W ?_ | (with_reducible refine And.intro ?_ ?_;focus first | assumption | omega | decide | grind) | (with_reducible refine Br.mk ?_ ?_;focus (intros;omega)))
    refine ⟨fun hc5=>?_,fun hc5=>?_⟩
    ·rw [if_pos (.inl hc5)] at hs1
     rw [if_neg (by omega)] at hs2
     refine RN ?_
     refine ⟨(k+1,Pk),by dsimp only;omega,by dsimp only;omega,?_⟩
     dsimp only
     rw [hs1,hs2]
     exact Ref.to1
    ·(repeat first | simp only [g1,g2,t1,hra,hrb,Int.toNat_natCast,go_sem,↓reduceIte,Nat.reduceEqDiff,Nat.reduceAdd,reduceCtorEq] | with_reducible refine V_W ?_ | (with_reducible refine And.intro ?_ ?_;focus first | assumption | omega | decide | grind) | (with_reducible refine Br.mk ?_ ?_;focus (intros;omega)))
     refine ⟨fun hc6=>?_,fun hc6=>?_⟩
     ·rw [if_pos (.inr (by omega))] at hs1
      rw [if_pos ⟨by omega,by omega⟩] at hs2
      (repeat first | simp only [g1,g2,t1,hra,hrb,Int.toNat_natCast,go_sem,↓reduceIte,Nat.reduceEqDiff,Nat.reduceAdd,reduceCtorEq] | with_reducible refine V_W ?_ | (with_reducible refine And.intro ?_ ?_;focus first | assumption | omega | decide | grind) | (with_reducible refine Br.mk ?_ ?_;focus (intros;omega)))
      refine ⟨(k+1,[]),by dsimp only;omega,by dsimp only;omega,?_⟩
      dsimp only
      rw [hs1,hs2]
      have hmv:=prA_mv Pk ((a,e) :: (Q++W)) (Q.length+1+W.length) ((I.getD hi []).getD k 0) (B.getD k 0) (by simp;omega) (by omega) (by omega)
      rw [hmv]
      refine Ref.gc [0,1,2,7,4,5] rfl ?_ (by simp [sub,fget,go_sem,↓reduceIte,Nat.reduceEqDiff,Nat.reduceAdd,reduceCtorEq,Nat.add_assoc])
      simp only [go_sem,↓reduceIte,Nat.reduceEqDiff,Nat.reduceAdd,reduceCtorEq]
      rw [prA_rn,hDr]
      ·simp [List.append_assoc]
      ·rfl
      ·rfl
     ·rw [if_neg (by omega)] at hs1
      rw [if_neg (by omega)] at hs2
      (repeat first | simp only [g1,g2,t1,hra,hrb,Int.toNat_natCast,go_sem,↓reduceIte,Nat.reduceEqDiff,Nat.reduceAdd,reduceCtorEq] | with_reducible refine V_W ?_ | (with_reducible refine And.intro ?_ ?_;focus first | assumption | omega | decide | grind) | (with_reducible refine Br.mk ?_ ?_;focus (intros;omega)))
      refine ⟨(k+1,Pk),by dsimp only;omega,by dsimp only;omega,?_⟩
      dsimp only
      rw [hs1,hs2]
      exact Ref.to1
   ·obtain rfl:k=G:=by omega
    refine RN ?_
    refine ⟨(mI I lo hi k,l.set hi (lo:Int),Pk++[(a,e)],Q++W),⟨?_,?_⟩,?_,?_⟩
    ·dsimp only;rw [hW];exact hI2
    ·dsimp only;rw [hW];omega
    ·dsimp only;rw [hW];exact hm2
    ·have ea:AV.osl 1 k (intsC (I.getD hi []))=oints (I.getD hi []):=by simp only [oints,hra]
     have eb:AV.osl 1 k (intsC B)=oints B:=by simp only [oints,hlk,hrb]
     have t6:(D.set hi (oints (I.getD hi [])))[lo]? = some (.sl 5 1 0 k):=by rw [List.getElem?_set_ne (by omega)];exact t3
     refine (Ref.close 1 hi 4 (cs:=D) (n:=k) (cs2:=intsC (I.getD hi [])) rfl t2 rfl (by decide) (by rw [len_intsC,hra,Nat.mul_one])).trans ?_
     rw [ea]
     refine (Ref.close 1 lo 5 (cs:=D.set hi (oints (I.getD hi []))) (n:=k) (cs2:=intsC B) rfl t6 rfl (by decide) (by rw [len_intsC,hlk,hrb,Nat.mul_one])).trans ?_
     rw [eb,hB,t5]
     exact Ref.gc [0,1,2,3] rfl (by simp only [go_sem,↓reduceIte,Nat.reduceEqDiff,Nat.reduceAdd,reduceCtorEq,prA_rn];simp) (by simp [sub,fget,go_sem,↓reduceIte,Nat.reduceEqDiff,Nat.reduceAdd,reduceCtorEq];omega)
 ·obtain rfl : Qs = [] := by
    cases Qs with
    | nil=>rfl
    | cons p Q=>exact absurd hc1 (by simp)
  have hdn:=hI.done
  rw [hdn]
  refine RN ?_
  exact Ref.gc2 [0,1,2]
end
section
open Go.Gov Go.Ce
open Classical
theorem closeAtI_w (G : Nat) (hG : G ≤ 5) (S : St) (h : Ss G S) (hb : S.bad = false) (c : Nat) (hc : c < S.le.length) (w : List Int) (hw : Let G w) (hwl : w.length ≤ 1048576) :
    Wri Tryz.prog 217 [.ref 0 0,ints w,i64 (c:Int)] [some (cS 1 2 S),some (S.im.map oints),some (intsC S.le)]
     (.tup []) [some (cS 3 4 (cls G S w c)),none,none,some ((cls G S w c).im.map oints),some (intsC (cls G S w c).le)]:=by
 have hSl:=h.ok.len
 by_cases h0:w.length=0
 ·have e:cls G S w c=S:=by unfold cls;rw [if_pos h0]
  rw [e]
  refine wriRV ok217 rfl ?_;unfold c217
  refine RN ?_
  refine ⟨fun _=>?_,fun hc1=>absurd (by omega) hc1⟩
  refine RN ?_
  exact (Ref.mv 1 (cs:=S.im.map oints) (F' := [(0,.tup [])]) (H' := [some [.sl 3 1 0 S.im.length,.sl 2 1 0 S.le.length,bl S.bad],none,some (intsC S.le),some (S.im.map oints)]) rfl (by simp only [go_sem,↓reduceIte,Nat.reduceEqDiff,Nat.reduceAdd,reduceCtorEq]<;>rfl) (by simp [sub,fget,go_sem,↓reduceIte,Nat.reduceEqDiff,Nat.reduceAdd,reduceCtorEq])).trans
   (Ref.mv 2 (cs:=intsC S.le) rfl (by simp only [go_sem,↓reduceIte,Nat.reduceEqDiff,Nat.reduceAdd,reduceCtorEq]<;>rfl) (by simp [sub,fget,go_sem,↓reduceIte,Nat.reduceEqDiff,Nat.reduceAdd,reduceCtorEq]))
 ·have ecl:cls G S w c=if (clK G S w c (w.length - 1)).1.bad=true then (clK G S w c (w.length - 1)).1 else fin G (clK G S w c (w.length - 1)).1 c (clK G S w c (w.length - 1)).2 (w.getD (w.length - 1) 0).toNat:=by unfold cls;rw [if_neg h0]
  refine wriRV ok217 rfl ?_;unfold c217
  refine RN ?_
  intro _
  refine RN ?_
  obtain ⟨n,hn⟩:∃ n,n=w.length - 1:=⟨_,rfl⟩
  have hwn:w.length=n+1:=by omega
  have en:((w.length:Int) - 1 - 0).toNat=n:=by omega
  obtain ⟨u,hu⟩:∃ u,u=w.take n:=⟨_,rfl⟩
  have hul:u.length=n:=by rw [hu,List.length_take];omega
  have hug:∀ k,k<n→u.getD k 0=w.getD k 0:=fun k hk=>by
   rw [hu,List.getD_eq_getElem?_getD,List.getElem?_take_of_lt hk,← List.getD_eq_getElem?_getD]
  refine V_loop (α:=Nat) (S:=fun k=>([(0,.ref 0 0),(1,ints w),(2,i64 (c:Int)),(6,i64 ((clK G S w c k).2:Int)),(7,i64 ((w.length:Int) - 1)),(23,ints u),(24,i64 (n:Int)),(25,i64 (k:Int))],
   [some (cS 3 4 (clK G S w c k).1),none,none,some ((clK G S w c k).1.im.map oints),some (intsC (clK G S w c k).1.le)]))
   (C:=fun k=>k≤n∧(clK G S w c k).1.bad=false) (μ:=fun k=>n - k) 0 ⟨by omega,hb⟩ ?_ ?_
  ·have etk:(intsC w).take n=intsC u:=by rw [hu];simp [intsC,List.map_take]
   rw [en,etk]
   refine (Ref.mv 1 (cs:=S.im.map oints) (F' := [(0,.ref 0 0),(1,ints w),(2,i64 (c:Int)),(6,i64 (c:Int)),(7,i64 ((w.length:Int) - 1)),(23,ints u),(24,i64 (n:Int)),(25,i64 0)]) (H' := [some [.sl 3 1 0 S.im.length,.sl 2 1 0 S.le.length,bl S.bad],none,some (intsC S.le),some (S.im.map oints)]) rfl (by simp only [go_sem,↓reduceIte,Nat.reduceEqDiff,Nat.reduceAdd,reduceCtorEq]<;>rfl) (by simp [sub,fget,go_sem,↓reduceIte,Nat.reduceEqDiff,Nat.reduceAdd,reduceCtorEq,hul])).trans
    (Ref.mv 2 (cs:=intsC S.le) rfl (by simp only [go_sem,↓reduceIte,Nat.reduceEqDiff,Nat.reduceAdd,reduceCtorEq]<;>rfl) (by simp [sub,fget,go_sem,↓reduceIte,Nat.reduceEqDiff,Nat.reduceAdd,reduceCtorEq,clK]))
  rintro k ⟨hk,hkb⟩
  obtain ⟨s1,s2,s3⟩:=clK_ok h hw hc k (by omega)
  have hcs:clK G S w c (k+1)=nx G (clK G S w c k).1 (clK G S w c k).2 (w.getD k 0).toNat:=by rw [clK,if_neg (by rw [hkb];decide)]
  have hct:=Nat.lt_of_lt_of_le hc s2.len
  have hcb:=fun hb2=>clK_bad (G:=G) (S:=S) (w:=w) (c:=c) (k:=k+1) (n:=w.length - 1) hb2
  obtain ⟨p,hp⟩:∃ p,p=clK G S w c k:=⟨_,rfl⟩
  rw [← hp] at s1 s2 s3 hcs hct hkb ⊢
  obtain ⟨⟨I,l,b⟩,d⟩:=p
  dsimp only at s1 s2 s3 hcs hct hkb ⊢
  subst hkb
  have hIl:=s1.ok.len
  have hfew:=s1.few
  dsimp only at hIl hfew
  have hIm:=fun x g hx hg=>imageI_c G I l false s1.ok hfew x g hx hg hG
  refine RN ?_
  refine ⟨fun hc2=>?_,fun hc2=>?_⟩
  ·have hlet:=hw k (by omega)
   have hw2:=hug k (by omega)
   obtain ⟨g,hg⟩:∃ g,g=(w.getD k 0).toNat:=⟨_,rfl⟩
   have hgz:w.getD k 0=(g:Int):=by omega
   rw [hgz] at hw2
   rw [← hg] at hcs
   have hI1:=hIm d g s3 (by omega)
   have b1:=s1.ok.img (c:=d) (g:=g) (by dsimp only;omega) (by omega)
   dsimp only at b1
   unfold nx at hcs
   dsimp only at hcs
   refine RN ?_
   simp only [hw2,go_sem,↓reduceIte,Nat.reduceEqDiff,Nat.reduceAdd,reduceCtorEq]
   refine pureC hI1 (by simp only [go_sem,↓reduceIte,Nat.reduceEqDiff,Nat.reduceAdd,reduceCtorEq,frz_im _ _ I I.length rfl,frz_li _ _ l l.length rfl]) (by first | rfl | simp only [go_sem,↓reduceIte,Nat.reduceEqDiff,Nat.reduceAdd,reduceCtorEq]) ?_
   refine RN ?_
   refine ⟨fun hc3=>?_,fun hc3=>?_⟩
   ·rw [if_neg (by omega)] at hcs
    by_cases h2:l.length=2000
    ·rw [if_pos h2] at hcs
     have hcl:=hcb (by rw [hcs]) (by omega)
     rw [hcl,hcs] at ecl
     dsimp only at ecl
     rw [if_pos rfl] at ecl
     rw [ecl]
     have hD:=defineI_bad I l false d g (by omega)
     dsimp only [cS]
     refine wriC1 (hD) [0,3,4] ?_
     refine RN ?_
     exact Ref.gc2 [0,1,2,3,4]
    ·rw [if_neg h2] at hcs
     obtain ⟨r0,J,rfl⟩:∃ r0 J,I=r0 :: J:=by
      cases I with
      | nil=>simp at hIl;omega
      | cons a J=>exact ⟨a,J,rfl⟩
     have hD:=defineI_w G hG r0 J l false s1.ok (by omega) d g s3 (by omega)
     have hnl:(newI G (r0 :: J) d g).length=l.length+1:=by unfold newI;rw [put2_len,put2_len,List.length_append,hIl];rfl
     dsimp only [cS]
     refine wriC1 (hD) [0,3,4] ?_
     refine RN ?_
     refine ⟨k+1,⟨by omega,by rw [hcs]⟩,by omega,?_⟩
     rw [hcs]
     dsimp only [cS]
     rw [hnl]
     exact Ref.gc2 [0,1,2,5,6]
   ·rw [if_pos (by omega)] at hcs
    have e:(((img I l d g).toNat:Nat):Int)=img I l d g:=by omega
    dsimp only [cS]
    refine RN ?_
    refine ⟨k+1,⟨by omega,by rw [hcs]⟩,by omega,?_⟩
    rw [hcs]
    dsimp only [cS]
    rw [e]
    exact Ref.to1
  ·obtain rfl:k=n:=by omega
   rw [← hn,← hp] at ecl
   dsimp only at ecl
   rw [if_neg (by decide)] at ecl
   have hlet:=hw k (by omega)
   obtain ⟨g,hg⟩:∃ g,g=(w.getD k 0).toNat:=⟨_,rfl⟩
   have hgz:w.getD k 0=(g:Int):=by omega
   have en2:((w.length:Int) - 1).toNat=k:=by omega
   rw [← hg] at ecl
   have hI1:=hIm d g s3 (by omega)
   have hI2:=hIm c g hct (by omega)
   have b1:=s1.ok.img (c:=d) (g:=g) (by dsimp only;omega) (by omega)
   have b2:=s1.ok.img (c:=c) (g:=g) (by dsimp only;omega) (by omega)
   dsimp only at b1 b2
   have hfin:fin G ⟨I,l,false⟩ c d g=if 0≤img I l d g then ⟨(ident G I l (img I l d g).toNat c).1,(ident G I l (img I l d g).toNat c).2,false⟩
    else if 0≤img I l c g then ⟨(ident G I l (img I l c g).toNat d).1,(ident G I l (img I l c g).toNat d).2,false⟩
    else ⟨put2 (put2 I d g (c:Int)) c g (d:Int),l,false⟩:=rfl
   rw [← ecl] at hfin
   clear ecl
   generalize cls G S w c=Z at *
   have hlenR:∀ a b', a<l.length→b' < l.length→(ident G I l a b').1.length=I.length∧(ident G I l a b').2.length=l.length:=fun a b' ha hb' => by
    have:=idI_end hG _ (Nat.le_refl _) (IdI.start s1.ok ha hb')
    change IdI G I l (ident G I l a b') (ident G I l a b').1 (ident G I l a b').2 [] at this
    exact ⟨by rw [this.ok.len,this.len,hIl],this.len⟩
   dsimp only [cS]
   (repeat first | simp only [en2,hgz,Int.toNat_natCast,go_sem,↓reduceIte,Nat.reduceEqDiff,Nat.reduceAdd,reduceCtorEq] | with_reducible refine V_W ?_ | (with_reducible refine And.intro ?_ ?_;focus first | assumption | omega | decide | grind))
   refine pureC hI1 (by simp only [go_sem,↓reduceIte,Nat.reduceEqDiff,Nat.reduceAdd,reduceCtorEq,frz_im _ _ I I.length rfl,frz_li _ _ l l.length rfl]) (by first | rfl | simp only [go_sem,↓reduceIte,Nat.reduceEqDiff,Nat.reduceAdd,reduceCtorEq]) ?_
   simp only [go_sem,↓reduceIte,Nat.reduceEqDiff,Nat.reduceAdd,reduceCtorEq]
   refine pureC hI2 (by simp only [go_sem,↓reduceIte,Nat.reduceEqDiff,Nat.reduceAdd,reduceCtorEq,frz_im _ _ I I.length rfl,frz_li _ _ l l.length rfl]) (by first | rfl | simp only [go_sem,↓reduceIte,Nat.reduceEqDiff,Nat.reduceAdd,reduceCtorEq]) ?_
   refine RN ?_
   refine ⟨fun hc3=>?_,fun hc3=>?_⟩
   ·rw [if_pos hc3] at hfin
    have hD:=identifyI_w G hG I l false s1.ok hfew (img I l d g).toNat c (by omega) hct
    obtain ⟨r1,r2⟩:=hlenR (img I l d g).toNat c (by omega) hct
    rw [show (((img I l d g).toNat:Nat):Int)=img I l d g by omega] at hD
    rw [hfin]
    generalize ident G I l (img I l d g).toNat c=R at *
    refine wriC1 (hD) [0,3,4] ?_
    refine RN ?_
    exact Ref.gc [0,1,2,3,4] rfl (by simp only [go_sem,↓reduceIte,Nat.reduceEqDiff,Nat.reduceAdd,reduceCtorEq,r1,r2]<;>rfl) (by simp [sub,fget,go_sem,↓reduceIte,Nat.reduceEqDiff,Nat.reduceAdd,reduceCtorEq])
   ·rw [if_neg (by omega)] at hfin
    refine RN ?_
    refine ⟨fun hc4=>?_,fun hc4=>?_⟩
    ·rw [if_pos hc4] at hfin
     have hD:=identifyI_w G hG I l false s1.ok hfew (img I l c g).toNat d (by omega) s3
     obtain ⟨r1,r2⟩:=hlenR (img I l c g).toNat d (by omega) s3
     rw [show (((img I l c g).toNat:Nat):Int)=img I l c g by omega] at hD
     rw [hfin]
     generalize ident G I l (img I l c g).toNat d=R at *
     refine wriC1 (hD) [0,3,4] ?_
     refine RN ?_
     exact Ref.gc [0,1,2,3,4] rfl (by simp only [go_sem,↓reduceIte,Nat.reduceEqDiff,Nat.reduceAdd,reduceCtorEq,r1,r2]<;>rfl) (by simp [sub,fget,go_sem,↓reduceIte,Nat.reduceEqDiff,Nat.reduceAdd,reduceCtorEq])
    ·rw [if_neg (by omega)] at hfin
     have hpl:(put2 (put2 I d g (c:Int)) c g (d:Int)).length=I.length:=by rw [put2_len,put2_len]
     rw [hfin]
     by_cases hcd:c=d
     ·subst hcd
      have hL:=linkI_e G I l false s1.ok hfew c g hct (by omega) hG
      dsimp only
      rw [hpl]
      refine wriC1 (hL) [0,3,4] ?_
      refine RN ?_
      exact Ref.gc2 [0,1,2,3,4]
     ·have hL:=linkI_w G I l false s1.ok hfew c d g hct s3 hcd (by omega) hG
      have hcm:put2 (put2 I c g (d:Int)) d g (c:Int)=put2 (put2 I d g (c:Int)) c g (d:Int):=by
       unfold put2
       rw [List.getD_eq_getElem?_getD (l:=List.set I c _),List.getElem?_set_ne hcd,← List.getD_eq_getElem?_getD,List.getD_eq_getElem?_getD (l:=List.set I d _),List.getElem?_set_ne (fun e=>hcd e.symm),← List.getD_eq_getElem?_getD,List.set_comm _ _ hcd]
      rw [hcm] at hL
      dsimp only
      rw [hpl]
      refine wriC1 (hL) [0,3,4] ?_
      refine RN ?_
      exact Ref.gc2 [0,1,2,3,4]
end
end Go.Proofs.YtfcbamfkfadabaaGreatDoor
namespace Go.Ce
open Classical
theorem oG_mono (S:St)(O:List Nat)(x m:Nat):∀ k:Nat,∃ L,oG S O x (m+k)=oG S O x m++L
 | 0=>⟨[],by simp⟩
 | k+1=>by
  obtain ⟨L,h⟩:=oG_mono S O x m k
  obtain ⟨L2,h2⟩:=psN_pre (oG S O x (m+k)) (im2 S x (m+k))
  exact ⟨L++L2,by rw [← Nat.add_assoc,oG,h2,h,List.append_assoc]⟩
theorem oF_pre (G:Nat)(S:St):∀ (k:Nat) (O:List Nat) (i:Nat),∃ L,oF G S k O i=O++L
 | 0,O,i=>⟨[],by simp [oF]⟩
 | k+1,O,i=>by
  unfold oF
  split
  ·obtain ⟨L,h⟩:=oF_pre G S k (oG S O (O.getD i 0) G) (i+1)
   obtain ⟨L2,h2⟩:=oG_pre S O (O.getD i 0) G
   exact ⟨L2++L,by rw [h,h2,List.append_assoc]⟩
  ·exact ⟨[],by simp⟩
theorem Oi.pre {G:Nat}{S:St}{O:List Nat}{i:Nat}(h:Oi G S O i):∃ L,ord G S=O++L:=by
 obtain ⟨L,hL⟩:=oF_pre G S (2001 - i) O i
 exact ⟨L,by rw [← h.res,hL]⟩
noncomputable def tbW (G:Nat)(S:St)(i m:Nat):List (List Int):=(List.range G).map fun g=>tbR S (ord G S) g (if g<m then i+1 else i)
theorem tbW_len (G:Nat)(S:St)(i m:Nat):(tbW G S i m).length=G:=by simp [tbW]
theorem tbW_at {G:Nat}{S:St}{i m g:Nat}(hg:g<G):(tbW G S i m)[g]? = some (tbR S (ord G S) g (if g<m then i+1 else i)):=by simp [tbW,hg]
theorem tbW_next (G:Nat)(S:St)(i:Nat):tbW G S i G=tbW G S (i+1) 0:=by
 unfold tbW
 refine List.map_congr_left fun g hg=>?_
 have:=List.mem_range.1 hg
 rw [if_pos this,if_neg (by omega)]
theorem tbW_set {G:Nat}{S:St}{i m:Nat}:(tbW G S i m).set m (tbR S (ord G S) m (i+1))=tbW G S i (m+1):=by
 refine List.ext_getElem (by simp [tbW]) fun j h1 h2=>?_
 rw [List.getElem_set]
 simp only [tbW,List.getElem_map,List.getElem_range]
 by_cases e:m=j
 ·subst e
  rw [if_pos rfl,if_pos (by omega)]
 ·rw [if_neg e]
  by_cases h:j<m
  ·rw [if_pos h,if_pos (by omega)]
  ·rw [if_neg h,if_neg (by omega)]
theorem tbW_end (G:Nat)(S:St):tbW G S (ord G S).length 0=tbl G S:=by
 unfold tbW tbl
 refine List.map_congr_left fun g _=>by rw [if_neg (by omega)]
theorem tbW_nil (G:Nat)(S:St):tbW G S 0 0=List.replicate G []:=by
 refine List.ext_getElem (by simp [tbW]) fun j h1 h2=>?_
 simp [tbW,tbR]
def nmM (O:List Nat):List (Int×Int):=O.zipIdx.map fun p=>((p.1:Int),(p.2:Int))
theorem nmM_app (O:List Nat)(d:Nat):nmM (O++[d])=nmM O++[((d:Int),(O.length:Int))]:=by simp [nmM,List.zipIdx_append]
open Go.Gov in
theorem ifind_nm (d:Nat):∀ (O:List Nat) (s:Nat),(ifind (d:Int) ((O.zipIdx s).map fun p=>((p.1:Int),(p.2:Int)))).map (·.2)=if d∈O then some ((s+plc O d:Nat):Int) else none
 | [],s=>by simp [ifind]
 | x :: O,s=>by
  have ih:=ifind_nm d O (s+1)
  simp only [List.zipIdx_cons,List.map_cons,ifind]
  by_cases e:d=x
  ·subst e
   simp [plc]
  ·have e2:((d:Int) == (x:Int))=false:=by simpa using (by omega:¬ (d:Int)=x)
   rw [e2,if_neg (by decide),Option.map_map]
   have e3:((fun q:Nat×Int=>q.2) ∘ fun q:Nat×Int=>(q.1+1,q.2))=fun q=>q.2:=rfl
   rw [e3,ih]
   by_cases hm:d∈O
   ·rw [if_pos hm,if_pos (by simp [hm])]
    congr 2
    unfold plc
    rw [List.idxOf_cons,beq_eq_false_iff_ne.2 (fun h=>e h.symm:x≠d),cond_false]
    omega
   ·rw [if_neg hm,if_neg (by simp [hm,e])]
open Go.Gov in
theorem ilook_nm (O:List Nat)(d:Nat):ilook (d:Int) (nmM O)=if d∈O then some (plc O d:Int) else none:=by
 unfold ilook nmM
 rw [ifind_nm]
 simp
open Go.Gov in
theorem iput_nm {O:List Nat}{d:Nat}(h:d∉O):iput (d:Int) (O.length:Int) (nmM O)=nmM (O++[d]):=by
 have h1:=ilook_nm O d
 rw [if_neg h] at h1
 unfold ilook at h1
 rw [Option.map_eq_none_iff] at h1
 unfold iput
 rw [h1,nmM_app]
end Go.Ce
namespace Go.Proofs.YtfcbamfkfadabaaGreatDoor
open Go.Gov Go.Ce
open Classical
def iN (n:Int):AV:=i64 n
theorem iN_app (n:Int):iN n=i64 n:=rfl
theorem imap_etaN (l:List (Int×Int)):imap (fun x=>i64 x) l=imap iN l:=rfl
theorem mput_iN (l:List (Int×Int))(n x:Int):mput (.int .i64 n) (i64 x) (imap iN l)=imap iN (iput n x l):=mput_imap iN l n x
attribute [go_sem] iN_app imap_etaN mput_iN
abbrev enA (G:Nat)(S:St):AV:=if S.bad=true then .tup [nilS,bl false] else .tup [.sl 0 1 0 G,bl true]
noncomputable abbrev enH (G:Nat)(S:St):Heap:=if S.bad=true then [] else [some ((tbl G S).map oints)]
theorem enumerated_p (G : Nat) (hG1 : 1 ≤ G) (hG : G ≤ 5) (rs : List (List Int)) (hrl : rs.length ≤ 1048576) (hrs : ∀ k, k < rs.length → Let G (rs.getD k []) ∧ (rs.getD k []).length ≤ 1048576) :
    Pure Tryz.prog 183 [preA G rs,nilS] (enA G (enum G rs)) (enH G (enum G rs)):=by
 have hlet:∀ k,k<rs.length→Let G (rs.getD k []):=fun k hk=>(hrs k hk).1
 have hR:=repeat_c (-1) G (by omega)
 refine pureRV ok183 rfl ?_;unfold c183
 refine RN ?_
 refine pureC1 (hR) ?_
 refine RN ?_
 refine V_loop (α:=Unit) (S:=fun _=>([(2,.ref 0 0),(6,.ref 1 0),(29,nilS),(30,i64 0),(31,i64 0)],[some [i64 (G:Int),mat rs],some [.sl 2 1 0 1,.sl 3 1 0 1,bl false],some [oints (List.replicate G (-1))],some (intsC [0])])) (C:=fun _=>True) (μ:=fun _=>0) () trivial ?_ ?_
 ·refine (Ref.close 3 0 2 (k:=1) (n:=G) (cs2:=intsC (List.replicate G (-1))) rfl rfl rfl (by decide) (by simp [intsC])).trans (Ref.gc [0,5,3,4] rfl ?_ (by simp [sub,fget,go_sem,↓reduceIte,Nat.reduceEqDiff,Nat.reduceAdd,reduceCtorEq]))
  simp only [go_sem,↓reduceIte,Nat.reduceEqDiff,Nat.reduceAdd,reduceCtorEq]
  simp [oints,intsC]
 rintro _ _
 refine RN ?_
 intro _
 refine RN ?_
 refine V_loop (α:=St×Nat) (S:=fun p=>([(2,.ref 0 0),(6,.ref 1 0),(9,i64 (p.2:Int))],[some [i64 (G:Int),mat rs],some [.sl 2 1 0 p.1.im.length,.sl 3 1 0 p.1.le.length,bl p.1.bad],some (p.1.im.map oints),some (intsC p.1.le)]))
  (C:=fun p=>Ei G rs p.1 p.2) (μ:=fun p=>2001 - p.2) (Go.Ce.start G,0) (ei_start G rs) (Ref.to (by simp [Go.Ce.start,oints]) (by simp [sub,fget])) ?_
 rintro ⟨S,c⟩ hE
 dsimp only at hE ⊢
 have hfew:=hE.ok.few
 have hle:=hE.le
 have hSl:=hE.ok.ok.len
 have hsz:=sizeK_c S.im (by omega)
 refine RN ?_
 refine pureC hsz (by simp only [go_sem,↓reduceIte,Nat.reduceEqDiff,Nat.reduceAdd,reduceCtorEq,frz_im _ _ S.im S.im.length rfl]) (by first | rfl | simp only [go_sem,↓reduceIte,Nat.reduceEqDiff,Nat.reduceAdd,reduceCtorEq]) ?_
 refine RN ?_
 refine ⟨fun hc1=>?_,fun hc1=>?_⟩
 ·obtain ⟨hcl,hcb⟩:=hc1
  have hcl' : c<S.le.length:=by omega
  have hES:=hE.step hG hlet hcl' hcb
  obtain ⟨r1,r2⟩:=rlK_ok hG hE.ok hlet hcl' rs.length (Nat.le_refl _)
  have hrk:=fun k hk=>rlK_ok hG hE.ok hlet hcl' k (hk:k≤rs.length)
  refine RN ?_
  refine V_loop (α:=Nat) (S:=fun k=>([(2,.ref 0 0),(6,.ref 1 0),(9,i64 (c:Int)),(56,mat rs),(57,i64 (rs.length:Int)),(58,i64 (k:Int))],[some [i64 (G:Int),mat rs],some [.sl 2 1 0 (rlK G S rs c k).im.length,.sl 3 1 0 (rlK G S rs c k).le.length,bl (rlK G S rs c k).bad],some ((rlK G S rs c k).im.map oints),some (intsC (rlK G S rs c k).le)]))
   (C:=fun k=>k≤rs.length) (μ:=fun k=>rs.length - k) 0 (Nat.zero_le _) (Ref.to1) ?_
  intro k hk
  obtain ⟨q1,q2⟩:=hrk k hk
  have hst:rlK G S rs c (k+1)=if Go (rlK G S rs c k) c then cls G (rlK G S rs c k) (rs.getD k []) c else rlK G S rs c k:=rfl
  by_cases hend:k=rs.length
  ·subst hend
   obtain ⟨T,hT⟩:∃ T,T=rlK G S rs c rs.length:=⟨_,rfl⟩
   rw [← hT] at q1 q2 r1 r2 hES ⊢
   have hcT:c<T.le.length:=Nat.lt_of_lt_of_le hcl' q2.len
   have hgk:=fun m hm=>glK_ok r1 hcT m (hm:m≤G)
   refine RN ?_
   intro _
   refine RN ?_
   refine V_loop (α:=Nat) (S:=fun m=>([(2,.ref 0 0),(6,.ref 1 0),(9,i64 (c:Int)),(84,i64 (G:Int)),(85,i64 (m:Int))],[some [i64 (G:Int),mat rs],some [.sl 2 1 0 (glK G T c m).im.length,.sl 3 1 0 (glK G T c m).le.length,bl (glK G T c m).bad],some ((glK G T c m).im.map oints),some (intsC (glK G T c m).le)]))
    (C:=fun m=>m≤G) (μ:=fun m=>G - m) 0 (Nat.zero_le _) (Ref.to1) ?_
   intro m hm
   obtain ⟨u1,u2,u3⟩:=hgk m hm
   have hgs:glK G T c (m+1)=if Go (glK G T c m) c then (nx G (glK G T c m) c m).1 else glK G T c m:=rfl
   obtain ⟨V,hV⟩:∃ V,V=glK G T c m:=⟨_,rfl⟩
   by_cases hend:m=G
   ·subst hend
    rw [← hV] at hES ⊢
    refine RN ?_
    intro _
    refine RN ?_
    refine ⟨(V,c+1),hES,by dsimp only;omega,?_⟩
    exact Ref.to1
   rw [← hV] at u1 u2 u3 hgs ⊢
   have hcV:c<V.le.length:=Nat.lt_of_lt_of_le hcT u2.len
   have hVl:=u1.ok.len
   have hVf:=u1.few
   have hrow:=u1.ok.row c (by omega)
   have hde:at2 V.im c m=(V.im.getD c []).getD m 0:=rfl
   have hin:=img_neg (I:=V.im) (l:=V.le) (c:=c) (g:=m)
   obtain ⟨t1,t2,t4⟩:=one_open (I:=V.im) (c:=c) (by omega) (.sl 4 1 0 (V.im.getD c []).length)
   have t5:=t4 (V.im.getD c [])
   have hself:V.im.set c (V.im.getD c [])=V.im:=by
    refine List.ext_getElem (by simp) fun j h1 h2=>?_
    rw [List.getElem_set]
    split
    ·rename_i e;subst e;rw [List.getD_eq_getElem?_getD,List.getElem?_eq_getElem h2];rfl
    ·rfl
   rw [hself] at t5
   refine RN ?_
   refine ⟨fun _=>?_,fun h=>absurd h (by omega)⟩
   refine V_ref ((Ref.open 2 c (cs:=V.im.map oints) (cs2:=intsC (V.im.getD c [])) (k:=1) (n:=(V.im.getD c []).length) rfl (orow_at (by omega))).trans (Ref.to (F' := [(2,.ref 0 0),(6,.ref 1 0),(9,i64 (c:Int)),(84,i64 (G:Int)),(85,i64 (m:Int))])
    (H' := [some [i64 (G:Int),mat rs],some [.sl 2 1 0 V.im.length,.sl 3 1 0 V.le.length,bl V.bad],some ((V.im.map oints).set c (.sl 4 1 0 (V.im.getD c []).length)),some (intsC V.le),some (intsC (V.im.getD c []))]) rfl (by simp [sub,go_sem,↓reduceIte,Nat.reduceEqDiff,Nat.reduceAdd,reduceCtorEq]))) ?_
   generalize (V.im.map oints).set c (AV.sl 4 1 0 (V.im.getD c []).length)=D at *
   have g1:∀ z,D.getD c z = .sl 4 1 0 (V.im.getD c []).length:=fun z=>getD_of t2
   (repeat first | simp only [g1,t1,Int.toNat_natCast,go_sem,↓reduceIte,Nat.reduceEqDiff,Nat.reduceAdd,reduceCtorEq] | (with_reducible refine And.intro ?_ ?_;focus first | assumption | omega | decide | grind))
   refine V_W ?_
   (repeat first | simp only [g1,t1,Int.toNat_natCast,go_sem,↓reduceIte,Nat.reduceEqDiff,Nat.reduceAdd,reduceCtorEq] | (with_reducible refine And.intro ?_ ?_;focus first | assumption | omega | decide | grind))
   skip
   have eo:∀ r:List Int,AV.osl 1 r.length (intsC r)=oints r:=fun r=>rfl
   refine V_ref ((Ref.close 2 c 4 (cs:=D) (k:=1) (n:=(V.im.getD c []).length) (cs2:=intsC (V.im.getD c [])) rfl t2 rfl (by decide) (by simp [intsC])).trans (Ref.gc [0,1,2,3] (F' := [(2,.ref 0 0),(6,.ref 1 0),(9,i64 (c:Int)),(12,i64 (m:Int)),(84,i64 (G:Int)),(85,i64 (m:Int)),(116,bl (V.le.getD c 0 == (c:Int) && !V.bad&&decide ((V.im.getD c []).getD m 0<0)))])
    (H' := [some [i64 (G:Int),mat rs],some [.sl 2 1 0 V.im.length,.sl 3 1 0 V.le.length,bl V.bad],some (V.im.map oints),some (intsC V.le)]) rfl ?_ (by simp [sub,fget,go_sem,↓reduceIte,Nat.reduceEqDiff,Nat.reduceAdd,reduceCtorEq]))) ?_
   ·rw [eo,t5]
    simp only [go_sem,↓reduceIte,Nat.reduceEqDiff,Nat.reduceAdd,reduceCtorEq]
   clear t1 t2 t4 t5 g1
   refine RN ?_
   refine ⟨fun hc6=>?_,fun hc6=>?_⟩
   ·obtain ⟨hc7,hc9⟩:=hc6
    have hgo:Go V c:=hc7
    rw [if_pos hgo] at hgs
    unfold nx at hgs
    rw [if_neg (by omega)] at hgs
    by_cases h2:V.le.length=2000
    ·rw [if_pos h2] at hgs
     have hD:=defineI_bad V.im V.le V.bad c m (by omega)
     refine RN ?_
     refine wriC1 (hD) [1,2,3] ?_
     refine RN ?_
     refine ⟨m+1,by omega,by omega,?_⟩
     rw [hgs]
     exact Ref.gc1 [0,1,2,3]
    ·rw [if_neg h2] at hgs
     obtain ⟨⟨I,l,b⟩,hVe⟩:∃ x,x=V:=⟨_,rfl⟩
     subst hVe
     dsimp only at *
     obtain ⟨r0,J,rfl⟩:∃ r0 J,I=r0 :: J:=by
      cases I with
      | nil=>simp at hVl;omega
      | cons a J=>exact ⟨a,J,rfl⟩
     have hD:=defineI_w G hG r0 J l b u1.ok (by omega) c m hcV (by omega)
     have hnl:(newI G (r0 :: J) c m).length=l.length+1:=by unfold newI;rw [put2_len,put2_len,List.length_append,hVl];rfl
     refine RN ?_
     refine wriC1 (hD) [1,2,3] ?_
     refine RN ?_
     refine ⟨m+1,by omega,by omega,?_⟩
     rw [hgs]
     dsimp only
     rw [hnl]
     exact Ref.gc [0,1,4,5] rfl (by simp only [go_sem,↓reduceIte,Nat.reduceEqDiff,Nat.reduceAdd,reduceCtorEq]<;>simp) (by simp [sub,fget,go_sem,↓reduceIte,Nat.reduceEqDiff,Nat.reduceAdd,reduceCtorEq])
   ·have hgs2 : glK G T c (m + 1) = V := by
      rw [hgs]
      split
      ·rename_i hg
       unfold nx
       rw [if_pos]
       rcases hc6 with h6 | h6
       ·exact absurd hg (by rintro ⟨g1,g2⟩;rcases h6 with h | h;exact h g1;rw [g2] at h;cases h)
       ·omega
      ·rfl
    refine RN ?_
    refine ⟨m+1,by omega,by omega,?_⟩
    rw [hgs2]
    exact Ref.to1
  ·have hkl:k<rs.length:=by omega
   obtain ⟨T,hT⟩:∃ T,T=rlK G S rs c k:=⟨_,rfl⟩
   obtain ⟨U,hU⟩:∃ U,U=rlK G S rs c (k+1):=⟨_,rfl⟩
   rw [← hT] at q1 q2 hst ⊢
   have hcT:c<T.le.length:=Nat.lt_of_lt_of_le hcl' q2.len
   have hTl:=q1.ok.len
   have hTf:=q1.few
   refine RN ?_
   refine ⟨fun _=>?_,fun h=>absurd h (by omega)⟩
   refine RN ?_
   refine ⟨fun hc2=>?_,fun hc2=>?_⟩
   ·rw [if_pos (by exact hc2),← hU] at hst
    obtain ⟨w1,w2⟩:=hrs k hkl
    have hC:=closeAtI_w G hG T q1 hc2.2 c hcT (rs.getD k []) w1 w2
    rw [← hst] at hC
    dsimp only [cS] at hC
    refine RN ?_
    refine wriC1 (hC) [1,2,3] ?_
    refine RN ?_
    refine ⟨k+1,by omega,by omega,?_⟩
    rw [← hU]
    exact Ref.gc1 [0,1,4,5]
   ·rw [if_neg (by intro h;unfold Go at h;rcases hc2 with h2 | h2;exact h2 h.1;rw [h.2] at h2;cases h2)] at hst
    refine RN ?_
    refine ⟨k+1,by omega,by omega,?_⟩
    rw [hst]
    exact Ref.to1
 ·have hdone:=hE.done (by rintro ⟨h1,h2⟩;rcases hc1 with h | h;omega;rw [h2] at h;cases h)
  have hE2:=fun hb=>enum_ed (rs:=rs) hG hlet hb
  rw [← hdone] at hE2 ⊢
  clear hdone
  refine RN ?_
  refine ⟨fun hb=>?_,fun hb=>?_⟩
  ·(refine RN ?_;try with_reducible exact trivial)
   simp only [enA,enH,if_pos hb]
   exact Ref.gc1 []
  ·have hEd:=hE2 hb
   have hbn:¬ S.bad=true:=by rw [hb];decide
   have eA:enA G S = .tup [.sl 0 1 0 G,bl true]:=if_neg hbn
   have eH:enH G S=[some ((tbl G S).map oints)]:=if_neg hbn
   rw [eA,eH]
   have hSf:=hEd.ok.few
   refine RN ?_
   refine V_loop (α:=List Nat×Nat) (S:=fun p=>([(2,.ref 0 0),(6,.ref 1 0),(13,.sl 4 1 0 p.1.length),(14,.mp 5),(15,.sl 6 1 0 G),(16,i64 (p.2:Int))],[some [i64 (G:Int),mat rs],some [.sl 2 1 0 S.im.length,.sl 3 1 0 S.le.length,bl S.bad],some (S.im.map oints),some (intsC S.le),some (intsC (oz p.1)),some [.mpc (imap iN (nmM p.1))],some ((tbW G S p.2 0).map oints)]))
    (C:=fun p=>Oi G S p.1 p.2) (μ:=fun p=>2001 - p.2) ([0],0) (oi_start hEd) ((Ref.nils 6 1 G rfl).trans (Ref.to (by rw [tbW_nil];simp [oints,intsC];exact ⟨rfl,rfl⟩) (by simp [sub,fget]))) ?_
   rintro ⟨O,i⟩ hO
   dsimp only at hO ⊢
   have hol:=od_len hO.od
   have hle2:=hO.le
   have hoz:=oz_len O
   refine RN ?_
   refine ⟨fun hc2=>?_,fun hc2=>?_⟩
   ·have hiO:i<O.length:=by omega
    have hmem:=getD_memN hiO
    have hrt:=hO.od.rt _ hmem
    have hgok:=fun m hm=>oG_ok hEd hO.od hmem m (hm:m≤G)
    have hgp:=oG_pre S O (O.getD i 0)
    have hOs:=hO.step hEd hiO
    have hpre:=hOs.pre
    have hgm:=oG_mono S O (O.getD i 0)
    refine RN ?_
    refine V_loop (α:=Nat) (S:=fun m=>([(2,.ref 0 0),(6,.ref 1 0),(13,.sl 4 1 0 (oG S O (O.getD i 0) m).length),(14,.mp 5),(15,.sl 6 1 0 G),(16,i64 (i:Int)),(139,i64 (G:Int)),(140,i64 (m:Int))],[some [i64 (G:Int),mat rs],some [.sl 2 1 0 S.im.length,.sl 3 1 0 S.le.length,bl S.bad],some (S.im.map oints),some (intsC S.le),some (intsC (oz (oG S O (O.getD i 0) m))),some [.mpc (imap iN (nmM (oG S O (O.getD i 0) m)))],some ((tbW G S i m).map oints)]))
     (C:=fun m=>m≤G) (μ:=fun m=>G - m) 0 (Nat.zero_le _) (Ref.to rfl (by simp [sub,fget,oG])) ?_
    intro m hm
    obtain ⟨v1,v2⟩:=hgok m hm
    obtain ⟨L,hL⟩:=hgp m
    have hst:oG S O (O.getD i 0) (m+1)=psN (oG S O (O.getD i 0) m) (im2 S (O.getD i 0) m):=rfl
    by_cases hend:m=G
    ·subst hend
     rw [tbW_next]
     refine RN ?_
     intro _
     refine RN ?_
     exact ⟨(oG S O (O.getD i 0) m,i+1),hOs,by dsimp only;omega,Ref.to1⟩
    have hpm:∃ L,ord G S=oG S O (O.getD i 0) (m+1)++L:=by
     obtain ⟨L1,h1⟩:=hpre
     obtain ⟨L2,h2⟩:=hgm (m+1) (G - (m+1))
     rw [show m+1+(G - (m+1))=G by omega] at h2
     exact ⟨L2++L1,by rw [h1,h2,List.append_assoc]⟩
    obtain ⟨x,hx⟩:∃ x,x=O.getD i 0:=⟨_,rfl⟩
    rw [← hx] at hrt hst hL v1 v2 hpm ⊢
    have hat:(oG S O x m).getD i 0=x:=by rw [hL,getD_pre hiO,hx]
    obtain ⟨V,hV⟩:∃ V,V=oG S O x m:=⟨_,rfl⟩
    obtain ⟨W,hW⟩:∃ W,W=oG S O x (m+1):=⟨_,rfl⟩
    rw [← hV] at v1 v2 hst hL hat ⊢
    rw [← hW] at hst hpm
    have hvl:=od_len v1
    have hvz:=oz_len V
    have hiV:i<V.length:=by rw [hL,List.length_append];omega
    have hoa:=oz_at hiV
    rw [hat] at hoa
    obtain ⟨i1,i2⟩:=im2_ok hEd hrt (show m<G by omega)
    have hIm:=imageI_c G S.im S.le S.bad hEd.ok.ok hSf x m hrt.1 (by omega) hG
    rw [i1] at hIm
    have hto:(ord G S).getD i 0=x:=by
     obtain ⟨L1,h1⟩:=hpm
     obtain ⟨L2,h2⟩:=psN_pre V (im2 S x m)
     rw [h1,hst,h2,List.append_assoc,getD_pre hiV,hat]
    have hdW:im2 S x m∈W:=by rw [hst];exact psN_mem _ _
    have hpW:plc (ord G S) (im2 S x m)=plc W (im2 S x m):=by
     obtain ⟨L1,h1⟩:=hpm
     rw [h1,plc_pre hdW]
    have hts:=tbR_succ S (ord G S) m i
    rw [hto,hpW] at hts
    have hset:=tbW_set (G:=G) (S:=S) (i:=i) (m:=m)
    rw [hts] at hset
    have hRat:=tbW_at (G:=G) (S:=S) (i:=i) (m:=m) (g:=m) (by omega)
    rw [if_neg (by omega)] at hRat
    have hRl:=tbR_len S (ord G S) m i
    have hTl:=tbW_len G S i m
    have hlk:=ilook_nm V (im2 S x m)
    have hip:=fun h=>iput_nm (O:=V) (d:=im2 S x m) h
    obtain ⟨d,hd⟩:∃ d,d=im2 S x m:=⟨_,rfl⟩
    rw [← hd] at hIm i2 hst hts hset hdW hpW hlk hip
    obtain ⟨R,hR2⟩:∃ R,R=tbR S (ord G S) m i:=⟨_,rfl⟩
    rw [← hR2] at hRat hRl hset
    obtain ⟨T2,hT2⟩:∃ T2,T2=tbW G S i (m+1):=⟨_,rfl⟩
    rw [← hT2] at hset
    generalize hT1:tbW G S i m=T1 at *
    have hsz:=size_c (oz V) (by omega)
    simp only [ints,hvz] at hsz
    have hmT:m<T1.length:=by omega
    have hRg:T1.getD m []=R:=by rw [List.getD_eq_getElem?_getD,hRat];rfl
    obtain ⟨t1,t2,t4⟩:=one_open (I:=T1) (c:=m) hmT (.sl 7 1 0 R.length)
    have t5:=t4 (R++[(plc W d:Int)])
    have hop:(T1.map oints)[m]? = some (.osl 1 R.length (intsC R)):=by rw [← hRg];exact orow_at hmT
    rw [hset] at t5
    have e9:AV.osl 1 (R.length+1) (intsC R++[i64 (plc W d:Int)])=oints (R++[(plc W d:Int)]):=by simp [oints,intsC]
    refine RN ?_
    refine ⟨fun _=>?_,fun h=>absurd h (by omega)⟩
    refine V_ref ((Ref.open 6 m (cs:=T1.map oints) (cs2:=intsC R) (k:=1) (n:=R.length) rfl hop).trans (Ref.to (F' := [(2,.ref 0 0),(6,.ref 1 0),(13,.sl 4 1 0 V.length),(14,.mp 5),(15,.sl 6 1 0 G),(16,i64 (i:Int)),(139,i64 (G:Int)),(140,i64 (m:Int))])
     (H' := [some [i64 (G:Int),mat rs],some [.sl 2 1 0 S.im.length,.sl 3 1 0 S.le.length,bl S.bad],some (S.im.map oints),some (intsC S.le),some (intsC (oz V)),some [.mpc (imap iN (nmM V))],some ((T1.map oints).set m (.sl 7 1 0 R.length)),some (intsC R)]) rfl (by simp [sub,go_sem,↓reduceIte,Nat.reduceEqDiff,Nat.reduceAdd,reduceCtorEq]))) ?_
    generalize (T1.map oints).set m (AV.sl 7 1 0 R.length)=D at *
    have g1:∀ z,D.getD m z = .sl 7 1 0 R.length:=fun z=>getD_of t2
    refine RN ?_
    simp only [hoa]
    refine pureC hIm (by simp only [go_sem,↓reduceIte,Nat.reduceEqDiff,Nat.reduceAdd,reduceCtorEq,frz_im _ _ S.im S.im.length rfl,frz_li _ _ S.le S.le.length rfl]) (by first | rfl | simp only [go_sem,↓reduceIte,Nat.reduceEqDiff,Nat.reduceAdd,reduceCtorEq]) ?_
    by_cases hdV:d∈V
    ·rw [if_pos hdV] at hlk
     refine RN ?_
     simp only [hlk,go_sem,↓reduceIte,Nat.reduceEqDiff,Nat.reduceAdd,reduceCtorEq]
     (repeat first | simp only [g1,t1,Int.toNat_natCast,go_sem,↓reduceIte,Nat.reduceEqDiff,Nat.reduceAdd,reduceCtorEq] | refine RX ?_ | decide)
     have hWV:W=V:=by rw [hst];unfold psN;rw [if_pos hdV]
     refine ⟨m+1,by omega,by omega,?_⟩
     rw [← hW,← hT2,hWV]
     rw [hWV] at t5 e9
     refine (Ref.close 6 m 9 (cs:=D.set m (.sl 9 1 0 (R.length+1))) (k:=1) (n:=R.length+1) (cs2:=intsC R++[i64 (plc V d:Int)]) rfl (by rw [List.getElem?_set_self (by omega)]) rfl (by decide) (by simp [intsC])).trans (Ref.gc [0,1,2,3,4,5,6] rfl ?_ (by simp [sub,fget,go_sem,↓reduceIte,Nat.reduceEqDiff,Nat.reduceAdd,reduceCtorEq]))
     rw [e9,List.set_set,t5]
     simp only [go_sem,↓reduceIte,Nat.reduceEqDiff,Nat.reduceAdd,reduceCtorEq]
    ·rw [if_neg hdV] at hlk
     have hWV:W=V++[d]:=by rw [hst];unfold psN;rw [if_neg hdV]
     have hpw:plc W d=V.length:=by rw [hWV];exact plc_new hdV
     rw [hpw] at t5 e9
     have hip2:=hip hdV
     rw [← hWV] at hip2
     refine RN ?_
     simp only [hlk,go_sem,↓reduceIte,Nat.reduceEqDiff,Nat.reduceAdd,reduceCtorEq]
     refine RN ?_
     refine pureC hsz (by simp only [go_sem,↓reduceIte,Nat.reduceEqDiff,Nat.reduceAdd,reduceCtorEq,frz_li _ _ (oz V) V.length hvz]) (by first | rfl | simp only [go_sem,↓reduceIte,Nat.reduceEqDiff,Nat.reduceAdd,reduceCtorEq]) ?_
     (repeat first | simp only [g1,t1,Int.toNat_natCast,go_sem,↓reduceIte,Nat.reduceEqDiff,Nat.reduceAdd,reduceCtorEq] | refine RX ?_ | decide)
     refine ⟨m+1,by omega,by omega,?_⟩
     rw [← hW,← hT2,hip2]
     have tk1:(intsC (oz V)).take V.length=intsC (oz V):=List.take_of_length_le (by rw [len_intsC,hvz];exact Nat.le_refl _)
     have hwl:W.length=V.length+1:=by rw [hWV];simp
     have eoz:intsC (oz V)++[i64 (d:Int)]=intsC (oz W):=by rw [hWV];simp [intsC,oz]
     refine (Ref.close 6 m 11 (cs:=D.set m (.sl 11 1 0 (R.length+1))) (k:=1) (n:=R.length+1) (cs2:=intsC R++[i64 (V.length:Int)]) rfl (by rw [List.getElem?_set_self (by omega)]) rfl (by decide) (by simp [intsC])).trans (Ref.gc [0,1,2,3,9,5,6] rfl ?_ (by simp [sub,fget,hwl,go_sem,↓reduceIte,Nat.reduceEqDiff,Nat.reduceAdd,reduceCtorEq]))
     rw [e9,List.set_set,t5,tk1,eoz]
     simp only [go_sem,↓reduceIte,Nat.reduceEqDiff,Nat.reduceAdd,reduceCtorEq]
   ·have hdo:=hO.done hEd (by omega)
    obtain rfl:i=O.length:=by omega
    rw [hdo,tbW_end]
    refine RN ?_
    exact Ref.gc1 [6]
end Go.Proofs.YtfcbamfkfadabaaGreatDoor
