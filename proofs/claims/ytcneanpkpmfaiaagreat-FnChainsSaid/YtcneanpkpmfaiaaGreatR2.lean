/- Texts that belong together. -/
import Derived.Test.YtcneanpkpmfaiaaGreatV1
import Derived.Test.YtcneanpkpmfaiaaGreatZl
import Derived.Test.YtcneanpkpmfaiaaGreatZt
import Derived.Test.YtcneanpkpmfaiaaGreatR1
set_option maxHeartbeats 16000000
set_option linter.unusedSimpArgs false
set_option linter.unusedVariables false
set_option maxRecDepth 100000
namespace Go.Proofs.YtcneanpkpmfaiaaGreat
section
open Go.Gov Go.Ce
open Classical
abbrev No (I:List (List Int))(l:List Int)(b:Bool):AV:=.agg [Ae I,Ac l,bl b]
theorem C1 (H:Heap)(d:Nat)(I:List (List Int))(n:Nat)(h:I.length=n):((I.map Ad).take n).map (Ak H (d+2))=I.map Ac:=by
 rw [List.take_of_length_le (by simp [h]),List.map_map]
 refine List.map_congr_left fun z _=>?_
 simp [Ak,Aa]
theorem Yx (H:Heap)(d:Nat)(l:List Int)(n:Nat)(h:l.length=n):((Aa l).take n).map (Ak H (d+1))=Aa l:=by
 rw [List.take_of_length_le (by rw [B4];omega),F7]
theorem I5 {I:List (List Int)}{c:Nat}(h:c<I.length):(I.map Ad)[c]? = some (.osl 1 (I.getD c []).length (Aa (I.getD c []))):=by simp [h,Ad]
theorem Uw {I : List (List Int)} {c d : Nat} (hc : c < I.length) (hd : d < I.length) (hne : c ≠ d) (x y : AV) : (((I.map Ad).set c x).set d y).length = I.length ∧ (((I.map Ad).set c x).set d y)[c]? = some x ∧ (((I.map Ad).set c x).set d y)[d]? = some y ∧
    ∀ a b:List Int,((((I.map Ad).set c x).set d y).set c (Ad a)).set d (Ad b)=((I.set c a).set d b).map Ad:=by
 refine ⟨by simp,?_,?_,fun a b=>?_⟩
 ·rw [List.getElem?_set_ne (fun h=>hne h.symm),List.getElem?_set_self (by simpa using hc)]
 ·rw [List.getElem?_set_self (by simpa using hd)]
 ·rw [List.set_comm _ _ (fun h=>hne h.symm),List.set_set,List.set_set,List.map_set,List.map_set]
theorem yI {I:List (List Int)}{c:Nat}(hc:c<I.length)(x:AV):((I.map Ad).set c x).length=I.length∧((I.map Ad).set c x)[c]? = some x∧∀ a:List Int,((I.map Ad).set c x).set c (Ad a)=(I.set c a).map Ad:=by
 refine ⟨by simp,by rw [List.getElem?_set_self (by simpa using hc)],fun a=>by rw [List.set_set,List.map_set]⟩
theorem Ju {l:List AV}{i:Nat}{x d:AV}(h:l[i]? = some x):l.getD i d=x:=by rw [List.getD_eq_getElem?_getD,h];rfl
theorem Tk (I:List (List Int))(l:List Int)(b:Bool)(h:Il l)(hl:l.length≤2000)(c:Nat)(hc:c<l.length):Pure Tryz.prog 151 [No I l b,i64 (c:Int)] (i64 (Bh l c:Nat)) []:=by
 refine Bj vU rfl rfl ?_;unfold Wk
 refine RN ?_
 refine Aj (α:=Nat) (S:=fun d=>([(1,i64 (d:Int)),(2,.ref 0 0)],[some [Ae I,Ac l,bl b]])) (C:=fun d=>d<l.length∧Bh l d=Bh l c) (μ:=fun d=>d) c ⟨hc,rfl⟩ (Ref.to1) ?_
 rintro d ⟨h1,h2⟩
 have hlo:=h d h1
 refine RN ?_
 refine ⟨fun hc1=>?_,fun hc1=>?_⟩
 ·have hst:=Yo h h1 hc1
  refine RN ?_
  refine ⟨(l.getD d 0).toNat,⟨by omega,by rw [← hst];exact h2⟩,by omega,?_⟩
  rw [show (((l.getD d 0).toNat:Nat):Int)=l.getD d 0 by omega]
  exact Ref.to1
 ·have hs:=Yn (l:=l) (c:=d) (by omega)
  rw [← h2,hs]
  (refine RN ?_;try with_reducible exact trivial)
theorem M5 (G:Nat)(I:List (List Int))(l:List Int)(b:Bool)(h:Ok G I l)(hl:l.length≤2000)(c g:Nat)(hc:c<l.length)(hg:g<G)(hG:G≤5):Pure Tryz.prog 137 [No I l b,i64 (c:Int),i64 (g:Int)] (i64 (img I l c g)) []:=by
 have hcl:c<I.length:=by rw [h.len];exact hc
 have hil:I.length≤2000:=by rw [h.len];exact hl
 have hrow:=h.row c hcl
 have hent:=h.ent c g hcl hg
 have hdef:Bo I c g=(I.getD c []).getD g 0:=rfl
 rw [hdef] at hent
 refine Bj vK rfl rfl ?_;unfold Wb
 refine RN ?_
 refine ⟨fun hc1=>?_,fun hc1=>?_⟩
 ·have e:img I l c g = -1:=by unfold img;rw [if_pos (by rw [hdef];exact hc1)]
  rw [e]
  (refine RN ?_;try with_reducible exact trivial)
 ·have e:img I l c g=(Bh l ((I.getD c []).getD g 0).toNat:Nat):=by unfold img;rw [if_neg (by rw [hdef];omega),hdef]
  have hf:=Tk I l b h.low hl ((I.getD c []).getD g 0).toNat (by omega)
  rw [show (((I.getD c []).getD g 0).toNat:Int)=(I.getD c []).getD g 0 by omega] at hf
  rw [e]
  refine RN ?_
  refine Am (hf) ?_
  (refine RN ?_;try with_reducible exact trivial)
end
section
open Go.Gov Go.Ce
open Classical
theorem pM (G : Nat) (hG : G ≤ 5) (r0 : List Int) (J : List (List Int)) (l : List Int) (b : Bool) (hl : l.length = J.length + 1) (hn : l.length < 2000) :
    Fa Tryz.prog 148 [.agg [.sl 0 1 0 l.length,.sl 1 1 0 l.length,bl b],i64 (G:Int)] [some (.sl 2 1 0 r0.length :: J.map Ad),some (Aa l),some (Aa r0)]
     (.tup [.agg [.sl 3 1 0 (l.length+1),.sl 4 1 0 (l.length+1),bl b],i64 (l.length:Int)]) [none,none,some (Aa r0),some (.sl 2 1 0 r0.length :: (J++[List.replicate G (-1)]).map Ad),some (Aa (l++[(l.length:Int)]))]:=by
 refine Lw Ua rfl ?_;unfold Oh
 refine RN ?_
 intro _
 refine RN ?_
 refine Aj (α:=Nat) (S:=fun k=>([(1,i64 (G:Int)),(2,.ref 3 0),(4,.ref 4 0),(5,i64 0),(6,i64 (l.length:Int)),(7,.sl 5 1 0 k),(8,i64 (k:Int))],[some (.sl 2 1 0 r0.length :: J.map Ad),some (Aa l),some (Aa r0),some [.sl 0 1 0 l.length,.sl 1 1 0 l.length,bl b],some [Af,Af,bl false],some (Aa (List.replicate k (-1)))])) (C:=fun k=>k≤G) (μ:=fun k=>G - k) 0 (Nat.zero_le _) (Ref.to1) ?_
 intro k hk
 refine RN ?_
 refine ⟨fun hc=>?_,fun hc=>?_⟩
 ·(refine RN ?_;try with_reducible exact trivial)
  refine ⟨k+1,by omega,by omega,?_⟩
  refine Ref.gc [0,1,2,3,4,7] rfl ?_ (by simp [sub,Ab,go_sem,↓reduceIte,Nat.reduceEqDiff,Nat.reduceAdd,reduceCtorEq])
  simp only [go_sem,↓reduceIte,Nat.reduceEqDiff,Nat.reduceAdd,reduceCtorEq]
  rw [List.take_of_length_le (l:=Aa (List.replicate k (-1))) (by simp [Aa]),De,List.replicate_succ']
  simp [Aa]
 ·obtain rfl:k=G:=by omega
  refine RN ?_
  have htk:(AV.sl 2 1 0 r0.length :: J.map Ad).take l.length = .sl 2 1 0 r0.length :: J.map Ad:=List.take_of_length_le (by simp [hl])
  rw [htk]
  refine (Ref.close 7 l.length 5 (k:=1) (n:=k) (cs2:=Aa (List.replicate k (-1))) rfl (by rw [List.getElem?_append_right (by simp [hl])];simp [hl]) rfl (by decide) (by simp [Aa])).trans (Ref.gc [0,1,2,7,9] rfl ?_ (by simp [sub,Ab,go_sem,↓reduceIte,Nat.reduceEqDiff,Nat.reduceAdd,reduceCtorEq]))
  have hset:∀ x y:AV,((AV.sl 2 1 0 r0.length :: J.map Ad)++[x]).set l.length y=(AV.sl 2 1 0 r0.length :: J.map Ad)++[y]:=fun x y=>by
   rw [List.set_append_right _ _ (by simp [hl])];simp [hl]
  simp only [hset,go_sem,↓reduceIte,Nat.reduceEqDiff,Nat.reduceAdd,reduceCtorEq]
  have hs2:∀ x y:AV,(AV.sl 2 1 0 r0.length :: (J.map Ad++[x])).set l.length y=AV.sl 2 1 0 r0.length :: (J.map Ad++[y]):=fun x y=>hset x y
  simp [Ad,List.map_append,hs2,Aa]
theorem pL (G : Nat) (r0 : List Int) (J : List (List Int)) (l : List Int) (b : Bool) (hn : l.length = 2000) :
    Fa Tryz.prog 148 [.agg [.sl 0 1 0 l.length,.sl 1 1 0 l.length,bl b],i64 (G:Int)] [some (.sl 2 1 0 r0.length :: J.map Ad),some (Aa l),some (Aa r0)]
     (.tup [.agg [.sl 0 1 0 l.length,.sl 1 1 0 l.length,bl true],i64 0]) [some (.sl 2 1 0 r0.length :: J.map Ad),some (Aa l),some (Aa r0)]:=by
 refine Lw Ua rfl ?_;unfold Oh
 refine RN ?_
 refine ⟨fun _=>?_,fun hc=>absurd (by omega) hc⟩
 refine RN ?_
 exact Ref.gc2 [0,1,2]
end
section
open Go.Gov Go.Ce
open Classical
theorem pK (G:Nat)(hG:G≤5):Pure Tryz.prog 148 [.agg [Af,Af,bl false],i64 (G:Int)] (.tup [.agg [.sl 0 1 0 1,.sl 1 1 0 1,bl false],i64 0]) [some [Ad (List.replicate G (-1))],some (Aa [0])]:=by
 refine Au Ua rfl ?_;unfold Oh
 refine RN ?_
 intro _
 refine RN ?_
 refine Aj (α:=Nat) (S:=fun k=>([(1,i64 (G:Int)),(2,.ref 0 0),(4,.ref 1 0),(5,i64 0),(6,i64 0),(7,.sl 2 1 0 k),(8,i64 (k:Int))],[some [Af,Af,bl false],some [Af,Af,bl false],some (Aa (List.replicate k (-1)))])) (C:=fun k=>k≤G) (μ:=fun k=>G - k) 0 (Nat.zero_le _) (Ref.to1) ?_
 intro k hk
 refine RN ?_
 refine ⟨fun hc=>?_,fun hc=>?_⟩
 ·(refine RN ?_;try with_reducible exact trivial)
  refine ⟨k+1,by omega,by omega,?_⟩
  refine Ref.gc [0,1,4] rfl ?_ (by simp [sub,Ab,go_sem,↓reduceIte,Nat.reduceEqDiff,Nat.reduceAdd,reduceCtorEq])
  simp only [go_sem,↓reduceIte,Nat.reduceEqDiff,Nat.reduceAdd,reduceCtorEq]
  rw [List.take_of_length_le (l:=Aa (List.replicate k (-1))) (by simp [Aa]),De,List.replicate_succ']
  simp [Aa]
 ·obtain rfl:k=G:=by omega
  refine RN ?_
  refine (Ref.close 4 0 2 (k:=1) (n:=k) (cs2:=Aa (List.replicate k (-1))) rfl rfl rfl (by decide) (by simp [Aa])).trans (Ref.gc [4,6] rfl ?_ (by simp [sub,Ab,go_sem,↓reduceIte,Nat.reduceEqDiff,Nat.reduceAdd,reduceCtorEq]))
  simp only [go_sem,↓reduceIte,Nat.reduceEqDiff,Nat.reduceAdd,reduceCtorEq]
  simp [Ad,Aa]
abbrev Ib (o p:Nat)(S:St):AV:=.agg [.sl o 1 0 S.im.length,.sl p 1 0 S.le.length,bl S.bad]
theorem bM (n0:Nat)(I:List (List Int))(l:List Int)(n m:Nat)(b:Bool)(h0:n0≤2):Ref n0 [(0,.agg [.sl 0 1 0 n,.sl 1 1 0 m,bl b])] [some (I.map Ad),some (Aa l)] [(0,.agg [.sl 2 1 0 n,.sl 3 1 0 m,bl b])] [none,none,some (I.map Ad),some (Aa l)]:=
 (Ref.mv 0 (cs:=I.map Ad) (F' := [(0,.agg [.sl 2 1 0 n,.sl 1 1 0 m,bl b])]) (H' := [none,some (Aa l),some (I.map Ad)]) rfl (by simp only [go_sem,↓reduceIte,Nat.reduceEqDiff,Nat.reduceAdd,reduceCtorEq]) (by simp [sub,Ab,go_sem,↓reduceIte,Nat.reduceEqDiff,Nat.reduceAdd,reduceCtorEq])).trans
  (Ref.mv 1 (cs:=Aa l) rfl (by simp only [go_sem,↓reduceIte,Nat.reduceEqDiff,Nat.reduceAdd,reduceCtorEq]) (by simp [sub,Ab,go_sem,↓reduceIte,Nat.reduceEqDiff,Nat.reduceAdd,reduceCtorEq]))
theorem bN (n0:Nat)(I:List (List Int))(l:List Int)(n m:Nat)(b:Bool)(z:Int)(h0:n0≤2):Ref n0 [(0,.tup [.agg [.sl 0 1 0 n,.sl 1 1 0 m,bl b],i64 z])] [some (I.map Ad),some (Aa l)] [(0,.tup [.agg [.sl 2 1 0 n,.sl 3 1 0 m,bl b],i64 z])] [none,none,some (I.map Ad),some (Aa l)]:=
 (Ref.mv 0 (cs:=I.map Ad) (F' := [(0,.tup [.agg [.sl 2 1 0 n,.sl 1 1 0 m,bl b],i64 z])]) (H' := [none,some (Aa l),some (I.map Ad)]) rfl (by simp only [go_sem,↓reduceIte,Nat.reduceEqDiff,Nat.reduceAdd,reduceCtorEq]) (by simp [sub,Ab,go_sem,↓reduceIte,Nat.reduceEqDiff,Nat.reduceAdd,reduceCtorEq])).trans
  (Ref.mv 1 (cs:=Aa l) rfl (by simp only [go_sem,↓reduceIte,Nat.reduceEqDiff,Nat.reduceAdd,reduceCtorEq]) (by simp [sub,Ab,go_sem,↓reduceIte,Nat.reduceEqDiff,Nat.reduceAdd,reduceCtorEq]))
theorem Zw (G : Nat) (hG : G ≤ 5) (S : St) (h : Ss G S) (hb : S.bad = false) (c g : Nat) (hc : c < S.le.length) (hg : g < G) :
    Fa Tryz.prog 150 [Ib 0 1 S,i64 (c:Int),i64 (g:Int)] [some (S.im.map Ad),some (Aa S.le)]
     (.tup [Ib 2 3 (nx G S c g).1,i64 ((nx G S c g).2:Int)]) [none,none,some ((nx G S c g).1.im.map Ad),some (Aa (nx G S c g).1.le)]:=by
 obtain ⟨I,l,b⟩:=S
 dsimp only at hb hc ⊢
 subst hb
 have hl:=h.ok.len
 have hfew:=h.few
 dsimp only at hl hfew
 have hIm:=M5 G I l false h.ok hfew c g hc hg hG
 have hib:=h.ok.img (c:=c) (g:=g) (by dsimp only;omega) hg
 dsimp only at hib
 unfold nx
 dsimp only
 simp only [Ib,hl]
 refine Lw vT rfl ?_;unfold Wj
 refine RN ?_
 refine Bn hIm (by simp only [go_sem,↓reduceIte,Nat.reduceEqDiff,Nat.reduceAdd,reduceCtorEq,C1 _ _ I l.length hl];simp only [No,Ae,Ac,hl]) (by first | rfl | simp only [go_sem,↓reduceIte,Nat.reduceEqDiff,Nat.reduceAdd,reduceCtorEq]) ?_
 refine RN ?_
 refine ⟨fun hc1=>?_,fun hc1=>?_⟩
 ·rw [if_pos (by omega)]
  have e:(((img I l c g).toNat:Nat):Int)=img I l c g:=by omega
  refine RN ?_
  simp only [e]
  refine Ref.trans (Ref.gc [0,1] rfl ?_ ?_) (bN 2 I l I.length l.length false (img I l c g) (by omega))
  ·simp only [go_sem,↓reduceIte,Nat.reduceEqDiff,Nat.reduceAdd,reduceCtorEq]
  ·simp [sub,Ab,go_sem,↓reduceIte,Nat.reduceEqDiff,Nat.reduceAdd,reduceCtorEq,hl]
 ·rw [if_neg (by omega)]
  obtain ⟨r0,J,rfl⟩:∃ r0 J,I=r0 :: J:=by
   cases I with
   | nil=>simp at hl;omega
   | cons a J=>exact ⟨a,J,rfl⟩
  have hJ:l.length=J.length+1:=by rw [← hl];rfl
  refine Ft ((Ref.open 0 0 (cs:=(r0 :: J).map Ad) (cs2:=Aa r0) (k:=1) (n:=r0.length) rfl rfl).trans (Ref.to (F' := [(1,i64 (c:Int)),(2,i64 (g:Int)),(3,.ref 2 0),(6,.ref 3 0),(7,i64 0)]) (H' := [some (.sl 4 1 0 r0.length :: J.map Ad),some (Aa l),some [.sl 0 1 0 l.length,.sl 1 1 0 l.length,bl false],some [Af,Af,bl false],some (Aa r0)]) rfl (by simp [sub,Ab]))) ?_
  by_cases h2:l.length=2000
  ·rw [if_pos h2]
   have hD:=pL r0.length r0 J l false h2
   refine Ji [(1,i64 (c:Int)),(2,i64 (g:Int)),(3,.ref 2 0),(6,.ref 3 0),(7,i64 0),(9,i64 0)] [some ((r0 :: J).map Ad),some (Aa l),some [.sl 0 1 0 l.length,.sl 1 1 0 l.length,bl true],some [Af,Af,bl false],none] ?_ ?_
   ·repeat' first
      | simp only [go_sem,↓reduceIte,Nat.reduceEqDiff,Nat.reduceAdd,reduceCtorEq]
      | with_reducible refine Ar ?_
      | with_reducible refine Aq ?_
      | with_reducible exact As
      | with_reducible refine Ap ?_ ?_
      | (with_reducible refine And.intro ?_ ?_;focus first | assumption | omega | grind)
      | (refine Cc (hD) [0,1,4] ?_ ?_ ?_ ?_ ?_;(focus first | rfl | simp);(focus (simp only [go_sem,↓reduceIte,Nat.reduceEqDiff,Nat.reduceAdd,reduceCtorEq]<;>rfl));(focus (simp only [go_sem,↓reduceIte,Nat.reduceEqDiff,Nat.reduceAdd,reduceCtorEq]<;>rfl));(focus first | rfl | simp only [go_sem,↓reduceIte,Nat.reduceEqDiff,Nat.reduceAdd,reduceCtorEq]))
    all_goals exact (Ref.close 0 0 4 (k:=1) (n:=r0.length) (cs2:=Aa r0) rfl rfl rfl (by decide) (by simp [Aa])).trans (Ref.to1)
   ·simp only [hl]
    refine RN ?_
    refine Ref.trans (Ref.gc [0,1] rfl ?_ ?_) (bN 2 (r0 :: J) l l.length l.length true 0 (by omega))
    ·simp only [go_sem,↓reduceIte,Nat.reduceEqDiff,Nat.reduceAdd,reduceCtorEq]
    ·simp [sub,Ab,go_sem,↓reduceIte,Nat.reduceEqDiff,Nat.reduceAdd,reduceCtorEq]
  ·rw [if_neg h2]
   have hD:=pM r0.length (by have:=h.ok.row 0 (by simp);simp at this;omega) r0 J l false hJ (by omega)
   refine Ji [(1,i64 (c:Int)),(2,i64 (g:Int)),(3,.ref 2 0),(6,.ref 3 0),(7,i64 0),(9,i64 (l.length:Int))] [none,none,some [.sl 4 1 0 (l.length+1),.sl 5 1 0 (l.length+1),bl false],some [Af,Af,bl false],some ((r0 :: J++[List.replicate r0.length (-1)]).map Ad),some (Aa (l++[(l.length:Int)]))] ?_ ?_
   ·repeat' first
      | simp only [go_sem,↓reduceIte,Nat.reduceEqDiff,Nat.reduceAdd,reduceCtorEq]
      | with_reducible refine Ar ?_
      | with_reducible refine Aq ?_
      | with_reducible exact As
      | with_reducible refine Ap ?_ ?_
      | (with_reducible refine And.intro ?_ ?_;focus first | assumption | omega | grind)
      | (refine Cc (hD) [0,1,4] ?_ ?_ ?_ ?_ ?_;(focus first | rfl | simp);(focus (simp only [go_sem,↓reduceIte,Nat.reduceEqDiff,Nat.reduceAdd,reduceCtorEq]<;>rfl));(focus (simp only [go_sem,↓reduceIte,Nat.reduceEqDiff,Nat.reduceAdd,reduceCtorEq]<;>rfl));(focus first | rfl | simp only [go_sem,↓reduceIte,Nat.reduceEqDiff,Nat.reduceAdd,reduceCtorEq]))
    all_goals exact (Ref.close 5 0 4 (k:=1) (n:=r0.length) (cs2:=Aa r0) rfl rfl rfl (by decide) (by simp [Aa])).trans (Ref.gc2 [0,1,2,3,5,6])
   ·have hro:∀ d,d<(r0 :: J).length→((r0 :: J).getD d []).length=G:=fun d hd=>h.ok.row d hd
    have hr0:r0.length=G:=by have:=hro 0 (by simp);simpa using this
    rw [hr0]
    have hgl:∀ d,d<(r0 :: J).length+1→((r0 :: J++[List.replicate G (-1)]).getD d []).length=G:=fun d hd=>by
     rcases Nat.lt_or_ge d (r0 :: J).length with h3 | h3
     ·rw [List.getD_eq_getElem?_getD,List.getElem?_append_left h3,← List.getD_eq_getElem?_getD];exact hro d h3
     ·obtain rfl:d=(r0 :: J).length:=by omega
      simp
    have hnew:Hz G (r0 :: J) c g=(((r0 :: J++[List.replicate G (-1)]).set c (((r0 :: J++[List.replicate G (-1)]).getD c []).set g (l.length:Int))).set l.length (((r0 :: J++[List.replicate G (-1)]).getD l.length []).set g (c:Int))):=by
     unfold Hz Cq
     rw [hl,List.getD_eq_getElem?_getD (l:=List.set _ _ _),List.getElem?_set_ne (by omega),← List.getD_eq_getElem?_getD]
    have hnl:(Hz G (r0 :: J) c g).length=l.length+1:=by unfold Hz;rw [H8,H8,List.length_append,hl];rfl
    rw [hnl]
    rw [hnew]
    have hIl:(r0 :: J++[List.replicate G (-1:Int)]).length=l.length+1:=by rw [List.length_append,hl];rfl
    rw [hl] at hgl
    generalize r0 :: J++[List.replicate G (-1:Int)]=I2 at *
    have hgc:=hgl c (by omega)
    have hgn:=hgl l.length (by omega)
    obtain ⟨t1,t2,t3,t4⟩:=Uw (I:=I2) (c:=c) (d:=l.length) (by omega) (by omega) (by omega) (.sl 6 1 0 (I2.getD c []).length) (.sl 7 1 0 (I2.getD l.length []).length)
    have o2:((I2.map Ad).set c (.sl 6 1 0 (I2.getD c []).length))[l.length]? = some (.osl 1 (I2.getD l.length []).length (Aa (I2.getD l.length []))):=by
     rw [List.getElem?_set_ne (by omega)];exact I5 (by omega)
    have t5:=t4 ((I2.getD c []).set g (l.length:Int)) ((I2.getD l.length []).set g (c:Int))
    refine Ft ((Ref.open 4 c (cs:=I2.map Ad) rfl (I5 (by omega))).trans ((Ref.open 4 l.length (cs:=(I2.map Ad).set c (.sl 6 1 0 (I2.getD c []).length)) rfl o2).trans (Ref.to (F' := [(1,i64 (c:Int)),(2,i64 (g:Int)),(3,.ref 2 0),(6,.ref 3 0),(7,i64 0),(9,i64 (l.length:Int))])
     (H' := [none,none,some [.sl 4 1 0 (l.length+1),.sl 5 1 0 (l.length+1),bl false],some [Af,Af,bl false],some (((I2.map Ad).set c (.sl 6 1 0 (I2.getD c []).length)).set l.length (.sl 7 1 0 (I2.getD l.length []).length)),some (Aa (l++[(l.length:Int)])),some (Aa (I2.getD c [])),some (Aa (I2.getD l.length []))]) rfl (by simp [sub,Ab])))) ?_
    generalize ((I2.map Ad).set c (AV.sl 6 1 0 (I2.getD c []).length)).set l.length (AV.sl 7 1 0 (I2.getD l.length []).length)=D at *
    have g1:∀ d,D.getD c d = .sl 6 1 0 (I2.getD c []).length:=fun d=>Ju t2
    have g2:∀ d,D.getD l.length d = .sl 7 1 0 (I2.getD l.length []).length:=fun d=>Ju t3
    generalize I2.getD c []=A at *
    generalize I2.getD l.length []=B at *
    (repeat first | simp only [g1,g2,t1,hIl,Int.toNat_natCast,go_sem,↓reduceIte,Nat.reduceEqDiff,Nat.reduceAdd,reduceCtorEq] | with_reducible refine Al ?_ | (with_reducible refine And.intro ?_ ?_;focus first | assumption | omega | decide | grind) | (with_reducible refine Br.mk ?_ ?_;focus (intros;omega)))
    have e1:∀ v:Int,AV.osl 1 A.length (Aa (A.set g v))=Ad (A.set g v):=fun v=>by simp [Ad]
    have e2:∀ v:Int,AV.osl 1 B.length (Aa (B.set g v))=Ad (B.set g v):=fun v=>by simp [Ad]
    have t6:(D.set c (Ad (A.set g (l.length:Int))))[l.length]? = some (.sl 7 1 0 B.length):=by rw [List.getElem?_set_ne (by omega)];exact t3
    refine (Ref.close 4 c 6 (cs:=D) (cs2:=Aa (A.set g (l.length:Int))) rfl t2 rfl (by decide) (by simp [Aa])).trans ?_
    rw [e1]
    refine (Ref.close 4 l.length 7 (cs:=D.set c (Ad (A.set g (l.length:Int)))) (cs2:=Aa (B.set g (c:Int))) rfl t6 rfl (by decide) (by simp [Aa])).trans ?_
    rw [e2,t5]
    exact Ref.gc1 [0,1,4,5]
end
end Go.Proofs.YtcneanpkpmfaiaaGreat
namespace Go.Ce
open Classical
theorem Tt {I:List (List Int)}{lo hi:Nat}(h1:lo<I.length)(hne:lo≠hi):∀ k:Nat,mI I lo hi k=I.set lo ((mI I lo hi k).getD lo [])∧(mI I lo hi k).getD hi []=I.getD hi []
 | 0=>by
  unfold mI
  refine ⟨?_,rfl⟩
  refine List.ext_getElem (by simp) fun j a b=>?_
  rw [List.getElem_set]
  split
  ·rename_i e;subst e;simp [a]
  ·rfl
 | k+1=>by
  obtain ⟨e1,e2⟩:=Tt h1 hne k
  unfold mI
  split
  ·exact ⟨e1,e2⟩
  ·generalize mI I lo hi k=M at *
   have hl:M.length=I.length:=by rw [e1];simp
   unfold Cq
   refine ⟨?_,?_⟩
   ·have e3 : (M.set lo ((M.getD lo []).set k (Bo M hi k))).getD lo [] = (M.getD lo []).set k (Bo M hi k) := by
      rw [List.getD_eq_getElem?_getD,List.getElem?_set_self (by omega)];rfl
    rw [e3]
    generalize (M.getD lo []).set k (Bo M hi k)=r at *
    rw [e1,List.set_set]
   ·rw [List.getD_eq_getElem?_getD,List.getElem?_set_ne hne,← List.getD_eq_getElem?_getD]
    exact e2
theorem Pw (I:List (List Int))(lo hi:Nat):∀ k:Nat,(mI I lo hi k).length=I.length
 | 0=>rfl
 | k+1=>by
  unfold mI
  split
  ·exact Pw I lo hi k
  ·rw [H8];exact Pw I lo hi k
def mR (I:List (List Int))(lo hi k:Nat):List Int:=(mI I lo hi k).getD lo []
theorem aW {I : List (List Int)} {lo hi : Nat} (h1 : lo < I.length) (hne : lo ≠ hi) (k : Nat) :
    mR I lo hi (k+1)=(if (I.getD hi []).getD k 0<0∨0≤(mR I lo hi k).getD k 0 then mR I lo hi k else (mR I lo hi k).set k ((I.getD hi []).getD k 0)) ∧
    mQ I lo hi (k+1)=(if 0≤(I.getD hi []).getD k 0∧0≤(mR I lo hi k).getD k 0 then mQ I lo hi k++[(((I.getD hi []).getD k 0).toNat,((mR I lo hi k).getD k 0).toNat)] else mQ I lo hi k):=by
 obtain ⟨e1,e2⟩:=Tt h1 hne k
 have a1:Bo (mI I lo hi k) hi k=(I.getD hi []).getD k 0:=by unfold Bo;rw [e2]
 have a2:Bo (mI I lo hi k) lo k=(mR I lo hi k).getD k 0:=rfl
 refine ⟨?_,?_⟩
 ·unfold mR
  rw [mI,a1,a2]
  unfold mR
  split
  ·rfl
  ·unfold Cq
   rw [List.getD_eq_getElem?_getD,List.getElem?_set_self (by rw [Pw];exact h1)]
   rfl
 ·rw [mQ,a1,a2]
theorem Tv {I:List (List Int)}{lo hi:Nat}(h1:lo<I.length)(hne:lo≠hi):∀ k:Nat,(mR I lo hi k).length=(I.getD lo []).length
 | 0=>rfl
 | k+1=>by
  rw [(aW h1 hne k).1]
  split
  ·exact Tv h1 hne k
  ·rw [List.length_set];exact Tv h1 hne k
end Go.Ce
namespace Go.Proofs.YtcneanpkpmfaiaaGreat
open Go.Gov Go.Ce
open Classical
def Ew (q:List (Nat×Nat)):List Int:=q.map fun p=>(p.1:Int)
def E8 (q:List (Nat×Nat)):List Int:=q.map fun p=>(p.2:Int)
theorem Yz (q:List (Nat×Nat)):(Ew q).length=q.length:=by simp [Ew]
theorem eP (q:List (Nat×Nat)):(E8 q).length=q.length:=by simp [E8]
theorem mP (q:List (Nat×Nat))(a b:Nat):Ew (q++[(a,b)])=Ew q++[(a:Int)]:=by simp [Ew]
theorem Acf (q:List (Nat×Nat))(a b:Nat):E8 (q++[(a,b)])=E8 q++[(b:Int)]:=by simp [E8]
theorem mS {q:List (Nat×Nat)}{i:Nat}{p:Nat×Nat}(h:q[i]? = some p):(Ew q).getD i 0=(p.1:Int):=by simp [Ew,h]
theorem Acg {q:List (Nat×Nat)}{i:Nat}{p:Nat×Nat}(h:q[i]? = some p):(E8 q).getD i 0=(p.2:Int):=by simp [E8,h]
theorem Zv (G : Nat) (hG : G ≤ 5) (I0 : List (List Int)) (l0 : List Int) (b : Bool) (h : Ok G I0 l0) (hfew : l0.length ≤ 2000) (c d : Nat) (hc : c < l0.length) (hd : d < l0.length) :
    Fa Tryz.prog 155 [Ib 0 1 ⟨I0,l0,b⟩,i64 (c:Int),i64 (d:Int)] [some (I0.map Ad),some (Aa l0)]
     (Ib 2 3 ⟨(Dl G I0 l0 c d).1,(Dl G I0 l0 c d).2,b⟩) [none,none,some ((Dl G I0 l0 c d).1.map Ad),some (Aa (Dl G I0 l0 c d).2)]:=by
 have hl:=h.len
 dsimp only [Ib]
 refine Lw vW rfl ?_;unfold Wm
 refine RN ?_
 refine Aj (α := List (List Int) × List Int × List (Nat × Nat) × Nat) (S := fun p => ([(3, .ref 2 0), (6, .ref 3 0), (7, .sl 4 1 0 p.2.2.1.length), (8, .sl 5 1 0 p.2.2.1.length), (9, i64 (p.2.2.2 : Int))],
     [some (p.1.map Ad),some (Aa p.2.1),some [.sl 0 1 0 l0.length,.sl 1 1 0 l0.length,bl b],some [Af,Af,bl false],some (Aa (Ew p.2.2.1)),some (Aa (E8 p.2.2.1))]))
  (C:=fun p=>p.2.2.2≤p.2.2.1.length∧IdI G I0 l0 (Dl G I0 l0 c d) p.1 p.2.1 (p.2.2.1.drop p.2.2.2)∧p.2.2.2+C4 p.2.1 (p.2.2.1.drop p.2.2.2)≤12001) (μ:=fun p=>C4 p.2.1 (p.2.2.1.drop p.2.2.2)) (I0,l0,[(c,d)],0) ?_ ?_ ?_
 ·have hr:=Abo l0
  refine ⟨Nat.zero_le _,IdI.start h hc hd,?_⟩
  unfold C4
  simp only [List.drop_zero,List.length_cons,List.length_nil]
  omega
 ·exact Ref.to (by simp [Ew,E8,hl,Aa]) (by simp [sub,Ab])
 rintro ⟨I,l,Qs,i⟩ ⟨hi,hI,hm⟩
 dsimp only at hi hI hm ⊢
 have hIl:I.length=l0.length:=by rw [hI.ok.len,hI.len]
 have hll:=hI.len
 have hQ:Qs.length≤12001:=by
  have:(Qs.drop i).length≤C4 l (Qs.drop i):=by unfold C4;omega
  rw [List.length_drop] at this
  omega
 have hf1:=Yz Qs
 have hf2:=eP Qs
 refine RN ?_
 refine ⟨fun hc1=>?_,fun hc1=>?_⟩
 ·have hiQ:i<Qs.length:=by omega
  obtain ⟨⟨a,e⟩,hp⟩:∃ p,Qs[i]? = some p:=⟨_,List.getElem?_eq_getElem hiQ⟩
  have hdr:Qs.drop i=(a,e) :: Qs.drop (i+1):=by rw [List.drop_eq_getElem_cons hiQ,(List.getElem?_eq_some_iff.1 hp).2]
  rw [hdr] at hI hm
  have hab:=hI.qb (a,e) (by simp)
  dsimp only at hab
  have e1:=mS hp
  have e2:=Acg hp
  dsimp only at e1 e2
  have hF1:=Tk I l b hI.ok.low (by omega) a hab.1
  have hF2:=Tk I l b hI.ok.low (by omega) e hab.2
  have f1:=K2 hI.ok.low a hab.1
  have f2:=K2 hI.ok.low e hab.2
  have hsame:=fun h=>hI.same h
  have hstep:=fun h=>hI.step hG rfl rfl h
  generalize Bh l a=x at *
  generalize Bh l e=y at *
  refine RN ?_
  simp only [e1,e2]
  refine Bn hF1 (by simp only [go_sem,↓reduceIte,Nat.reduceEqDiff,Nat.reduceAdd,reduceCtorEq,C1 _ _ I l0.length hIl,Yx _ _ l l0.length hll];simp only [No,Ae,Ac,hIl,hll]) (by first | rfl | simp only [go_sem,↓reduceIte,Nat.reduceEqDiff,Nat.reduceAdd,reduceCtorEq]) ?_
  simp only [go_sem,↓reduceIte,Nat.reduceEqDiff,Nat.reduceAdd,reduceCtorEq]
  refine Bn hF2 (by simp only [go_sem,↓reduceIte,Nat.reduceEqDiff,Nat.reduceAdd,reduceCtorEq,C1 _ _ I l0.length hIl,Yx _ _ l l0.length hll];simp only [No,Ae,Ac,hIl,hll]) (by first | rfl | simp only [go_sem,↓reduceIte,Nat.reduceEqDiff,Nat.reduceAdd,reduceCtorEq]) ?_
  refine RN ?_
  refine ⟨fun hxy=>?_,fun hxy=>?_⟩
  ·have hI2:=hsame (by omega)
   have hm2:C4 l (Qs.drop (i+1))+1=C4 l ((a,e) :: Qs.drop (i+1)):=by unfold C4;simp;omega
   refine RN ?_
   refine ⟨(I,l,Qs,i+1),⟨by dsimp only;omega,hI2,by dsimp only;omega⟩,by rw [hdr];dsimp only;omega,?_⟩
   exact Ref.to1
  ·obtain ⟨hI2,hm2⟩:=hstep (by omega)
   refine RN ?_
   apply fV (fun o:Nat×Nat=>o.1=min x y∧o.2=max x y)
   ·rintro hc2 hj
    refine Vd _ (fun o:Nat×Nat=>[(3,.ref 2 0),(6,.ref 3 0),(7,.sl 4 1 0 Qs.length),(8,.sl 5 1 0 Qs.length),(9,i64 (i:Int)),(10,i64 (o.1:Int)),(11,i64 (o.2:Int))]) (fun _=>[some (I.map Ad),some (Aa l),some [.sl 0 1 0 l0.length,.sl 1 1 0 l0.length,bl b],some [Af,Af,bl false],some (Aa (Ew Qs)),some (Aa (E8 Qs))]) hj (y,x) ⟨by dsimp only;omega,by dsimp only;omega⟩ ?_
    exact Ref.to1
   ·rintro hc2 hj
    refine Vd _ (fun o:Nat×Nat=>[(3,.ref 2 0),(6,.ref 3 0),(7,.sl 4 1 0 Qs.length),(8,.sl 5 1 0 Qs.length),(9,i64 (i:Int)),(10,i64 (o.1:Int)),(11,i64 (o.2:Int))]) (fun _=>[some (I.map Ad),some (Aa l),some [.sl 0 1 0 l0.length,.sl 1 1 0 l0.length,bl b],some [Af,Af,bl false],some (Aa (Ew Qs)),some (Aa (E8 Qs))]) hj (x,y) ⟨by dsimp only;omega,by dsimp only;omega⟩ ?_
    exact Ref.to1
   ·rintro ⟨lo,hi⟩ ⟨h1,h2⟩
    dsimp only at h1 h2
    rw [← h1,← h2] at hI2 hm2
    have hlh:lo<hi:=by omega
    have hhl:hi<l.length:=by omega
    have hloI:lo<I.length:=by omega
    have hhiI:hi<I.length:=by omega
    have hra:=hI.ok.row hi hhiI
    have hrb:=hI.ok.row lo hloI
    have hAe:∀ k,k<G → -1≤(I.getD hi []).getD k 0∧(I.getD hi []).getD k 0<(l.length:Int):=fun k hk=>hI.ok.ent hi k hhiI hk
    have hst:=aW hloI (show lo≠hi by omega)
    have hln:=Tv hloI (show lo≠hi by omega)
    have hse:=(Tt hloI (show lo≠hi by omega) G).1
    have hmo:=fun k hk=>(Px hI.ok (by omega) hhl k hk:Ok G (mI I lo hi k) l∧_)
    have hBe:∀ k,k≤G→∀ j,j<G → -1≤(mR I lo hi k).getD j 0∧(mR I lo hi k).getD j 0<(l.length:Int):=fun k hk j hj=>(hmo k hk).1.ent lo j (by rw [Pw];exact hloI) hj
    have hR0:mR I lo hi 0=I.getD lo []:=rfl
    have hQl:=Tu I lo hi
    have hse2:mI I lo hi G=I.set lo (mR I lo hi G):=hse
    obtain ⟨t1,t2,t3,t4⟩:=Uw (I:=I) (c:=hi) (d:=lo) hhiI hloI (by omega) (.sl 6 1 0 (I.getD hi []).length) (.sl 7 1 0 (I.getD lo []).length)
    have o2:((I.map Ad).set hi (.sl 6 1 0 (I.getD hi []).length))[lo]? = some (.osl 1 (I.getD lo []).length (Aa (I.getD lo []))):=by
     rw [List.getElem?_set_ne (by omega)];exact I5 hloI
    have t5:=t4 (I.getD hi []) (mR I lo hi G)
    have t7:((I.set hi (I.getD hi [])).set lo (mR I lo hi G))=mI I lo hi G:=by
     rw [hse2]
     congr 1
     refine List.ext_getElem (by simp) fun j a b=>?_
     rw [List.getElem_set]
     split
     ·rename_i e;subst e;simp [b]
     ·rfl
    rw [t7] at t5
    have hop:=fun n0 F' H' => (Ref.open (n0:=n0) (F:=F') (H:=some (I.map Ad) :: H') 0 hi (cs:=I.map Ad) rfl (I5 hhiI))
    obtain ⟨D,hD⟩:∃ D,D=((I.map Ad).set hi (.sl 6 1 0 (I.getD hi []).length)).set lo (.sl 7 1 0 (I.getD lo []).length):=⟨_,rfl⟩
    have hDr:∀ τ,τ 6=some 6→τ 7=some 7→A9 τ D=D:=fun τ h6 h7=>by
     rw [hD,Nj,Nj,Eb]
     simp [An,h6,h7]
    rw [← hD] at t1 t2 t3 t5
    refine RN ?_
    refine Aj (α:=Nat) (S:=fun k=>([(3,.ref 2 0),(6,.ref 3 0),(7,.sl 4 1 0 (Qs++mQ I lo hi k).length),(8,.sl 5 1 0 (Qs++mQ I lo hi k).length),(9,i64 (i:Int)),(10,i64 (lo:Int)),(11,i64 (hi:Int)),(12,i64 (k:Int))],
     [some D,some (Aa (l.set hi (lo:Int))),some [.sl 0 1 0 l0.length,.sl 1 1 0 l0.length,bl b],some [Af,Af,bl false],some (Aa (Ew (Qs++mQ I lo hi k))),some (Aa (E8 (Qs++mQ I lo hi k))),some (Aa (I.getD hi [])),some (Aa (mR I lo hi k))])) (C:=fun k=>k≤G) (μ:=fun k=>G - k) 0 (Nat.zero_le _) ?_ ?_
    ·refine (Ref.open 0 hi (cs:=I.map Ad) rfl (I5 hhiI)).trans ((Ref.open 0 lo (cs:=(I.map Ad).set hi (.sl 6 1 0 (I.getD hi []).length)) rfl o2).trans (Ref.to ?_ ?_))
     ·dsimp only
      rw [show mQ I lo hi 0=[] from rfl,List.append_nil,hD]
      rfl
     ·dsimp only
      rw [show mQ I lo hi 0=[] from rfl,List.append_nil]
      simp [sub,Ab]
    intro k hk
    have g1:∀ d,D.getD hi d = .sl 6 1 0 (I.getD hi []).length:=fun d=>Ju t2
    have g2:∀ d,D.getD lo d = .sl 7 1 0 (I.getD lo []).length:=fun d=>Ju t3
    have hQk:=hQl k
    obtain ⟨hs1,hs2⟩:=hst k
    have hlk:=hln k
    have hBk:=hBe k hk
    obtain ⟨B,hB⟩:∃ B,B=mR I lo hi k:=⟨_,rfl⟩
    obtain ⟨W,hW⟩:∃ W,W=mQ I lo hi k:=⟨_,rfl⟩
    rw [← hB] at hs1 hs2 hlk hBk ⊢
    rw [← hW] at hs2 hQk ⊢
    have hfl:=Yz (Qs++W)
    have hsl:=eP (Qs++W)
    rw [List.length_append] at hfl hsl
    (repeat first | simp only [g1,g2,t1,hIl,Int.toNat_natCast,go_sem,↓reduceIte,Nat.reduceEqDiff,Nat.reduceAdd,reduceCtorEq] | with_reducible refine Al ?_ | (with_reducible refine And.intro ?_ ?_;focus first | assumption | omega | decide | grind))
    refine ⟨fun hc4=>?_,fun hc4=>?_⟩
    ·have hkG:k<G:=by omega
     have hAk:=hAe k hkG
     have hBg:=hBk k hkG
     (repeat first | simp only [g1,g2,t1,hIl,Int.toNat_natCast,go_sem,↓reduceIte,Nat.reduceEqDiff,Nat.reduceAdd,reduceCtorEq] | with_reducible refine Al ?_ | (with_reducible refine And.intro ?_ ?_;focus first | assumption | omega | decide | grind))
     refine ⟨fun hc5=>?_,fun hc5=>?_⟩
     ·rw [if_pos (.inl hc5)] at hs1
      rw [if_neg (by omega)] at hs2
      refine RN ?_
      refine ⟨k+1,by omega,by omega,?_⟩
      rw [hs1,hs2]
      exact Ref.to1
     ·(repeat first | simp only [g1,g2,t1,hIl,Int.toNat_natCast,go_sem,↓reduceIte,Nat.reduceEqDiff,Nat.reduceAdd,reduceCtorEq] | with_reducible refine Al ?_ | (with_reducible refine And.intro ?_ ?_;focus first | assumption | omega | decide | grind))
      refine ⟨fun hc6=>?_,fun hc6=>?_⟩
      ·rw [if_pos (.inr (by omega))] at hs1
       rw [if_pos ⟨by omega,by omega⟩] at hs2
       (repeat first | simp only [g1,g2,t1,hIl,Int.toNat_natCast,go_sem,↓reduceIte,Nat.reduceEqDiff,Nat.reduceAdd,reduceCtorEq] | with_reducible refine Al ?_ | (with_reducible refine And.intro ?_ ?_;focus first | assumption | omega | decide | grind))
       refine ⟨k+1,by omega,by omega,?_⟩
       rw [hs1,hs2,← List.append_assoc,mP,Acf]
       have ea:(((I.getD hi []).getD k 0).toNat:Int)=(I.getD hi []).getD k 0:=by omega
       have eb:((B.getD k 0).toNat:Int)=B.getD k 0:=by omega
       rw [ea,eb]
       refine Ref.gc [0,1,2,3,9,11,6,7] rfl ?_ (by simp [sub,Ab,go_sem,↓reduceIte,Nat.reduceEqDiff,Nat.reduceAdd,reduceCtorEq,Nat.add_assoc])
       simp only [go_sem,↓reduceIte,Nat.reduceEqDiff,Nat.reduceAdd,reduceCtorEq]
       have tk1:(Aa (Ew (Qs++W))).take (Qs.length+W.length)=Aa (Ew (Qs++W)):=List.take_of_length_le (by rw [B4,hfl];exact Nat.le_refl _)
       have tk2:(Aa (E8 (Qs++W))).take (Qs.length+W.length)=Aa (E8 (Qs++W)):=List.take_of_length_le (by rw [B4,hsl];exact Nat.le_refl _)
       rw [tk1,tk2,De,De,hDr]
       ·simp [Aa]
       ·rfl
       ·rfl
      ·rw [if_neg (by omega)] at hs1
       rw [if_neg (by omega)] at hs2
       (repeat first | simp only [g1,g2,t1,hIl,Int.toNat_natCast,go_sem,↓reduceIte,Nat.reduceEqDiff,Nat.reduceAdd,reduceCtorEq] | with_reducible refine Al ?_ | (with_reducible refine And.intro ?_ ?_;focus first | assumption | omega | decide | grind))
       refine ⟨k+1,by omega,by omega,?_⟩
       rw [hs1,hs2]
       exact Ref.to1
    ·obtain rfl:k=G:=by omega
     refine RN ?_
     refine ⟨(mI I lo hi k,l.set hi (lo:Int),Qs++W,i+1),⟨by dsimp only;simp;omega,?_,?_⟩,?_,?_⟩
     ·dsimp only
      rw [List.drop_append_of_le_length (by omega),hW]
      exact hI2
     ·dsimp only
      rw [List.drop_append_of_le_length (by omega),hW]
      omega
     ·rw [hdr]
      dsimp only
      rw [List.drop_append_of_le_length (by omega),hW]
      exact hm2
     ·have ea:AV.osl 1 (I.getD hi []).length (Aa (I.getD hi []))=Ad (I.getD hi []):=rfl
      have eb:AV.osl 1 (I.getD lo []).length (Aa B)=Ad B:=by simp [Ad,hlk]
      have t6:(D.set hi (Ad (I.getD hi [])))[lo]? = some (.sl 7 1 0 (I.getD lo []).length):=by rw [List.getElem?_set_ne (by omega)];exact t3
      refine (Ref.close 0 hi 6 (cs:=D) (cs2:=Aa (I.getD hi [])) rfl t2 rfl (by decide) (by simp [Aa])).trans ?_
      rw [ea]
      refine (Ref.close 0 lo 7 (cs:=D.set hi (Ad (I.getD hi []))) (cs2:=Aa B) rfl t6 rfl (by decide) (by simp [Aa,hlk])).trans ?_
      rw [eb,hB,t5]
      exact Ref.gc1 [0,1,2,3,4,5]
 ·obtain rfl:i=Qs.length:=by omega
  rw [List.drop_length] at hI
  have hdone:=hI.done
  rw [hdone]
  refine RN ?_
  refine Ref.trans (Ref.gc [0,1] rfl ?_ ?_) (bM 2 I l I.length l.length b (by omega))
  ·simp only [go_sem,↓reduceIte,Nat.reduceEqDiff,Nat.reduceAdd,reduceCtorEq]
  ·simp [sub,Ab,go_sem,↓reduceIte,Nat.reduceEqDiff,Nat.reduceAdd,reduceCtorEq,hIl,hll]
end Go.Proofs.YtcneanpkpmfaiaaGreat
namespace Go.Ce
open Classical
theorem X2 {G:Nat}{S:St}{w:List Int}{c k:Nat}(h:(Bl G S w c k).1.bad=true):∀ m,Bl G S w c (k+m)=Bl G S w c k
 | 0=>rfl
 | m+1=>by
  have ih:=X2 h m
  rw [← Nat.add_assoc,Bl,ih,if_pos h]
theorem kM {G:Nat}{S:St}{w:List Int}{c k n:Nat}(h:(Bl G S w c k).1.bad=true)(hk:k≤n):Bl G S w c n=Bl G S w c k:=by
 have:=X2 h (n - k)
 rwa [show k+(n - k)=n by omega] at this
end Go.Ce
namespace Go.Proofs.YtcneanpkpmfaiaaGreat
open Go.Gov Go.Ce
open Classical
theorem pI (G : Nat) (hG : G ≤ 5) (S : St) (h : Ss G S) (hb : S.bad = false) (c : Nat) (hc : c < S.le.length) (w : List Int) (hw : C8 G w) (hwl : w.length ≤ 1048576) :
    Fa Tryz.prog 149 [Ib 0 1 S,i64 (c:Int),Ac w] [some (S.im.map Ad),some (Aa S.le)]
     (Ib 2 3 (Bp G S w c)) [none,none,some ((Bp G S w c).im.map Ad),some (Aa (Bp G S w c).le)]:=by
 have hSl:=h.ok.len
 by_cases h0:w.length=0
 ·have e:Bp G S w c=S:=by unfold Bp;rw [if_pos h0]
  rw [e]
  refine Lw cF rfl ?_;unfold R3
  refine RN ?_
  refine ⟨fun _=>?_,fun hc1=>absurd (by omega) hc1⟩
  refine RN ?_
  refine Ref.trans (Ref.gc [0,1] rfl ?_ ?_) (bM 2 S.im S.le S.im.length S.le.length S.bad (by omega))
  ·simp only [go_sem,↓reduceIte,Nat.reduceEqDiff,Nat.reduceAdd,reduceCtorEq]
  ·simp [sub,Ab,go_sem,↓reduceIte,Nat.reduceEqDiff,Nat.reduceAdd,reduceCtorEq]
 ·have ecl:Bp G S w c=if (Bl G S w c (w.length - 1)).1.bad=true then (Bl G S w c (w.length - 1)).1 else fin G (Bl G S w c (w.length - 1)).1 c (Bl G S w c (w.length - 1)).2 (w.getD (w.length - 1) 0).toNat:=by unfold Bp;rw [if_neg h0]
  refine Lw cF rfl ?_;unfold R3
  refine RN ?_
  intro _
  refine RN ?_
  refine Aj (α:=Nat) (S:=fun k=>([(1,i64 (c:Int)),(2,Ac w),(3,.ref 2 0),(6,.ref 3 0),(7,i64 ((Bl G S w c k).2:Int)),(8,i64 (k:Int))],
   [none,none,some [.sl 4 1 0 (Bl G S w c k).1.im.length,.sl 5 1 0 (Bl G S w c k).1.le.length,bl (Bl G S w c k).1.bad],some [Af,Af,bl false],some ((Bl G S w c k).1.im.map Ad),some (Aa (Bl G S w c k).1.le)]))
   (C:=fun k=>k+1≤w.length∧(Bl G S w c k).1.bad=false) (μ:=fun k=>w.length - k) 0 ⟨by omega,hb⟩ ?_ ?_
  ·refine (Ref.mv 0 (cs := S.im.map Ad) (F' := [(1, i64 (c : Int)), (2, Ac w), (3, .ref 2 0), (6, .ref 3 0), (7, i64 (c : Int)), (8, i64 0)]) (H' := [none, some (Aa S.le), some [.sl 4 1 0 S.im.length, .sl 1 1 0 S.le.length, bl S.bad], some [Af, Af, bl false], some (S.im.map Ad)]) rfl (by simp only [go_sem, ↓reduceIte, Nat.reduceEqDiff, Nat.reduceAdd, reduceCtorEq]) (by simp [sub, Ab, go_sem, ↓reduceIte, Nat.reduceEqDiff, Nat.reduceAdd, reduceCtorEq])).trans
     (Ref.mv 1 (cs:=Aa S.le) rfl (by simp only [go_sem,↓reduceIte,Nat.reduceEqDiff,Nat.reduceAdd,reduceCtorEq]<;>rfl) (by simp [sub,Ab,go_sem,↓reduceIte,Nat.reduceEqDiff,Nat.reduceAdd,reduceCtorEq,Bl]))
  rintro k ⟨hk,hkb⟩
  obtain ⟨s1,s2,s3⟩:=Sg h hw hc k (by omega)
  have hnx:=T5 s1 s3 (g:=(w.getD k 0).toNat)
  have hcs:Bl G S w c (k+1)=nx G (Bl G S w c k).1 (Bl G S w c k).2 (w.getD k 0).toNat:=by rw [Bl,if_neg (by rw [hkb];decide)]
  have hct:=Nat.lt_of_lt_of_le hc s2.len
  have hN:=fun g hg=>Zw G hG (Bl G S w c k).1 s1 hkb (Bl G S w c k).2 g s3 hg
  have hcb:=fun hb2=>kM (G:=G) (S:=S) (w:=w) (c:=c) (k:=k+1) (n:=w.length - 1) hb2
  obtain ⟨p,hp⟩:∃ p,p=Bl G S w c k:=⟨_,rfl⟩
  rw [← hp] at s1 s2 s3 hnx hcs hct hN hkb ⊢
  obtain ⟨T,d⟩:=p
  dsimp only at s1 s2 s3 hnx hcs hct hN hkb ⊢
  refine RN ?_
  refine ⟨fun hc2=>?_,fun hc2=>?_⟩
  ·have hkl:k+1<w.length:=by omega
   have hlet:=hw k (by omega)
   have hN2:=hN (w.getD k 0).toNat (by omega)
   rw [← hcs] at hN2
   rw [show (((w.getD k 0).toNat:Nat):Int)=w.getD k 0 by omega] at hN2
   have hnx2:=hnx (by omega)
   rw [← hcs] at hnx2
   obtain ⟨q,hq⟩:∃ q,q=Bl G S w c (k+1):=⟨_,rfl⟩
   rw [← hq] at hN2 hnx2 hcb
   obtain ⟨U,e⟩:=q
   dsimp only at hN2 hnx2 hcb
   refine RN ?_
   refine Ji [(1,i64 (c:Int)),(2,Ac w),(3,.ref 2 0),(6,.ref 3 0),(7,i64 (d:Int)),(8,i64 (k:Int)),(9,.ref 6 0),(10,i64 (e:Int))]
    [none,none,some [.any,.any,bl T.bad],some [Af,Af,bl false],some (U.im.map Ad),some (Aa U.le),some [.sl 4 1 0 U.im.length,.sl 5 1 0 U.le.length,bl U.bad]] ?_ ?_
   ·repeat' first
      | simp only [go_sem,↓reduceIte,Nat.reduceEqDiff,Nat.reduceAdd,reduceCtorEq]
      | with_reducible refine Ar ?_
      | with_reducible refine Aq ?_
      | with_reducible exact As
      | with_reducible refine Ap ?_ ?_
      | (with_reducible refine And.intro ?_ ?_;focus first | assumption | omega | grind)
      | (refine Cc (hN2) [4,5] ?_ ?_ ?_ ?_ ?_;(focus first | rfl | simp);(focus (simp only [go_sem,↓reduceIte,Nat.reduceEqDiff,Nat.reduceAdd,reduceCtorEq]<;>rfl));(focus (simp only [go_sem,↓reduceIte,Nat.reduceEqDiff,Nat.reduceAdd,reduceCtorEq]<;>rfl));(focus first | rfl | simp only [go_sem,↓reduceIte,Nat.reduceEqDiff,Nat.reduceAdd,reduceCtorEq]))
    all_goals first
     | (refine Ref.gc [0,1,2,3,6,7,8] rfl ?_ ?_<;>first | (simp only [go_sem,↓reduceIte,Nat.reduceEqDiff,Nat.reduceAdd,reduceCtorEq];done) | (simp only [go_sem,↓reduceIte,Nat.reduceEqDiff,Nat.reduceAdd,reduceCtorEq];rfl) | (simp [sub,Ab,go_sem,↓reduceIte,Nat.reduceEqDiff,Nat.reduceAdd,reduceCtorEq];done))
     | (refine Ref.gc [0,1,2,3,7,8,6] rfl ?_ ?_<;>first | (simp only [go_sem,↓reduceIte,Nat.reduceEqDiff,Nat.reduceAdd,reduceCtorEq];done) | (simp only [go_sem,↓reduceIte,Nat.reduceEqDiff,Nat.reduceAdd,reduceCtorEq];rfl) | (simp [sub,Ab,go_sem,↓reduceIte,Nat.reduceEqDiff,Nat.reduceAdd,reduceCtorEq];done))
   ·(refine RN ?_;try with_reducible exact trivial)
    refine ⟨fun hc3=>?_,fun hc3=>?_⟩
    ·have hb2:U.bad=true:=by simpa using hc3
     have hcl:=hcb hb2 (by omega)
     rw [hcl] at ecl
     dsimp only at ecl
     rw [if_pos hb2] at ecl
     rw [ecl]
     refine RN ?_
     exact Ref.gc1 [0,1,4,5]
    ·have hb2:U.bad=false:=by simpa using hc3
     refine RN ?_
     refine ⟨k+1,⟨by omega,by rw [← hq];exact hb2⟩,by omega,?_⟩
     rw [← hq]
     exact Ref.gc1 [0,1,2,3,4,5]
  ·obtain rfl:k=w.length - 1:=by omega
   rw [← hp] at ecl
   dsimp only at ecl
   rw [if_neg (by rw [hkb];decide)] at ecl
   have hlet:=hw (w.length - 1) (by omega)
   obtain ⟨g,hg⟩:∃ g,g=(w.getD (w.length - 1) 0).toNat:=⟨_,rfl⟩
   have hgz:w.getD (w.length - 1) 0=(g:Int):=by omega
   rw [← hg] at ecl
   have hI1:=M5 G T.im T.le T.bad s1.ok s1.few d g s3 (by omega) hG
   have hI2:=M5 G T.im T.le T.bad s1.ok s1.few c g hct (by omega) hG
   have hTl:=s1.ok.len
   have hTf:=s1.few
   have b1:=s1.ok.img (c:=d) (g:=g) (by omega) (by omega)
   have b2:=s1.ok.img (c:=c) (g:=g) (by omega) (by omega)
   have hfin:fin G T c d g=if 0≤img T.im T.le d g then ⟨(Dl G T.im T.le (img T.im T.le d g).toNat c).1,(Dl G T.im T.le (img T.im T.le d g).toNat c).2,T.bad⟩
    else if 0≤img T.im T.le c g then ⟨(Dl G T.im T.le (img T.im T.le c g).toNat d).1,(Dl G T.im T.le (img T.im T.le c g).toNat d).2,T.bad⟩
    else ⟨Cq (Cq T.im d g (c:Int)) c g (d:Int),T.le,T.bad⟩:=rfl
   rw [← ecl] at hfin
   clear ecl
   generalize Bp G S w c=Z at *
   have hD1:=fun a ha=>Zv G hG T.im T.le T.bad s1.ok s1.few a c ha hct
   have hD2:=fun a ha=>Zv G hG T.im T.le T.bad s1.ok s1.few a d ha s3
   have hrw:=s1.ok.row
   obtain ⟨I,l,tb⟩:=T
   dsimp only at *
   subst hkb
   refine RN ?_
   simp only [hgz]
   refine Am (hI1) ?_
   simp only [go_sem,↓reduceIte,Nat.reduceEqDiff,Nat.reduceAdd,reduceCtorEq]
   refine Am (hI2) ?_
   refine RN ?_
   refine ⟨fun hc3=>?_,fun hc3=>?_⟩
   ·rw [if_pos hc3] at hfin
    have hD:=hD1 (img I l d g).toNat (by omega)
    rw [show (((img I l d g).toNat:Nat):Int)=img I l d g by omega] at hD
    rw [hfin]
    generalize Dl G I l (img I l d g).toNat c=R at *
    refine Jg (hD) [4,5] ?_
    refine RN ?_
    exact Ref.gc1 [0,1,6,7]
   ·rw [if_neg (by omega)] at hfin
    refine RN ?_
    refine ⟨fun hc4=>?_,fun hc4=>?_⟩
    ·rw [if_pos hc4] at hfin
     have hD:=hD2 (img I l c g).toNat (by omega)
     rw [show (((img I l c g).toNat:Nat):Int)=img I l c g by omega] at hD
     rw [hfin]
     generalize Dl G I l (img I l c g).toNat d=R at *
     refine Jg (hD) [4,5] ?_
     refine RN ?_
     exact Ref.gc1 [0,1,6,7]
    ·rw [if_neg (by omega)] at hfin
     have hrc:=hrw c (by omega)
     have hrd:=hrw d (by omega)
     rw [hfin]
     by_cases hcd:d=c
     ·subst hcd
      have hput:Cq (Cq I d g (d:Int)) d g (d:Int)=I.set d (((I.getD d []).set g (d:Int)).set g (d:Int)):=by
       unfold Cq
       rw [List.getD_eq_getElem?_getD (l:=List.set _ _ _),List.getElem?_set_self (by omega),List.set_set]
       rfl
      rw [hput]
      obtain ⟨t1,t2,t3⟩:=yI (I:=I) (c:=d) (by omega) (.sl 6 1 0 (I.getD d []).length)
      have t5:=t3 (((I.getD d []).set g (d:Int)).set g (d:Int))
      refine Ft ((Ref.open 4 d (cs:=I.map Ad) rfl (I5 (by omega))).trans (Ref.to (F' := [(1,i64 (d:Int)),(3,.ref 2 0),(6,.ref 3 0),(7,i64 (d:Int)),(11,i64 (g:Int))])
       (H' := [none,none,some [.sl 4 1 0 I.length,.sl 5 1 0 l.length,bl false],some [Af,Af,bl false],some ((I.map Ad).set d (.sl 6 1 0 (I.getD d []).length)),some (Aa l),some (Aa (I.getD d []))]) rfl (by simp [sub,Ab]))) ?_
      generalize (I.map Ad).set d (AV.sl 6 1 0 (I.getD d []).length)=D at *
      have g1:∀ z,D.getD d z = .sl 6 1 0 (I.getD d []).length:=fun z=>Ju t2
      generalize I.getD d []=A at *
      (repeat first | simp only [g1,t1,Int.toNat_natCast,go_sem,↓reduceIte,Nat.reduceEqDiff,Nat.reduceAdd,reduceCtorEq] | with_reducible refine Al ?_ | (with_reducible refine And.intro ?_ ?_;focus first | assumption | omega | decide | grind))
      have e1:AV.osl 1 A.length (Aa ((A.set g (d:Int)).set g (d:Int)))=Ad ((A.set g (d:Int)).set g (d:Int)):=by simp [Ad]
      refine (Ref.close 4 d 6 (cs:=D) (cs2:=Aa ((A.set g (d:Int)).set g (d:Int))) rfl t2 rfl (by decide) (by simp [Aa])).trans ?_
      rw [e1,t5]
      refine Ref.gc [0,1,4,5] rfl ?_ ?_
      ·simp only [go_sem,↓reduceIte,Nat.reduceEqDiff,Nat.reduceAdd,reduceCtorEq]
      ·simp [sub,Ab,go_sem,↓reduceIte,Nat.reduceEqDiff,Nat.reduceAdd,reduceCtorEq]
     ·have hput : Cq (Cq I d g (c : Int)) c g (d : Int) = (I.set d ((I.getD d []).set g (c : Int))).set c ((I.getD c []).set g (d : Int)) := by
        unfold Cq
        rw [List.getD_eq_getElem?_getD (l:=List.set _ _ _),List.getElem?_set_ne hcd,← List.getD_eq_getElem?_getD]
      rw [hput]
      obtain ⟨t1,t2,t3,t4⟩:=Uw (I:=I) (c:=d) (d:=c) (by omega) (by omega) hcd (.sl 6 1 0 (I.getD d []).length) (.sl 7 1 0 (I.getD c []).length)
      have o2:((I.map Ad).set d (.sl 6 1 0 (I.getD d []).length))[c]? = some (.osl 1 (I.getD c []).length (Aa (I.getD c []))):=by
       rw [List.getElem?_set_ne hcd];exact I5 (by omega)
      have t5:=t4 ((I.getD d []).set g (c:Int)) ((I.getD c []).set g (d:Int))
      refine Ft ((Ref.open 4 d (cs:=I.map Ad) rfl (I5 (by omega))).trans ((Ref.open 4 c (cs:=(I.map Ad).set d (.sl 6 1 0 (I.getD d []).length)) rfl o2).trans (Ref.to (F' := [(1,i64 (c:Int)),(3,.ref 2 0),(6,.ref 3 0),(7,i64 (d:Int)),(11,i64 (g:Int))])
       (H' := [none,none,some [.sl 4 1 0 I.length,.sl 5 1 0 l.length,bl false],some [Af,Af,bl false],some (((I.map Ad).set d (.sl 6 1 0 (I.getD d []).length)).set c (.sl 7 1 0 (I.getD c []).length)),some (Aa l),some (Aa (I.getD d [])),some (Aa (I.getD c []))]) rfl (by simp [sub,Ab])))) ?_
      generalize ((I.map Ad).set d (AV.sl 6 1 0 (I.getD d []).length)).set c (AV.sl 7 1 0 (I.getD c []).length)=D at *
      have g1:∀ z,D.getD d z = .sl 6 1 0 (I.getD d []).length:=fun z=>Ju t2
      have g2:∀ z,D.getD c z = .sl 7 1 0 (I.getD c []).length:=fun z=>Ju t3
      generalize I.getD d []=A at *
      generalize I.getD c []=B at *
      (repeat first | simp only [g1,g2,t1,Int.toNat_natCast,go_sem,↓reduceIte,Nat.reduceEqDiff,Nat.reduceAdd,reduceCtorEq] | with_reducible refine Al ?_ | (with_reducible refine And.intro ?_ ?_;focus first | assumption | omega | decide | grind))
      have e1:∀ v:Int,AV.osl 1 A.length (Aa (A.set g v))=Ad (A.set g v):=fun v=>by simp [Ad]
      have e2:∀ v:Int,AV.osl 1 B.length (Aa (B.set g v))=Ad (B.set g v):=fun v=>by simp [Ad]
      have t6:(D.set d (Ad (A.set g (c:Int))))[c]? = some (.sl 7 1 0 B.length):=by rw [List.getElem?_set_ne hcd];exact t3
      refine (Ref.close 4 d 6 (cs:=D) (cs2:=Aa (A.set g (c:Int))) rfl t2 rfl (by decide) (by simp [Aa])).trans ?_
      rw [e1]
      refine (Ref.close 4 c 7 (cs:=D.set d (Ad (A.set g (c:Int)))) (cs2:=Aa (B.set g (d:Int))) rfl t6 rfl (by decide) (by simp [Aa])).trans ?_
      rw [e2,t5]
      refine Ref.gc [0,1,4,5] rfl ?_ ?_
      ·simp only [go_sem,↓reduceIte,Nat.reduceEqDiff,Nat.reduceAdd,reduceCtorEq]
      ·simp [sub,Ab,go_sem,↓reduceIte,Nat.reduceEqDiff,Nat.reduceAdd,reduceCtorEq]
end Go.Proofs.YtcneanpkpmfaiaaGreat
namespace Go.Ce
open Classical
variable {G:Nat} {S:St} {rs:List (List Int)} {c k n:Nat}
theorem dU (h:¬ Go (Ch G S rs c k) c):∀ m,Ch G S rs c (k+m)=Ch G S rs c k
 | 0=>rfl
 | m+1=>by
  have ih:=dU h m
  rw [← Nat.add_assoc,Ch,ih,if_neg h]
theorem Abc (h:¬ Go (Ch G S rs c k) c)(hk:k≤n):Ch G S rs c n=Ch G S rs c k:=by
 have:=dU h (n - k)
 rwa [show k+(n - k)=n by omega] at this
theorem Y6 (h:¬ Go (Ca G S c k) c):∀ m,Ca G S c (k+m)=Ca G S c k
 | 0=>rfl
 | m+1=>by
  have ih:=Y6 h m
  rw [← Nat.add_assoc,Ca,ih,if_neg h]
theorem nI (h:¬ Go (Ca G S c k) c)(hk:k≤n):Ca G S c n=Ca G S c k:=by
 have:=Y6 h (n - k)
 rwa [show k+(n - k)=n by omega] at this
end Go.Ce
namespace Go.Proofs.YtcneanpkpmfaiaaGreat
open Go.Gov Go.Ce
open Classical
abbrev Fl (G:Nat)(rs:List (List Int)):AV:=.agg [i64 (G:Int),Ae rs]
theorem Zx (G : Nat) (hG1 : 1 ≤ G) (hG : G ≤ 5) (rs : List (List Int)) (hrl : rs.length ≤ 1048576) (hrs : ∀ k, k < rs.length → C8 G (rs.getD k []) ∧ (rs.getD k []).length ≤ 1048576) :
    Pure Tryz.prog 136 [Fl G rs,Af] (Ib 0 1 (Bm G rs)) [some ((Bm G rs).im.map Ad),some (Aa (Bm G rs).le)]:=by
 have hlet:∀ k,k<rs.length→C8 G (rs.getD k []):=fun k hk=>(hrs k hk).1
 have hD0:=pK G hG
 refine Au vJ rfl ?_;unfold Wa
 refine RN ?_
 refine Am (hD0) ?_
 refine RN ?_
 refine Aj (α:=Unit) (S:=fun _=>([(1,Af),(2,.ref 0 0),(4,.ref 1 0),(5,.ref 2 0),(6,i64 0),(7,i64 0)],[some [i64 (G:Int),Ae rs],some [Af,Af,bl false],some [.sl 3 1 0 1,.sl 4 1 0 1,bl false],some [Ad (List.replicate G (-1))],some (Aa [0])])) (C:=fun _=>True) (μ:=fun _=>0) () trivial ?_ ?_
 ·exact Ref.gc [0,1,4,2,3] rfl (by simp only [go_sem,↓reduceIte,Nat.reduceEqDiff,Nat.reduceAdd,reduceCtorEq];simp [Ad]) (by simp [sub,Ab,go_sem,↓reduceIte,Nat.reduceEqDiff,Nat.reduceAdd,reduceCtorEq])
 rintro _ _
 refine RN ?_
 intro _
 refine RN ?_
 refine Aj (α:=St×Nat) (S:=fun p=>([(2,.ref 0 0),(4,.ref 1 0),(5,.ref 2 0),(8,i64 (p.2:Int))],[some [i64 (G:Int),Ae rs],some [Af,Af,bl false],some [.sl 3 1 0 p.1.im.length,.sl 4 1 0 p.1.le.length,bl p.1.bad],some (p.1.im.map Ad),some (Aa p.1.le)]))
  (C:=fun p=>Ei G rs p.1 p.2) (μ:=fun p=>2001 - p.2) (Go.Ce.start G,0) (X9 G rs) (Ref.to (by simp [Go.Ce.start,Ad]) (by simp [sub,Ab])) ?_
 rintro ⟨S,c⟩ hE
 dsimp only at hE ⊢
 have hfew:=hE.ok.few
 have hle:=hE.le
 have hSl:=hE.ok.ok.len
 refine RN ?_
 refine ⟨fun hc1=>?_,fun hc1=>?_⟩
 ·obtain ⟨hcl,hcb⟩:=hc1
  have hcl' : c<S.le.length:=by omega
  have hES:=hE.step hG hlet hcl' hcb
  obtain ⟨r1,r2⟩:=Qg hG hE.ok hlet hcl' rs.length (Nat.le_refl _)
  have hrk:=fun k hk=>Qg hG hE.ok hlet hcl' k (hk:k≤rs.length)
  refine RN ?_
  refine Aj (α:=Nat) (S:=fun k=>([(2,.ref 0 0),(4,.ref 1 0),(5,.ref 2 0),(8,i64 (c:Int)),(9,i64 (k:Int))],[some [i64 (G:Int),Ae rs],some [Af,Af,bl false],some [.sl 3 1 0 (Ch G S rs c k).im.length,.sl 4 1 0 (Ch G S rs c k).le.length,bl (Ch G S rs c k).bad],some ((Ch G S rs c k).im.map Ad),some (Aa (Ch G S rs c k).le)]))
   (C:=fun k=>k≤rs.length) (μ:=fun k=>rs.length - k) 0 (Nat.zero_le _) (Ref.to1) ?_
  intro k hk
  obtain ⟨q1,q2⟩:=hrk k hk
  have hst:Ch G S rs c (k+1)=if Go (Ch G S rs c k) c then Bp G (Ch G S rs c k) (rs.getD k []) c else Ch G S rs c k:=rfl
  have hen:=fun h=>Abc (G:=G) (S:=S) (rs:=rs) (c:=c) (k:=k) (n:=rs.length) h hk
  obtain ⟨T,hT⟩:∃ T,T=Ch G S rs c k:=⟨_,rfl⟩
  rw [← hT] at q1 q2 hst hen ⊢
  have hcT:c<T.le.length:=Nat.lt_of_lt_of_le hcl' q2.len
  have hTl:=q1.ok.len
  have hTf:=q1.few
  refine RN ?_
  refine ⟨fun hc2=>?_,fun hc2=>?_⟩
  ·obtain ⟨⟨hc3,hc4⟩,hc5⟩:=hc2
   rw [if_pos ⟨hc4,hc5⟩] at hst
   obtain ⟨w1,w2⟩:=hrs k (by omega)
   have hC:=pI G hG T q1 hc5 c hcT (rs.getD k []) w1 w2
   rw [← hst] at hC
   obtain ⟨U,hU⟩:∃ U,U=Ch G S rs c (k+1):=⟨_,rfl⟩
   rw [← hU] at hC
   refine RN ?_
   refine Jg (hC) [3,4] ?_
   refine RN ?_
   refine ⟨k+1,by omega,by omega,?_⟩
   rw [← hU]
   exact Ref.gc1 [0,1,2,5,6]
  ·have hTe : Ch G S rs c rs.length = T := by
     by_cases hg:Go T c
     ·have : k = rs.length := by
        unfold Go at hg
        rcases hc2 with (hc2 | hc2) | hc2
        ·omega
        ·exact absurd hg.1 hc2
        ·rw [hg.2] at hc2;cases hc2
      rw [← this,← hT]
     ·exact hen hg
   rw [hTe] at r1 r2 hES
   have hgk:=fun m hm=>Sz r1 hcT m (hm:m≤G)
   refine RN ?_
   refine Aj (α:=Nat) (S:=fun m=>([(2,.ref 0 0),(4,.ref 1 0),(5,.ref 2 0),(8,i64 (c:Int)),(10,i64 (m:Int))],[some [i64 (G:Int),Ae rs],some [Af,Af,bl false],some [.sl 3 1 0 (Ca G T c m).im.length,.sl 4 1 0 (Ca G T c m).le.length,bl (Ca G T c m).bad],some ((Ca G T c m).im.map Ad),some (Aa (Ca G T c m).le)]))
    (C:=fun m=>m≤G) (μ:=fun m=>G - m) 0 (Nat.zero_le _) (Ref.to1) ?_
   intro m hm
   obtain ⟨u1,u2,u3⟩:=hgk m hm
   have hgs:Ca G T c (m+1)=if Go (Ca G T c m) c then (nx G (Ca G T c m) c m).1 else Ca G T c m:=rfl
   have hge:=fun h=>nI (G:=G) (S:=T) (c:=c) (k:=m) (n:=G) h hm
   obtain ⟨V,hV⟩:∃ V,V=Ca G T c m:=⟨_,rfl⟩
   rw [← hV] at u1 u2 u3 hgs hge ⊢
   have hcV:c<V.le.length:=Nat.lt_of_lt_of_le hcT u2.len
   have hVl:=u1.ok.len
   have hVf:=u1.few
   refine RN ?_
   refine ⟨fun hc6=>?_,fun hc6=>?_⟩
   ·obtain ⟨⟨hc7,hc8⟩,hc9⟩:=hc6
    rw [if_pos ⟨hc8,hc9⟩] at hgs
    have hN:=Zw G hG V u1 hc9 c m hcV (by omega)
    generalize nx G V c m=Y at hN hgs
    refine RN ?_
    refine Jg (hN) [3,4] ?_
    refine RN ?_
    refine ⟨m+1,by omega,by omega,?_⟩
    rw [hgs]
    exact Ref.gc1 [0,1,2,5,6]
   ·have hVe : Ca G T c G = V := by
      by_cases hg:Go V c
      ·have : m = G := by
         unfold Go at hg
         rcases hc6 with (hc6 | hc6) | hc6
         ·omega
         ·exact absurd hg.1 hc6
         ·rw [hg.2] at hc6;cases hc6
       rw [hV,this]
      ·exact hge hg
    rw [hVe] at hES
    refine RN ?_
    refine ⟨(V,c+1),hES,by dsimp only;omega,?_⟩
    exact Ref.to1
 ·have hdone:=hE.done (by rintro ⟨h1,h2⟩;rcases hc1 with h | h;omega;rw [h2] at h;cases h)
  rw [← hdone]
  refine RN ?_
  exact Ref.gc1 [3,4]
end Go.Proofs.YtcneanpkpmfaiaaGreat
namespace Go.Ce
open Classical
def oz (O:List Nat):List Int:=O.map fun (x:Nat)=>(x:Int)
theorem dD (O:List Nat):(oz O).length=O.length:=by simp [oz]
theorem dC {O:List Nat}{i:Nat}(h:i<O.length):(oz O).getD i 0=(O.getD i 0:Nat):=by simp [oz,h]
noncomputable def Eh (O:List Nat)(n:Nat):List Int:=(List.range n).map fun d=>if d∈O then (Ba O d:Int) else -1
theorem bV (O:List Nat)(n:Nat):(Eh O n).length=n:=by simp [Eh]
theorem bU {O:List Nat}{n d:Nat}(h:d<n):(Eh O n).getD d 0=if d∈O then (Ba O d:Int) else -1:=by simp [Eh,h]
theorem zH {O:List Nat}{d:Nat}(h:d∉O):Ba (O++[d]) d=O.length:=by
 unfold Ba
 rw [List.idxOf_append,if_neg h]
 simp
theorem uL {O:List Nat}{n d:Nat}(h:d∉O):(Eh O n).set d (O.length:Int)=Eh (O++[d]) n:=by
 refine List.ext_getElem (by simp [Eh]) fun j h1 h2=>?_
 rw [List.getElem_set]
 simp only [Eh,List.getElem_map,List.getElem_range]
 by_cases e:d=j
 ·subst e
  rw [if_pos rfl,if_pos (by simp),zH h]
 ·rw [if_neg e]
  by_cases hj:j∈O
  ·rw [if_pos hj,if_pos (by simp [hj]),zI hj]
  ·rw [if_neg hj,if_neg (by simp [hj];exact fun h=>e h.symm)]
theorem uK {O:List Nat}{n d:Nat}(h:d<n):(Eh O n).getD d 0<0 ↔ d∉O:=by
 rw [bU h]
 split
 ·rename_i hm;simp [hm]
 ·rename_i hm;simp [hm]
def E1 (n i:Nat):List Int:=(List.range n).map fun d=>if d=0 then 0 else if d<i then -1 else 0
theorem uH (n i:Nat):(E1 n i).length=n:=by simp [E1]
theorem uI (n:Nat):E1 n 1=List.replicate n 0:=by
 refine List.ext_getElem (by simp [E1]) fun j h1 h2=>?_
 simp only [E1,List.getElem_map,List.getElem_range,List.getElem_replicate]
 split
 ·rfl
 ·rw [if_neg (by omega)]
theorem uJ {n i:Nat}(hi:1≤i):(E1 n i).set i (-1)=E1 n (i+1):=by
 refine List.ext_getElem (by simp [E1]) fun j h1 h2=>?_
 rw [List.getElem_set]
 simp only [E1,List.getElem_map,List.getElem_range]
 by_cases e:i=j
 ·subst e
  rw [if_pos rfl,if_neg (by omega),if_pos (by omega)]
 ·rw [if_neg e]
  by_cases h0:j=0
  ·rw [if_pos h0,if_pos h0]
  ·rw [if_neg h0,if_neg h0]
   by_cases h3:j<i
   ·rw [if_pos h3,if_pos (by omega)]
   ·rw [if_neg h3,if_neg (by omega)]
theorem X8 {G:Nat}(hG:G≤5){rs:List (List Int)}(hr:∀ k,k<rs.length→C8 G (rs.getD k [])):∀ (k:Nat) (S:St) (c:Nat),Ei G rs S c→2001≤c+k→∃ c', Ei G rs (Bm G rs) c' ∧ ¬ (c' < (Bm G rs).le.length∧(Bm G rs).bad=false)
 | 0,S,c,h,hk=>by
  have h1:=h.ok.few
  have h2:=h.le
  omega
 | k+1,S,c,h,hk=>by
  by_cases hc:c<S.le.length∧S.bad=false
  ·exact X8 hG hr k _ _ (h.step hG hr hc.1 hc.2) (by omega)
  ·have e:=h.done hc
   rw [← e]
   exact ⟨c,h,hc⟩
theorem Yf {G:Nat}(hG:G≤5){rs:List (List Int)}(hr:∀ k,k<rs.length→C8 G (rs.getD k []))(hb:(Bm G rs).bad=false):Ed G (Bm G rs):=by
 obtain ⟨c,h1,h2⟩:=X8 hG hr 2001 _ _ (X9 G rs) (by omega)
 exact lW h1 hb h2
theorem uG (n:Nat):E1 n n=Eh [0] n:=by
 refine List.ext_getElem (by simp [E1,Eh]) fun j h1 h2=>?_
 simp only [E1,Eh,List.getElem_map,List.getElem_range]
 by_cases h0:j=0
 ·subst h0;simp [Ba]
 ·rw [if_neg h0,if_pos (by simpa [E1] using h1),if_neg (by simpa using h0)]
end Go.Ce
namespace Go.Proofs.YtcneanpkpmfaiaaGreat
open Go.Gov Go.Ce
open Classical
theorem pO (G : Nat) (hG1 : 1 ≤ G) (hG : G ≤ 5) (rs : List (List Int)) (hrl : rs.length ≤ 1048576) (hrs : ∀ k, k < rs.length → C8 G (rs.getD k []) ∧ (rs.getD k []).length ≤ 1048576) (hb : (Bm G rs).bad = true) :
    Pure Tryz.prog 116 [Fl G rs,Af] (.tup [Af,bl false]) []:=by
 have hR:=Zx G hG1 hG rs hrl hrs
 generalize Bm G rs=S at *
 refine Bj cD rfl rfl ?_;unfold R0
 refine RN ?_
 refine Am (hR) ?_
 refine RN ?_
 refine ⟨fun _=>?_,fun h=>absurd (hb.symm.trans h) (by decide)⟩
 (refine RN ?_;try with_reducible exact trivial)
theorem Z0 (G : Nat) (hG1 : 1 ≤ G) (hG : G ≤ 5) (rs : List (List Int)) (hrl : rs.length ≤ 1048576) (hrs : ∀ k, k < rs.length → C8 G (rs.getD k []) ∧ (rs.getD k []).length ≤ 1048576) (hb : (Bm G rs).bad = false) :
    Pure Tryz.prog 116 [Fl G rs,Af] (.tup [.sl 0 1 0 G,bl true]) [some ((Ek G (Bm G rs)).map Ad)]:=by
 have hR:=Zx G hG1 hG rs hrl hrs
 have hE:=Yf hG (fun k hk=>(hrs k hk).1) hb
 generalize Bm G rs=S at *
 have hSl:=hE.ok.ok.len
 have hSf:=hE.ok.few
 have hSp:=hE.ok.pos
 refine Au cD rfl ?_;unfold R0
 refine RN ?_
 refine Am (hR) ?_
 refine RN ?_
 refine ⟨fun h=>absurd (hb.symm.trans h) (by decide),fun _=>?_⟩
 refine RN ?_
 refine Aj (α:=Nat) (S:=fun i=>([(2,.ref 0 0),(6,.ref 3 0),(7,.sl 4 1 0 1),(8,.sl 5 1 0 S.le.length),(9,i64 (i:Int))],[some [i64 (G:Int),Ae rs],some (S.im.map Ad),some (Aa S.le),some [.sl 1 1 0 S.im.length,.sl 2 1 0 S.le.length,bl S.bad],some (Aa [0]),some (Aa (E1 S.le.length i))]))
  (C:=fun i=>1≤i∧i≤S.le.length) (μ:=fun i=>S.le.length - i) 1 ⟨Nat.le_refl _,hSp⟩ ?_ ?_
 ·exact Ref.to (by rw [uI];rfl) (by simp [sub,Ab])
 rintro i ⟨hi1,hi⟩
 have hnl:=uH S.le.length i
 refine RN ?_
 refine ⟨fun hc1=>?_,fun hc1=>?_⟩
 ·have hst:=uJ (n:=S.le.length) hi1
  refine RN ?_
  exact ⟨i+1,⟨by omega,by omega⟩,by omega,Ref.to (by rw [hst]) (by simp [sub,Ab])⟩
 obtain rfl:i=S.le.length:=by omega
 rw [uG]
 refine RN ?_
 refine Aj (α:=List Nat×Nat) (S:=fun p=>([(2,.ref 0 0),(6,.ref 3 0),(7,.sl 4 1 0 p.1.length),(8,.sl 5 1 0 S.le.length),(10,i64 (p.2:Int))],[some [i64 (G:Int),Ae rs],some (S.im.map Ad),some (Aa S.le),some [.sl 1 1 0 S.im.length,.sl 2 1 0 S.le.length,bl S.bad],some (Aa (oz p.1)),some (Aa (Eh p.1 S.le.length))]))
  (C:=fun p=>Oi G S p.1 p.2) (μ:=fun p=>2001 - p.2) ([0],0) (bZ hE) (Ref.to1) ?_
 rintro ⟨O,i⟩ hO
 dsimp only at hO ⊢
 have hol:=Nb hO.od
 have hle:=hO.le
 have hoz:=dD O
 refine RN ?_
 refine ⟨fun hc2=>?_,fun hc2=>?_⟩
 ·have hiO:i<O.length:=by omega
  have hmem:=Sw hiO
  have hrt:=hO.od.rt _ hmem
  have hgok:=fun m hm=>T6 hE hO.od hmem m (hm:m≤G)
  have hgp:=T7 S O (O.getD i 0)
  have hOs:=hO.step hE hiO
  refine RN ?_
  refine Aj (α:=Nat) (S:=fun m=>([(2,.ref 0 0),(6,.ref 3 0),(7,.sl 4 1 0 (oG S O (O.getD i 0) m).length),(8,.sl 5 1 0 S.le.length),(10,i64 (i:Int)),(11,i64 (m:Int))],[some [i64 (G:Int),Ae rs],some (S.im.map Ad),some (Aa S.le),some [.sl 1 1 0 S.im.length,.sl 2 1 0 S.le.length,bl S.bad],some (Aa (oz (oG S O (O.getD i 0) m))),some (Aa (Eh (oG S O (O.getD i 0) m) S.le.length))]))
   (C:=fun m=>m≤G) (μ:=fun m=>G - m) 0 (Nat.zero_le _) (Ref.to rfl (by simp [sub,Ab,oG])) ?_
  intro m hm
  obtain ⟨v1,v2⟩:=hgok m hm
  obtain ⟨L,hL⟩:=hgp m
  have hst:oG S O (O.getD i 0) (m+1)=Hd (oG S O (O.getD i 0) m) (Em S (O.getD i 0) m):=rfl
  obtain ⟨x,hx⟩:∃ x,x=O.getD i 0:=⟨_,rfl⟩
  rw [← hx] at hrt hst hL v1 v2 ⊢
  have hat:(oG S O x m).getD i 0=x:=by rw [hL,Y4 hiO,hx]
  obtain ⟨V,hV⟩:∃ V,V=oG S O x m:=⟨_,rfl⟩
  rw [← hV] at v1 v2 hst hL hat ⊢
  have hvl:=Nb v1
  have hvz:=dD V
  have hiV:i<V.length:=by rw [hL,List.length_append];omega
  have hoa:=dC hiV
  rw [hat] at hoa
  refine RN ?_
  refine ⟨fun hc3=>?_,fun hc3=>?_⟩
  ·have hmG:m<G:=by omega
   obtain ⟨i1,i2⟩:=S7 hE hrt hmG
   have hIm:=M5 G S.im S.le S.bad hE.ok.ok hSf x m hrt.1 hmG hG
   rw [i1] at hIm
   obtain ⟨d,hd⟩:∃ d,d=Em S x m:=⟨_,rfl⟩
   rw [← hd] at hIm i2 hst
   have hdl:=i2.1
   have hge:=uK (O:=V) hdl
   have hnv:=bV V S.le.length
   refine RN ?_
   simp only [hoa]
   refine Am (hIm) ?_
   refine RN ?_
   refine ⟨fun hc4=>?_,fun hc4=>?_⟩
   ·have hdV:=hge.1 hc4
    unfold Hd at hst
    rw [if_neg hdV] at hst
    have hse:=uL (n:=S.le.length) hdV
    refine RN ?_
    refine ⟨m+1,by omega,by omega,?_⟩
    rw [hst]
    have tk1:(Aa (oz V)).take V.length=Aa (oz V):=List.take_of_length_le (by rw [B4,hvz];exact Nat.le_refl _)
    refine Ref.gc [0,1,2,3,7,5] rfl ?_ (by simp [sub,Ab,go_sem,↓reduceIte,Nat.reduceEqDiff,Nat.reduceAdd,reduceCtorEq])
    simp only [go_sem,↓reduceIte,Nat.reduceEqDiff,Nat.reduceAdd,reduceCtorEq]
    rw [tk1,De,hse]
    simp [Aa,oz]
   ·have hdV:d∈V:=Classical.byContradiction fun h=>by have:=hge.2 h;omega
    unfold Hd at hst
    rw [if_pos hdV] at hst
    refine RN ?_
    refine ⟨m+1,by omega,by omega,?_⟩
    rw [hst]
    exact Ref.to1
  ·obtain rfl:m=G:=by omega
   rw [← hx,← hV] at hOs
   refine RN ?_
   exact ⟨(V,i+1),hOs,by dsimp only;omega,Ref.to1⟩
 ·have hdo:=hO.done hE (by omega)
  have hok:=cW hE
  rw [← hdo] at hok
  have htb:Ek G S=(List.range G).map fun g=>Dw S O g O.length:=by unfold Ek;rw [hdo]
  have hcl:=hok.cl
  rw [htb]
  clear htb hdo
  have hnv:=bV O S.le.length
  refine RN ?_
  refine Aj (α:=Nat) (S:=fun g=>([(2,.ref 0 0),(6,.ref 3 0),(7,.sl 4 1 0 O.length),(8,.sl 5 1 0 S.le.length),(13,.sl 6 1 0 g),(14,i64 (g:Int))],[some [i64 (G:Int),Ae rs],some (S.im.map Ad),some (Aa S.le),some [.sl 1 1 0 S.im.length,.sl 2 1 0 S.le.length,bl S.bad],some (Aa (oz O)),some (Aa (Eh O S.le.length)),some (((List.range g).map fun g=>Dw S O g O.length).map Ad)]))
   (C:=fun g=>g≤G) (μ:=fun g=>G - g) 0 (Nat.zero_le _) (Ref.to1) ?_
  intro g hg
  refine RN ?_
  refine ⟨fun hc5=>?_,fun hc5=>?_⟩
  ·have hgG:g<G:=by omega
   refine RN ?_
   refine Aj (α:=Nat) (S:=fun j=>([(2,.ref 0 0),(6,.ref 3 0),(7,.sl 4 1 0 O.length),(8,.sl 5 1 0 S.le.length),(13,.sl 6 1 0 g),(14,i64 (g:Int)),(15,.sl 7 1 0 j),(16,i64 (j:Int))],[some [i64 (G:Int),Ae rs],some (S.im.map Ad),some (Aa S.le),some [.sl 1 1 0 S.im.length,.sl 2 1 0 S.le.length,bl S.bad],some (Aa (oz O)),some (Aa (Eh O S.le.length)),some (((List.range g).map fun g=>Dw S O g O.length).map Ad),some (Aa (Dw S O g j))]))
    (C:=fun j=>j≤O.length) (μ:=fun j=>O.length - j) 0 (Nat.zero_le _) (Ref.to1) ?_
   intro j hj
   have htl:=Uu S O g j
   refine RN ?_
   refine ⟨fun hc6=>?_,fun hc6=>?_⟩
   ·have hjO:j<O.length:=by omega
    have hoa:=dC hjO
    obtain ⟨x,hx⟩:∃ x,x=O.getD j 0:=⟨_,rfl⟩
    have hrt:=hok.od.rt _ (Sw hjO)
    obtain ⟨i1,i2⟩:=S7 hE hrt hgG
    have hIm:=M5 G S.im S.le S.bad hE.ok.ok hSf (O.getD j 0) g hrt.1 hgG hG
    have hin:=hcl j hjO g hgG
    have hts:=Adm S O g j
    have hna:=bU (O:=O) i2.1
    rw [if_pos hin] at hna
    rw [i1] at hIm
    have hdl:=i2.1
    rw [← hna] at hts
    generalize Em S (O.getD j 0) g=d at *
    generalize Dw S O g j=R at *
    refine RN ?_
    simp only [hoa]
    refine Am (hIm) ?_
    refine RN ?_
    refine ⟨j+1,by omega,by omega,?_⟩
    rw [hts]
    have tk1:(Aa R).take j=Aa R:=List.take_of_length_le (by rw [B4,htl];exact Nat.le_refl _)
    refine Ref.gc [0,1,2,3,4,5,6,9] rfl ?_ (by simp [sub,Ab,go_sem,↓reduceIte,Nat.reduceEqDiff,Nat.reduceAdd,reduceCtorEq])
    simp only [go_sem,↓reduceIte,Nat.reduceEqDiff,Nat.reduceAdd,reduceCtorEq]
    rw [tk1,De]
    simp [Aa]
   ·obtain rfl:j=O.length:=by omega
    have hgl:(((List.range g).map fun g=>Dw S O g O.length)).length=g:=by simp
    have hgs:((List.range (g+1)).map fun g=>Dw S O g O.length)=((List.range g).map fun g=>Dw S O g O.length)++[Dw S O g O.length]:=by simp [List.range_succ]
    rw [List.length_map] at hgl
    refine RN ?_
    refine ⟨g+1,by omega,by omega,?_⟩
    rw [hgs]
    generalize hM:(List.range g).map (fun g=>Dw S O g O.length)=Mx at *
    have hMl:Mx.length=g:=by rw [← hM];simp
    refine (Ref.close 9 g 7 (k:=1) (n:=O.length) (cs2:=Aa (Dw S O g O.length)) rfl (by rw [List.getElem?_append_right (by simp [hMl])];simp [hMl]) rfl (by decide) (by simp [Aa,htl])).trans (Ref.gc [0,1,2,3,4,5,9] rfl ?_ (by simp [sub,Ab,go_sem,↓reduceIte,Nat.reduceEqDiff,Nat.reduceAdd,reduceCtorEq]))
    have hset:∀ x y:AV,(Mx.map Ad++[x]).set g y=Mx.map Ad++[y]:=fun x y=>by
     rw [List.set_append_right _ _ (by simp [hMl])];simp [hMl]
    have tk1:(Mx.map Ad).take g=Mx.map Ad:=List.take_of_length_le (by simp [hMl])
    simp only [go_sem,↓reduceIte,Nat.reduceEqDiff,Nat.reduceAdd,reduceCtorEq]
    rw [tk1,Eb,hset]
    simp [Ad,htl]
  ·obtain rfl:g=G:=by omega
   refine RN ?_
   exact Ref.gc1 [6]
end Go.Proofs.YtcneanpkpmfaiaaGreat
