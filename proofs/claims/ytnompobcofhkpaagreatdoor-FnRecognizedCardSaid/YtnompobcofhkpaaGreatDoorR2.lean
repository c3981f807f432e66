/- Texts that belong together. -/
import Derived.Test.YtnompobcofhkpaaGreatDoorV1
import Derived.Test.YtnompobcofhkpaaGreatDoorZl
import Derived.Test.YtnompobcofhkpaaGreatDoorZt
import Derived.Test.YtnompobcofhkpaaGreatDoorR1
set_option maxHeartbeats 16000000
set_option linter.unusedSimpArgs false
set_option linter.unusedVariables false
set_option maxRecDepth 100000
namespace Go.Proofs.YtnompobcofhkpaaGreatDoor
section
open Go.Gov Go.Ce
open Classical
abbrev Pr (I:List (List Int))(l:List Int)(b:Bool):AV:=.agg [Ae I,Ad l,bl b]
theorem Bl (H:Heap)(d:Nat)(I:List (List Int))(n:Nat)(h:I.length=n):((I.map Ac).take n).map (Aj H (d+2))=I.map Ad:=by
 rw [List.take_of_length_le (by simp [h]),List.map_map]
 refine List.map_congr_left fun z _=>?_
 simp [Aj,Aa]
theorem Hu (H:Heap)(d:Nat)(l:List Int)(n:Nat)(h:l.length=n):((Aa l).take n).map (Aj H (d+1))=Aa l:=by
 rw [List.take_of_length_le (by rw [A2];omega),Fl]
theorem Fp {I:List (List Int)}{c:Nat}(h:c<I.length):(I.map Ac)[c]? = some (.osl 1 (I.getD c []).length (Aa (I.getD c []))):=by simp [h,Ac]
theorem Py {I : List (List Int)} {c d : Nat} (hc : c < I.length) (hd : d < I.length) (hne : c ≠ d) (x y : AV) : (((I.map Ac).set c x).set d y).length = I.length ∧ (((I.map Ac).set c x).set d y)[c]? = some x ∧ (((I.map Ac).set c x).set d y)[d]? = some y ∧
    ∀ a b:List Int,((((I.map Ac).set c x).set d y).set c (Ac a)).set d (Ac b)=((I.set c a).set d b).map Ac:=by
 refine ⟨by simp,?_,?_,fun a b=>?_⟩
 ·rw [List.getElem?_set_ne (fun h=>hne h.symm),List.getElem?_set_self (by simpa using hc)]
 ·rw [List.getElem?_set_self (by simpa using hd)]
 ·rw [List.set_comm _ _ (fun h=>hne h.symm),List.set_set,List.set_set,List.map_set,List.map_set]
theorem Sm {I:List (List Int)}{c:Nat}(hc:c<I.length)(x:AV):((I.map Ac).set c x).length=I.length∧((I.map Ac).set c x)[c]? = some x∧∀ a:List Int,((I.map Ac).set c x).set c (Ac a)=(I.set c a).map Ac:=by
 refine ⟨by simp,by rw [List.getElem?_set_self (by simpa using hc)],fun a=>by rw [List.set_set,List.map_set]⟩
theorem F5 {l:List AV}{i:Nat}{x d:AV}(h:l[i]? = some x):l.getD i d=x:=by rw [List.getD_eq_getElem?_getD,h];rfl
theorem Vr (I:List (List Int))(l:List Int)(b:Bool)(h:Ic l)(hl:l.length≤2000)(c:Nat)(hc:c<l.length):Pure Tryz.prog 184 [Pr I l b,i64 (c:Int)] (i64 (A0 l c:Nat)) []:=by
 refine Ao Ac9 rfl rfl ?_;unfold Zs
 refine RN ?_
 refine Ah (α:=Nat) (S:=fun d=>([(1,i64 (d:Int)),(2,.ref 0 0)],[some [Ae I,Ad l,bl b]])) (C:=fun d=>d<l.length∧A0 l d=A0 l c) (μ:=fun d=>d) c ⟨hc,rfl⟩ (Ref.to1) ?_
 rintro d ⟨h1,h2⟩
 have hlo:=h d h1
 refine RN ?_
 refine ⟨fun hc1=>?_,fun hc1=>?_⟩
 ·have hst:=Vb h h1 hc1
  refine RN ?_
  refine ⟨(l.getD d 0).toNat,⟨by omega,by rw [← hst];exact h2⟩,by omega,?_⟩
  rw [show (((l.getD d 0).toNat:Nat):Int)=l.getD d 0 by omega]
  exact Ref.to1
 ·have hs:=Va (l:=l) (c:=d) (by omega)
  rw [← h2,hs]
  (refine RN ?_;try with_reducible exact trivial)
theorem Oq (G:Nat)(I:List (List Int))(l:List Int)(b:Bool)(h:Ok G I l)(hl:l.length≤2000)(c g:Nat)(hc:c<l.length)(hg:g<G)(hG:G≤5):Pure Tryz.prog 150 [Pr I l b,i64 (c:Int),i64 (g:Int)] (i64 (img I l c g)) []:=by
 have hcl:c<I.length:=by rw [h.len];exact hc
 have hil:I.length≤2000:=by rw [h.len];exact hl
 have hrow:=h.row c hcl
 have hent:=h.ent c g hcl hg
 have hdef:A7 I c g=(I.getD c []).getD g 0:=rfl
 rw [hdef] at hent
 refine Ao Acs rfl rfl ?_;unfold Zd
 refine RN ?_
 refine ⟨fun hc1=>?_,fun hc1=>?_⟩
 ·have e:img I l c g = -1:=by unfold img;rw [if_pos (by rw [hdef];exact hc1)]
  rw [e]
  (refine RN ?_;try with_reducible exact trivial)
 ·have e:img I l c g=(A0 l ((I.getD c []).getD g 0).toNat:Nat):=by unfold img;rw [if_neg (by rw [hdef];omega),hdef]
  have hf:=Vr I l b h.low hl ((I.getD c []).getD g 0).toNat (by omega)
  rw [show (((I.getD c []).getD g 0).toNat:Int)=(I.getD c []).getD g 0 by omega] at hf
  rw [e]
  refine RN ?_
  refine Ag (hf) ?_
  (refine RN ?_;try with_reducible exact trivial)
end
section
open Go.Gov Go.Ce
open Classical
theorem yC (G : Nat) (hG : G ≤ 5) (r0 : List Int) (J : List (List Int)) (l : List Int) (b : Bool) (hl : l.length = J.length + 1) (hn : l.length < 2000) :
    Ec Tryz.prog 181 [.agg [.sl 0 1 0 l.length,.sl 1 1 0 l.length,bl b],i64 (G:Int)] [some (.sl 2 1 0 r0.length :: J.map Ac),some (Aa l),some (Aa r0)]
     (.tup [.agg [.sl 3 1 0 (l.length+1),.sl 4 1 0 (l.length+1),bl b],i64 (l.length:Int)]) [none,none,some (Aa r0),some (.sl 2 1 0 r0.length :: (J++[List.replicate G (-1)]).map Ac),some (Aa (l++[(l.length:Int)]))]:=by
 refine Gz Wi rfl ?_;unfold Qg
 refine RN ?_
 intro _
 refine RN ?_
 refine Ah (α:=Nat) (S:=fun k=>([(1,i64 (G:Int)),(2,.ref 3 0),(4,.ref 4 0),(5,i64 0),(6,i64 (l.length:Int)),(7,.sl 5 1 0 k),(8,i64 (k:Int))],[some (.sl 2 1 0 r0.length :: J.map Ac),some (Aa l),some (Aa r0),some [.sl 0 1 0 l.length,.sl 1 1 0 l.length,bl b],some [Ai,Ai,bl false],some (Aa (List.replicate k (-1)))])) (C:=fun k=>k≤G) (μ:=fun k=>G - k) 0 (Nat.zero_le _) (Ref.to1) ?_
 intro k hk
 refine RN ?_
 refine ⟨fun hc=>?_,fun hc=>?_⟩
 ·(refine RN ?_;try with_reducible exact trivial)
  refine ⟨k+1,by omega,by omega,?_⟩
  refine Ref.gc [0,1,2,3,4,7] rfl ?_ (by simp [sub,Ab,go_sem,↓reduceIte,Nat.reduceEqDiff,Nat.reduceAdd,reduceCtorEq])
  simp only [go_sem,↓reduceIte,Nat.reduceEqDiff,Nat.reduceAdd,reduceCtorEq]
  rw [List.take_of_length_le (l:=Aa (List.replicate k (-1))) (by simp [Aa]),Cr,List.replicate_succ']
  simp [Aa]
 ·obtain rfl:k=G:=by omega
  refine RN ?_
  have htk:(AV.sl 2 1 0 r0.length :: J.map Ac).take l.length = .sl 2 1 0 r0.length :: J.map Ac:=List.take_of_length_le (by simp [hl])
  rw [htk]
  refine (Ref.close 7 l.length 5 (k:=1) (n:=k) (cs2:=Aa (List.replicate k (-1))) rfl (by rw [List.getElem?_append_right (by simp [hl])];simp [hl]) rfl (by decide) (by simp [Aa])).trans (Ref.gc [0,1,2,7,9] rfl ?_ (by simp [sub,Ab,go_sem,↓reduceIte,Nat.reduceEqDiff,Nat.reduceAdd,reduceCtorEq]))
  have hset:∀ x y:AV,((AV.sl 2 1 0 r0.length :: J.map Ac)++[x]).set l.length y=(AV.sl 2 1 0 r0.length :: J.map Ac)++[y]:=fun x y=>by
   rw [List.set_append_right _ _ (by simp [hl])];simp [hl]
  simp only [hset,go_sem,↓reduceIte,Nat.reduceEqDiff,Nat.reduceAdd,reduceCtorEq]
  have hs2:∀ x y:AV,(AV.sl 2 1 0 r0.length :: (J.map Ac++[x])).set l.length y=AV.sl 2 1 0 r0.length :: (J.map Ac++[y]):=fun x y=>hset x y
  simp [Ac,List.map_append,hs2,Aa]
theorem yB (G : Nat) (r0 : List Int) (J : List (List Int)) (l : List Int) (b : Bool) (hn : l.length = 2000) :
    Ec Tryz.prog 181 [.agg [.sl 0 1 0 l.length,.sl 1 1 0 l.length,bl b],i64 (G:Int)] [some (.sl 2 1 0 r0.length :: J.map Ac),some (Aa l),some (Aa r0)]
     (.tup [.agg [.sl 0 1 0 l.length,.sl 1 1 0 l.length,bl true],i64 0]) [some (.sl 2 1 0 r0.length :: J.map Ac),some (Aa l),some (Aa r0)]:=by
 refine Gz Wi rfl ?_;unfold Qg
 refine RN ?_
 refine ⟨fun _=>?_,fun hc=>absurd (by omega) hc⟩
 refine RN ?_
 exact Ref.gc2 [0,1,2]
end
section
open Go.Gov Go.Ce
open Classical
theorem yA (G:Nat)(hG:G≤5):Pure Tryz.prog 181 [.agg [Ai,Ai,bl false],i64 (G:Int)] (.tup [.agg [.sl 0 1 0 1,.sl 1 1 0 1,bl false],i64 0]) [some [Ac (List.replicate G (-1))],some (Aa [0])]:=by
 refine Bh Wi rfl ?_;unfold Qg
 refine RN ?_
 intro _
 refine RN ?_
 refine Ah (α:=Nat) (S:=fun k=>([(1,i64 (G:Int)),(2,.ref 0 0),(4,.ref 1 0),(5,i64 0),(6,i64 0),(7,.sl 2 1 0 k),(8,i64 (k:Int))],[some [Ai,Ai,bl false],some [Ai,Ai,bl false],some (Aa (List.replicate k (-1)))])) (C:=fun k=>k≤G) (μ:=fun k=>G - k) 0 (Nat.zero_le _) (Ref.to1) ?_
 intro k hk
 refine RN ?_
 refine ⟨fun hc=>?_,fun hc=>?_⟩
 ·(refine RN ?_;try with_reducible exact trivial)
  refine ⟨k+1,by omega,by omega,?_⟩
  refine Ref.gc [0,1,4] rfl ?_ (by simp [sub,Ab,go_sem,↓reduceIte,Nat.reduceEqDiff,Nat.reduceAdd,reduceCtorEq])
  simp only [go_sem,↓reduceIte,Nat.reduceEqDiff,Nat.reduceAdd,reduceCtorEq]
  rw [List.take_of_length_le (l:=Aa (List.replicate k (-1))) (by simp [Aa]),Cr,List.replicate_succ']
  simp [Aa]
 ·obtain rfl:k=G:=by omega
  refine RN ?_
  refine (Ref.close 4 0 2 (k:=1) (n:=k) (cs2:=Aa (List.replicate k (-1))) rfl rfl rfl (by decide) (by simp [Aa])).trans (Ref.gc [4,6] rfl ?_ (by simp [sub,Ab,go_sem,↓reduceIte,Nat.reduceEqDiff,Nat.reduceAdd,reduceCtorEq]))
  simp only [go_sem,↓reduceIte,Nat.reduceEqDiff,Nat.reduceAdd,reduceCtorEq]
  simp [Ac,Aa]
abbrev Jp (o p:Nat)(S:St):AV:=.agg [.sl o 1 0 S.im.length,.sl p 1 0 S.le.length,bl S.bad]
theorem jN (n0:Nat)(I:List (List Int))(l:List Int)(n m:Nat)(b:Bool)(h0:n0≤2):Ref n0 [(0,.agg [.sl 0 1 0 n,.sl 1 1 0 m,bl b])] [some (I.map Ac),some (Aa l)] [(0,.agg [.sl 2 1 0 n,.sl 3 1 0 m,bl b])] [none,none,some (I.map Ac),some (Aa l)]:=
 (Ref.mv 0 (cs:=I.map Ac) (F' := [(0,.agg [.sl 2 1 0 n,.sl 1 1 0 m,bl b])]) (H' := [none,some (Aa l),some (I.map Ac)]) rfl (by simp only [go_sem,↓reduceIte,Nat.reduceEqDiff,Nat.reduceAdd,reduceCtorEq]) (by simp [sub,Ab,go_sem,↓reduceIte,Nat.reduceEqDiff,Nat.reduceAdd,reduceCtorEq])).trans
  (Ref.mv 1 (cs:=Aa l) rfl (by simp only [go_sem,↓reduceIte,Nat.reduceEqDiff,Nat.reduceAdd,reduceCtorEq]) (by simp [sub,Ab,go_sem,↓reduceIte,Nat.reduceEqDiff,Nat.reduceAdd,reduceCtorEq]))
theorem jO (n0:Nat)(I:List (List Int))(l:List Int)(n m:Nat)(b:Bool)(z:Int)(h0:n0≤2):Ref n0 [(0,.tup [.agg [.sl 0 1 0 n,.sl 1 1 0 m,bl b],i64 z])] [some (I.map Ac),some (Aa l)] [(0,.tup [.agg [.sl 2 1 0 n,.sl 3 1 0 m,bl b],i64 z])] [none,none,some (I.map Ac),some (Aa l)]:=
 (Ref.mv 0 (cs:=I.map Ac) (F' := [(0,.tup [.agg [.sl 2 1 0 n,.sl 1 1 0 m,bl b],i64 z])]) (H' := [none,some (Aa l),some (I.map Ac)]) rfl (by simp only [go_sem,↓reduceIte,Nat.reduceEqDiff,Nat.reduceAdd,reduceCtorEq]) (by simp [sub,Ab,go_sem,↓reduceIte,Nat.reduceEqDiff,Nat.reduceAdd,reduceCtorEq])).trans
  (Ref.mv 1 (cs:=Aa l) rfl (by simp only [go_sem,↓reduceIte,Nat.reduceEqDiff,Nat.reduceAdd,reduceCtorEq]) (by simp [sub,Ab,go_sem,↓reduceIte,Nat.reduceEqDiff,Nat.reduceAdd,reduceCtorEq]))
theorem gP (G : Nat) (hG : G ≤ 5) (S : St) (h : Ss G S) (hb : S.bad = false) (c g : Nat) (hc : c < S.le.length) (hg : g < G) :
    Ec Tryz.prog 183 [Jp 0 1 S,i64 (c:Int),i64 (g:Int)] [some (S.im.map Ac),some (Aa S.le)]
     (.tup [Jp 2 3 (nx G S c g).1,i64 ((nx G S c g).2:Int)]) [none,none,some ((nx G S c g).1.im.map Ac),some (Aa (nx G S c g).1.le)]:=by
 obtain ⟨I,l,b⟩:=S
 dsimp only at hb hc ⊢
 subst hb
 have hl:=h.ok.len
 have hfew:=h.few
 dsimp only at hl hfew
 have hIm:=Oq G I l false h.ok hfew c g hc hg hG
 have hib:=h.ok.img (c:=c) (g:=g) (by dsimp only;omega) hg
 dsimp only at hib
 unfold nx
 dsimp only
 simp only [Jp,hl]
 refine Gz Ac8 rfl ?_;unfold Zr
 refine RN ?_
 refine A9 hIm (by simp only [go_sem,↓reduceIte,Nat.reduceEqDiff,Nat.reduceAdd,reduceCtorEq,Bl _ _ I l.length hl];simp only [Pr,Ae,Ad,hl]) (by first | rfl | simp only [go_sem,↓reduceIte,Nat.reduceEqDiff,Nat.reduceAdd,reduceCtorEq]) ?_
 refine RN ?_
 refine ⟨fun hc1=>?_,fun hc1=>?_⟩
 ·rw [if_pos (by omega)]
  have e:(((img I l c g).toNat:Nat):Int)=img I l c g:=by omega
  refine RN ?_
  simp only [e]
  refine Ref.trans (Ref.gc [0,1] rfl ?_ ?_) (jO 2 I l I.length l.length false (img I l c g) (by omega))
  ·simp only [go_sem,↓reduceIte,Nat.reduceEqDiff,Nat.reduceAdd,reduceCtorEq]
  ·simp [sub,Ab,go_sem,↓reduceIte,Nat.reduceEqDiff,Nat.reduceAdd,reduceCtorEq,hl]
 ·rw [if_neg (by omega)]
  obtain ⟨r0,J,rfl⟩:∃ r0 J,I=r0 :: J:=by
   cases I with
   | nil=>simp at hl;omega
   | cons a J=>exact ⟨a,J,rfl⟩
  have hJ:l.length=J.length+1:=by rw [← hl];rfl
  refine E0 ((Ref.open 0 0 (cs:=(r0 :: J).map Ac) (cs2:=Aa r0) (k:=1) (n:=r0.length) rfl rfl).trans (Ref.to (F' := [(1,i64 (c:Int)),(2,i64 (g:Int)),(3,.ref 2 0),(6,.ref 3 0),(7,i64 0)]) (H' := [some (.sl 4 1 0 r0.length :: J.map Ac),some (Aa l),some [.sl 0 1 0 l.length,.sl 1 1 0 l.length,bl false],some [Ai,Ai,bl false],some (Aa r0)]) rfl (by simp [sub,Ab]))) ?_
  by_cases h2:l.length=2000
  ·rw [if_pos h2]
   have hD:=yB r0.length r0 J l false h2
   refine Ho [(1,i64 (c:Int)),(2,i64 (g:Int)),(3,.ref 2 0),(6,.ref 3 0),(7,i64 0),(9,i64 0)] [some ((r0 :: J).map Ac),some (Aa l),some [.sl 0 1 0 l.length,.sl 1 1 0 l.length,bl true],some [Ai,Ai,bl false],none] ?_ ?_
   ·repeat' first
      | simp only [go_sem,↓reduceIte,Nat.reduceEqDiff,Nat.reduceAdd,reduceCtorEq]
      | with_reducible refine Ck ?_
      | with_reducible refine Cj ?_
      | with_reducible exact Cm
      | with_reducible refine Ci ?_ ?_
      | (with_reducible refine And.intro ?_ ?_;focus first | assumption | omega | grind)
      | (refine Tq (hD) [0,1,4] ?_ ?_ ?_ ?_ ?_;(focus first | rfl | simp);(focus (simp only [go_sem,↓reduceIte,Nat.reduceEqDiff,Nat.reduceAdd,reduceCtorEq]<;>rfl));(focus (simp only [go_sem,↓reduceIte,Nat.reduceEqDiff,Nat.reduceAdd,reduceCtorEq]<;>rfl));(focus first | rfl | simp only [go_sem,↓reduceIte,Nat.reduceEqDiff,Nat.reduceAdd,reduceCtorEq]))
    all_goals exact (Ref.close 0 0 4 (k:=1) (n:=r0.length) (cs2:=Aa r0) rfl rfl rfl (by decide) (by simp [Aa])).trans (Ref.to1)
   ·simp only [hl]
    refine RN ?_
    refine Ref.trans (Ref.gc [0,1] rfl ?_ ?_) (jO 2 (r0 :: J) l l.length l.length true 0 (by omega))
    ·simp only [go_sem,↓reduceIte,Nat.reduceEqDiff,Nat.reduceAdd,reduceCtorEq]
    ·simp [sub,Ab,go_sem,↓reduceIte,Nat.reduceEqDiff,Nat.reduceAdd,reduceCtorEq]
  ·rw [if_neg h2]
   have hD:=yC r0.length (by have:=h.ok.row 0 (by simp);simp at this;omega) r0 J l false hJ (by omega)
   refine Ho [(1,i64 (c:Int)),(2,i64 (g:Int)),(3,.ref 2 0),(6,.ref 3 0),(7,i64 0),(9,i64 (l.length:Int))] [none,none,some [.sl 4 1 0 (l.length+1),.sl 5 1 0 (l.length+1),bl false],some [Ai,Ai,bl false],some ((r0 :: J++[List.replicate r0.length (-1)]).map Ac),some (Aa (l++[(l.length:Int)]))] ?_ ?_
   ·repeat' first
      | simp only [go_sem,↓reduceIte,Nat.reduceEqDiff,Nat.reduceAdd,reduceCtorEq]
      | with_reducible refine Ck ?_
      | with_reducible refine Cj ?_
      | with_reducible exact Cm
      | with_reducible refine Ci ?_ ?_
      | (with_reducible refine And.intro ?_ ?_;focus first | assumption | omega | grind)
      | (refine Tq (hD) [0,1,4] ?_ ?_ ?_ ?_ ?_;(focus first | rfl | simp);(focus (simp only [go_sem,↓reduceIte,Nat.reduceEqDiff,Nat.reduceAdd,reduceCtorEq]<;>rfl));(focus (simp only [go_sem,↓reduceIte,Nat.reduceEqDiff,Nat.reduceAdd,reduceCtorEq]<;>rfl));(focus first | rfl | simp only [go_sem,↓reduceIte,Nat.reduceEqDiff,Nat.reduceAdd,reduceCtorEq]))
    all_goals exact (Ref.close 5 0 4 (k:=1) (n:=r0.length) (cs2:=Aa r0) rfl rfl rfl (by decide) (by simp [Aa])).trans (Ref.gc2 [0,1,2,3,5,6])
   ·have hro:∀ d,d<(r0 :: J).length→((r0 :: J).getD d []).length=G:=fun d hd=>h.ok.row d hd
    have hr0:r0.length=G:=by have:=hro 0 (by simp);simpa using this
    rw [hr0]
    have hgl:∀ d,d<(r0 :: J).length+1→((r0 :: J++[List.replicate G (-1)]).getD d []).length=G:=fun d hd=>by
     rcases Nat.lt_or_ge d (r0 :: J).length with h3 | h3
     ·rw [List.getD_eq_getElem?_getD,List.getElem?_append_left h3,← List.getD_eq_getElem?_getD];exact hro d h3
     ·obtain rfl:d=(r0 :: J).length:=by omega
      simp
    have hnew:Eg G (r0 :: J) c g=(((r0 :: J++[List.replicate G (-1)]).set c (((r0 :: J++[List.replicate G (-1)]).getD c []).set g (l.length:Int))).set l.length (((r0 :: J++[List.replicate G (-1)]).getD l.length []).set g (c:Int))):=by
     unfold Eg Bf
     rw [hl,List.getD_eq_getElem?_getD (l:=List.set _ _ _),List.getElem?_set_ne (by omega),← List.getD_eq_getElem?_getD]
    have hnl:(Eg G (r0 :: J) c g).length=l.length+1:=by unfold Eg;rw [Fq,Fq,List.length_append,hl];rfl
    rw [hnl]
    rw [hnew]
    have hIl:(r0 :: J++[List.replicate G (-1:Int)]).length=l.length+1:=by rw [List.length_append,hl];rfl
    rw [hl] at hgl
    generalize r0 :: J++[List.replicate G (-1:Int)]=I2 at *
    have hgc:=hgl c (by omega)
    have hgn:=hgl l.length (by omega)
    obtain ⟨t1,t2,t3,t4⟩:=Py (I:=I2) (c:=c) (d:=l.length) (by omega) (by omega) (by omega) (.sl 6 1 0 (I2.getD c []).length) (.sl 7 1 0 (I2.getD l.length []).length)
    have o2:((I2.map Ac).set c (.sl 6 1 0 (I2.getD c []).length))[l.length]? = some (.osl 1 (I2.getD l.length []).length (Aa (I2.getD l.length []))):=by
     rw [List.getElem?_set_ne (by omega)];exact Fp (by omega)
    have t5:=t4 ((I2.getD c []).set g (l.length:Int)) ((I2.getD l.length []).set g (c:Int))
    refine E0 ((Ref.open 4 c (cs:=I2.map Ac) rfl (Fp (by omega))).trans ((Ref.open 4 l.length (cs:=(I2.map Ac).set c (.sl 6 1 0 (I2.getD c []).length)) rfl o2).trans (Ref.to (F' := [(1,i64 (c:Int)),(2,i64 (g:Int)),(3,.ref 2 0),(6,.ref 3 0),(7,i64 0),(9,i64 (l.length:Int))])
     (H' := [none,none,some [.sl 4 1 0 (l.length+1),.sl 5 1 0 (l.length+1),bl false],some [Ai,Ai,bl false],some (((I2.map Ac).set c (.sl 6 1 0 (I2.getD c []).length)).set l.length (.sl 7 1 0 (I2.getD l.length []).length)),some (Aa (l++[(l.length:Int)])),some (Aa (I2.getD c [])),some (Aa (I2.getD l.length []))]) rfl (by simp [sub,Ab])))) ?_
    generalize ((I2.map Ac).set c (AV.sl 6 1 0 (I2.getD c []).length)).set l.length (AV.sl 7 1 0 (I2.getD l.length []).length)=D at *
    have g1:∀ d,D.getD c d = .sl 6 1 0 (I2.getD c []).length:=fun d=>F5 t2
    have g2:∀ d,D.getD l.length d = .sl 7 1 0 (I2.getD l.length []).length:=fun d=>F5 t3
    generalize I2.getD c []=A at *
    generalize I2.getD l.length []=B at *
    (repeat first | simp only [g1,g2,t1,hIl,Int.toNat_natCast,go_sem,↓reduceIte,Nat.reduceEqDiff,Nat.reduceAdd,reduceCtorEq] | with_reducible refine Bj ?_ | (with_reducible refine And.intro ?_ ?_;focus first | assumption | omega | decide | grind) | (with_reducible refine Br.mk ?_ ?_;focus (intros;omega)))
    have e1:∀ v:Int,AV.osl 1 A.length (Aa (A.set g v))=Ac (A.set g v):=fun v=>by simp [Ac]
    have e2:∀ v:Int,AV.osl 1 B.length (Aa (B.set g v))=Ac (B.set g v):=fun v=>by simp [Ac]
    have t6:(D.set c (Ac (A.set g (l.length:Int))))[l.length]? = some (.sl 7 1 0 B.length):=by rw [List.getElem?_set_ne (by omega)];exact t3
    refine (Ref.close 4 c 6 (cs:=D) (cs2:=Aa (A.set g (l.length:Int))) rfl t2 rfl (by decide) (by simp [Aa])).trans ?_
    rw [e1]
    refine (Ref.close 4 l.length 7 (cs:=D.set c (Ac (A.set g (l.length:Int)))) (cs2:=Aa (B.set g (c:Int))) rfl t6 rfl (by decide) (by simp [Aa])).trans ?_
    rw [e2,t5]
    exact Ref.gc1 [0,1,4,5]
end
end Go.Proofs.YtnompobcofhkpaaGreatDoor
namespace Go.Ce
open Classical
theorem R0 {I:List (List Int)}{lo hi:Nat}(h1:lo<I.length)(hne:lo≠hi):∀ k:Nat,mI I lo hi k=I.set lo ((mI I lo hi k).getD lo [])∧(mI I lo hi k).getD hi []=I.getD hi []
 | 0=>by
  unfold mI
  refine ⟨?_,rfl⟩
  refine List.ext_getElem (by simp) fun j a b=>?_
  rw [List.getElem_set]
  split
  ·rename_i e;subst e;simp [a]
  ·rfl
 | k+1=>by
  obtain ⟨e1,e2⟩:=R0 h1 hne k
  unfold mI
  split
  ·exact ⟨e1,e2⟩
  ·generalize mI I lo hi k=M at *
   have hl:M.length=I.length:=by rw [e1];simp
   unfold Bf
   refine ⟨?_,?_⟩
   ·have e3 : (M.set lo ((M.getD lo []).set k (A7 M hi k))).getD lo [] = (M.getD lo []).set k (A7 M hi k) := by
      rw [List.getD_eq_getElem?_getD,List.getElem?_set_self (by omega)];rfl
    rw [e3]
    generalize (M.getD lo []).set k (A7 M hi k)=r at *
    rw [e1,List.set_set]
   ·rw [List.getD_eq_getElem?_getD,List.getElem?_set_ne hne,← List.getD_eq_getElem?_getD]
    exact e2
theorem Ow (I:List (List Int))(lo hi:Nat):∀ k:Nat,(mI I lo hi k).length=I.length
 | 0=>rfl
 | k+1=>by
  unfold mI
  split
  ·exact Ow I lo hi k
  ·rw [Fq];exact Ow I lo hi k
def mR (I:List (List Int))(lo hi k:Nat):List Int:=(mI I lo hi k).getD lo []
theorem V0 {I : List (List Int)} {lo hi : Nat} (h1 : lo < I.length) (hne : lo ≠ hi) (k : Nat) :
    mR I lo hi (k+1)=(if (I.getD hi []).getD k 0<0∨0≤(mR I lo hi k).getD k 0 then mR I lo hi k else (mR I lo hi k).set k ((I.getD hi []).getD k 0)) ∧
    mQ I lo hi (k+1)=(if 0≤(I.getD hi []).getD k 0∧0≤(mR I lo hi k).getD k 0 then mQ I lo hi k++[(((I.getD hi []).getD k 0).toNat,((mR I lo hi k).getD k 0).toNat)] else mQ I lo hi k):=by
 obtain ⟨e1,e2⟩:=R0 h1 hne k
 have a1:A7 (mI I lo hi k) hi k=(I.getD hi []).getD k 0:=by unfold A7;rw [e2]
 have a2:A7 (mI I lo hi k) lo k=(mR I lo hi k).getD k 0:=rfl
 refine ⟨?_,?_⟩
 ·unfold mR
  rw [mI,a1,a2]
  unfold mR
  split
  ·rfl
  ·unfold Bf
   rw [List.getD_eq_getElem?_getD,List.getElem?_set_self (by rw [Ow];exact h1)]
   rfl
 ·rw [mQ,a1,a2]
theorem R5 {I:List (List Int)}{lo hi:Nat}(h1:lo<I.length)(hne:lo≠hi):∀ k:Nat,(mR I lo hi k).length=(I.getD lo []).length
 | 0=>rfl
 | k+1=>by
  rw [(V0 h1 hne k).1]
  split
  ·exact R5 h1 hne k
  ·rw [List.length_set];exact R5 h1 hne k
end Go.Ce
namespace Go.Proofs.YtnompobcofhkpaaGreatDoor
open Go.Gov Go.Ce
open Classical
def F4 (q:List (Nat×Nat)):List Int:=q.map fun p=>(p.1:Int)
def Ge (q:List (Nat×Nat)):List Int:=q.map fun p=>(p.2:Int)
theorem eM (q:List (Nat×Nat)):(F4 q).length=q.length:=by simp [F4]
theorem nS (q:List (Nat×Nat)):(Ge q).length=q.length:=by simp [Ge]
theorem vE (q:List (Nat×Nat))(a b:Nat):F4 (q++[(a,b)])=F4 q++[(a:Int)]:=by simp [F4]
theorem Aj2 (q:List (Nat×Nat))(a b:Nat):Ge (q++[(a,b)])=Ge q++[(b:Int)]:=by simp [Ge]
theorem vF {q:List (Nat×Nat)}{i:Nat}{p:Nat×Nat}(h:q[i]? = some p):(F4 q).getD i 0=(p.1:Int):=by simp [F4,h]
theorem Aj3 {q:List (Nat×Nat)}{i:Nat}{p:Nat×Nat}(h:q[i]? = some p):(Ge q).getD i 0=(p.2:Int):=by simp [Ge,h]
theorem gO (G : Nat) (hG : G ≤ 5) (I0 : List (List Int)) (l0 : List Int) (b : Bool) (h : Ok G I0 l0) (hfew : l0.length ≤ 2000) (c d : Nat) (hc : c < l0.length) (hd : d < l0.length) :
    Ec Tryz.prog 205 [Jp 0 1 ⟨I0,l0,b⟩,i64 (c:Int),i64 (d:Int)] [some (I0.map Ac),some (Aa l0)]
     (Jp 2 3 ⟨(B2 G I0 l0 c d).1,(B2 G I0 l0 c d).2,b⟩) [none,none,some ((B2 G I0 l0 c d).1.map Ac),some (Aa (B2 G I0 l0 c d).2)]:=by
 have hl:=h.len
 dsimp only [Jp]
 refine Gz Adh rfl ?_;unfold Zy
 refine RN ?_
 refine Ah (α := List (List Int) × List Int × List (Nat × Nat) × Nat) (S := fun p => ([(3, .ref 2 0), (6, .ref 3 0), (7, .sl 4 1 0 p.2.2.1.length), (8, .sl 5 1 0 p.2.2.1.length), (9, i64 (p.2.2.2 : Int))],
     [some (p.1.map Ac),some (Aa p.2.1),some [.sl 0 1 0 l0.length,.sl 1 1 0 l0.length,bl b],some [Ai,Ai,bl false],some (Aa (F4 p.2.2.1)),some (Aa (Ge p.2.2.1))]))
  (C:=fun p=>p.2.2.2≤p.2.2.1.length∧IdI G I0 l0 (B2 G I0 l0 c d) p.1 p.2.1 (p.2.2.1.drop p.2.2.2)∧p.2.2.2+By p.2.1 (p.2.2.1.drop p.2.2.2)≤12001) (μ:=fun p=>By p.2.1 (p.2.2.1.drop p.2.2.2)) (I0,l0,[(c,d)],0) ?_ ?_ ?_
 ·have hr:=W2 l0
  refine ⟨Nat.zero_le _,IdI.start h hc hd,?_⟩
  unfold By
  simp only [List.drop_zero,List.length_cons,List.length_nil]
  omega
 ·exact Ref.to (by simp [F4,Ge,hl,Aa]) (by simp [sub,Ab])
 rintro ⟨I,l,Qs,i⟩ ⟨hi,hI,hm⟩
 dsimp only at hi hI hm ⊢
 have hIl:I.length=l0.length:=by rw [hI.ok.len,hI.len]
 have hll:=hI.len
 have hQ:Qs.length≤12001:=by
  have:(Qs.drop i).length≤By l (Qs.drop i):=by unfold By;omega
  rw [List.length_drop] at this
  omega
 have hf1:=eM Qs
 have hf2:=nS Qs
 refine RN ?_
 refine ⟨fun hc1=>?_,fun hc1=>?_⟩
 ·have hiQ:i<Qs.length:=by omega
  obtain ⟨⟨a,e⟩,hp⟩:∃ p,Qs[i]? = some p:=⟨_,List.getElem?_eq_getElem hiQ⟩
  have hdr:Qs.drop i=(a,e) :: Qs.drop (i+1):=by rw [List.drop_eq_getElem_cons hiQ,(List.getElem?_eq_some_iff.1 hp).2]
  rw [hdr] at hI hm
  have hab:=hI.qb (a,e) (by simp)
  dsimp only at hab
  have e1:=vF hp
  have e2:=Aj3 hp
  dsimp only at e1 e2
  have hF1:=Vr I l b hI.ok.low (by omega) a hab.1
  have hF2:=Vr I l b hI.ok.low (by omega) e hab.2
  have f1:=J3 hI.ok.low a hab.1
  have f2:=J3 hI.ok.low e hab.2
  have hsame:=fun h=>hI.same h
  have hstep:=fun h=>hI.step hG rfl rfl h
  generalize A0 l a=x at *
  generalize A0 l e=y at *
  refine RN ?_
  simp only [e1,e2]
  refine A9 hF1 (by simp only [go_sem,↓reduceIte,Nat.reduceEqDiff,Nat.reduceAdd,reduceCtorEq,Bl _ _ I l0.length hIl,Hu _ _ l l0.length hll];simp only [Pr,Ae,Ad,hIl,hll]) (by first | rfl | simp only [go_sem,↓reduceIte,Nat.reduceEqDiff,Nat.reduceAdd,reduceCtorEq]) ?_
  simp only [go_sem,↓reduceIte,Nat.reduceEqDiff,Nat.reduceAdd,reduceCtorEq]
  refine A9 hF2 (by simp only [go_sem,↓reduceIte,Nat.reduceEqDiff,Nat.reduceAdd,reduceCtorEq,Bl _ _ I l0.length hIl,Hu _ _ l l0.length hll];simp only [Pr,Ae,Ad,hIl,hll]) (by first | rfl | simp only [go_sem,↓reduceIte,Nat.reduceEqDiff,Nat.reduceAdd,reduceCtorEq]) ?_
  refine RN ?_
  refine ⟨fun hxy=>?_,fun hxy=>?_⟩
  ·have hI2:=hsame (by omega)
   have hm2:By l (Qs.drop (i+1))+1=By l ((a,e) :: Qs.drop (i+1)):=by unfold By;simp;omega
   refine RN ?_
   refine ⟨(I,l,Qs,i+1),⟨by dsimp only;omega,hI2,by dsimp only;omega⟩,by rw [hdr];dsimp only;omega,?_⟩
   exact Ref.to1
  ·obtain ⟨hI2,hm2⟩:=hstep (by omega)
   refine RN ?_
   apply pJ (fun o:Nat×Nat=>o.1=min x y∧o.2=max x y)
   ·rintro hc2 hj
    refine X3 _ (fun o:Nat×Nat=>[(3,.ref 2 0),(6,.ref 3 0),(7,.sl 4 1 0 Qs.length),(8,.sl 5 1 0 Qs.length),(9,i64 (i:Int)),(10,i64 (o.1:Int)),(11,i64 (o.2:Int))]) (fun _=>[some (I.map Ac),some (Aa l),some [.sl 0 1 0 l0.length,.sl 1 1 0 l0.length,bl b],some [Ai,Ai,bl false],some (Aa (F4 Qs)),some (Aa (Ge Qs))]) hj (y,x) ⟨by dsimp only;omega,by dsimp only;omega⟩ ?_
    exact Ref.to1
   ·rintro hc2 hj
    refine X3 _ (fun o:Nat×Nat=>[(3,.ref 2 0),(6,.ref 3 0),(7,.sl 4 1 0 Qs.length),(8,.sl 5 1 0 Qs.length),(9,i64 (i:Int)),(10,i64 (o.1:Int)),(11,i64 (o.2:Int))]) (fun _=>[some (I.map Ac),some (Aa l),some [.sl 0 1 0 l0.length,.sl 1 1 0 l0.length,bl b],some [Ai,Ai,bl false],some (Aa (F4 Qs)),some (Aa (Ge Qs))]) hj (x,y) ⟨by dsimp only;omega,by dsimp only;omega⟩ ?_
    exact Ref.to1
   ·rintro ⟨lo,hi⟩ ⟨h1,h2⟩
    dsimp only at h1 h2
    rw [← h1,← h2] at hI2 hm2
    have hlh:lo<hi:=by omega
    have hhl:hi<l.length:=by omega
    have hloI:lo<I.length:=by omega
    have hhiI:hi<I.length:=by omega
    have hra:=hI.ok.row hi hhiI
    have hrb:=hI.ok.row lo hloI
    have hAe:∀ k,k<G → -1≤(I.getD hi []).getD k 0∧(I.getD hi []).getD k 0<(l.length:Int):=fun k hk=>hI.ok.ent hi k hhiI hk
    have hst:=V0 hloI (show lo≠hi by omega)
    have hln:=R5 hloI (show lo≠hi by omega)
    have hse:=(R0 hloI (show lo≠hi by omega) G).1
    have hmo:=fun k hk=>(Mj hI.ok (by omega) hhl k hk:Ok G (mI I lo hi k) l∧_)
    have hBe:∀ k,k≤G→∀ j,j<G → -1≤(mR I lo hi k).getD j 0∧(mR I lo hi k).getD j 0<(l.length:Int):=fun k hk j hj=>(hmo k hk).1.ent lo j (by rw [Ow];exact hloI) hj
    have hR0:mR I lo hi 0=I.getD lo []:=rfl
    have hQl:=R4 I lo hi
    have hse2:mI I lo hi G=I.set lo (mR I lo hi G):=hse
    obtain ⟨t1,t2,t3,t4⟩:=Py (I:=I) (c:=hi) (d:=lo) hhiI hloI (by omega) (.sl 6 1 0 (I.getD hi []).length) (.sl 7 1 0 (I.getD lo []).length)
    have o2:((I.map Ac).set hi (.sl 6 1 0 (I.getD hi []).length))[lo]? = some (.osl 1 (I.getD lo []).length (Aa (I.getD lo []))):=by
     rw [List.getElem?_set_ne (by omega)];exact Fp hloI
    have t5:=t4 (I.getD hi []) (mR I lo hi G)
    have t7:((I.set hi (I.getD hi [])).set lo (mR I lo hi G))=mI I lo hi G:=by
     rw [hse2]
     congr 1
     refine List.ext_getElem (by simp) fun j a b=>?_
     rw [List.getElem_set]
     split
     ·rename_i e;subst e;simp [b]
     ·rfl
    rw [t7] at t5
    have hop:=fun n0 F' H' => (Ref.open (n0:=n0) (F:=F') (H:=some (I.map Ac) :: H') 0 hi (cs:=I.map Ac) rfl (Fp hhiI))
    obtain ⟨D,hD⟩:∃ D,D=((I.map Ac).set hi (.sl 6 1 0 (I.getD hi []).length)).set lo (.sl 7 1 0 (I.getD lo []).length):=⟨_,rfl⟩
    have hDr:∀ τ,τ 6=some 6→τ 7=some 7→A5 τ D=D:=fun τ h6 h7=>by
     rw [hD,Pj,Pj,Lh]
     simp [Am,h6,h7]
    rw [← hD] at t1 t2 t3 t5
    refine RN ?_
    refine Ah (α:=Nat) (S:=fun k=>([(3,.ref 2 0),(6,.ref 3 0),(7,.sl 4 1 0 (Qs++mQ I lo hi k).length),(8,.sl 5 1 0 (Qs++mQ I lo hi k).length),(9,i64 (i:Int)),(10,i64 (lo:Int)),(11,i64 (hi:Int)),(12,i64 (k:Int))],
     [some D,some (Aa (l.set hi (lo:Int))),some [.sl 0 1 0 l0.length,.sl 1 1 0 l0.length,bl b],some [Ai,Ai,bl false],some (Aa (F4 (Qs++mQ I lo hi k))),some (Aa (Ge (Qs++mQ I lo hi k))),some (Aa (I.getD hi [])),some (Aa (mR I lo hi k))])) (C:=fun k=>k≤G) (μ:=fun k=>G - k) 0 (Nat.zero_le _) ?_ ?_
    ·refine (Ref.open 0 hi (cs:=I.map Ac) rfl (Fp hhiI)).trans ((Ref.open 0 lo (cs:=(I.map Ac).set hi (.sl 6 1 0 (I.getD hi []).length)) rfl o2).trans (Ref.to ?_ ?_))
     ·dsimp only
      rw [show mQ I lo hi 0=[] from rfl,List.append_nil,hD]
      rfl
     ·dsimp only
      rw [show mQ I lo hi 0=[] from rfl,List.append_nil]
      simp [sub,Ab]
    intro k hk
    have g1:∀ d,D.getD hi d = .sl 6 1 0 (I.getD hi []).length:=fun d=>F5 t2
    have g2:∀ d,D.getD lo d = .sl 7 1 0 (I.getD lo []).length:=fun d=>F5 t3
    have hQk:=hQl k
    obtain ⟨hs1,hs2⟩:=hst k
    have hlk:=hln k
    have hBk:=hBe k hk
    obtain ⟨B,hB⟩:∃ B,B=mR I lo hi k:=⟨_,rfl⟩
    obtain ⟨W,hW⟩:∃ W,W=mQ I lo hi k:=⟨_,rfl⟩
    rw [← hB] at hs1 hs2 hlk hBk ⊢
    rw [← hW] at hs2 hQk ⊢
    have hfl:=eM (Qs++W)
    have hsl:=nS (Qs++W)
    rw [List.length_append] at hfl hsl
    (repeat first | simp only [g1,g2,t1,hIl,Int.toNat_natCast,go_sem,↓reduceIte,Nat.reduceEqDiff,Nat.reduceAdd,reduceCtorEq] | with_reducible refine Bj ?_ | (with_reducible refine And.intro ?_ ?_;focus first | assumption | omega | decide | grind))
    refine ⟨fun hc4=>?_,fun hc4=>?_⟩
    ·have hkG:k<G:=by omega
     have hAk:=hAe k hkG
     have hBg:=hBk k hkG
     (repeat first | simp only [g1,g2,t1,hIl,Int.toNat_natCast,go_sem,↓reduceIte,Nat.reduceEqDiff,Nat.reduceAdd,reduceCtorEq] | with_reducible refine Bj ?_ | (with_reducible refine And.intro ?_ ?_;focus first | assumption | omega | decide | grind))
     refine ⟨fun hc5=>?_,fun hc5=>?_⟩
     ·rw [if_pos (.inl hc5)] at hs1
      rw [if_neg (by omega)] at hs2
      refine RN ?_
      refine ⟨k+1,by omega,by omega,?_⟩
      rw [hs1,hs2]
      exact Ref.to1
     ·(repeat first | simp only [g1,g2,t1,hIl,Int.toNat_natCast,go_sem,↓reduceIte,Nat.reduceEqDiff,Nat.reduceAdd,reduceCtorEq] | with_reducible refine Bj ?_ | (with_reducible refine And.intro ?_ ?_;focus first | assumption | omega | decide | grind))
      refine ⟨fun hc6=>?_,fun hc6=>?_⟩
      ·rw [if_pos (.inr (by omega))] at hs1
       rw [if_pos ⟨by omega,by omega⟩] at hs2
       (repeat first | simp only [g1,g2,t1,hIl,Int.toNat_natCast,go_sem,↓reduceIte,Nat.reduceEqDiff,Nat.reduceAdd,reduceCtorEq] | with_reducible refine Bj ?_ | (with_reducible refine And.intro ?_ ?_;focus first | assumption | omega | decide | grind))
       refine ⟨k+1,by omega,by omega,?_⟩
       rw [hs1,hs2,← List.append_assoc,vE,Aj2]
       have ea:(((I.getD hi []).getD k 0).toNat:Int)=(I.getD hi []).getD k 0:=by omega
       have eb:((B.getD k 0).toNat:Int)=B.getD k 0:=by omega
       rw [ea,eb]
       refine Ref.gc [0,1,2,3,9,11,6,7] rfl ?_ (by simp [sub,Ab,go_sem,↓reduceIte,Nat.reduceEqDiff,Nat.reduceAdd,reduceCtorEq,Nat.add_assoc])
       simp only [go_sem,↓reduceIte,Nat.reduceEqDiff,Nat.reduceAdd,reduceCtorEq]
       have tk1:(Aa (F4 (Qs++W))).take (Qs.length+W.length)=Aa (F4 (Qs++W)):=List.take_of_length_le (by rw [A2,hfl];exact Nat.le_refl _)
       have tk2:(Aa (Ge (Qs++W))).take (Qs.length+W.length)=Aa (Ge (Qs++W)):=List.take_of_length_le (by rw [A2,hsl];exact Nat.le_refl _)
       rw [tk1,tk2,Cr,Cr,hDr]
       ·simp [Aa]
       ·rfl
       ·rfl
      ·rw [if_neg (by omega)] at hs1
       rw [if_neg (by omega)] at hs2
       (repeat first | simp only [g1,g2,t1,hIl,Int.toNat_natCast,go_sem,↓reduceIte,Nat.reduceEqDiff,Nat.reduceAdd,reduceCtorEq] | with_reducible refine Bj ?_ | (with_reducible refine And.intro ?_ ?_;focus first | assumption | omega | decide | grind))
       refine ⟨k+1,by omega,by omega,?_⟩
       rw [hs1,hs2]
       exact Ref.to1
    ·obtain rfl:k=G:=by omega
     refine RN ?_
     refine ⟨(mI I lo hi k,l.set hi (lo:Int),Qs++W,i+1),⟨by dsimp only;simp;omega,?_,?_⟩,?_,?_⟩
     ·dsimp only
      rw [List.drop_append_of_le_length (by omega),hW]
      exact hI2
     ·dsimp only
      rw [List.drop_append_of_le_length (by omega),hW]
      omega
     ·rw [hdr]
      dsimp only
      rw [List.drop_append_of_le_length (by omega),hW]
      exact hm2
     ·have ea:AV.osl 1 (I.getD hi []).length (Aa (I.getD hi []))=Ac (I.getD hi []):=rfl
      have eb:AV.osl 1 (I.getD lo []).length (Aa B)=Ac B:=by simp [Ac,hlk]
      have t6:(D.set hi (Ac (I.getD hi [])))[lo]? = some (.sl 7 1 0 (I.getD lo []).length):=by rw [List.getElem?_set_ne (by omega)];exact t3
      refine (Ref.close 0 hi 6 (cs:=D) (cs2:=Aa (I.getD hi [])) rfl t2 rfl (by decide) (by simp [Aa])).trans ?_
      rw [ea]
      refine (Ref.close 0 lo 7 (cs:=D.set hi (Ac (I.getD hi []))) (cs2:=Aa B) rfl t6 rfl (by decide) (by simp [Aa,hlk])).trans ?_
      rw [eb,hB,t5]
      exact Ref.gc1 [0,1,2,3,4,5]
 ·obtain rfl:i=Qs.length:=by omega
  rw [List.drop_length] at hI
  have hdone:=hI.done
  rw [hdone]
  refine RN ?_
  refine Ref.trans (Ref.gc [0,1] rfl ?_ ?_) (jN 2 I l I.length l.length b (by omega))
  ·simp only [go_sem,↓reduceIte,Nat.reduceEqDiff,Nat.reduceAdd,reduceCtorEq]
  ·simp [sub,Ab,go_sem,↓reduceIte,Nat.reduceEqDiff,Nat.reduceAdd,reduceCtorEq,hIl,hll]
end Go.Proofs.YtnompobcofhkpaaGreatDoor
namespace Go.Ce
open Classical
theorem cJ {G:Nat}{S:St}{w:List Int}{c k:Nat}(h:(Ay G S w c k).1.bad=true):∀ m,Ay G S w c (k+m)=Ay G S w c k
 | 0=>rfl
 | m+1=>by
  have ih:=cJ h m
  rw [← Nat.add_assoc,Ay,ih,if_pos h]
theorem cH {G:Nat}{S:St}{w:List Int}{c k n:Nat}(h:(Ay G S w c k).1.bad=true)(hk:k≤n):Ay G S w c n=Ay G S w c k:=by
 have:=cJ h (n - k)
 rwa [show k+(n - k)=n by omega] at this
end Go.Ce
namespace Go.Proofs.YtnompobcofhkpaaGreatDoor
open Go.Gov Go.Ce
open Classical
theorem xY (G : Nat) (hG : G ≤ 5) (S : St) (h : Ss G S) (hb : S.bad = false) (c : Nat) (hc : c < S.le.length) (w : List Int) (hw : Ca G w) (hwl : w.length ≤ 1048576) :
    Ec Tryz.prog 182 [Jp 0 1 S,i64 (c:Int),Ad w] [some (S.im.map Ac),some (Aa S.le)]
     (Jp 2 3 (Bg G S w c)) [none,none,some ((Bg G S w c).im.map Ac),some (Aa (Bg G S w c).le)]:=by
 have hSl:=h.ok.len
 by_cases h0:w.length=0
 ·have e:Bg G S w c=S:=by unfold Bg;rw [if_pos h0]
  rw [e]
  refine Gz kU rfl ?_;unfold Um
  refine RN ?_
  refine ⟨fun _=>?_,fun hc1=>absurd (by omega) hc1⟩
  refine RN ?_
  refine Ref.trans (Ref.gc [0,1] rfl ?_ ?_) (jN 2 S.im S.le S.im.length S.le.length S.bad (by omega))
  ·simp only [go_sem,↓reduceIte,Nat.reduceEqDiff,Nat.reduceAdd,reduceCtorEq]
  ·simp [sub,Ab,go_sem,↓reduceIte,Nat.reduceEqDiff,Nat.reduceAdd,reduceCtorEq]
 ·have ecl:Bg G S w c=if (Ay G S w c (w.length - 1)).1.bad=true then (Ay G S w c (w.length - 1)).1 else fin G (Ay G S w c (w.length - 1)).1 c (Ay G S w c (w.length - 1)).2 (w.getD (w.length - 1) 0).toNat:=by unfold Bg;rw [if_neg h0]
  refine Gz kU rfl ?_;unfold Um
  refine RN ?_
  intro _
  refine RN ?_
  refine Ah (α:=Nat) (S:=fun k=>([(1,i64 (c:Int)),(2,Ad w),(3,.ref 2 0),(6,.ref 3 0),(7,i64 ((Ay G S w c k).2:Int)),(8,i64 (k:Int))],
   [none,none,some [.sl 4 1 0 (Ay G S w c k).1.im.length,.sl 5 1 0 (Ay G S w c k).1.le.length,bl (Ay G S w c k).1.bad],some [Ai,Ai,bl false],some ((Ay G S w c k).1.im.map Ac),some (Aa (Ay G S w c k).1.le)]))
   (C:=fun k=>k+1≤w.length∧(Ay G S w c k).1.bad=false) (μ:=fun k=>w.length - k) 0 ⟨by omega,hb⟩ ?_ ?_
  ·refine (Ref.mv 0 (cs := S.im.map Ac) (F' := [(1, i64 (c : Int)), (2, Ad w), (3, .ref 2 0), (6, .ref 3 0), (7, i64 (c : Int)), (8, i64 0)]) (H' := [none, some (Aa S.le), some [.sl 4 1 0 S.im.length, .sl 1 1 0 S.le.length, bl S.bad], some [Ai, Ai, bl false], some (S.im.map Ac)]) rfl (by simp only [go_sem, ↓reduceIte, Nat.reduceEqDiff, Nat.reduceAdd, reduceCtorEq]) (by simp [sub, Ab, go_sem, ↓reduceIte, Nat.reduceEqDiff, Nat.reduceAdd, reduceCtorEq])).trans
     (Ref.mv 1 (cs:=Aa S.le) rfl (by simp only [go_sem,↓reduceIte,Nat.reduceEqDiff,Nat.reduceAdd,reduceCtorEq]<;>rfl) (by simp [sub,Ab,go_sem,↓reduceIte,Nat.reduceEqDiff,Nat.reduceAdd,reduceCtorEq,Ay]))
  rintro k ⟨hk,hkb⟩
  obtain ⟨s1,s2,s3⟩:=L6 h hw hc k (by omega)
  have hnx:=Wg s1 s3 (g:=(w.getD k 0).toNat)
  have hcs:Ay G S w c (k+1)=nx G (Ay G S w c k).1 (Ay G S w c k).2 (w.getD k 0).toNat:=by rw [Ay,if_neg (by rw [hkb];decide)]
  have hct:=Nat.lt_of_lt_of_le hc s2.len
  have hN:=fun g hg=>gP G hG (Ay G S w c k).1 s1 hkb (Ay G S w c k).2 g s3 hg
  have hcb:=fun hb2=>cH (G:=G) (S:=S) (w:=w) (c:=c) (k:=k+1) (n:=w.length - 1) hb2
  obtain ⟨p,hp⟩:∃ p,p=Ay G S w c k:=⟨_,rfl⟩
  rw [← hp] at s1 s2 s3 hnx hcs hct hN hkb ⊢
  obtain ⟨T,d⟩:=p
  dsimp only at s1 s2 s3 hnx hcs hct hN hkb ⊢
  refine RN ?_
  refine ⟨fun hc2=>?_,fun hc2=>?_⟩
  ·have hkl:k+1<w.length:=by omega
   have hlet:=hw k (by omega)
   have hN2:=hN (w.getD k 0).toNat (by omega)
   rw [← hcs] at hN2
   rw [show (((w.getD k 0).toNat:Nat):Int)=w.getD k 0 by omega] at hN2
   have hnx2:=hnx (by omega)
   rw [← hcs] at hnx2
   obtain ⟨q,hq⟩:∃ q,q=Ay G S w c (k+1):=⟨_,rfl⟩
   rw [← hq] at hN2 hnx2 hcb
   obtain ⟨U,e⟩:=q
   dsimp only at hN2 hnx2 hcb
   refine RN ?_
   refine Ho [(1,i64 (c:Int)),(2,Ad w),(3,.ref 2 0),(6,.ref 3 0),(7,i64 (d:Int)),(8,i64 (k:Int)),(9,.ref 6 0),(10,i64 (e:Int))]
    [none,none,some [.any,.any,bl T.bad],some [Ai,Ai,bl false],some (U.im.map Ac),some (Aa U.le),some [.sl 4 1 0 U.im.length,.sl 5 1 0 U.le.length,bl U.bad]] ?_ ?_
   ·repeat' first
      | simp only [go_sem,↓reduceIte,Nat.reduceEqDiff,Nat.reduceAdd,reduceCtorEq]
      | with_reducible refine Ck ?_
      | with_reducible refine Cj ?_
      | with_reducible exact Cm
      | with_reducible refine Ci ?_ ?_
      | (with_reducible refine And.intro ?_ ?_;focus first | assumption | omega | grind)
      | (refine Tq (hN2) [4,5] ?_ ?_ ?_ ?_ ?_;(focus first | rfl | simp);(focus (simp only [go_sem,↓reduceIte,Nat.reduceEqDiff,Nat.reduceAdd,reduceCtorEq]<;>rfl));(focus (simp only [go_sem,↓reduceIte,Nat.reduceEqDiff,Nat.reduceAdd,reduceCtorEq]<;>rfl));(focus first | rfl | simp only [go_sem,↓reduceIte,Nat.reduceEqDiff,Nat.reduceAdd,reduceCtorEq]))
    all_goals first
     | (refine Ref.gc [0,1,2,3,6,7,8] rfl ?_ ?_<;>first | (simp only [go_sem,↓reduceIte,Nat.reduceEqDiff,Nat.reduceAdd,reduceCtorEq];done) | (simp only [go_sem,↓reduceIte,Nat.reduceEqDiff,Nat.reduceAdd,reduceCtorEq];rfl) | (simp [sub,Ab,go_sem,↓reduceIte,Nat.reduceEqDiff,Nat.reduceAdd,reduceCtorEq];done))
     | (refine Ref.gc [0,1,2,3,7,8,6] rfl ?_ ?_<;>first | (simp only [go_sem,↓reduceIte,Nat.reduceEqDiff,Nat.reduceAdd,reduceCtorEq];done) | (simp only [go_sem,↓reduceIte,Nat.reduceEqDiff,Nat.reduceAdd,reduceCtorEq];rfl) | (simp [sub,Ab,go_sem,↓reduceIte,Nat.reduceEqDiff,Nat.reduceAdd,reduceCtorEq];done))
   ·(refine RN ?_;try with_reducible exact trivial)
    refine ⟨fun hc3=>?_,fun hc3=>?_⟩
    ·have hb2:U.bad=true:=by simpa using hc3
     have hcl:=hcb hb2 (by omega)
     rw [hcl] at ecl
     dsimp only at ecl
     rw [if_pos hb2] at ecl
     rw [ecl]
     refine RN ?_
     exact Ref.gc1 [0,1,4,5]
    ·have hb2:U.bad=false:=by simpa using hc3
     refine RN ?_
     refine ⟨k+1,⟨by omega,by rw [← hq];exact hb2⟩,by omega,?_⟩
     rw [← hq]
     exact Ref.gc1 [0,1,2,3,4,5]
  ·obtain rfl:k=w.length - 1:=by omega
   rw [← hp] at ecl
   dsimp only at ecl
   rw [if_neg (by rw [hkb];decide)] at ecl
   have hlet:=hw (w.length - 1) (by omega)
   obtain ⟨g,hg⟩:∃ g,g=(w.getD (w.length - 1) 0).toNat:=⟨_,rfl⟩
   have hgz:w.getD (w.length - 1) 0=(g:Int):=by omega
   rw [← hg] at ecl
   have hI1:=Oq G T.im T.le T.bad s1.ok s1.few d g s3 (by omega) hG
   have hI2:=Oq G T.im T.le T.bad s1.ok s1.few c g hct (by omega) hG
   have hTl:=s1.ok.len
   have hTf:=s1.few
   have b1:=s1.ok.img (c:=d) (g:=g) (by omega) (by omega)
   have b2:=s1.ok.img (c:=c) (g:=g) (by omega) (by omega)
   have hfin:fin G T c d g=if 0≤img T.im T.le d g then ⟨(B2 G T.im T.le (img T.im T.le d g).toNat c).1,(B2 G T.im T.le (img T.im T.le d g).toNat c).2,T.bad⟩
    else if 0≤img T.im T.le c g then ⟨(B2 G T.im T.le (img T.im T.le c g).toNat d).1,(B2 G T.im T.le (img T.im T.le c g).toNat d).2,T.bad⟩
    else ⟨Bf (Bf T.im d g (c:Int)) c g (d:Int),T.le,T.bad⟩:=rfl
   rw [← ecl] at hfin
   clear ecl
   generalize Bg G S w c=Z at *
   have hD1:=fun a ha=>gO G hG T.im T.le T.bad s1.ok s1.few a c ha hct
   have hD2:=fun a ha=>gO G hG T.im T.le T.bad s1.ok s1.few a d ha s3
   have hrw:=s1.ok.row
   obtain ⟨I,l,tb⟩:=T
   dsimp only at *
   subst hkb
   refine RN ?_
   simp only [hgz]
   refine Ag (hI1) ?_
   simp only [go_sem,↓reduceIte,Nat.reduceEqDiff,Nat.reduceAdd,reduceCtorEq]
   refine Ag (hI2) ?_
   refine RN ?_
   refine ⟨fun hc3=>?_,fun hc3=>?_⟩
   ·rw [if_pos hc3] at hfin
    have hD:=hD1 (img I l d g).toNat (by omega)
    rw [show (((img I l d g).toNat:Nat):Int)=img I l d g by omega] at hD
    rw [hfin]
    generalize B2 G I l (img I l d g).toNat c=R at *
    refine Ft (hD) [4,5] ?_
    refine RN ?_
    exact Ref.gc1 [0,1,6,7]
   ·rw [if_neg (by omega)] at hfin
    refine RN ?_
    refine ⟨fun hc4=>?_,fun hc4=>?_⟩
    ·rw [if_pos hc4] at hfin
     have hD:=hD2 (img I l c g).toNat (by omega)
     rw [show (((img I l c g).toNat:Nat):Int)=img I l c g by omega] at hD
     rw [hfin]
     generalize B2 G I l (img I l c g).toNat d=R at *
     refine Ft (hD) [4,5] ?_
     refine RN ?_
     exact Ref.gc1 [0,1,6,7]
    ·rw [if_neg (by omega)] at hfin
     have hrc:=hrw c (by omega)
     have hrd:=hrw d (by omega)
     rw [hfin]
     by_cases hcd:d=c
     ·subst hcd
      have hput:Bf (Bf I d g (d:Int)) d g (d:Int)=I.set d (((I.getD d []).set g (d:Int)).set g (d:Int)):=by
       unfold Bf
       rw [List.getD_eq_getElem?_getD (l:=List.set _ _ _),List.getElem?_set_self (by omega),List.set_set]
       rfl
      rw [hput]
      obtain ⟨t1,t2,t3⟩:=Sm (I:=I) (c:=d) (by omega) (.sl 6 1 0 (I.getD d []).length)
      have t5:=t3 (((I.getD d []).set g (d:Int)).set g (d:Int))
      refine E0 ((Ref.open 4 d (cs:=I.map Ac) rfl (Fp (by omega))).trans (Ref.to (F' := [(1,i64 (d:Int)),(3,.ref 2 0),(6,.ref 3 0),(7,i64 (d:Int)),(11,i64 (g:Int))])
       (H' := [none,none,some [.sl 4 1 0 I.length,.sl 5 1 0 l.length,bl false],some [Ai,Ai,bl false],some ((I.map Ac).set d (.sl 6 1 0 (I.getD d []).length)),some (Aa l),some (Aa (I.getD d []))]) rfl (by simp [sub,Ab]))) ?_
      generalize (I.map Ac).set d (AV.sl 6 1 0 (I.getD d []).length)=D at *
      have g1:∀ z,D.getD d z = .sl 6 1 0 (I.getD d []).length:=fun z=>F5 t2
      generalize I.getD d []=A at *
      (repeat first | simp only [g1,t1,Int.toNat_natCast,go_sem,↓reduceIte,Nat.reduceEqDiff,Nat.reduceAdd,reduceCtorEq] | with_reducible refine Bj ?_ | (with_reducible refine And.intro ?_ ?_;focus first | assumption | omega | decide | grind))
      have e1:AV.osl 1 A.length (Aa ((A.set g (d:Int)).set g (d:Int)))=Ac ((A.set g (d:Int)).set g (d:Int)):=by simp [Ac]
      refine (Ref.close 4 d 6 (cs:=D) (cs2:=Aa ((A.set g (d:Int)).set g (d:Int))) rfl t2 rfl (by decide) (by simp [Aa])).trans ?_
      rw [e1,t5]
      refine Ref.gc [0,1,4,5] rfl ?_ ?_
      ·simp only [go_sem,↓reduceIte,Nat.reduceEqDiff,Nat.reduceAdd,reduceCtorEq]
      ·simp [sub,Ab,go_sem,↓reduceIte,Nat.reduceEqDiff,Nat.reduceAdd,reduceCtorEq]
     ·have hput : Bf (Bf I d g (c : Int)) c g (d : Int) = (I.set d ((I.getD d []).set g (c : Int))).set c ((I.getD c []).set g (d : Int)) := by
        unfold Bf
        rw [List.getD_eq_getElem?_getD (l:=List.set _ _ _),List.getElem?_set_ne hcd,← List.getD_eq_getElem?_getD]
      rw [hput]
      obtain ⟨t1,t2,t3,t4⟩:=Py (I:=I) (c:=d) (d:=c) (by omega) (by omega) hcd (.sl 6 1 0 (I.getD d []).length) (.sl 7 1 0 (I.getD c []).length)
      have o2:((I.map Ac).set d (.sl 6 1 0 (I.getD d []).length))[c]? = some (.osl 1 (I.getD c []).length (Aa (I.getD c []))):=by
       rw [List.getElem?_set_ne hcd];exact Fp (by omega)
      have t5:=t4 ((I.getD d []).set g (c:Int)) ((I.getD c []).set g (d:Int))
      refine E0 ((Ref.open 4 d (cs:=I.map Ac) rfl (Fp (by omega))).trans ((Ref.open 4 c (cs:=(I.map Ac).set d (.sl 6 1 0 (I.getD d []).length)) rfl o2).trans (Ref.to (F' := [(1,i64 (c:Int)),(3,.ref 2 0),(6,.ref 3 0),(7,i64 (d:Int)),(11,i64 (g:Int))])
       (H' := [none,none,some [.sl 4 1 0 I.length,.sl 5 1 0 l.length,bl false],some [Ai,Ai,bl false],some (((I.map Ac).set d (.sl 6 1 0 (I.getD d []).length)).set c (.sl 7 1 0 (I.getD c []).length)),some (Aa l),some (Aa (I.getD d [])),some (Aa (I.getD c []))]) rfl (by simp [sub,Ab])))) ?_
      generalize ((I.map Ac).set d (AV.sl 6 1 0 (I.getD d []).length)).set c (AV.sl 7 1 0 (I.getD c []).length)=D at *
      have g1:∀ z,D.getD d z = .sl 6 1 0 (I.getD d []).length:=fun z=>F5 t2
      have g2:∀ z,D.getD c z = .sl 7 1 0 (I.getD c []).length:=fun z=>F5 t3
      generalize I.getD d []=A at *
      generalize I.getD c []=B at *
      (repeat first | simp only [g1,g2,t1,Int.toNat_natCast,go_sem,↓reduceIte,Nat.reduceEqDiff,Nat.reduceAdd,reduceCtorEq] | with_reducible refine Bj ?_ | (with_reducible refine And.intro ?_ ?_;focus first | assumption | omega | decide | grind))
      have e1:∀ v:Int,AV.osl 1 A.length (Aa (A.set g v))=Ac (A.set g v):=fun v=>by simp [Ac]
      have e2:∀ v:Int,AV.osl 1 B.length (Aa (B.set g v))=Ac (B.set g v):=fun v=>by simp [Ac]
      have t6:(D.set d (Ac (A.set g (c:Int))))[c]? = some (.sl 7 1 0 B.length):=by rw [List.getElem?_set_ne hcd];exact t3
      refine (Ref.close 4 d 6 (cs:=D) (cs2:=Aa (A.set g (c:Int))) rfl t2 rfl (by decide) (by simp [Aa])).trans ?_
      rw [e1]
      refine (Ref.close 4 c 7 (cs:=D.set d (Ac (A.set g (c:Int)))) (cs2:=Aa (B.set g (d:Int))) rfl t6 rfl (by decide) (by simp [Aa])).trans ?_
      rw [e2,t5]
      refine Ref.gc [0,1,4,5] rfl ?_ ?_
      ·simp only [go_sem,↓reduceIte,Nat.reduceEqDiff,Nat.reduceAdd,reduceCtorEq]
      ·simp [sub,Ab,go_sem,↓reduceIte,Nat.reduceEqDiff,Nat.reduceAdd,reduceCtorEq]
end Go.Proofs.YtnompobcofhkpaaGreatDoor
namespace Go.Ce
open Classical
variable {G:Nat} {S:St} {rs:List (List Int)} {c k n:Nat}
theorem mL (h:¬ Go (Bq G S rs c k) c):∀ m,Bq G S rs c (k+m)=Bq G S rs c k
 | 0=>rfl
 | m+1=>by
  have ih:=mL h m
  rw [← Nat.add_assoc,Bq,ih,if_neg h]
theorem Air (h:¬ Go (Bq G S rs c k) c)(hk:k≤n):Bq G S rs c n=Bq G S rs c k:=by
 have:=mL h (n - k)
 rwa [show k+(n - k)=n by omega] at this
theorem eV (h:¬ Go (Bo G S c k) c):∀ m,Bo G S c (k+m)=Bo G S c k
 | 0=>rfl
 | m+1=>by
  have ih:=eV h m
  rw [← Nat.add_assoc,Bo,ih,if_neg h]
theorem vT (h:¬ Go (Bo G S c k) c)(hk:k≤n):Bo G S c n=Bo G S c k:=by
 have:=eV h (n - k)
 rwa [show k+(n - k)=n by omega] at this
end Go.Ce
namespace Go.Proofs.YtnompobcofhkpaaGreatDoor
open Go.Gov Go.Ce
open Classical
abbrev Dq (G:Nat)(rs:List (List Int)):AV:=.agg [i64 (G:Int),Ae rs]
theorem gQ (G : Nat) (hG1 : 1 ≤ G) (hG : G ≤ 5) (rs : List (List Int)) (hrl : rs.length ≤ 1048576) (hrs : ∀ k, k < rs.length → Ca G (rs.getD k []) ∧ (rs.getD k []).length ≤ 1048576) :
    Pure Tryz.prog 149 [Dq G rs,Ai] (Jp 0 1 (Ba G rs)) [some ((Ba G rs).im.map Ac),some (Aa (Ba G rs).le)]:=by
 have hlet:∀ k,k<rs.length→Ca G (rs.getD k []):=fun k hk=>(hrs k hk).1
 have hD0:=yA G hG
 refine Bh Acq rfl ?_;unfold Zb
 refine RN ?_
 refine Ag (hD0) ?_
 refine RN ?_
 refine Ah (α:=Unit) (S:=fun _=>([(1,Ai),(2,.ref 0 0),(4,.ref 1 0),(5,.ref 2 0),(6,i64 0),(7,i64 0)],[some [i64 (G:Int),Ae rs],some [Ai,Ai,bl false],some [.sl 3 1 0 1,.sl 4 1 0 1,bl false],some [Ac (List.replicate G (-1))],some (Aa [0])])) (C:=fun _=>True) (μ:=fun _=>0) () trivial ?_ ?_
 ·exact Ref.gc [0,1,4,2,3] rfl (by simp only [go_sem,↓reduceIte,Nat.reduceEqDiff,Nat.reduceAdd,reduceCtorEq];simp [Ac]) (by simp [sub,Ab,go_sem,↓reduceIte,Nat.reduceEqDiff,Nat.reduceAdd,reduceCtorEq])
 rintro _ _
 refine RN ?_
 intro _
 refine RN ?_
 refine Ah (α:=St×Nat) (S:=fun p=>([(2,.ref 0 0),(4,.ref 1 0),(5,.ref 2 0),(8,i64 (p.2:Int))],[some [i64 (G:Int),Ae rs],some [Ai,Ai,bl false],some [.sl 3 1 0 p.1.im.length,.sl 4 1 0 p.1.le.length,bl p.1.bad],some (p.1.im.map Ac),some (Aa p.1.le)]))
  (C:=fun p=>Ei G rs p.1 p.2) (μ:=fun p=>2001 - p.2) (Go.Ce.start G,0) (Qv G rs) (Ref.to (by simp [Go.Ce.start,Ac]) (by simp [sub,Ab])) ?_
 rintro ⟨S,c⟩ hE
 dsimp only at hE ⊢
 have hfew:=hE.ok.few
 have hle:=hE.le
 have hSl:=hE.ok.ok.len
 refine RN ?_
 refine ⟨fun hc1=>?_,fun hc1=>?_⟩
 ·obtain ⟨hcl,hcb⟩:=hc1
  have hcl' : c<S.le.length:=by omega
  have hES:=hE.step hG hlet hcl' hcb
  obtain ⟨r1,r2⟩:=Ki hG hE.ok hlet hcl' rs.length (Nat.le_refl _)
  have hrk:=fun k hk=>Ki hG hE.ok hlet hcl' k (hk:k≤rs.length)
  refine RN ?_
  refine Ah (α:=Nat) (S:=fun k=>([(2,.ref 0 0),(4,.ref 1 0),(5,.ref 2 0),(8,i64 (c:Int)),(9,i64 (k:Int))],[some [i64 (G:Int),Ae rs],some [Ai,Ai,bl false],some [.sl 3 1 0 (Bq G S rs c k).im.length,.sl 4 1 0 (Bq G S rs c k).le.length,bl (Bq G S rs c k).bad],some ((Bq G S rs c k).im.map Ac),some (Aa (Bq G S rs c k).le)]))
   (C:=fun k=>k≤rs.length) (μ:=fun k=>rs.length - k) 0 (Nat.zero_le _) (Ref.to1) ?_
  intro k hk
  obtain ⟨q1,q2⟩:=hrk k hk
  have hst:Bq G S rs c (k+1)=if Go (Bq G S rs c k) c then Bg G (Bq G S rs c k) (rs.getD k []) c else Bq G S rs c k:=rfl
  have hen:=fun h=>Air (G:=G) (S:=S) (rs:=rs) (c:=c) (k:=k) (n:=rs.length) h hk
  obtain ⟨T,hT⟩:∃ T,T=Bq G S rs c k:=⟨_,rfl⟩
  rw [← hT] at q1 q2 hst hen ⊢
  have hcT:c<T.le.length:=Nat.lt_of_lt_of_le hcl' q2.len
  have hTl:=q1.ok.len
  have hTf:=q1.few
  refine RN ?_
  refine ⟨fun hc2=>?_,fun hc2=>?_⟩
  ·obtain ⟨⟨hc3,hc4⟩,hc5⟩:=hc2
   rw [if_pos ⟨hc4,hc5⟩] at hst
   obtain ⟨w1,w2⟩:=hrs k (by omega)
   have hC:=xY G hG T q1 hc5 c hcT (rs.getD k []) w1 w2
   rw [← hst] at hC
   obtain ⟨U,hU⟩:∃ U,U=Bq G S rs c (k+1):=⟨_,rfl⟩
   rw [← hU] at hC
   refine RN ?_
   refine Ft (hC) [3,4] ?_
   refine RN ?_
   refine ⟨k+1,by omega,by omega,?_⟩
   rw [← hU]
   exact Ref.gc1 [0,1,2,5,6]
  ·have hTe : Bq G S rs c rs.length = T := by
     by_cases hg:Go T c
     ·have : k = rs.length := by
        unfold Go at hg
        rcases hc2 with (hc2 | hc2) | hc2
        ·omega
        ·exact absurd hg.1 hc2
        ·rw [hg.2] at hc2;cases hc2
      rw [← this,← hT]
     ·exact hen hg
   rw [hTe] at r1 r2 hES
   have hgk:=fun m hm=>Md r1 hcT m (hm:m≤G)
   refine RN ?_
   refine Ah (α:=Nat) (S:=fun m=>([(2,.ref 0 0),(4,.ref 1 0),(5,.ref 2 0),(8,i64 (c:Int)),(10,i64 (m:Int))],[some [i64 (G:Int),Ae rs],some [Ai,Ai,bl false],some [.sl 3 1 0 (Bo G T c m).im.length,.sl 4 1 0 (Bo G T c m).le.length,bl (Bo G T c m).bad],some ((Bo G T c m).im.map Ac),some (Aa (Bo G T c m).le)]))
    (C:=fun m=>m≤G) (μ:=fun m=>G - m) 0 (Nat.zero_le _) (Ref.to1) ?_
   intro m hm
   obtain ⟨u1,u2,u3⟩:=hgk m hm
   have hgs:Bo G T c (m+1)=if Go (Bo G T c m) c then (nx G (Bo G T c m) c m).1 else Bo G T c m:=rfl
   have hge:=fun h=>vT (G:=G) (S:=T) (c:=c) (k:=m) (n:=G) h hm
   obtain ⟨V,hV⟩:∃ V,V=Bo G T c m:=⟨_,rfl⟩
   rw [← hV] at u1 u2 u3 hgs hge ⊢
   have hcV:c<V.le.length:=Nat.lt_of_lt_of_le hcT u2.len
   have hVl:=u1.ok.len
   have hVf:=u1.few
   refine RN ?_
   refine ⟨fun hc6=>?_,fun hc6=>?_⟩
   ·obtain ⟨⟨hc7,hc8⟩,hc9⟩:=hc6
    rw [if_pos ⟨hc8,hc9⟩] at hgs
    have hN:=gP G hG V u1 hc9 c m hcV (by omega)
    generalize nx G V c m=Y at hN hgs
    refine RN ?_
    refine Ft (hN) [3,4] ?_
    refine RN ?_
    refine ⟨m+1,by omega,by omega,?_⟩
    rw [hgs]
    exact Ref.gc1 [0,1,2,5,6]
   ·have hVe : Bo G T c G = V := by
      by_cases hg:Go V c
      ·have : m = G := by
         unfold Go at hg
         rcases hc6 with (hc6 | hc6) | hc6
         ·omega
         ·exact absurd hg.1 hc6
         ·rw [hg.2] at hc6;cases hc6
       rw [hV,this]
      ·exact hge hg
    rw [hVe] at hES
    refine RN ?_
    refine ⟨(V,c+1),hES,by dsimp only;omega,?_⟩
    exact Ref.to1
 ·have hdone:=hE.done (by rintro ⟨h1,h2⟩;rcases hc1 with h | h;omega;rw [h2] at h;cases h)
  rw [← hdone]
  refine RN ?_
  exact Ref.gc1 [3,4]
end Go.Proofs.YtnompobcofhkpaaGreatDoor
namespace Go.Ce
open Classical
def oz (O:List Nat):List Int:=O.map fun (x:Nat)=>(x:Int)
theorem H6 (O:List Nat):(oz O).length=O.length:=by simp [oz]
theorem Kg {O:List Nat}{i:Nat}(h:i<O.length):(oz O).getD i 0=(O.getD i 0:Nat):=by simp [oz,h]
noncomputable def E5 (O:List Nat)(n:Nat):List Int:=(List.range n).map fun d=>if d∈O then (A4 O d:Int) else -1
theorem jW (O:List Nat)(n:Nat):(E5 O n).length=n:=by simp [E5]
theorem jV {O:List Nat}{n d:Nat}(h:d<n):(E5 O n).getD d 0=if d∈O then (A4 O d:Int) else -1:=by simp [E5,h]
theorem lQ {O:List Nat}{d:Nat}(h:d∉O):A4 (O++[d]) d=O.length:=by
 unfold A4
 rw [List.idxOf_append,if_neg h]
 simp
theorem Abn {O:List Nat}{n d:Nat}(h:d∉O):(E5 O n).set d (O.length:Int)=E5 (O++[d]) n:=by
 refine List.ext_getElem (by simp [E5]) fun j h1 h2=>?_
 rw [List.getElem_set]
 simp only [E5,List.getElem_map,List.getElem_range]
 by_cases e:d=j
 ·subst e
  rw [if_pos rfl,if_pos (by simp),lQ h]
 ·rw [if_neg e]
  by_cases hj:j∈O
  ·rw [if_pos hj,if_pos (by simp [hj]),Wr hj]
  ·rw [if_neg hj,if_neg (by simp [hj];exact fun h=>e h.symm)]
theorem Abm {O:List Nat}{n d:Nat}(h:d<n):(E5 O n).getD d 0<0 ↔ d∉O:=by
 rw [jV h]
 split
 ·rename_i hm;simp [hm]
 ·rename_i hm;simp [hm]
def F7 (n i:Nat):List Int:=(List.range n).map fun d=>if d=0 then 0 else if d<i then -1 else 0
theorem Abi (n i:Nat):(F7 n i).length=n:=by simp [F7]
theorem Abj (n:Nat):F7 n 1=List.replicate n 0:=by
 refine List.ext_getElem (by simp [F7]) fun j h1 h2=>?_
 simp only [F7,List.getElem_map,List.getElem_range,List.getElem_replicate]
 split
 ·rfl
 ·rw [if_neg (by omega)]
theorem Abk {n i:Nat}(hi:1≤i):(F7 n i).set i (-1)=F7 n (i+1):=by
 refine List.ext_getElem (by simp [F7]) fun j h1 h2=>?_
 rw [List.getElem_set]
 simp only [F7,List.getElem_map,List.getElem_range]
 by_cases e:i=j
 ·subst e
  rw [if_pos rfl,if_neg (by omega),if_pos (by omega)]
 ·rw [if_neg e]
  by_cases h0:j=0
  ·rw [if_pos h0,if_pos h0]
  ·rw [if_neg h0,if_neg h0]
   by_cases h3:j<i
   ·rw [if_pos h3,if_pos (by omega)]
   ·rw [if_neg h3,if_neg (by omega)]
theorem dE {G:Nat}(hG:G≤5){rs:List (List Int)}(hr:∀ k,k<rs.length→Ca G (rs.getD k [])):∀ (k:Nat) (S:St) (c:Nat),Ei G rs S c→2001≤c+k→∃ c', Ei G rs (Ba G rs) c' ∧ ¬ (c' < (Ba G rs).le.length∧(Ba G rs).bad=false)
 | 0,S,c,h,hk=>by
  have h1:=h.ok.few
  have h2:=h.le
  omega
 | k+1,S,c,h,hk=>by
  by_cases hc:c<S.le.length∧S.bad=false
  ·exact dE hG hr k _ _ (h.step hG hr hc.1 hc.2) (by omega)
  ·have e:=h.done hc
   rw [← e]
   exact ⟨c,h,hc⟩
theorem U5 {G:Nat}(hG:G≤5){rs:List (List Int)}(hr:∀ k,k<rs.length→Ca G (rs.getD k []))(hb:(Ba G rs).bad=false):Ed G (Ba G rs):=by
 obtain ⟨c,h1,h2⟩:=dE hG hr 2001 _ _ (Qv G rs) (by omega)
 exact uD h1 hb h2
theorem Abh (n:Nat):F7 n n=E5 [0] n:=by
 refine List.ext_getElem (by simp [F7,E5]) fun j h1 h2=>?_
 simp only [F7,E5,List.getElem_map,List.getElem_range]
 by_cases h0:j=0
 ·subst h0;simp [A4]
 ·rw [if_neg h0,if_pos (by simpa [F7] using h1),if_neg (by simpa using h0)]
end Go.Ce
namespace Go.Proofs.YtnompobcofhkpaaGreatDoor
open Go.Gov Go.Ce
open Classical
theorem yG (G : Nat) (hG1 : 1 ≤ G) (hG : G ≤ 5) (rs : List (List Int)) (hrl : rs.length ≤ 1048576) (hrs : ∀ k, k < rs.length → Ca G (rs.getD k []) ∧ (rs.getD k []).length ≤ 1048576) (hb : (Ba G rs).bad = true) :
    Pure Tryz.prog 117 [Dq G rs,Ai] (.tup [Ai,bl false]) []:=by
 have hR:=gQ G hG1 hG rs hrl hrs
 generalize Ba G rs=S at *
 refine Ao kK rfl rfl ?_;unfold Ud
 refine RN ?_
 refine Ag (hR) ?_
 refine RN ?_
 refine ⟨fun _=>?_,fun h=>absurd (hb.symm.trans h) (by decide)⟩
 (refine RN ?_;try with_reducible exact trivial)
theorem gU (G : Nat) (hG1 : 1 ≤ G) (hG : G ≤ 5) (rs : List (List Int)) (hrl : rs.length ≤ 1048576) (hrs : ∀ k, k < rs.length → Ca G (rs.getD k []) ∧ (rs.getD k []).length ≤ 1048576) (hb : (Ba G rs).bad = false) :
    Pure Tryz.prog 117 [Dq G rs,Ai] (.tup [.sl 0 1 0 G,bl true]) [some ((D1 G (Ba G rs)).map Ac)]:=by
 have hR:=gQ G hG1 hG rs hrl hrs
 have hE:=U5 hG (fun k hk=>(hrs k hk).1) hb
 generalize Ba G rs=S at *
 have hSl:=hE.ok.ok.len
 have hSf:=hE.ok.few
 have hSp:=hE.ok.pos
 refine Bh kK rfl ?_;unfold Ud
 refine RN ?_
 refine Ag (hR) ?_
 refine RN ?_
 refine ⟨fun h=>absurd (hb.symm.trans h) (by decide),fun _=>?_⟩
 refine RN ?_
 refine Ah (α:=Nat) (S:=fun i=>([(2,.ref 0 0),(6,.ref 3 0),(7,.sl 4 1 0 1),(8,.sl 5 1 0 S.le.length),(9,i64 (i:Int))],[some [i64 (G:Int),Ae rs],some (S.im.map Ac),some (Aa S.le),some [.sl 1 1 0 S.im.length,.sl 2 1 0 S.le.length,bl S.bad],some (Aa [0]),some (Aa (F7 S.le.length i))]))
  (C:=fun i=>1≤i∧i≤S.le.length) (μ:=fun i=>S.le.length - i) 1 ⟨Nat.le_refl _,hSp⟩ ?_ ?_
 ·exact Ref.to (by rw [Abj];rfl) (by simp [sub,Ab])
 rintro i ⟨hi1,hi⟩
 have hnl:=Abi S.le.length i
 refine RN ?_
 refine ⟨fun hc1=>?_,fun hc1=>?_⟩
 ·have hst:=Abk (n:=S.le.length) hi1
  refine RN ?_
  exact ⟨i+1,⟨by omega,by omega⟩,by omega,Ref.to (by rw [hst]) (by simp [sub,Ab])⟩
 obtain rfl:i=S.le.length:=by omega
 rw [Abh]
 refine RN ?_
 refine Ah (α:=List Nat×Nat) (S:=fun p=>([(2,.ref 0 0),(6,.ref 3 0),(7,.sl 4 1 0 p.1.length),(8,.sl 5 1 0 S.le.length),(10,i64 (p.2:Int))],[some [i64 (G:Int),Ae rs],some (S.im.map Ac),some (Aa S.le),some [.sl 1 1 0 S.im.length,.sl 2 1 0 S.le.length,bl S.bad],some (Aa (oz p.1)),some (Aa (E5 p.1 S.le.length))]))
  (C:=fun p=>Oi G S p.1 p.2) (μ:=fun p=>2001 - p.2) ([0],0) (Sk hE) (Ref.to1) ?_
 rintro ⟨O,i⟩ hO
 dsimp only at hO ⊢
 have hol:=Ke hO.od
 have hle:=hO.le
 have hoz:=H6 O
 refine RN ?_
 refine ⟨fun hc2=>?_,fun hc2=>?_⟩
 ·have hiO:i<O.length:=by omega
  have hmem:=Et hiO
  have hrt:=hO.od.rt _ hmem
  have hgok:=fun m hm=>Mr hE hO.od hmem m (hm:m≤G)
  have hgp:=Pa S O (O.getD i 0)
  have hOs:=hO.step hE hiO
  refine RN ?_
  refine Ah (α:=Nat) (S:=fun m=>([(2,.ref 0 0),(6,.ref 3 0),(7,.sl 4 1 0 (oG S O (O.getD i 0) m).length),(8,.sl 5 1 0 S.le.length),(10,i64 (i:Int)),(11,i64 (m:Int))],[some [i64 (G:Int),Ae rs],some (S.im.map Ac),some (Aa S.le),some [.sl 1 1 0 S.im.length,.sl 2 1 0 S.le.length,bl S.bad],some (Aa (oz (oG S O (O.getD i 0) m))),some (Aa (E5 (oG S O (O.getD i 0) m) S.le.length))]))
   (C:=fun m=>m≤G) (μ:=fun m=>G - m) 0 (Nat.zero_le _) (Ref.to rfl (by simp [sub,Ab,oG])) ?_
  intro m hm
  obtain ⟨v1,v2⟩:=hgok m hm
  obtain ⟨L,hL⟩:=hgp m
  have hst:oG S O (O.getD i 0) (m+1)=C6 (oG S O (O.getD i 0) m) (Cx S (O.getD i 0) m):=rfl
  obtain ⟨x,hx⟩:∃ x,x=O.getD i 0:=⟨_,rfl⟩
  rw [← hx] at hrt hst hL v1 v2 ⊢
  have hat:(oG S O x m).getD i 0=x:=by rw [hL,J6 hiO,hx]
  obtain ⟨V,hV⟩:∃ V,V=oG S O x m:=⟨_,rfl⟩
  rw [← hV] at v1 v2 hst hL hat ⊢
  have hvl:=Ke v1
  have hvz:=H6 V
  have hiV:i<V.length:=by rw [hL,List.length_append];omega
  have hoa:=Kg hiV
  rw [hat] at hoa
  refine RN ?_
  refine ⟨fun hc3=>?_,fun hc3=>?_⟩
  ·have hmG:m<G:=by omega
   obtain ⟨i1,i2⟩:=K2 hE hrt hmG
   have hIm:=Oq G S.im S.le S.bad hE.ok.ok hSf x m hrt.1 hmG hG
   rw [i1] at hIm
   obtain ⟨d,hd⟩:∃ d,d=Cx S x m:=⟨_,rfl⟩
   rw [← hd] at hIm i2 hst
   have hdl:=i2.1
   have hge:=Abm (O:=V) hdl
   have hnv:=jW V S.le.length
   refine RN ?_
   simp only [hoa]
   refine Ag (hIm) ?_
   refine RN ?_
   refine ⟨fun hc4=>?_,fun hc4=>?_⟩
   ·have hdV:=hge.1 hc4
    unfold C6 at hst
    rw [if_neg hdV] at hst
    have hse:=Abn (n:=S.le.length) hdV
    refine RN ?_
    refine ⟨m+1,by omega,by omega,?_⟩
    rw [hst]
    have tk1:(Aa (oz V)).take V.length=Aa (oz V):=List.take_of_length_le (by rw [A2,hvz];exact Nat.le_refl _)
    refine Ref.gc [0,1,2,3,7,5] rfl ?_ (by simp [sub,Ab,go_sem,↓reduceIte,Nat.reduceEqDiff,Nat.reduceAdd,reduceCtorEq])
    simp only [go_sem,↓reduceIte,Nat.reduceEqDiff,Nat.reduceAdd,reduceCtorEq]
    rw [tk1,Cr,hse]
    simp [Aa,oz]
   ·have hdV:d∈V:=Classical.byContradiction fun h=>by have:=hge.2 h;omega
    unfold C6 at hst
    rw [if_pos hdV] at hst
    refine RN ?_
    refine ⟨m+1,by omega,by omega,?_⟩
    rw [hst]
    exact Ref.to1
  ·obtain rfl:m=G:=by omega
   rw [← hx,← hV] at hOs
   refine RN ?_
   exact ⟨(V,i+1),hOs,by dsimp only;omega,Ref.to1⟩
 ·have hdo:=hO.done hE (by omega)
  have hok:=lJ hE
  rw [← hdo] at hok
  have htb:D1 G S=(List.range G).map fun g=>Da S O g O.length:=by unfold D1;rw [hdo]
  have hcl:=hok.cl
  rw [htb]
  clear htb hdo
  have hnv:=jW O S.le.length
  refine RN ?_
  refine Ah (α:=Nat) (S:=fun g=>([(2,.ref 0 0),(6,.ref 3 0),(7,.sl 4 1 0 O.length),(8,.sl 5 1 0 S.le.length),(13,.sl 6 1 0 g),(14,i64 (g:Int))],[some [i64 (G:Int),Ae rs],some (S.im.map Ac),some (Aa S.le),some [.sl 1 1 0 S.im.length,.sl 2 1 0 S.le.length,bl S.bad],some (Aa (oz O)),some (Aa (E5 O S.le.length)),some (((List.range g).map fun g=>Da S O g O.length).map Ac)]))
   (C:=fun g=>g≤G) (μ:=fun g=>G - g) 0 (Nat.zero_le _) (Ref.to1) ?_
  intro g hg
  refine RN ?_
  refine ⟨fun hc5=>?_,fun hc5=>?_⟩
  ·have hgG:g<G:=by omega
   refine RN ?_
   refine Ah (α:=Nat) (S:=fun j=>([(2,.ref 0 0),(6,.ref 3 0),(7,.sl 4 1 0 O.length),(8,.sl 5 1 0 S.le.length),(13,.sl 6 1 0 g),(14,i64 (g:Int)),(15,.sl 7 1 0 j),(16,i64 (j:Int))],[some [i64 (G:Int),Ae rs],some (S.im.map Ac),some (Aa S.le),some [.sl 1 1 0 S.im.length,.sl 2 1 0 S.le.length,bl S.bad],some (Aa (oz O)),some (Aa (E5 O S.le.length)),some (((List.range g).map fun g=>Da S O g O.length).map Ac),some (Aa (Da S O g j))]))
    (C:=fun j=>j≤O.length) (μ:=fun j=>O.length - j) 0 (Nat.zero_le _) (Ref.to1) ?_
   intro j hj
   have htl:=Xh S O g j
   refine RN ?_
   refine ⟨fun hc6=>?_,fun hc6=>?_⟩
   ·have hjO:j<O.length:=by omega
    have hoa:=Kg hjO
    obtain ⟨x,hx⟩:∃ x,x=O.getD j 0:=⟨_,rfl⟩
    have hrt:=hok.od.rt _ (Et hjO)
    obtain ⟨i1,i2⟩:=K2 hE hrt hgG
    have hIm:=Oq G S.im S.le S.bad hE.ok.ok hSf (O.getD j 0) g hrt.1 hgG hG
    have hin:=hcl j hjO g hgG
    have hts:=oH S O g j
    have hna:=jV (O:=O) i2.1
    rw [if_pos hin] at hna
    rw [i1] at hIm
    have hdl:=i2.1
    rw [← hna] at hts
    generalize Cx S (O.getD j 0) g=d at *
    generalize Da S O g j=R at *
    refine RN ?_
    simp only [hoa]
    refine Ag (hIm) ?_
    refine RN ?_
    refine ⟨j+1,by omega,by omega,?_⟩
    rw [hts]
    have tk1:(Aa R).take j=Aa R:=List.take_of_length_le (by rw [A2,htl];exact Nat.le_refl _)
    refine Ref.gc [0,1,2,3,4,5,6,9] rfl ?_ (by simp [sub,Ab,go_sem,↓reduceIte,Nat.reduceEqDiff,Nat.reduceAdd,reduceCtorEq])
    simp only [go_sem,↓reduceIte,Nat.reduceEqDiff,Nat.reduceAdd,reduceCtorEq]
    rw [tk1,Cr]
    simp [Aa]
   ·obtain rfl:j=O.length:=by omega
    have hgl:(((List.range g).map fun g=>Da S O g O.length)).length=g:=by simp
    have hgs:((List.range (g+1)).map fun g=>Da S O g O.length)=((List.range g).map fun g=>Da S O g O.length)++[Da S O g O.length]:=by simp [List.range_succ]
    rw [List.length_map] at hgl
    refine RN ?_
    refine ⟨g+1,by omega,by omega,?_⟩
    rw [hgs]
    generalize hM:(List.range g).map (fun g=>Da S O g O.length)=Mx at *
    have hMl:Mx.length=g:=by rw [← hM];simp
    refine (Ref.close 9 g 7 (k:=1) (n:=O.length) (cs2:=Aa (Da S O g O.length)) rfl (by rw [List.getElem?_append_right (by simp [hMl])];simp [hMl]) rfl (by decide) (by simp [Aa,htl])).trans (Ref.gc [0,1,2,3,4,5,9] rfl ?_ (by simp [sub,Ab,go_sem,↓reduceIte,Nat.reduceEqDiff,Nat.reduceAdd,reduceCtorEq]))
    have hset:∀ x y:AV,(Mx.map Ac++[x]).set g y=Mx.map Ac++[y]:=fun x y=>by
     rw [List.set_append_right _ _ (by simp [hMl])];simp [hMl]
    have tk1:(Mx.map Ac).take g=Mx.map Ac:=List.take_of_length_le (by simp [hMl])
    simp only [go_sem,↓reduceIte,Nat.reduceEqDiff,Nat.reduceAdd,reduceCtorEq]
    rw [tk1,Lh,hset]
    simp [Ac,htl]
  ·obtain rfl:g=G:=by omega
   refine RN ?_
   exact Ref.gc1 [6]
end Go.Proofs.YtnompobcofhkpaaGreatDoor
