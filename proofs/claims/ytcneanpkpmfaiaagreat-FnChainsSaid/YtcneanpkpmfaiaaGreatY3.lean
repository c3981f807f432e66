/- Texts that belong together. -/
import Derived.Test.YtcneanpkpmfaiaaGreatY2
set_option maxHeartbeats 16000000
set_option linter.unusedSimpArgs false
set_option linter.unusedVariables false
set_option maxRecDepth 100000
namespace Go.Gov
variable {P:Program} {N:Nat} {F:Frame} {H:Heap} {M:List Nat} {n0:Nat}
theorem Ref.pad:Ref n0 F H F (H++[none]):=Ref.core fun g w hp=>by
 have hal:∀ (x:Nat) (c:List AV),(H++[none])[x]? = some (some c)→H[x]? = some (some c):=fun x c h=>by
  rcases Nat.lt_or_ge x H.length with h' | h'
  ·rwa [List.getElem?_append_left h'] at h
  ·rw [List.getElem?_append_right h'] at h
   cases hx:x - H.length with
   | zero=>rw [hx] at h;simp at h
   | succ k=>rw [hx] at h;simp at h
 have htr:∀ x d,g.tr H x=some d→g.tr (H++[none]) x=some d:=fun x d hd=>by
  have hxl:=Cz hd
  unfold Gh.tr at *
  rwa [List.getElem?_append_left hxl]
 refine ⟨g,⟨fun x c hx=>(hp.obj x c (hal x c hx)).mono (fun _ h=>h) (fun _ _=>rfl) (fun x d hd=>.inl (htr x d hd)) (fun _ _=>rfl),fun x c hx=>hp.nodup x c (hal x c hx),fun x y c d hx hy=>hp.apart x y c d (hal x c hx) (hal y d hy),fun x c hx=>hp.free x c (hal x c hx),hp.low⟩,fun b ⟨x,c,hx,hb⟩=>⟨x,c,hal x c hx,hb⟩,rfl,fun x d hd=>.inl (htr x d hd)⟩
end Go.Gov
namespace Go.Proofs.YtcneanpkpmfaiaaGreat
section
open Go.Gov
open Classical
def E3 (p:Pr):AV:=.agg [Ac p.1,Ac p.2]
def Cg (p:Pr):AV:=.oag [Ad p.1,Ad p.2]
theorem Lf (p:Pr):E3 p = .agg [Ac p.1,Ac p.2]:=rfl
theorem mN (H:Heap)(d:Nat)(p:Pr):Ak H (d+3) (Cg p)=E3 p:=by
 simp only [Cg,E3,Ak,List.map_cons,List.map_nil]
 rw [F7,F7]
theorem Abl (τ:Nat→Option Nat)(p:Pr):An τ (E3 p)=E3 p:=by simp [E3,An,A9,De]
theorem Abm (τ:Nat→Option Nat)(p:Pr):An τ (Cg p)=Cg p:=by simp [Cg,An,A9,De]
theorem nU (l:List (Int×Pr)):A4 (fun x=>E3 x) l=A4 E3 l:=rfl
theorem nV (l:List (Int×Pr)):A4 (fun x=>Cg x) l=A4 Cg l:=rfl
theorem yV (cs:List AV):Bs (.agg cs)=true:=rfl
attribute [go_sem] yV mN Abl Abm nU nV
def Jz (D:List Int):Nat:=match D.getLast? with
 | none=>0
 | some d=>(d+1).toNat
theorem Ha {c:List Int}(h:0<c.length):c.getLast? = some (c.getD (c.length - 1) 0):=by
 rw [List.getLast?_eq_getElem?,Dj c _ (by omega),List.getElem?_eq_getElem (by omega)]
theorem Ts {a b:List Int}(ha:sst a)(hb:sst b)(ia:inB a)(h1:0<a.length)(h2:0<b.length)(h:b.getD (b.length - 1) 0=a.getD (a.length - 1) 0):Jz (Ag a b)<Jz a:=by
 have hA:Jz a=(a.getD (a.length - 1) 0+1).toNat:=by unfold Jz;rw [Ha h1]
 have ma:=(Jy ha).1 (Ha h1)
 have mb:=(Jy hb).1 (Ha h2)
 have hr:=ia _ ma.1
 rw [hA]
 unfold Jz
 cases hs:(Ag a b).getLast? with
 | none=>dsimp only;omega
 | some d=>
  dsimp only
  have hd:=((Jy (Bt ha hb)).1 hs).1
  have hm:=(Dt ha hb d).1 hd
  have hne:d≠a.getD (a.length - 1) 0:=fun e=>hm (iff_of_true (e ▸ ma.1) (by rw [e,← h];exact mb.1))
  by_cases h6:d∈a
  ·have:=ma.2 d h6;omega
  ·by_cases h7:d∈b
   ·have:=mb.2 d h7;omega
   ·exact absurd (iff_of_false h6 h7) hm
def N1 (m:List (Int×Pr)):Prop:=(∀ q∈m,q.2.2.getLast? = some q.1)∧Ly (m.map (·.2))
theorem Aaz (m : List (Int × Pr)) (C0 D0 : List Int) (hok : N1 m) (hC : sst C0) (hD : sst D0) (bC : inB C0) (bD : inB D0) :
    Dg Tryz.prog 51 [.mpz (A4 E3 m),.agg [.sl 0 1 0 C0.length,.sl 1 1 0 D0.length]] [some (Aa C0),some (Aa D0)] (Lz List.getLast? (m.map (·.2)) (C0,D0)) (fun y=>.agg [.sl 2 1 0 y.1.length,.sl 3 1 0 y.2.length]) (fun y=>[none,none,some (Aa y.1),some (Aa y.2)]):=by
 refine fO [0,1,4,5] cN rfl ?_;unfold R9
 refine RN ?_
 refine Aj (α:=Pr) (S:=fun p=>([(0,.mpz (A4 E3 m)),(3,.ref 2 0),(4,.ref 3 0)],[none,none,some [.sl 4 1 0 p.1.length,.sl 5 1 0 p.2.length],some [Af,Af],some (Aa p.1),some (Aa p.2)])) (C:=fun p=>Adds (m.map (·.2)) (C0,D0) p∧sst p.1∧sst p.2∧inB p.1∧inB p.2) (μ:=fun p=>Jz p.2) (C0,D0) ⟨.refl _,hC,hD,bC,bD⟩ ?_ ?_
 ·refine (Ref.mv 0 (cs:=Aa C0) rfl (F' := [(0,.mpz (A4 E3 m)),(3,.ref 2 0),(4,.ref 3 0)]) (H' := [none,some (Aa D0),some [.sl 4 1 0 C0.length,.sl 1 1 0 D0.length],some [Af,Af],some (Aa C0)]) (by simp only [go_sem,↓reduceIte,Nat.reduceEqDiff,Nat.reduceAdd,reduceCtorEq]) (by simp [sub,Ab,go_sem,↓reduceIte,Nat.reduceEqDiff,Nat.reduceAdd,reduceCtorEq])).trans ?_
  refine (Ref.mv 1 (cs:=Aa D0) rfl (F' := [(0,.mpz (A4 E3 m)),(3,.ref 2 0),(4,.ref 3 0)]) (H' := [none,none,some [.sl 4 1 0 C0.length,.sl 5 1 0 D0.length],some [Af,Af],some (Aa C0),some (Aa D0)]) (by simp only [go_sem,↓reduceIte,Nat.reduceEqDiff,Nat.reduceAdd,reduceCtorEq]) (by simp [sub,Ab,go_sem,↓reduceIte,Nat.reduceEqDiff,Nat.reduceAdd,reduceCtorEq])).trans ?_
  exact Ref.to1
 rintro ⟨C,D⟩ ⟨hA,sC,sD,bC', bD'⟩
 dsimp only at hA sC sD bC' bD' ⊢
 have lC:=Cb sC bC'
 have lD:=Cb sD bD'
 refine RN ?_
 refine ⟨fun hc=>?_,fun hc=>?_⟩
 ·have hD1:=Ha (c:=D) (by omega)
  cases hlk:Bv (D.getD (D.length - 1) 0) m with
  | none=>
   refine RN ?_
   simp only [hlk,go_sem,↓reduceIte,Nat.reduceEqDiff,Nat.reduceAdd,reduceCtorEq]
   refine RN ?_
   refine ⟨(C,D),⟨hA,.inr fun q hq=>?_,sC,sD,bC', bD'⟩,rfl,rfl⟩
   obtain ⟨z,hz,rfl⟩:=List.mem_map.1 hq
   rw [hok.1 z hz,hD1]
   intro h
   exact ilook_none.1 hlk (List.mem_map.2 ⟨z,hz,Option.some.inj h⟩)
  | some p=>
   refine RN ?_
   simp only [hlk,Lf,go_sem,↓reduceIte,Nat.reduceEqDiff,Nat.reduceAdd,reduceCtorEq]
   refine RN ?_
   have hpm:p∈m.map (·.2):=List.mem_map.2 ⟨_,Hu hlk,rfl⟩
   have hp:=hok.2 p hpm
   have hp2:0<p.2.length:=List.length_pos_iff.2 hp.2.2.1
   have l1:=Cb hp.1 hp.2.2.2.1
   have l2:=Cb hp.2.1 hp.2.2.2.2
   have hpl:=hok.1 _ (Hu hlk)
   rw [Ha hp2] at hpl
   have hm:=Ts sD hp.2.1 bD' (by omega) hp2 (Option.some.inj hpl)
   have hnx:Adds (m.map (·.2)) (C0,D0) (Ag C p.1,Ag D p.2)∧sst (Ag C p.1)∧sst (Ag D p.2)∧inB (Ag C p.1)∧inB (Ag D p.2):=⟨hA.step hpm,Bt sC hp.1,Bt sD hp.2.1,F4 sC hp.1 bC' hp.2.2.2.1,F4 sD hp.2.1 bD' hp.2.2.2.2⟩
   have hc1:=Is [C,p.1] (by simp) (by simp [Ck];omega)
   have hc2:=Is [D,p.2] (by simp) (by simp [Ck];omega)
   have ho1:=H6 [C,p.1].flatten (by simp;omega)
   have ho2:=H6 [D,p.2].flatten (by simp;omega)
   have e1:Ep [C,p.1].flatten=Ag C p.1:=by simpa using I4 sC hp.1
   have e2:Ep [D,p.2].flatten=Ag D p.2:=by simpa using I4 sD hp.2.1
   rw [e1] at ho1
   rw [e2] at ho2
   refine Ri (show LT _ _ _ _ _ _ from ?_)
   refine Rc ?_
   repeat' first
    | simp only [Lf,go_sem,↓reduceIte,Nat.reduceEqDiff,Nat.reduceAdd,reduceCtorEq]
    | with_reducible refine Ar ?_
    | (with_reducible refine N2 ?_ ?_;focus (simp only [Q3,Q4,Q5,go_sem,↓reduceIte,Nat.reduceEqDiff,Nat.reduceAdd,reduceCtorEq];done))
    | with_reducible refine Aq ?_
    | with_reducible exact As
    | with_reducible refine Ap ?_ ?_
    | (with_reducible refine And.intro ?_ ?_;focus first | assumption | omega | grind)
    | (refine Bn (hc1) ?_ ?_ ?_;(focus (simp only [go_sem,↓reduceIte,Nat.reduceEqDiff,Nat.reduceAdd,reduceCtorEq]<;>rfl));(focus first | rfl | simp only [go_sem,↓reduceIte,Nat.reduceEqDiff,Nat.reduceAdd,reduceCtorEq]))
    | (refine Bn (hc2) ?_ ?_ ?_;(focus (simp only [go_sem,↓reduceIte,Nat.reduceEqDiff,Nat.reduceAdd,reduceCtorEq]<;>rfl));(focus first | rfl | simp only [go_sem,↓reduceIte,Nat.reduceEqDiff,Nat.reduceAdd,reduceCtorEq]))
    | (refine Cc (ho1) [8] ?_ ?_ ?_ ?_ ?_;(focus first | rfl | simp);(focus (simp only [go_sem,↓reduceIte,Nat.reduceEqDiff,Nat.reduceAdd,reduceCtorEq]<;>rfl));(focus (simp only [go_sem,↓reduceIte,Nat.reduceEqDiff,Nat.reduceAdd,reduceCtorEq]<;>rfl));(focus first | rfl | simp only [go_sem,↓reduceIte,Nat.reduceEqDiff,Nat.reduceAdd,reduceCtorEq]))
    | (refine Cc (ho2) [8] ?_ ?_ ?_ ?_ ?_;(focus first | rfl | simp);(focus (simp only [go_sem,↓reduceIte,Nat.reduceEqDiff,Nat.reduceAdd,reduceCtorEq]<;>rfl));(focus (simp only [go_sem,↓reduceIte,Nat.reduceEqDiff,Nat.reduceAdd,reduceCtorEq]<;>rfl));(focus first | rfl | simp only [go_sem,↓reduceIte,Nat.reduceEqDiff,Nat.reduceAdd,reduceCtorEq]))
    | (refine Cc (ho1) [9] ?_ ?_ ?_ ?_ ?_;(focus first | rfl | simp);(focus (simp only [go_sem,↓reduceIte,Nat.reduceEqDiff,Nat.reduceAdd,reduceCtorEq]<;>rfl));(focus (simp only [go_sem,↓reduceIte,Nat.reduceEqDiff,Nat.reduceAdd,reduceCtorEq]<;>rfl));(focus first | rfl | simp only [go_sem,↓reduceIte,Nat.reduceEqDiff,Nat.reduceAdd,reduceCtorEq]))
    | (refine Cc (ho2) [9] ?_ ?_ ?_ ?_ ?_;(focus first | rfl | simp);(focus (simp only [go_sem,↓reduceIte,Nat.reduceEqDiff,Nat.reduceAdd,reduceCtorEq]<;>rfl));(focus (simp only [go_sem,↓reduceIte,Nat.reduceEqDiff,Nat.reduceAdd,reduceCtorEq]<;>rfl));(focus first | rfl | simp only [go_sem,↓reduceIte,Nat.reduceEqDiff,Nat.reduceAdd,reduceCtorEq]))
    | (refine Cc (ho1) [10] ?_ ?_ ?_ ?_ ?_;(focus first | rfl | simp);(focus (simp only [go_sem,↓reduceIte,Nat.reduceEqDiff,Nat.reduceAdd,reduceCtorEq]<;>rfl));(focus (simp only [go_sem,↓reduceIte,Nat.reduceEqDiff,Nat.reduceAdd,reduceCtorEq]<;>rfl));(focus first | rfl | simp only [go_sem,↓reduceIte,Nat.reduceEqDiff,Nat.reduceAdd,reduceCtorEq]))
    | (refine Cc (ho2) [10] ?_ ?_ ?_ ?_ ?_;(focus first | rfl | simp);(focus (simp only [go_sem,↓reduceIte,Nat.reduceEqDiff,Nat.reduceAdd,reduceCtorEq]<;>rfl));(focus (simp only [go_sem,↓reduceIte,Nat.reduceEqDiff,Nat.reduceAdd,reduceCtorEq]<;>rfl));(focus first | rfl | simp only [go_sem,↓reduceIte,Nat.reduceEqDiff,Nat.reduceAdd,reduceCtorEq]))
    | (refine Cc (ho1) [11] ?_ ?_ ?_ ?_ ?_;(focus first | rfl | simp);(focus (simp only [go_sem,↓reduceIte,Nat.reduceEqDiff,Nat.reduceAdd,reduceCtorEq]<;>rfl));(focus (simp only [go_sem,↓reduceIte,Nat.reduceEqDiff,Nat.reduceAdd,reduceCtorEq]<;>rfl));(focus first | rfl | simp only [go_sem,↓reduceIte,Nat.reduceEqDiff,Nat.reduceAdd,reduceCtorEq]))
    | (refine Cc (ho2) [11] ?_ ?_ ?_ ?_ ?_;(focus first | rfl | simp);(focus (simp only [go_sem,↓reduceIte,Nat.reduceEqDiff,Nat.reduceAdd,reduceCtorEq]<;>rfl));(focus (simp only [go_sem,↓reduceIte,Nat.reduceEqDiff,Nat.reduceAdd,reduceCtorEq]<;>rfl));(focus first | rfl | simp only [go_sem,↓reduceIte,Nat.reduceEqDiff,Nat.reduceAdd,reduceCtorEq]))
   all_goals (refine ⟨(Ag C p.1,Ag D p.2),hnx,hm,?_⟩;first
    | (refine Ref.gc [0,1,2,3,9,12] rfl ?_ ?_<;>first | (simp only [go_sem,↓reduceIte,Nat.reduceEqDiff,Nat.reduceAdd,reduceCtorEq];done) | (simp [sub,Ab,go_sem,↓reduceIte,Nat.reduceEqDiff,Nat.reduceAdd,reduceCtorEq];done))
    | (refine Ref.gc [0,1,2,3,10,12] rfl ?_ ?_<;>first | (simp only [go_sem,↓reduceIte,Nat.reduceEqDiff,Nat.reduceAdd,reduceCtorEq];done) | (simp [sub,Ab,go_sem,↓reduceIte,Nat.reduceEqDiff,Nat.reduceAdd,reduceCtorEq];done))
    | (refine Ref.gc [0,1,2,3,11,12] rfl ?_ ?_<;>first | (simp only [go_sem,↓reduceIte,Nat.reduceEqDiff,Nat.reduceAdd,reduceCtorEq];done) | (simp [sub,Ab,go_sem,↓reduceIte,Nat.reduceEqDiff,Nat.reduceAdd,reduceCtorEq];done))
    | (refine Ref.gc [0,1,2,3,12,9] rfl ?_ ?_<;>first | (simp only [go_sem,↓reduceIte,Nat.reduceEqDiff,Nat.reduceAdd,reduceCtorEq];done) | (simp [sub,Ab,go_sem,↓reduceIte,Nat.reduceEqDiff,Nat.reduceAdd,reduceCtorEq];done))
    | (refine Ref.gc [0,1,2,3,12,10] rfl ?_ ?_<;>first | (simp only [go_sem,↓reduceIte,Nat.reduceEqDiff,Nat.reduceAdd,reduceCtorEq];done) | (simp [sub,Ab,go_sem,↓reduceIte,Nat.reduceEqDiff,Nat.reduceAdd,reduceCtorEq];done))
    | (refine Ref.gc [0,1,2,3,12,11] rfl ?_ ?_<;>first | (simp only [go_sem,↓reduceIte,Nat.reduceEqDiff,Nat.reduceAdd,reduceCtorEq];done) | (simp [sub,Ab,go_sem,↓reduceIte,Nat.reduceEqDiff,Nat.reduceAdd,reduceCtorEq];done)))
 ·(refine RN ?_;try with_reducible exact trivial)
  have hD0:D=[]:=List.eq_nil_of_length_eq_zero (by omega)
  exact ⟨(C,D),⟨hA,.inl hD0,sC,sD,bC', bD'⟩,rfl,rfl⟩
theorem Aay (m : List (Int × Pr)) (D0 : List Int) (hok : N1 m) (hD : sst D0) (bD : inB D0) :
    B1 Tryz.prog 51 [.mpz (A4 E3 m),.agg [Af,Ac D0]] (fun o:Bool×Pr=>Lz List.getLast? (m.map (·.2)) ([],D0) o.2) (fun o=>.agg [.sl 0 1 0 o.2.1.length,bif o.1 then .sl 1 1 0 o.2.2.length else Ac o.2.2]) (fun o=>[some (Aa o.2.1),bif o.1 then some (Aa o.2.2) else none]):=by
 refine Ka [2,3] cN rfl ?_;unfold R9
 refine RN ?_
 refine Aj (α:=Bool×Pr) (S:=fun o=>([(0,.mpz (A4 E3 m)),(3,.ref 0 0),(4,.ref 1 0)],[some [.sl 2 1 0 o.2.1.length,bif o.1 then .sl 3 1 0 o.2.2.length else Ac o.2.2],some [Af,Af],some (Aa o.2.1),bif o.1 then some (Aa o.2.2) else none])) (C:=fun o=>Adds (m.map (·.2)) ([],D0) o.2∧sst o.2.1∧sst o.2.2∧inB o.2.1∧inB o.2.2) (μ:=fun o=>Jz o.2.2) (false,[],D0) ⟨.refl _,Es,hD,(fun e he=>by simp at he),bD⟩ ?_ ?_
 ·refine (Ref.nilC 0 0 1 (cs:=[Af,Ac D0]) rfl rfl).trans ?_
  exact Ref.pad.trans (Ref.to1)
 rintro ⟨b,C,D⟩ ⟨hA,sC,sD,bC', bD'⟩
 dsimp only at hA sC sD bC' bD' ⊢
 have lC:=Cb sC bC'
 have lD:=Cb sD bD'
 cases b
 all_goals simp only [cond_true,cond_false]
 ·(refine RN ?_;try with_reducible exact trivial)
  refine ⟨fun hc=>?_,fun hc=>?_⟩
  ·have hD1:=Ha (c:=D) (by omega)
   cases hlk:Bv (D.getD (D.length - 1) 0) m with
   | none=>
    refine RN ?_
    simp only [hlk,go_sem,↓reduceIte,Nat.reduceEqDiff,Nat.reduceAdd,reduceCtorEq]
    refine RN ?_
    refine ⟨(false,C,D),⟨hA,.inr fun q hq=>?_,sC,sD,bC', bD'⟩,rfl,rfl⟩
    obtain ⟨z,hz,rfl⟩:=List.mem_map.1 hq
    rw [hok.1 z hz,hD1]
    intro h
    exact ilook_none.1 hlk (List.mem_map.2 ⟨z,hz,Option.some.inj h⟩)
   | some p=>
    refine RN ?_
    simp only [hlk,Lf,go_sem,↓reduceIte,Nat.reduceEqDiff,Nat.reduceAdd,reduceCtorEq]
    refine RN ?_
    have hpm:p∈m.map (·.2):=List.mem_map.2 ⟨_,Hu hlk,rfl⟩
    have hp:=hok.2 p hpm
    have hp2:0<p.2.length:=List.length_pos_iff.2 hp.2.2.1
    have l1:=Cb hp.1 hp.2.2.2.1
    have l2:=Cb hp.2.1 hp.2.2.2.2
    have hpl:=hok.1 _ (Hu hlk)
    rw [Ha hp2] at hpl
    have hm:=Ts sD hp.2.1 bD' (by omega) hp2 (Option.some.inj hpl)
    have hnx:Adds (m.map (·.2)) ([],D0) (Ag C p.1,Ag D p.2)∧sst (Ag C p.1)∧sst (Ag D p.2)∧inB (Ag C p.1)∧inB (Ag D p.2):=⟨hA.step hpm,Bt sC hp.1,Bt sD hp.2.1,F4 sC hp.1 bC' hp.2.2.2.1,F4 sD hp.2.1 bD' hp.2.2.2.2⟩
    have hc1:=Is [C,p.1] (by simp) (by simp [Ck];omega)
    have hc2:=Is [D,p.2] (by simp) (by simp [Ck];omega)
    have ho1:=H6 [C,p.1].flatten (by simp;omega)
    have ho2:=H6 [D,p.2].flatten (by simp;omega)
    have e1:Ep [C,p.1].flatten=Ag C p.1:=by simpa using I4 sC hp.1
    have e2:Ep [D,p.2].flatten=Ag D p.2:=by simpa using I4 sD hp.2.1
    rw [e1] at ho1
    rw [e2] at ho2
    refine Ri (show LT _ _ _ _ _ _ from ?_)
    refine Rc ?_
    repeat' first
     | simp only [Lf,go_sem,↓reduceIte,Nat.reduceEqDiff,Nat.reduceAdd,reduceCtorEq]
     | with_reducible refine Ar ?_
     | (with_reducible refine N2 ?_ ?_;focus (simp only [Q3,Q4,Q5,go_sem,↓reduceIte,Nat.reduceEqDiff,Nat.reduceAdd,reduceCtorEq];done))
     | with_reducible refine Aq ?_
     | with_reducible exact As
     | with_reducible refine Ap ?_ ?_
     | (with_reducible refine And.intro ?_ ?_;focus first | assumption | omega | grind)
     | (refine Bn (hc1) ?_ ?_ ?_;(focus (simp only [go_sem,↓reduceIte,Nat.reduceEqDiff,Nat.reduceAdd,reduceCtorEq]<;>rfl));(focus first | rfl | simp only [go_sem,↓reduceIte,Nat.reduceEqDiff,Nat.reduceAdd,reduceCtorEq]))
     | (refine Bn (hc2) ?_ ?_ ?_;(focus (simp only [go_sem,↓reduceIte,Nat.reduceEqDiff,Nat.reduceAdd,reduceCtorEq]<;>rfl));(focus first | rfl | simp only [go_sem,↓reduceIte,Nat.reduceEqDiff,Nat.reduceAdd,reduceCtorEq]))
     | (refine Cc (ho1) [6] ?_ ?_ ?_ ?_ ?_;(focus first | rfl | simp);(focus (simp only [go_sem,↓reduceIte,Nat.reduceEqDiff,Nat.reduceAdd,reduceCtorEq]<;>rfl));(focus (simp only [go_sem,↓reduceIte,Nat.reduceEqDiff,Nat.reduceAdd,reduceCtorEq]<;>rfl));(focus first | rfl | simp only [go_sem,↓reduceIte,Nat.reduceEqDiff,Nat.reduceAdd,reduceCtorEq]))
     | (refine Cc (ho2) [6] ?_ ?_ ?_ ?_ ?_;(focus first | rfl | simp);(focus (simp only [go_sem,↓reduceIte,Nat.reduceEqDiff,Nat.reduceAdd,reduceCtorEq]<;>rfl));(focus (simp only [go_sem,↓reduceIte,Nat.reduceEqDiff,Nat.reduceAdd,reduceCtorEq]<;>rfl));(focus first | rfl | simp only [go_sem,↓reduceIte,Nat.reduceEqDiff,Nat.reduceAdd,reduceCtorEq]))
     | (refine Cc (ho1) [7] ?_ ?_ ?_ ?_ ?_;(focus first | rfl | simp);(focus (simp only [go_sem,↓reduceIte,Nat.reduceEqDiff,Nat.reduceAdd,reduceCtorEq]<;>rfl));(focus (simp only [go_sem,↓reduceIte,Nat.reduceEqDiff,Nat.reduceAdd,reduceCtorEq]<;>rfl));(focus first | rfl | simp only [go_sem,↓reduceIte,Nat.reduceEqDiff,Nat.reduceAdd,reduceCtorEq]))
     | (refine Cc (ho2) [7] ?_ ?_ ?_ ?_ ?_;(focus first | rfl | simp);(focus (simp only [go_sem,↓reduceIte,Nat.reduceEqDiff,Nat.reduceAdd,reduceCtorEq]<;>rfl));(focus (simp only [go_sem,↓reduceIte,Nat.reduceEqDiff,Nat.reduceAdd,reduceCtorEq]<;>rfl));(focus first | rfl | simp only [go_sem,↓reduceIte,Nat.reduceEqDiff,Nat.reduceAdd,reduceCtorEq]))
     | (refine Cc (ho1) [8] ?_ ?_ ?_ ?_ ?_;(focus first | rfl | simp);(focus (simp only [go_sem,↓reduceIte,Nat.reduceEqDiff,Nat.reduceAdd,reduceCtorEq]<;>rfl));(focus (simp only [go_sem,↓reduceIte,Nat.reduceEqDiff,Nat.reduceAdd,reduceCtorEq]<;>rfl));(focus first | rfl | simp only [go_sem,↓reduceIte,Nat.reduceEqDiff,Nat.reduceAdd,reduceCtorEq]))
     | (refine Cc (ho2) [8] ?_ ?_ ?_ ?_ ?_;(focus first | rfl | simp);(focus (simp only [go_sem,↓reduceIte,Nat.reduceEqDiff,Nat.reduceAdd,reduceCtorEq]<;>rfl));(focus (simp only [go_sem,↓reduceIte,Nat.reduceEqDiff,Nat.reduceAdd,reduceCtorEq]<;>rfl));(focus first | rfl | simp only [go_sem,↓reduceIte,Nat.reduceEqDiff,Nat.reduceAdd,reduceCtorEq]))
     | (refine Cc (ho1) [9] ?_ ?_ ?_ ?_ ?_;(focus first | rfl | simp);(focus (simp only [go_sem,↓reduceIte,Nat.reduceEqDiff,Nat.reduceAdd,reduceCtorEq]<;>rfl));(focus (simp only [go_sem,↓reduceIte,Nat.reduceEqDiff,Nat.reduceAdd,reduceCtorEq]<;>rfl));(focus first | rfl | simp only [go_sem,↓reduceIte,Nat.reduceEqDiff,Nat.reduceAdd,reduceCtorEq]))
     | (refine Cc (ho2) [9] ?_ ?_ ?_ ?_ ?_;(focus first | rfl | simp);(focus (simp only [go_sem,↓reduceIte,Nat.reduceEqDiff,Nat.reduceAdd,reduceCtorEq]<;>rfl));(focus (simp only [go_sem,↓reduceIte,Nat.reduceEqDiff,Nat.reduceAdd,reduceCtorEq]<;>rfl));(focus first | rfl | simp only [go_sem,↓reduceIte,Nat.reduceEqDiff,Nat.reduceAdd,reduceCtorEq]))
    all_goals (refine ⟨(true,Ag C p.1,Ag D p.2),hnx,hm,?_⟩;first
     | (refine Ref.gc [0,1,7,10] rfl ?_ ?_<;>first | (simp only [go_sem,↓reduceIte,Nat.reduceEqDiff,Nat.reduceAdd,reduceCtorEq];done) | (simp [sub,Ab,go_sem,↓reduceIte,Nat.reduceEqDiff,Nat.reduceAdd,reduceCtorEq];done))
     | (refine Ref.gc [0,1,8,10] rfl ?_ ?_<;>first | (simp only [go_sem,↓reduceIte,Nat.reduceEqDiff,Nat.reduceAdd,reduceCtorEq];done) | (simp [sub,Ab,go_sem,↓reduceIte,Nat.reduceEqDiff,Nat.reduceAdd,reduceCtorEq];done))
     | (refine Ref.gc [0,1,9,10] rfl ?_ ?_<;>first | (simp only [go_sem,↓reduceIte,Nat.reduceEqDiff,Nat.reduceAdd,reduceCtorEq];done) | (simp [sub,Ab,go_sem,↓reduceIte,Nat.reduceEqDiff,Nat.reduceAdd,reduceCtorEq];done))
     | (refine Ref.gc [0,1,10,7] rfl ?_ ?_<;>first | (simp only [go_sem,↓reduceIte,Nat.reduceEqDiff,Nat.reduceAdd,reduceCtorEq];done) | (simp [sub,Ab,go_sem,↓reduceIte,Nat.reduceEqDiff,Nat.reduceAdd,reduceCtorEq];done))
     | (refine Ref.gc [0,1,10,8] rfl ?_ ?_<;>first | (simp only [go_sem,↓reduceIte,Nat.reduceEqDiff,Nat.reduceAdd,reduceCtorEq];done) | (simp [sub,Ab,go_sem,↓reduceIte,Nat.reduceEqDiff,Nat.reduceAdd,reduceCtorEq];done))
     | (refine Ref.gc [0,1,10,9] rfl ?_ ?_<;>first | (simp only [go_sem,↓reduceIte,Nat.reduceEqDiff,Nat.reduceAdd,reduceCtorEq];done) | (simp [sub,Ab,go_sem,↓reduceIte,Nat.reduceEqDiff,Nat.reduceAdd,reduceCtorEq];done)))
  ·(refine RN ?_;try with_reducible exact trivial)
   have hD0:D=[]:=List.eq_nil_of_length_eq_zero (by omega)
   exact ⟨(false,C,D),⟨hA,.inl hD0,sC,sD,bC', bD'⟩,rfl,rfl⟩
 ·(refine RN ?_;try with_reducible exact trivial)
  refine ⟨fun hc=>?_,fun hc=>?_⟩
  ·have hD1:=Ha (c:=D) (by omega)
   cases hlk:Bv (D.getD (D.length - 1) 0) m with
   | none=>
    refine RN ?_
    simp only [hlk,go_sem,↓reduceIte,Nat.reduceEqDiff,Nat.reduceAdd,reduceCtorEq]
    refine RN ?_
    refine ⟨(true,C,D),⟨hA,.inr fun q hq=>?_,sC,sD,bC', bD'⟩,rfl,rfl⟩
    obtain ⟨z,hz,rfl⟩:=List.mem_map.1 hq
    rw [hok.1 z hz,hD1]
    intro h
    exact ilook_none.1 hlk (List.mem_map.2 ⟨z,hz,Option.some.inj h⟩)
   | some p=>
    refine RN ?_
    simp only [hlk,Lf,go_sem,↓reduceIte,Nat.reduceEqDiff,Nat.reduceAdd,reduceCtorEq]
    refine RN ?_
    have hpm:p∈m.map (·.2):=List.mem_map.2 ⟨_,Hu hlk,rfl⟩
    have hp:=hok.2 p hpm
    have hp2:0<p.2.length:=List.length_pos_iff.2 hp.2.2.1
    have l1:=Cb hp.1 hp.2.2.2.1
    have l2:=Cb hp.2.1 hp.2.2.2.2
    have hpl:=hok.1 _ (Hu hlk)
    rw [Ha hp2] at hpl
    have hm:=Ts sD hp.2.1 bD' (by omega) hp2 (Option.some.inj hpl)
    have hnx:Adds (m.map (·.2)) ([],D0) (Ag C p.1,Ag D p.2)∧sst (Ag C p.1)∧sst (Ag D p.2)∧inB (Ag C p.1)∧inB (Ag D p.2):=⟨hA.step hpm,Bt sC hp.1,Bt sD hp.2.1,F4 sC hp.1 bC' hp.2.2.2.1,F4 sD hp.2.1 bD' hp.2.2.2.2⟩
    have hc1:=Is [C,p.1] (by simp) (by simp [Ck];omega)
    have hc2:=Is [D,p.2] (by simp) (by simp [Ck];omega)
    have ho1:=H6 [C,p.1].flatten (by simp;omega)
    have ho2:=H6 [D,p.2].flatten (by simp;omega)
    have e1:Ep [C,p.1].flatten=Ag C p.1:=by simpa using I4 sC hp.1
    have e2:Ep [D,p.2].flatten=Ag D p.2:=by simpa using I4 sD hp.2.1
    rw [e1] at ho1
    rw [e2] at ho2
    refine Ri (show LT _ _ _ _ _ _ from ?_)
    refine Rc ?_
    repeat' first
     | simp only [Lf,go_sem,↓reduceIte,Nat.reduceEqDiff,Nat.reduceAdd,reduceCtorEq]
     | with_reducible refine Ar ?_
     | (with_reducible refine N2 ?_ ?_;focus (simp only [Q3,Q4,Q5,go_sem,↓reduceIte,Nat.reduceEqDiff,Nat.reduceAdd,reduceCtorEq];done))
     | with_reducible refine Aq ?_
     | with_reducible exact As
     | with_reducible refine Ap ?_ ?_
     | (with_reducible refine And.intro ?_ ?_;focus first | assumption | omega | grind)
     | (refine Bn (hc1) ?_ ?_ ?_;(focus (simp only [go_sem,↓reduceIte,Nat.reduceEqDiff,Nat.reduceAdd,reduceCtorEq]<;>rfl));(focus first | rfl | simp only [go_sem,↓reduceIte,Nat.reduceEqDiff,Nat.reduceAdd,reduceCtorEq]))
     | (refine Bn (hc2) ?_ ?_ ?_;(focus (simp only [go_sem,↓reduceIte,Nat.reduceEqDiff,Nat.reduceAdd,reduceCtorEq]<;>rfl));(focus first | rfl | simp only [go_sem,↓reduceIte,Nat.reduceEqDiff,Nat.reduceAdd,reduceCtorEq]))
     | (refine Cc (ho1) [6] ?_ ?_ ?_ ?_ ?_;(focus first | rfl | simp);(focus (simp only [go_sem,↓reduceIte,Nat.reduceEqDiff,Nat.reduceAdd,reduceCtorEq]<;>rfl));(focus (simp only [go_sem,↓reduceIte,Nat.reduceEqDiff,Nat.reduceAdd,reduceCtorEq]<;>rfl));(focus first | rfl | simp only [go_sem,↓reduceIte,Nat.reduceEqDiff,Nat.reduceAdd,reduceCtorEq]))
     | (refine Cc (ho2) [6] ?_ ?_ ?_ ?_ ?_;(focus first | rfl | simp);(focus (simp only [go_sem,↓reduceIte,Nat.reduceEqDiff,Nat.reduceAdd,reduceCtorEq]<;>rfl));(focus (simp only [go_sem,↓reduceIte,Nat.reduceEqDiff,Nat.reduceAdd,reduceCtorEq]<;>rfl));(focus first | rfl | simp only [go_sem,↓reduceIte,Nat.reduceEqDiff,Nat.reduceAdd,reduceCtorEq]))
     | (refine Cc (ho1) [7] ?_ ?_ ?_ ?_ ?_;(focus first | rfl | simp);(focus (simp only [go_sem,↓reduceIte,Nat.reduceEqDiff,Nat.reduceAdd,reduceCtorEq]<;>rfl));(focus (simp only [go_sem,↓reduceIte,Nat.reduceEqDiff,Nat.reduceAdd,reduceCtorEq]<;>rfl));(focus first | rfl | simp only [go_sem,↓reduceIte,Nat.reduceEqDiff,Nat.reduceAdd,reduceCtorEq]))
     | (refine Cc (ho2) [7] ?_ ?_ ?_ ?_ ?_;(focus first | rfl | simp);(focus (simp only [go_sem,↓reduceIte,Nat.reduceEqDiff,Nat.reduceAdd,reduceCtorEq]<;>rfl));(focus (simp only [go_sem,↓reduceIte,Nat.reduceEqDiff,Nat.reduceAdd,reduceCtorEq]<;>rfl));(focus first | rfl | simp only [go_sem,↓reduceIte,Nat.reduceEqDiff,Nat.reduceAdd,reduceCtorEq]))
     | (refine Cc (ho1) [8] ?_ ?_ ?_ ?_ ?_;(focus first | rfl | simp);(focus (simp only [go_sem,↓reduceIte,Nat.reduceEqDiff,Nat.reduceAdd,reduceCtorEq]<;>rfl));(focus (simp only [go_sem,↓reduceIte,Nat.reduceEqDiff,Nat.reduceAdd,reduceCtorEq]<;>rfl));(focus first | rfl | simp only [go_sem,↓reduceIte,Nat.reduceEqDiff,Nat.reduceAdd,reduceCtorEq]))
     | (refine Cc (ho2) [8] ?_ ?_ ?_ ?_ ?_;(focus first | rfl | simp);(focus (simp only [go_sem,↓reduceIte,Nat.reduceEqDiff,Nat.reduceAdd,reduceCtorEq]<;>rfl));(focus (simp only [go_sem,↓reduceIte,Nat.reduceEqDiff,Nat.reduceAdd,reduceCtorEq]<;>rfl));(focus first | rfl | simp only [go_sem,↓reduceIte,Nat.reduceEqDiff,Nat.reduceAdd,reduceCtorEq]))
     | (refine Cc (ho1) [9] ?_ ?_ ?_ ?_ ?_;(focus first | rfl | simp);(focus (simp only [go_sem,↓reduceIte,Nat.reduceEqDiff,Nat.reduceAdd,reduceCtorEq]<;>rfl));(focus (simp only [go_sem,↓reduceIte,Nat.reduceEqDiff,Nat.reduceAdd,reduceCtorEq]<;>rfl));(focus first | rfl | simp only [go_sem,↓reduceIte,Nat.reduceEqDiff,Nat.reduceAdd,reduceCtorEq]))
     | (refine Cc (ho2) [9] ?_ ?_ ?_ ?_ ?_;(focus first | rfl | simp);(focus (simp only [go_sem,↓reduceIte,Nat.reduceEqDiff,Nat.reduceAdd,reduceCtorEq]<;>rfl));(focus (simp only [go_sem,↓reduceIte,Nat.reduceEqDiff,Nat.reduceAdd,reduceCtorEq]<;>rfl));(focus first | rfl | simp only [go_sem,↓reduceIte,Nat.reduceEqDiff,Nat.reduceAdd,reduceCtorEq]))
    all_goals (refine ⟨(true,Ag C p.1,Ag D p.2),hnx,hm,?_⟩;first
     | (refine Ref.gc [0,1,7,10] rfl ?_ ?_<;>first | (simp only [go_sem,↓reduceIte,Nat.reduceEqDiff,Nat.reduceAdd,reduceCtorEq];done) | (simp [sub,Ab,go_sem,↓reduceIte,Nat.reduceEqDiff,Nat.reduceAdd,reduceCtorEq];done))
     | (refine Ref.gc [0,1,8,10] rfl ?_ ?_<;>first | (simp only [go_sem,↓reduceIte,Nat.reduceEqDiff,Nat.reduceAdd,reduceCtorEq];done) | (simp [sub,Ab,go_sem,↓reduceIte,Nat.reduceEqDiff,Nat.reduceAdd,reduceCtorEq];done))
     | (refine Ref.gc [0,1,9,10] rfl ?_ ?_<;>first | (simp only [go_sem,↓reduceIte,Nat.reduceEqDiff,Nat.reduceAdd,reduceCtorEq];done) | (simp [sub,Ab,go_sem,↓reduceIte,Nat.reduceEqDiff,Nat.reduceAdd,reduceCtorEq];done))
     | (refine Ref.gc [0,1,10,7] rfl ?_ ?_<;>first | (simp only [go_sem,↓reduceIte,Nat.reduceEqDiff,Nat.reduceAdd,reduceCtorEq];done) | (simp [sub,Ab,go_sem,↓reduceIte,Nat.reduceEqDiff,Nat.reduceAdd,reduceCtorEq];done))
     | (refine Ref.gc [0,1,10,8] rfl ?_ ?_<;>first | (simp only [go_sem,↓reduceIte,Nat.reduceEqDiff,Nat.reduceAdd,reduceCtorEq];done) | (simp [sub,Ab,go_sem,↓reduceIte,Nat.reduceEqDiff,Nat.reduceAdd,reduceCtorEq];done))
     | (refine Ref.gc [0,1,10,9] rfl ?_ ?_<;>first | (simp only [go_sem,↓reduceIte,Nat.reduceEqDiff,Nat.reduceAdd,reduceCtorEq];done) | (simp [sub,Ab,go_sem,↓reduceIte,Nat.reduceEqDiff,Nat.reduceAdd,reduceCtorEq];done)))
  ·(refine RN ?_;try with_reducible exact trivial)
   have hD0:D=[]:=List.eq_nil_of_length_eq_zero (by omega)
   exact ⟨(true,C,D),⟨hA,.inl hD0,sC,sD,bC', bD'⟩,rfl,rfl⟩
end
section
open Go.Gov
open Classical
theorem jF (R:List Int)(B:List (List Int))(e:Int):B9 R B [e]=At R B e:=by simp [B9,H4]
theorem tU (m:List (Int×Pr))(k:Int)(x:AV)(h:Bv k m=none):J5 (.int .i64 k) x (A4 Cg m)=B8 ((m.map fun p=>(.int .i64 p.1,Cg p.2))++[(.int .i64 k,x)]):=by
 unfold J5
 rw [Ty]
 have h1:Co k m=none:=by
  unfold Bv at h
  rwa [Option.map_eq_none_iff] at h
 rw [h1]
 exact aY _ _ _
theorem tO (l:List (Value×AV))(k:Value)(x:AV):(B8 (l++[(k,x)]))[l.length+1]? = some (.ent l.length k x):=by
 simp only [B8,List.getElem?_cons_succ,O5,Nat.zero_add]
 rw [List.getElem?_append_right (by rw [Mr];exact Nat.le_refl _),Mr]
 simp [Bg]
theorem tP (l:List (Value×AV))(k:Value)(x y:AV):(B8 (l++[(k,x)])).set (l.length+1) (.ent l.length k y)=B8 (l++[(k,y)]):=by
 simp only [B8,List.set_cons_succ,O5,Nat.zero_add,List.length_append,List.length_cons,List.length_nil]
 rw [List.set_append_right _ _ (by rw [Mr];exact Nat.le_refl _),Mr]
 simp [Bg]
theorem nW (m:List (Int×Pr))(k:Int)(p:Pr):B8 ((m.map fun p=>((.int .i64 p.1,Cg p.2):Value×AV))++[(.int .i64 k,Cg p)])=A4 Cg (m++[(k,p)]):=by simp [A4]
def U2 (R:List Int)(B:List (List Int))(i:Int)(m:List (Int×Pr)):Prop:=Piv List.getLast? (At R B) (Ba R i).reverse (m.map (·.2))∧N1 m∧m.length≤500
theorem oM (r : Int) (R : List Int) (B : List (List Int)) (i : Int) (hp : IsPos r R B) (hr : ∀ xs ∈ B, xs.length ≤ 1048576) :
    B1 Tryz.prog 52 [.pto [i64 r,Ac R,Ae B] 0,i64 i] (U2 R B i) (fun _=>.mp 0) (fun m=>[some [.mpc (A4 Cg m)]]):=by
 obtain ⟨a1,a2,a3,a4,a5⟩:=hp.rank
 obtain ⟨hok,hs⟩:=hp.rows
 have hR:∀ x,x<R.length→0≤R.getD x 0∧R.getD x 0≤1048576:=fun x hx=>by
  have:=a5 x hx
  omega
 have hel:(Ba R i).length≤500:=Nat.le_trans (Qa R i R.length) a3
 have hem:∀ k,k<(Ba R i).length→0≤(Ba R i).getD k 0∧(Ba R i).getD k 0<R.length:=fun k hk=>by
  have h1:(Ba R i).getD k 0∈Ba R i:=by rw [Dj _ k hk];exact List.getElem_mem hk
  have h2:=mem_plcN.1 h1
  exact ⟨h2.1,h2.2.1⟩
 unfold U2
 have hrank:=yS R i (by omega)
 generalize Ba R i=es at hel hem hrank ⊢
 refine Ka [0] wV rfl ?_;unfold W8
 refine RN ?_
 refine Am (hrank) ?_
 refine RN ?_
 refine Aj (α:=Nat×List (Int×Pr)) (S:=fun p=>([(0,.pto [i64 r,Ac R,Ae B] 0),(5,.mp 0),(15,.sl 1 1 0 es.length),(16,i64 es.length),(17,i64 p.1)],[some [.mpc (A4 Cg p.2)],some (Aa es)])) (C:=fun p=>p.1≤es.length∧Piv List.getLast? (At R B) (es.take p.1).reverse (p.2.map (·.2))∧N1 p.2) (μ:=fun p=>es.length - p.1) (0,[]) ⟨Nat.zero_le _,Piv.nil,⟨fun q hq=>by simp at hq,fun p hp=>by simp at hp⟩⟩ (Ref.to1) ?_
 rintro ⟨k,m⟩ ⟨hk,hP,hPo⟩
 dsimp only at hk hP hPo ⊢
 have hPl:m.length≤500:=by
  have h1:=hP.len
  have h2:=Rf (At R B) (es.take k).reverse
  rw [List.length_reverse,List.length_take] at h2
  rw [List.length_map] at h1
  omega
 refine RN ?_
 refine ⟨fun hc=>?_,fun hc=>?_⟩
 ·have hk' : k<es.length:=by omega
  obtain ⟨e1,e2⟩:=hem k hk'
  have hrw:=Aaz m [es.getD k 0] (At R B (es.getD k 0)) hPo (Lo _) (Gj hs _) (Zi hp e1 e2) (Ru hp _)
  have hbl:=Ma r R B [es.getD k 0] (by omega) a4 hr hok hR hs (by simp) (fun j hj=>by
   obtain rfl:j=0:=by simpa using hj
   simp only [List.getD_cons_zero]
   omega)
  rw [jF] at hbl
  have hb5:=dY hp (es.getD k 0)
  refine RN ?_
  refine Am (hbl) ?_
  refine RN ?_
  refine Kl (hrw) [2,4] (by first | rfl | simp) (by simp only [go_sem,↓reduceIte,Nat.reduceEqDiff,Nat.reduceAdd,reduceCtorEq]<;>rfl) (by simp only [go_sem,↓reduceIte,Nat.reduceEqDiff,Nat.reduceAdd,reduceCtorEq]<;>rfl) (fun o=>by first | rfl | simp only [go_sem,↓reduceIte,Nat.reduceEqDiff,Nat.reduceAdd,reduceCtorEq]) fun o ho=>?_
  obtain ⟨C,D⟩:=o
  obtain ⟨hA,hdn,sC,sD,bC,bD⟩:=ho
  dsimp only at hdn sC sD bC bD ⊢
  have lC:=Cb sC bC
  have lD:=Cb sD bD
  have hnx:=hP.next Tp hA (Gj hs) hdn
  have htr:=eZ es k hk'
  refine RN ?_
  refine ⟨fun hc2=>?_,fun hc2=>?_⟩
  ·have hD0:D≠[]:=List.length_pos_iff.1 (by omega)
   have hD1:=Ha (c:=D) (by omega)
   have hnew:Bv (D.getD (D.length - 1) 0) m=none:=ilook_none.2 fun h=>by
    obtain ⟨q,hq,hqe⟩:=List.mem_map.1 h
    rcases hdn with hdn | hdn
    ·exact hD0 hdn
    ·refine hdn q.2 (List.mem_map.2 ⟨q,hq,rfl⟩) ?_
     rw [hPo.1 q hq,hqe,hD1]
   refine RN ?_
   refine ⟨(k+1,m++[(D.getD (D.length - 1) 0,(C,D))]),⟨hk', ?_,?_,?_⟩,by dsimp only;omega,?_⟩
   ·dsimp only
    rw [htr,List.map_append];exact hnx.2 hD0
   ·intro q hq
    rcases List.mem_append.1 hq with h | h
    ·exact hPo.1 q h
    ·rw [List.mem_singleton.1 h];exact hD1
   ·intro q hq
    dsimp only at hq
    rw [List.map_append] at hq
    rcases List.mem_append.1 hq with h | h
    ·exact hPo.2 q h
    ·obtain rfl:q=(C,D):=by simpa using h
     exact ⟨sC,sD,hD0,bC,bD⟩
   ·rw [tU m _ _ hnew]
    have hat:=tO (m.map fun p=>((.int .i64 p.1,Cg p.2):Value×AV)) (.int .i64 (D.getD (D.length - 1) 0)) (.agg [.sl 5 1 0 C.length,.sl 6 1 0 D.length])
    rw [List.length_map] at hat
    refine (Ref.closeP 0 (m.length+1) 5 6 (c2:=Aa C) (c3:=Aa D) rfl hat rfl rfl (by omega) (B4 _) (B4 _)).trans ?_
    have hset:=tP (m.map fun p=>((.int .i64 p.1,Cg p.2):Value×AV)) (.int .i64 (D.getD (D.length - 1) 0)) (.agg [.sl 5 1 0 C.length,.sl 6 1 0 D.length]) (Cg (C,D))
    rw [nW,List.length_map] at hset
    have hset' : (B8 ((m.map fun p=>((.int .i64 p.1,Cg p.2):Value×AV))++[(.int .i64 (D.getD (D.length - 1) 0),.agg [.sl 5 1 0 C.length,.sl 6 1 0 D.length])])).set (m.length+1) (.ent m.length (.int .i64 (D.getD (D.length - 1) 0)) (.oag [.osl 1 C.length (Aa C),.osl 1 D.length (Aa D)]))=A4 Cg (m++[(D.getD (D.length - 1) 0,(C,D))]):=hset
    rw [hset']
    refine Ref.gc [0,1] rfl ?_ (by simp [sub,Ab,go_sem,↓reduceIte,Nat.reduceEqDiff,Nat.reduceAdd,reduceCtorEq])
    simp only [C2,List.set_cons_zero,List.set_cons_succ,go_sem,↓reduceIte,Nat.reduceEqDiff,Nat.reduceAdd,reduceCtorEq]
  ·have hD0:D=[]:=List.eq_nil_of_length_eq_zero (by omega)
   refine RN ?_
   refine ⟨(k+1,m),⟨hk', by rw [htr];exact hnx.1 hD0,hPo⟩,by dsimp only;omega,?_⟩
   exact Ref.gc1 [0,1]
 ·obtain rfl:k=es.length:=by omega
  rw [List.take_length] at hP
  refine RN ?_
  exact ⟨m,⟨hP,hPo,hPl⟩,rfl⟩
end
section
open Go.Gov
open Classical
theorem uD (p:Pr):nf 4 (Cg p)=true:=by
 have h:∀ xs:List Int,(Aa xs).all (nf 2)=true:=fun xs=>by simp [Aa,nf]
 simp only [Cg,nf,List.all_cons,List.all_nil,h,Bool.and_self]
theorem tZ (m:List (Int×Pr)):(A4 Cg m).all (nf 5)=true:=uA 4 Cg m uD
theorem Ab9 (n d:Nat)(p:Pr):A5 n d (Cg p)=Cg p:=by
 have h:∀ (d:Nat) (xs:List Int),(Aa xs).map (A5 n d)=Aa xs:=fun d xs=>by
  cases d with
  | zero=>simp [Aa,A5]
  | succ d=>simp [Aa,A5]
 match d with
 | 0=>rfl
 | 1=>simp [Cg,A5]
 | d+2=>simp only [Cg,A5,List.map_cons,List.map_nil,h]
attribute [go_sem] tZ Ab9
end
end Go.Proofs.YtcneanpkpmfaiaaGreat
