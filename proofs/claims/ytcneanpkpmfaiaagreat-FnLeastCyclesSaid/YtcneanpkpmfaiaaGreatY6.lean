/- Texts that belong together. -/
import Derived.Test.YtcneanpkpmfaiaaGreatY4
set_option maxHeartbeats 16000000
set_option linter.unusedSimpArgs false
set_option linter.unusedVariables false
set_option maxRecDepth 100000
namespace Go.Proofs.YtcneanpkpmfaiaaGreat
section
open Go.Gov
open Classical
def O6 (ld:List Int→Option Int)(P:List Pr)(D0:List Int)(o:Bool×Pr):Prop:=Mt ld P ([],D0) o.2∧(o.1=false→o.2.2=D0)
theorem tV (P : List Pr) (D0 : List Int) (hP : P.length ≤ 500) (hok : Ms P) (hD : sst D0) (bD : inB D0) :
    Ds Tryz.prog 41 [L4 P,.agg [Ae,.sl 0 1 0 D0.length]] [some (Aa D0)] (O6 List.head? P D0) (fun o=>.agg [.sl 1 1 0 o.2.1.length,bif o.1 then .sl 2 1 0 o.2.2.length else .sl 0 1 0 D0.length]) (fun o=>[some (Aa D0),some (Aa o.2.1),bif o.1 then some (Aa o.2.2) else none]):=by
 unfold O6
 refine Sc [0,3,4] eE rfl ?_;unfold S7
 refine RN ?_
 refine Aj (α:=Bool×Nat×Pr) (S:=fun p=>([(0,L4 P),(3,.ref 1 0),(4,.ref 2 0),(5,i64 p.2.1)],[some (Aa D0),some [.sl 3 1 0 p.2.2.1.length,bif p.1 then .sl 4 1 0 p.2.2.2.length else .sl 0 1 0 D0.length],some [Ae,Ae],some (Aa p.2.2.1),bif p.1 then some (Aa p.2.2.2) else none])) (C:=fun p=>(p.1=false→p.2.2.2=D0)∧p.2.1≤P.length∧Adds P ([],D0) p.2.2∧sst p.2.2.1∧sst p.2.2.2∧inB p.2.2.1∧inB p.2.2.2∧∀ j,j<p.2.1→(P.getD j P0).2.head? ≠ p.2.2.2.head?) (μ:=fun p=>Fz p.2.2.2*(P.length+1)+(P.length - p.2.1)) (false,0,[],D0) ⟨fun _=>rfl,Nat.zero_le _,.refl _,D9,hD,(fun e he=>by simp at he),bD,fun j hj=>absurd hj (Nat.not_lt_zero j)⟩ ?_ ?_
 ·refine (Ref.nilC 1 0 1 (cs:=[Ae,.sl 0 1 0 D0.length]) rfl rfl).trans ?_
  exact Ref.pad.trans (Ref.to1)
 rintro ⟨b,i,C,D⟩ ⟨hb,hi,hA,sC,sD,bC', bD', hall⟩
 dsimp only at hb hi hA sC sD bC' bD' hall ⊢
 have lC:=Bp sC bC'
 have lD:=Bp sD bD'
 cases b
 all_goals simp only [cond_true,cond_false]
 ·obtain rfl:=hb rfl
  refine RN ?_
  refine ⟨fun hc=>?_,fun hc=>?_⟩
  ·have hi' : i<P.length:=by omega
   have hp:=hok _ (Lm P i hi')
   have hp2:0<(P.getD i P0).2.length:=List.length_pos_iff.2 hp.2.2.1
   have l1:=Bp hp.1 hp.2.2.2.1
   have l2:=Bp hp.2.1 hp.2.2.2.2
   have hD1:=Kc (c:=D) (by omega)
   have hp1:=Kc hp2
   refine RN ?_
   refine ⟨fun hc2=>?_,fun hc2=>?_⟩
   ·(refine RN ?_;try with_reducible exact trivial)
    refine Ak (Kg C (P.getD i P0).1 (by omega) (by omega)) ?_
    refine RN ?_
    refine Ak (Kg D (P.getD i P0).2 (by omega) (by omega)) ?_
    refine RN ?_
    have hm:=Tx sD hp.2.1 bD' hp.2.2.2.2 (by omega) hp2 hc2
    refine ⟨(true,0,Ag C (P.getD i P0).1,Ag D (P.getD i P0).2),⟨(by simp),Nat.zero_le _,hA.step (Lm P i hi'),Bn sC hp.1,Bn sD hp.2.1,Em sC hp.1 bC' hp.2.2.2.1,Em sD hp.2.1 bD' hp.2.2.2.2,fun j hj=>absurd hj (Nat.not_lt_zero j)⟩,?_,?_⟩
    ·dsimp only
     have h9:(Fz (Ag D (P.getD i P0).2)+1)*(P.length+1)≤Fz D*(P.length+1):=Nat.mul_le_mul_right _ hm
     rw [Nat.add_mul] at h9
     omega
    ·exact Ref.gc1 [0,1,2,5,6]
   ·(refine RN ?_;try with_reducible exact trivial)
    refine ⟨(false,i+1,C,D),⟨hb,hi', hA,sC,sD,bC', bD', fun j hj=>?_⟩,by dsimp only;omega,by exact Ref.frame (by simp [sub,Ab])⟩
    have hj:j<i+1:=hj
    rcases Nat.lt_or_ge j i with h | h
    ·exact hall j h
    ·obtain rfl:j=i:=by omega
     dsimp only
     rw [hp1,hD1]
     exact fun h=>hc2 (Option.some.inj h)
  ·have hdone : Fp List.head? P (C, D) := by
     rcases Nat.eq_zero_or_pos D.length with h | h
     ·exact .inl (List.eq_nil_of_length_eq_zero h)
     ·refine .inr fun p hp=>?_
      obtain ⟨j,hj,rfl⟩:=List.mem_iff_getElem.1 hp
      have:=hall j (by omega)
      rwa [show P.getD j P0=P[j] by simp [hj]] at this
   refine RN ?_
   exact ⟨(false,C,D),⟨⟨hA,hdone,sC,sD,bC', bD'⟩,hb⟩,rfl,rfl⟩
 ·(refine RN ?_;try with_reducible exact trivial)
  refine ⟨fun hc=>?_,fun hc=>?_⟩
  ·have hi' : i<P.length:=by omega
   have hp:=hok _ (Lm P i hi')
   have hp2:0<(P.getD i P0).2.length:=List.length_pos_iff.2 hp.2.2.1
   have l1:=Bp hp.1 hp.2.2.2.1
   have l2:=Bp hp.2.1 hp.2.2.2.2
   have hD1:=Kc (c:=D) (by omega)
   have hp1:=Kc hp2
   refine RN ?_
   refine ⟨fun hc2=>?_,fun hc2=>?_⟩
   ·(refine RN ?_;try with_reducible exact trivial)
    refine Ak (Kg C (P.getD i P0).1 (by omega) (by omega)) ?_
    refine RN ?_
    refine Ak (Kg D (P.getD i P0).2 (by omega) (by omega)) ?_
    refine RN ?_
    have hm:=Tx sD hp.2.1 bD' hp.2.2.2.2 (by omega) hp2 hc2
    refine ⟨(true,0,Ag C (P.getD i P0).1,Ag D (P.getD i P0).2),⟨(by simp),Nat.zero_le _,hA.step (Lm P i hi'),Bn sC hp.1,Bn sD hp.2.1,Em sC hp.1 bC' hp.2.2.2.1,Em sD hp.2.1 bD' hp.2.2.2.2,fun j hj=>absurd hj (Nat.not_lt_zero j)⟩,?_,?_⟩
    ·dsimp only
     have h9:(Fz (Ag D (P.getD i P0).2)+1)*(P.length+1)≤Fz D*(P.length+1):=Nat.mul_le_mul_right _ hm
     rw [Nat.add_mul] at h9
     omega
    ·exact Ref.gc1 [0,1,2,5,6]
   ·(refine RN ?_;try with_reducible exact trivial)
    refine ⟨(true,i+1,C,D),⟨hb,hi', hA,sC,sD,bC', bD', fun j hj=>?_⟩,by dsimp only;omega,by exact Ref.frame (by simp [sub,Ab])⟩
    have hj:j<i+1:=hj
    rcases Nat.lt_or_ge j i with h | h
    ·exact hall j h
    ·obtain rfl:j=i:=by omega
     dsimp only
     rw [hp1,hD1]
     exact fun h=>hc2 (Option.some.inj h)
  ·have hdone : Fp List.head? P (C, D) := by
     rcases Nat.eq_zero_or_pos D.length with h | h
     ·exact .inl (List.eq_nil_of_length_eq_zero h)
     ·refine .inr fun p hp=>?_
      obtain ⟨j,hj,rfl⟩:=List.mem_iff_getElem.1 hp
      have:=hall j (by omega)
      rwa [show P.getD j P0=P[j] by simp [hj]] at this
   refine RN ?_
   exact ⟨(true,C,D),⟨⟨hA,hdone,sC,sD,bC', bD'⟩,hb⟩,rfl,rfl⟩
theorem Rj (m : List (Int × Pr)) (D0 : List Int) (hok : Mp m) (hD : sst D0) (bD : inB D0) :
    Ds Tryz.prog 51 [.mpz (Ax Ex m),.agg [Ae,.sl 0 1 0 D0.length]] [some (Aa D0)] (O6 List.getLast? (m.map (·.2)) D0) (fun o=>.agg [.sl 1 1 0 o.2.1.length,bif o.1 then .sl 2 1 0 o.2.2.length else .sl 0 1 0 D0.length]) (fun o=>[some (Aa D0),some (Aa o.2.1),bif o.1 then some (Aa o.2.2) else none]):=by
 unfold O6
 refine Sc [0,3,4] U8 rfl ?_;unfold Pn
 refine RN ?_
 refine Aj (α:=Bool×Pr) (S:=fun o=>([(0,.mpz (Ax Ex m)),(3,.ref 1 0),(4,.ref 2 0)],[some (Aa D0),some [.sl 3 1 0 o.2.1.length,bif o.1 then .sl 4 1 0 o.2.2.length else .sl 0 1 0 D0.length],some [Ae,Ae],some (Aa o.2.1),bif o.1 then some (Aa o.2.2) else none])) (C:=fun o=>(o.1=false→o.2.2=D0)∧Adds (m.map (·.2)) ([],D0) o.2∧sst o.2.1∧sst o.2.2∧inB o.2.1∧inB o.2.2) (μ:=fun o=>Hs o.2.2) (false,[],D0) ⟨fun _=>rfl,.refl _,D9,hD,(fun e he=>by simp at he),bD⟩ ?_ ?_
 ·refine (Ref.nilC 1 0 1 (cs:=[Ae,.sl 0 1 0 D0.length]) rfl rfl).trans ?_
  exact Ref.pad.trans (Ref.to1)
 rintro ⟨b,C,D⟩ ⟨hb,hA,sC,sD,bC', bD'⟩
 dsimp only at hb hA sC sD bC' bD' ⊢
 have lC:=Bp sC bC'
 have lD:=Bp sD bD'
 cases b
 all_goals simp only [cond_true,cond_false]
 ·obtain rfl:=hb rfl
  refine RN ?_
  refine ⟨fun hc=>?_,fun hc=>?_⟩
  ·have hD1:=En (c:=D) (by omega)
   cases hlk:By (D.getD (D.length - 1) 0) m with
   | none=>
    refine RN ?_
    simp only [hlk,go_sem,↓reduceIte,Nat.reduceEqDiff,Nat.reduceAdd,reduceCtorEq]
    refine RN ?_
    refine ⟨(false,C,D),⟨⟨hA,.inr fun q hq=>?_,sC,sD,bC', bD'⟩,hb⟩,rfl,rfl⟩
    obtain ⟨z,hz,rfl⟩:=List.mem_map.1 hq
    rw [hok.1 z hz,hD1]
    intro h
    exact ilook_none.1 hlk (List.mem_map.2 ⟨z,hz,Option.some.inj h⟩)
   | some p=>
    refine RN ?_
    simp only [hlk,Hw,go_sem,↓reduceIte,Nat.reduceEqDiff,Nat.reduceAdd,reduceCtorEq]
    refine RN ?_
    have hpm:p∈m.map (·.2):=List.mem_map.2 ⟨_,F0 hlk,rfl⟩
    have hp:=hok.2 p hpm
    have hp2:0<p.2.length:=List.length_pos_iff.2 hp.2.2.1
    have l1:=Bp hp.1 hp.2.2.2.1
    have l2:=Bp hp.2.1 hp.2.2.2.2
    have hpl:=hok.1 _ (F0 hlk)
    rw [En hp2] at hpl
    have hm:=Lv sD hp.2.1 bD' (by omega) hp2 (Option.some.inj hpl)
    have hnx:Adds (m.map (·.2)) ([],D) (Ag C p.1,Ag D p.2)∧sst (Ag C p.1)∧sst (Ag D p.2)∧inB (Ag C p.1)∧inB (Ag D p.2):=⟨hA.step hpm,Bn sC hp.1,Bn sD hp.2.1,Em sC hp.1 bC' hp.2.2.2.1,Em sD hp.2.1 bD' hp.2.2.2.2⟩
    have hc1:=Hl [C,p.1] (by simp) (by simp [Ct];omega)
    have hc2:=Hl [D,p.2] (by simp) (by simp [Ct];omega)
    have ho1:=G6 [C,p.1].flatten (by simp;omega)
    have ho2:=G6 [D,p.2].flatten (by simp;omega)
    have e1:D6 [C,p.1].flatten=Ag C p.1:=by simpa using Hv sC hp.1
    have e2:D6 [D,p.2].flatten=Ag D p.2:=by simpa using Hv sD hp.2.1
    rw [e1] at ho1
    rw [e2] at ho2
    refine M0 (show LT _ _ _ _ _ _ from ?_)
    refine Mq ?_
    repeat' first
     | simp only [Hw,go_sem,↓reduceIte,Nat.reduceEqDiff,Nat.reduceAdd,reduceCtorEq]
     | with_reducible refine Ar ?_
     | (with_reducible refine K1 ?_ ?_;focus (simp only [Mj,Mk,Ml,go_sem,↓reduceIte,Nat.reduceEqDiff,Nat.reduceAdd,reduceCtorEq];done))
     | with_reducible refine Aq ?_
     | with_reducible exact As
     | with_reducible refine Ap ?_ ?_
     | (with_reducible refine And.intro ?_ ?_;focus first | assumption | omega | grind)
     | (refine Bx (hc1) ?_ ?_ ?_;(focus (simp only [go_sem,↓reduceIte,Nat.reduceEqDiff,Nat.reduceAdd,reduceCtorEq]<;>rfl));(focus first | rfl | simp only [go_sem,↓reduceIte,Nat.reduceEqDiff,Nat.reduceAdd,reduceCtorEq]))
     | (refine Bx (hc2) ?_ ?_ ?_;(focus (simp only [go_sem,↓reduceIte,Nat.reduceEqDiff,Nat.reduceAdd,reduceCtorEq]<;>rfl));(focus first | rfl | simp only [go_sem,↓reduceIte,Nat.reduceEqDiff,Nat.reduceAdd,reduceCtorEq]))
     | (refine Bb (ho1) [7] ?_ ?_ ?_ ?_ ?_;(focus first | rfl | simp);(focus (simp only [go_sem,↓reduceIte,Nat.reduceEqDiff,Nat.reduceAdd,reduceCtorEq]<;>rfl));(focus (simp only [go_sem,↓reduceIte,Nat.reduceEqDiff,Nat.reduceAdd,reduceCtorEq]<;>rfl));(focus first | rfl | simp only [go_sem,↓reduceIte,Nat.reduceEqDiff,Nat.reduceAdd,reduceCtorEq]))
     | (refine Bb (ho2) [7] ?_ ?_ ?_ ?_ ?_;(focus first | rfl | simp);(focus (simp only [go_sem,↓reduceIte,Nat.reduceEqDiff,Nat.reduceAdd,reduceCtorEq]<;>rfl));(focus (simp only [go_sem,↓reduceIte,Nat.reduceEqDiff,Nat.reduceAdd,reduceCtorEq]<;>rfl));(focus first | rfl | simp only [go_sem,↓reduceIte,Nat.reduceEqDiff,Nat.reduceAdd,reduceCtorEq]))
     | (refine Bb (ho1) [8] ?_ ?_ ?_ ?_ ?_;(focus first | rfl | simp);(focus (simp only [go_sem,↓reduceIte,Nat.reduceEqDiff,Nat.reduceAdd,reduceCtorEq]<;>rfl));(focus (simp only [go_sem,↓reduceIte,Nat.reduceEqDiff,Nat.reduceAdd,reduceCtorEq]<;>rfl));(focus first | rfl | simp only [go_sem,↓reduceIte,Nat.reduceEqDiff,Nat.reduceAdd,reduceCtorEq]))
     | (refine Bb (ho2) [8] ?_ ?_ ?_ ?_ ?_;(focus first | rfl | simp);(focus (simp only [go_sem,↓reduceIte,Nat.reduceEqDiff,Nat.reduceAdd,reduceCtorEq]<;>rfl));(focus (simp only [go_sem,↓reduceIte,Nat.reduceEqDiff,Nat.reduceAdd,reduceCtorEq]<;>rfl));(focus first | rfl | simp only [go_sem,↓reduceIte,Nat.reduceEqDiff,Nat.reduceAdd,reduceCtorEq]))
     | (refine Bb (ho1) [9] ?_ ?_ ?_ ?_ ?_;(focus first | rfl | simp);(focus (simp only [go_sem,↓reduceIte,Nat.reduceEqDiff,Nat.reduceAdd,reduceCtorEq]<;>rfl));(focus (simp only [go_sem,↓reduceIte,Nat.reduceEqDiff,Nat.reduceAdd,reduceCtorEq]<;>rfl));(focus first | rfl | simp only [go_sem,↓reduceIte,Nat.reduceEqDiff,Nat.reduceAdd,reduceCtorEq]))
     | (refine Bb (ho2) [9] ?_ ?_ ?_ ?_ ?_;(focus first | rfl | simp);(focus (simp only [go_sem,↓reduceIte,Nat.reduceEqDiff,Nat.reduceAdd,reduceCtorEq]<;>rfl));(focus (simp only [go_sem,↓reduceIte,Nat.reduceEqDiff,Nat.reduceAdd,reduceCtorEq]<;>rfl));(focus first | rfl | simp only [go_sem,↓reduceIte,Nat.reduceEqDiff,Nat.reduceAdd,reduceCtorEq]))
     | (refine Bb (ho1) [10] ?_ ?_ ?_ ?_ ?_;(focus first | rfl | simp);(focus (simp only [go_sem,↓reduceIte,Nat.reduceEqDiff,Nat.reduceAdd,reduceCtorEq]<;>rfl));(focus (simp only [go_sem,↓reduceIte,Nat.reduceEqDiff,Nat.reduceAdd,reduceCtorEq]<;>rfl));(focus first | rfl | simp only [go_sem,↓reduceIte,Nat.reduceEqDiff,Nat.reduceAdd,reduceCtorEq]))
     | (refine Bb (ho2) [10] ?_ ?_ ?_ ?_ ?_;(focus first | rfl | simp);(focus (simp only [go_sem,↓reduceIte,Nat.reduceEqDiff,Nat.reduceAdd,reduceCtorEq]<;>rfl));(focus (simp only [go_sem,↓reduceIte,Nat.reduceEqDiff,Nat.reduceAdd,reduceCtorEq]<;>rfl));(focus first | rfl | simp only [go_sem,↓reduceIte,Nat.reduceEqDiff,Nat.reduceAdd,reduceCtorEq]))
    all_goals (refine ⟨(true,Ag C p.1,Ag D p.2),⟨(by simp),hnx⟩,hm,?_⟩;first
     | (refine Ref.gc [0,1,2,8,11] rfl ?_ ?_<;>first | (simp only [go_sem,↓reduceIte,Nat.reduceEqDiff,Nat.reduceAdd,reduceCtorEq];done) | (simp [sub,Ab,go_sem,↓reduceIte,Nat.reduceEqDiff,Nat.reduceAdd,reduceCtorEq];done))
     | (refine Ref.gc [0,1,2,9,11] rfl ?_ ?_<;>first | (simp only [go_sem,↓reduceIte,Nat.reduceEqDiff,Nat.reduceAdd,reduceCtorEq];done) | (simp [sub,Ab,go_sem,↓reduceIte,Nat.reduceEqDiff,Nat.reduceAdd,reduceCtorEq];done))
     | (refine Ref.gc [0,1,2,10,11] rfl ?_ ?_<;>first | (simp only [go_sem,↓reduceIte,Nat.reduceEqDiff,Nat.reduceAdd,reduceCtorEq];done) | (simp [sub,Ab,go_sem,↓reduceIte,Nat.reduceEqDiff,Nat.reduceAdd,reduceCtorEq];done))
     | (refine Ref.gc [0,1,2,11,8] rfl ?_ ?_<;>first | (simp only [go_sem,↓reduceIte,Nat.reduceEqDiff,Nat.reduceAdd,reduceCtorEq];done) | (simp [sub,Ab,go_sem,↓reduceIte,Nat.reduceEqDiff,Nat.reduceAdd,reduceCtorEq];done))
     | (refine Ref.gc [0,1,2,11,9] rfl ?_ ?_<;>first | (simp only [go_sem,↓reduceIte,Nat.reduceEqDiff,Nat.reduceAdd,reduceCtorEq];done) | (simp [sub,Ab,go_sem,↓reduceIte,Nat.reduceEqDiff,Nat.reduceAdd,reduceCtorEq];done))
     | (refine Ref.gc [0,1,2,11,10] rfl ?_ ?_<;>first | (simp only [go_sem,↓reduceIte,Nat.reduceEqDiff,Nat.reduceAdd,reduceCtorEq];done) | (simp [sub,Ab,go_sem,↓reduceIte,Nat.reduceEqDiff,Nat.reduceAdd,reduceCtorEq];done)))
  ·(refine RN ?_;try with_reducible exact trivial)
   have hD0:D=[]:=List.eq_nil_of_length_eq_zero (by omega)
   exact ⟨(false,C,D),⟨⟨hA,.inl hD0,sC,sD,bC', bD'⟩,hb⟩,rfl,rfl⟩
 ·(refine RN ?_;try with_reducible exact trivial)
  refine ⟨fun hc=>?_,fun hc=>?_⟩
  ·have hD1:=En (c:=D) (by omega)
   cases hlk:By (D.getD (D.length - 1) 0) m with
   | none=>
    refine RN ?_
    simp only [hlk,go_sem,↓reduceIte,Nat.reduceEqDiff,Nat.reduceAdd,reduceCtorEq]
    refine RN ?_
    refine ⟨(true,C,D),⟨⟨hA,.inr fun q hq=>?_,sC,sD,bC', bD'⟩,hb⟩,rfl,rfl⟩
    obtain ⟨z,hz,rfl⟩:=List.mem_map.1 hq
    rw [hok.1 z hz,hD1]
    intro h
    exact ilook_none.1 hlk (List.mem_map.2 ⟨z,hz,Option.some.inj h⟩)
   | some p=>
    refine RN ?_
    simp only [hlk,Hw,go_sem,↓reduceIte,Nat.reduceEqDiff,Nat.reduceAdd,reduceCtorEq]
    refine RN ?_
    have hpm:p∈m.map (·.2):=List.mem_map.2 ⟨_,F0 hlk,rfl⟩
    have hp:=hok.2 p hpm
    have hp2:0<p.2.length:=List.length_pos_iff.2 hp.2.2.1
    have l1:=Bp hp.1 hp.2.2.2.1
    have l2:=Bp hp.2.1 hp.2.2.2.2
    have hpl:=hok.1 _ (F0 hlk)
    rw [En hp2] at hpl
    have hm:=Lv sD hp.2.1 bD' (by omega) hp2 (Option.some.inj hpl)
    have hnx:Adds (m.map (·.2)) ([],D0) (Ag C p.1,Ag D p.2)∧sst (Ag C p.1)∧sst (Ag D p.2)∧inB (Ag C p.1)∧inB (Ag D p.2):=⟨hA.step hpm,Bn sC hp.1,Bn sD hp.2.1,Em sC hp.1 bC' hp.2.2.2.1,Em sD hp.2.1 bD' hp.2.2.2.2⟩
    have hc1:=Hl [C,p.1] (by simp) (by simp [Ct];omega)
    have hc2:=Hl [D,p.2] (by simp) (by simp [Ct];omega)
    have ho1:=G6 [C,p.1].flatten (by simp;omega)
    have ho2:=G6 [D,p.2].flatten (by simp;omega)
    have e1:D6 [C,p.1].flatten=Ag C p.1:=by simpa using Hv sC hp.1
    have e2:D6 [D,p.2].flatten=Ag D p.2:=by simpa using Hv sD hp.2.1
    rw [e1] at ho1
    rw [e2] at ho2
    refine M0 (show LT _ _ _ _ _ _ from ?_)
    refine Mq ?_
    repeat' first
     | simp only [Hw,go_sem,↓reduceIte,Nat.reduceEqDiff,Nat.reduceAdd,reduceCtorEq]
     | with_reducible refine Ar ?_
     | (with_reducible refine K1 ?_ ?_;focus (simp only [Mj,Mk,Ml,go_sem,↓reduceIte,Nat.reduceEqDiff,Nat.reduceAdd,reduceCtorEq];done))
     | with_reducible refine Aq ?_
     | with_reducible exact As
     | with_reducible refine Ap ?_ ?_
     | (with_reducible refine And.intro ?_ ?_;focus first | assumption | omega | grind)
     | (refine Bx (hc1) ?_ ?_ ?_;(focus (simp only [go_sem,↓reduceIte,Nat.reduceEqDiff,Nat.reduceAdd,reduceCtorEq]<;>rfl));(focus first | rfl | simp only [go_sem,↓reduceIte,Nat.reduceEqDiff,Nat.reduceAdd,reduceCtorEq]))
     | (refine Bx (hc2) ?_ ?_ ?_;(focus (simp only [go_sem,↓reduceIte,Nat.reduceEqDiff,Nat.reduceAdd,reduceCtorEq]<;>rfl));(focus first | rfl | simp only [go_sem,↓reduceIte,Nat.reduceEqDiff,Nat.reduceAdd,reduceCtorEq]))
     | (refine Bb (ho1) [7] ?_ ?_ ?_ ?_ ?_;(focus first | rfl | simp);(focus (simp only [go_sem,↓reduceIte,Nat.reduceEqDiff,Nat.reduceAdd,reduceCtorEq]<;>rfl));(focus (simp only [go_sem,↓reduceIte,Nat.reduceEqDiff,Nat.reduceAdd,reduceCtorEq]<;>rfl));(focus first | rfl | simp only [go_sem,↓reduceIte,Nat.reduceEqDiff,Nat.reduceAdd,reduceCtorEq]))
     | (refine Bb (ho2) [7] ?_ ?_ ?_ ?_ ?_;(focus first | rfl | simp);(focus (simp only [go_sem,↓reduceIte,Nat.reduceEqDiff,Nat.reduceAdd,reduceCtorEq]<;>rfl));(focus (simp only [go_sem,↓reduceIte,Nat.reduceEqDiff,Nat.reduceAdd,reduceCtorEq]<;>rfl));(focus first | rfl | simp only [go_sem,↓reduceIte,Nat.reduceEqDiff,Nat.reduceAdd,reduceCtorEq]))
     | (refine Bb (ho1) [8] ?_ ?_ ?_ ?_ ?_;(focus first | rfl | simp);(focus (simp only [go_sem,↓reduceIte,Nat.reduceEqDiff,Nat.reduceAdd,reduceCtorEq]<;>rfl));(focus (simp only [go_sem,↓reduceIte,Nat.reduceEqDiff,Nat.reduceAdd,reduceCtorEq]<;>rfl));(focus first | rfl | simp only [go_sem,↓reduceIte,Nat.reduceEqDiff,Nat.reduceAdd,reduceCtorEq]))
     | (refine Bb (ho2) [8] ?_ ?_ ?_ ?_ ?_;(focus first | rfl | simp);(focus (simp only [go_sem,↓reduceIte,Nat.reduceEqDiff,Nat.reduceAdd,reduceCtorEq]<;>rfl));(focus (simp only [go_sem,↓reduceIte,Nat.reduceEqDiff,Nat.reduceAdd,reduceCtorEq]<;>rfl));(focus first | rfl | simp only [go_sem,↓reduceIte,Nat.reduceEqDiff,Nat.reduceAdd,reduceCtorEq]))
     | (refine Bb (ho1) [9] ?_ ?_ ?_ ?_ ?_;(focus first | rfl | simp);(focus (simp only [go_sem,↓reduceIte,Nat.reduceEqDiff,Nat.reduceAdd,reduceCtorEq]<;>rfl));(focus (simp only [go_sem,↓reduceIte,Nat.reduceEqDiff,Nat.reduceAdd,reduceCtorEq]<;>rfl));(focus first | rfl | simp only [go_sem,↓reduceIte,Nat.reduceEqDiff,Nat.reduceAdd,reduceCtorEq]))
     | (refine Bb (ho2) [9] ?_ ?_ ?_ ?_ ?_;(focus first | rfl | simp);(focus (simp only [go_sem,↓reduceIte,Nat.reduceEqDiff,Nat.reduceAdd,reduceCtorEq]<;>rfl));(focus (simp only [go_sem,↓reduceIte,Nat.reduceEqDiff,Nat.reduceAdd,reduceCtorEq]<;>rfl));(focus first | rfl | simp only [go_sem,↓reduceIte,Nat.reduceEqDiff,Nat.reduceAdd,reduceCtorEq]))
     | (refine Bb (ho1) [10] ?_ ?_ ?_ ?_ ?_;(focus first | rfl | simp);(focus (simp only [go_sem,↓reduceIte,Nat.reduceEqDiff,Nat.reduceAdd,reduceCtorEq]<;>rfl));(focus (simp only [go_sem,↓reduceIte,Nat.reduceEqDiff,Nat.reduceAdd,reduceCtorEq]<;>rfl));(focus first | rfl | simp only [go_sem,↓reduceIte,Nat.reduceEqDiff,Nat.reduceAdd,reduceCtorEq]))
     | (refine Bb (ho2) [10] ?_ ?_ ?_ ?_ ?_;(focus first | rfl | simp);(focus (simp only [go_sem,↓reduceIte,Nat.reduceEqDiff,Nat.reduceAdd,reduceCtorEq]<;>rfl));(focus (simp only [go_sem,↓reduceIte,Nat.reduceEqDiff,Nat.reduceAdd,reduceCtorEq]<;>rfl));(focus first | rfl | simp only [go_sem,↓reduceIte,Nat.reduceEqDiff,Nat.reduceAdd,reduceCtorEq]))
    all_goals (refine ⟨(true,Ag C p.1,Ag D p.2),⟨(by simp),hnx⟩,hm,?_⟩;first
     | (refine Ref.gc [0,1,2,8,11] rfl ?_ ?_<;>first | (simp only [go_sem,↓reduceIte,Nat.reduceEqDiff,Nat.reduceAdd,reduceCtorEq];done) | (simp [sub,Ab,go_sem,↓reduceIte,Nat.reduceEqDiff,Nat.reduceAdd,reduceCtorEq];done))
     | (refine Ref.gc [0,1,2,9,11] rfl ?_ ?_<;>first | (simp only [go_sem,↓reduceIte,Nat.reduceEqDiff,Nat.reduceAdd,reduceCtorEq];done) | (simp [sub,Ab,go_sem,↓reduceIte,Nat.reduceEqDiff,Nat.reduceAdd,reduceCtorEq];done))
     | (refine Ref.gc [0,1,2,10,11] rfl ?_ ?_<;>first | (simp only [go_sem,↓reduceIte,Nat.reduceEqDiff,Nat.reduceAdd,reduceCtorEq];done) | (simp [sub,Ab,go_sem,↓reduceIte,Nat.reduceEqDiff,Nat.reduceAdd,reduceCtorEq];done))
     | (refine Ref.gc [0,1,2,11,8] rfl ?_ ?_<;>first | (simp only [go_sem,↓reduceIte,Nat.reduceEqDiff,Nat.reduceAdd,reduceCtorEq];done) | (simp [sub,Ab,go_sem,↓reduceIte,Nat.reduceEqDiff,Nat.reduceAdd,reduceCtorEq];done))
     | (refine Ref.gc [0,1,2,11,9] rfl ?_ ?_<;>first | (simp only [go_sem,↓reduceIte,Nat.reduceEqDiff,Nat.reduceAdd,reduceCtorEq];done) | (simp [sub,Ab,go_sem,↓reduceIte,Nat.reduceEqDiff,Nat.reduceAdd,reduceCtorEq];done))
     | (refine Ref.gc [0,1,2,11,10] rfl ?_ ?_<;>first | (simp only [go_sem,↓reduceIte,Nat.reduceEqDiff,Nat.reduceAdd,reduceCtorEq];done) | (simp [sub,Ab,go_sem,↓reduceIte,Nat.reduceEqDiff,Nat.reduceAdd,reduceCtorEq];done)))
  ·(refine RN ?_;try with_reducible exact trivial)
   have hD0:D=[]:=List.eq_nil_of_length_eq_zero (by omega)
   exact ⟨(true,C,D),⟨⟨hA,.inl hD0,sC,sD,bC', bD'⟩,hb⟩,rfl,rfl⟩
end
section
open Go.Gov
open Classical
def Er (m k:Nat):Bool:=Co .and .i64 (Da .shr .i64 (m:Int) (k:Int)) 1 == 1
theorem lK (k:Nat)(h:k<15):Er 0 k=false:=by
 have:∀ k:Fin 15,Er 0 k.val=false:=by decide +kernel
 exact this ⟨k,h⟩
theorem gP (n:Nat)(h:n<15):Da .shl .i64 1 (n:Int)=(2^n:Nat):=by
 have:∀ n:Fin 15,Da .shl .i64 1 (n.val:Int)=(2^n.val:Nat):=by decide +kernel
 exact this ⟨n,h⟩
theorem iY (n:Nat)(h:n<15):IntKind.u64.wrap (n:Int)=n:=by
 have:∀ n:Fin 15,IntKind.u64.wrap (n.val:Int)=n.val:=by decide +kernel
 exact this ⟨n,h⟩
theorem Vf {n:Nat}(h:n<15):2^n≤16384:=by
 have:∀ n:Fin 15,2^n.val≤16384:=by decide +kernel
 exact this ⟨n,h⟩
def Bz (es:List Int)(m k:Nat):List Int:=((List.range k).filter (Er m)).map fun j:Nat=>es.getD j 0
theorem Px (es:List Int)(m k:Nat):Bz es m (k+1)=if Er m k then Bz es m k++[es.getD k 0] else Bz es m k:=by
 unfold Bz
 rw [List.range_succ,List.filter_append,List.map_append]
 by_cases h:Er m k=true
 ·rw [if_pos h,List.filter_cons_of_pos h];rfl
 ·rw [if_neg h,List.filter_cons_of_neg h];simp
theorem Pw (es:List Int)(m k:Nat):(Bz es m k).length≤k:=by
 unfold Bz
 rw [List.length_map]
 have:=List.length_filter_le (Er m) (List.range k)
 rwa [List.length_range] at this
theorem N3 {es:List Int}{m k:Nat}{e:Int}(h:e∈Bz es m k)(hk:k≤es.length):∃ j,j<k∧e=es.getD j 0:=by
 unfold Bz at h
 obtain ⟨j,hj,rfl⟩:=List.mem_map.1 h
 exact ⟨j,List.mem_range.1 (List.mem_filter.1 hj).1,rfl⟩
theorem J1 {es:List Int}(hs:sst es)(m:Nat):∀ k,k≤es.length→sst (Bz es m k)
 | 0,_=>List.Pairwise.nil
 | k+1,h=>by
  rw [Px]
  split
  ·refine List.pairwise_append.2 ⟨J1 hs m k (by omega),List.pairwise_singleton _ _,fun a ha b hb=>?_⟩
   obtain ⟨j,hj,rfl⟩:=N3 ha (by omega)
   rw [List.mem_singleton.1 hb,B8 es j (by omega),B8 es k (by omega)]
   exact List.pairwise_iff_getElem.1 hs j k (by omega) (by omega) hj
  ·exact J1 hs m k (by omega)
section
variable (R:List Int) (B:List (List Int)) (es:List Int)
def Mr (c:List Int):Prop:=¬ Sp (fun g=>∃ e∈(Am R 2).reverse,g=Av R B e) c
def aJ (best:Option (List Int))(c:List Int):Prop:=(∀ b,best=some b→c.length<b.length∨(c.length=b.length∧Bl c b=true))∧Bc R B c=[]∧Mr R B c
noncomputable def Cn (best:Option (List Int))(c:List Int):Option (List Int):=if aJ R B best c then some c else best
noncomputable def Ch:Nat→Option (List Int)
 | 0=>none
 | m+1=>Cn R B (Ch m) (Bz es m es.length)
end
noncomputable def B3 (R:List Int)(B:List (List Int)):Option (List Int):=Ch R B (Am R 1) (2^(Am R 1).length)
noncomputable def Cr (r:Int)(R:List Int)(B:List (List Int)):List Int:=if IsPos r R B∧Cd R B∧(Am R 1).length≤14 then (B3 R B).getD [] else []
noncomputable def Ev (r:Int)(R:List Int)(B:List (List Int)):Int:=if IsPos r R B then if Cd R B then if (Am R 1).length≤14 then if (B3 R B).isSome then 0 else 4 else 3 else 5 else 1
theorem Me {R:List Int}{B:List (List Int)}{b:Option (List Int)}{c:List Int}(h:aJ R B b c):c≠[]:=fun e=>h.2.2 (e ▸ Sp.zero)
theorem lP (R:List Int)(B:List (List Int))(es:List Int)(h:es.length<15):Ch R B es 1=none:=by
 have h0:Bz es 0 es.length=[]:=by
  unfold Bz
  rw [List.map_eq_nil_iff,List.filter_eq_nil_iff]
  intro k hk
  rw [lK k (by have:=List.mem_range.1 hk;omega)]
  simp
 unfold Ch Cn Ch
 rw [if_neg (fun hu=>Me hu h0)]
theorem Pg (R:List Int)(B:List (List Int))(es:List Int)(h:es.length≤14):∀ m b,Ch R B es m=some b→b≠[]∧b.length≤14
 | 0,b,hb=>by simp [Ch] at hb
 | m+1,b,hb=>by
  unfold Ch Cn at hb
  split at hb
  ·rename_i hu
   obtain rfl:=Option.some.inj hb
   exact ⟨Me hu,Nat.le_trans (Pw es m es.length) h⟩
  ·exact Pg R B es h m b hb
theorem N5 {R:List Int}{B:List (List Int)}{ld:List Int→Option Int}{P:List Pr}{c:List Int}{y:Pr}(hf:∀ e,sst (Av R B e))(hl:H7 ld)(hP:Piv ld (Av R B) (Am R 2).reverse P)(hc:sst c)(h:Adds P ([],c) y)(hd:Fp ld P y):Mr R B c ↔ y.2≠[]:=by
 have h3:bd (Av R B) []=Ag c c:=by rw [La,Iv hc]
 exact not_congr (h.zero hl hP hf D9 hc hc h3 hd).symm
theorem Aed (r : Int) (R : List Int) (B : List (List Int)) (s : Bool) (h1 : R.length ≤ 1048576) (hr : ∀ xs ∈ B, xs.length ≤ 1048576) (hp : IsPos r R B) (he : Cd R B) (h14 : (Am R 1).length ≤ 14) (hs : (B3 R B).isSome = s) :
    Pure Tryz.prog 18 [Bo r R B] (.tup [bif s then .sl 0 1 0 ((B3 R B).getD []).length else Ae,i64 (bif s then 0 else 4)]) (bif s then [some (Aa ((B3 R B).getD []))] else []):=by
 have gr:∀ xs∈B,xs.length≤1099511627776:=fun xs hx=>by have:=hr xs hx;omega
 have hpd:decide (IsPos r R B)=true:=decide_eq_true hp
 have hed:decide (Cd R B)=true:=decide_eq_true he
 obtain ⟨a1,a2,a3,a4,hrk⟩:=hp.rank
 obtain ⟨hro,hss⟩:=hp.rows
 have hes:=Ul r R B 1 (by omega)
 have hem:∀ k,k<(Am R 1).length→0≤(Am R 1).getD k 0∧(Am R 1).getD k 0<R.length:=fun k hk=>by
  have h1:(Am R 1).getD k 0∈Am R 1:=by rw [B8 _ k hk];exact List.getElem_mem hk
  have h2:=mem_plcN.1 h1
  exact ⟨h2.1,h2.2.1⟩
 have hesS:sst (Am R 1):=Jn R 1 R.length
 unfold B3 at hs ⊢
 generalize hE:Am R 1=es at hes hem hesS h14 hs ⊢
 have hb1:=lP R B es (by omega)
 have hbS:∀ m,Ch R B es (m+1)=Cn R B (Ch R B es m) (Bz es m es.length):=fun m=>rfl
 have hpw:=Vf (n:=es.length) (by omega)
 have hsl:=gP es.length (by omega)
 refine Fi (bif s then [2] else []) Rb rfl ?_
 unfold Na
 refine RN ?_
 refine Ak (Qt r R B (by omega) (by omega) gr) ?_
 simp only [hpd,go_sem,↓reduceIte,Nat.reduceEqDiff,Nat.reduceAdd,reduceCtorEq]
 refine RN ?_
 refine Ak (Uk r R B hp hr) ?_
 simp only [hed,go_sem,↓reduceIte,Nat.reduceEqDiff,Nat.reduceAdd,reduceCtorEq]
 refine RN ?_
 refine Ak (hes) ?_
 (refine RN ?_;try with_reducible exact trivial)
 (try with_reducible refine fun _=>?_)
 refine RN ?_
 refine B0 (tU r R B 2 hp hr) (by simp only [go_sem,↓reduceIte,Nat.reduceEqDiff,Nat.reduceAdd,reduceCtorEq]<;>rfl) (fun P=>(by first | rfl | simp only [go_sem,↓reduceIte,Nat.reduceEqDiff,Nat.reduceAdd,reduceCtorEq])) fun P hP=>?_
 obtain ⟨hPv,hPo,hPl⟩:=hP
 refine RN ?_
 have hbne:∀ m b,Ch R B es m=some b→b≠[]∧b.length≤14:=Pg R B es h14
 generalize hbst:Ch R B es=T at hb1 hbS hbne hs ⊢
 refine Aj (α:=Nat) (S:=fun m=>([(1,.ref 0 0),(4,.sl 1 1 0 es.length),(5,.sl 2 1 0 ((T m).getD []).length),(6,bl (T m).isSome),(7,.sl 3 2 0 P.length),(8,i64 m)],[some [i64 r,Ac R,Af B],some (Aa es),some (Aa ((T m).getD [])),some ((C4 P).map Ad)])) (C:=fun m=>1≤m∧m≤2^es.length) (μ:=fun m=>2^es.length - m) 1 ⟨by omega,Nat.one_le_two_pow⟩ (Ref.to (by simp [hb1,Aa]) (by simp [sub,Ab,hb1])) ?_
 rintro m ⟨hm1,hm2⟩
 have hTm:=hbne m
 have hTs:=hbS m
 have hw:=iY es.length (by omega)
 have hbl:((T m).getD []).length≤14:=by
  cases hT:T m with
  | none=>simp
  | some b=>exact (hTm b hT).2
 generalize hbe:T m=best at hTm hTs hbl ⊢
 refine RN ?_
 simp only [hw,hsl,go_sem,↓reduceIte,Nat.reduceEqDiff,Nat.reduceAdd,reduceCtorEq]
 refine ⟨fun hc=>?_,fun hc=>?_⟩
 ·have hm3:m<2^es.length:=by omega
  refine RN ?_
  refine Aj (α:=Nat) (S:=fun k=>([(1,.ref 0 0),(4,.sl 1 1 0 es.length),(5,.sl 2 1 0 (best.getD []).length),(6,bl best.isSome),(7,.sl 3 2 0 P.length),(8,i64 m),(9,.sl 4 1 0 (Bz es m k).length),(10,i64 k)],[some [i64 r,Ac R,Af B],some (Aa es),some (Aa (best.getD [])),some ((C4 P).map Ad),some (Aa (Bz es m k))])) (C:=fun k=>k≤es.length) (μ:=fun k=>es.length - k) 0 (by omega) (Ref.to (by simp [Bz,Aa]) (by simp [sub,Ab,Bz])) ?_
  intro k hk
  have hcs:=Px es m k
  have hcl:=Pw es m k
  have hw:=iY k (by omega)
  have hbit:(Co .and .i64 (Da .shr .i64 (m:Int) (k:Int)) 1 == 1)=Er m k:=rfl
  generalize hL:Bz es m k=L at hcs hcl ⊢
  refine RN ?_
  refine ⟨fun hc2=>?_,fun hc2=>?_⟩
  ·(refine RN ?_;try with_reducible exact trivial)
   simp only [hw,go_sem,↓reduceIte,Nat.reduceEqDiff,Nat.reduceAdd,reduceCtorEq]
   refine ⟨fun hc3=>?_,fun hc3=>?_⟩
   ·have hbt:Er m k=true:=beq_iff_eq.2 hc3
    rw [hbt,if_pos rfl] at hcs
    refine RN ?_
    refine ⟨k+1,by omega,by omega,?_⟩
    rw [hcs]
    refine Ref.gc [0,1,2,3,6] rfl ?_ (by simp [sub,Ab,go_sem,↓reduceIte,Nat.reduceEqDiff,Nat.reduceAdd,reduceCtorEq])
    (try simp only [go_sem,↓reduceIte,Nat.reduceEqDiff,Nat.reduceAdd,reduceCtorEq,Fo,E5,El])
   ·have hbt:Er m k=false:=beq_eq_false_iff_ne.2 hc3
    rw [hbt,if_neg (by simp)] at hcs
    refine RN ?_
    refine ⟨k+1,by omega,by omega,?_⟩
    rw [hcs]
    exact Ref.frame (by simp [sub,Ab])
  ·obtain rfl:k=es.length:=by omega
   have sL:sst L:=hL ▸ J1 hesS m es.length (Nat.le_refl _)
   have mL:∀ e∈L,0≤e∧e<R.length:=fun e he=>by
    obtain ⟨j,hj,rfl⟩:=N3 (hL ▸ he) (Nat.le_refl _)
    exact hem j hj
   have iL:inB L:=fun e he=>by have:=mL e he;omega
   have gL:∀ j,j<L.length→0≤L.getD j 0∧L.getD j 0≤(R.length:Int) - 1:=fun j hj=>by
    have:=mL (L.getD j 0) (by rw [B8 L j hj];exact List.getElem_mem hj)
    omega
   rw [hL] at hTs
   refine RN ?_
   refine Gc (bl (Bl L (best.getD [])) ) (fun hg =>  uY L (best.getD []) (by omega) (by omega)) ?_
   refine RN ?_
   refine GCall.mk (Ac (Bc R B L) ) (fun hg=>by first | exact Ja ( Ka (Qy r R B L h1 a4 hr hro (fun x hx=>by have:=hrk x hx;omega) (by omega) gL)) (by simp only [go_sem,↓reduceIte,Nat.reduceEqDiff,Nat.reduceAdd,reduceCtorEq]<;>rfl) ⟨rfl,rfl⟩ | exact ⟨hg,Ja ( Ka (Qy r R B L h1 a4 hr hro (fun x hx=>by have:=hrk x hx;omega) (by omega) gL)) (by simp only [go_sem,↓reduceIte,Nat.reduceEqDiff,Nat.reduceAdd,reduceCtorEq]<;>rfl) ⟨rfl,rfl⟩⟩ | exact ⟨by grind,Ja ( Ka (Qy r R B L h1 a4 hr hro (fun x hx=>by have:=hrk x hx;omega) (by omega) gL)) (by simp only [go_sem,↓reduceIte,Nat.reduceEqDiff,Nat.reduceAdd,reduceCtorEq]<;>rfl) ⟨rfl,rfl⟩⟩) ?_
   refine RN ?_
   refine ⟨fun hc4=>?_,fun hc4=>?_⟩
   ·have hnu : T (m + 1) = best := by
      rw [hTs]
      unfold Cn
      rw [if_neg]
      rintro ⟨u1,u2,u3⟩
      rw [u2] at hc4
      cases best with
      | none=>simp at hc4
      | some b=>
       have u4:=u1 b rfl
       simp only [Option.getD_some,Option.isSome_some,true_and,List.length_nil] at hc4
       rcases hc4 with (hc4 | ⟨hc4,hc5⟩) | hc4
       ·omega
       ·rcases u4 with u4 | ⟨u4,u5⟩
        ·omega
        ·rw [u5] at hc5;cases hc5
       ·omega
    refine RN ?_
    refine ⟨m+1,⟨by omega,by omega⟩,by omega,?_⟩
    rw [hnu]
    exact Ref.gc1 [0,1,2,3]
   ·have hb0:Bc R B L=[]:=List.eq_nil_of_length_eq_zero (by omega)
    have hpre:∀ b,best=some b→L.length<b.length∨(L.length=b.length∧Bl L b=true):=fun b hb=>by
     subst hb
     have h6:=hc4.1
     simp only [Option.getD_some,Option.isSome_some,Bool.true_eq_false,false_or] at h6
     obtain ⟨h7,h8⟩:=h6
     rcases h8 with h8 | h8
     ·left;omega
     ·by_cases h9:L.length=b.length
      ·exact .inr ⟨h9,h8⟩
      ·left;omega
    refine RN ?_
    refine Gw (tV P L hPl hPo sL iL) [4] (by first | rfl | simp) (by simp only [go_sem,↓reduceIte,Nat.reduceEqDiff,Nat.reduceAdd,reduceCtorEq]<;>rfl) (by simp only [go_sem,↓reduceIte,Nat.reduceEqDiff,Nat.reduceAdd,reduceCtorEq]<;>rfl) (fun o=>by
     obtain ⟨b,C,D⟩:=o
     cases b<;>simp only [cond_true,cond_false,go_sem,↓reduceIte,Nat.reduceEqDiff,Nat.reduceAdd,reduceCtorEq]) fun o ho=>?_
    obtain ⟨fl,C,D⟩:=o
    obtain ⟨⟨hA,hdn,sC,sD,bC,bD⟩,hfl⟩:=ho
    have hno:=N5 (E9 hss) cK hPv sL hA hdn
    dsimp only at hA hdn sC sD bC bD hfl hno ⊢
    have lD:=Bp sD bD
    have hup:0<D.length→T (m+1)=some L:=fun h=>by
     rw [hTs]
     unfold Cn
     rw [if_pos ⟨hpre,hb0,hno.2 (List.length_pos_iff.1 h)⟩]
    have hnu:¬ 0<D.length→T (m+1)=best:=fun h=>by
     rw [hTs]
     unfold Cn
     rw [if_neg (fun hu=>h (List.length_pos_iff.2 (hno.1 hu.2.2)))]
    cases fl
    ·obtain rfl:=hfl rfl
     simp only [cond_false]
     refine RN ?_
     refine ⟨fun hc5=>?_,fun hc5=>?_⟩
     ·(refine RN ?_;try with_reducible exact trivial)
      refine ⟨m+1,⟨by omega,by omega⟩,by omega,?_⟩
      rw [hup (by omega)]
      exact Ref.gc [0,1,4,3] rfl (by simp only [Option.getD_some,go_sem,↓reduceIte,Nat.reduceEqDiff,Nat.reduceAdd,reduceCtorEq]) (by simp [sub,Ab,go_sem,↓reduceIte,Nat.reduceEqDiff,Nat.reduceAdd,reduceCtorEq])
     ·(refine RN ?_;try with_reducible exact trivial)
      refine ⟨m+1,⟨by omega,by omega⟩,by omega,?_⟩
      rw [hnu (by omega)]
      exact Ref.gc1 [0,1,2,3]
    ·simp only [cond_true]
     refine RN ?_
     refine ⟨fun hc5=>?_,fun hc5=>?_⟩
     ·(refine RN ?_;try with_reducible exact trivial)
      refine ⟨m+1,⟨by omega,by omega⟩,by omega,?_⟩
      rw [hup (by omega)]
      exact Ref.gc [0,1,4,3] rfl (by simp only [Option.getD_some,go_sem,↓reduceIte,Nat.reduceEqDiff,Nat.reduceAdd,reduceCtorEq]) (by simp [sub,Ab,go_sem,↓reduceIte,Nat.reduceEqDiff,Nat.reduceAdd,reduceCtorEq])
     ·(refine RN ?_;try with_reducible exact trivial)
      refine ⟨m+1,⟨by omega,by omega⟩,by omega,?_⟩
      rw [hnu (by omega)]
      exact Ref.gc1 [0,1,2,3]
 ·obtain rfl:m=2^es.length:=by omega
  rw [hbe] at hs ⊢
  cases best with
  | none=>
   obtain rfl:s=false:=by rw [← hs];rfl
   refine RN ?_
   refine ⟨fun _=>?_,fun h=>(by cases h)⟩
   (refine RN ?_;try with_reducible exact trivial)
  | some b=>
   obtain rfl:s=true:=by rw [← hs];rfl
   (refine RN ?_;try with_reducible exact trivial)
theorem cJ {f : FuncId} {args : List AV} {r : Int} {R : List Int} {B : List (List Int)}
    (h1:¬ IsPos r R B→Gov.Pure Tryz.prog f args (.tup [Ae,i64 1]) [])
    (h2:IsPos r R B→¬ Cd R B→Gov.Pure Tryz.prog f args (.tup [Ae,i64 5]) [])
    (h3:IsPos r R B→Cd R B→¬ (Am R 1).length≤14→Gov.Pure Tryz.prog f args (.tup [Ae,i64 3]) [])
    (h4:IsPos r R B→Cd R B→(Am R 1).length≤14→Gov.Pure Tryz.prog f args (.tup [bif (B3 R B).isSome then .sl 0 1 0 ((B3 R B).getD []).length else Ae,i64 (bif (B3 R B).isSome then 0 else 4)]) (bif (B3 R B).isSome then [some (Aa ((B3 R B).getD []))] else [])):
    Gov.Pure Tryz.prog f args (.tup [.sl 0 1 0 (Cr r R B).length,i64 (Ev r R B)]) [some (Aa (Cr r R B))]:=by
 unfold Cr Ev
 by_cases hp:IsPos r R B
 ·by_cases he:Cd R B
  ·by_cases hl:(Am R 1).length≤14
   ·rw [if_pos ⟨hp,he,hl⟩,if_pos hp,if_pos he,if_pos hl]
    have h:=h4 hp he hl
    cases hO:B3 R B with
    | none=>
     rw [hO] at h
     simp only [Option.isSome_none,cond_false] at h
     exact Iq 1 h
    | some b=>
     rw [hO] at h
     simp only [Option.isSome_some,cond_true] at h
     exact h
   ·rw [if_neg (fun h=>hl h.2.2),if_pos hp,if_pos he,if_neg hl]
    exact Iq 1 (h3 hp he hl)
  ·rw [if_neg (fun h=>he h.2.1),if_pos hp,if_neg he]
   exact Iq 1 (h2 hp he)
 ·rw [if_neg (fun h=>hp h.1),if_neg hp]
  exact Iq 1 (h1 hp)
theorem Aec (r:Int)(R:List Int)(B:List (List Int))(h1:R.length≤1048576)(hl:B.length≤1048576)(hr:∀ xs∈B,xs.length≤1048576):Pure Tryz.prog 18 [Bo r R B] (.tup [.sl 0 1 0 (Cr r R B).length,i64 (Ev r R B)]) [some (Aa (Cr r R B))]:=by
 have gr:∀ xs∈B,xs.length≤1099511627776:=fun xs hx=>by have:=hr xs hx;omega
 refine cJ (fun hp=>?_) (fun hp he=>?_) (fun hp he h14=>?_) (fun hp he h14=>Aed r R B _ h1 hr hp he h14 rfl)
 ·have hpd:decide (IsPos r R B)=false:=decide_eq_false hp
  refine Bm Rb rfl rfl ?_;unfold Na
  refine RN ?_
  refine Ak (Qt r R B (by omega) (by omega) gr) ?_
  simp only [hpd,go_sem,↓reduceIte,Nat.reduceEqDiff,Nat.reduceAdd,reduceCtorEq]
  (refine RN ?_;try with_reducible exact trivial)
 ·have hpd:decide (IsPos r R B)=true:=decide_eq_true hp
  have hed:decide (Cd R B)=false:=decide_eq_false he
  refine Bm Rb rfl rfl ?_;unfold Na
  refine RN ?_
  refine Ak (Qt r R B (by omega) (by omega) gr) ?_
  simp only [hpd,go_sem,↓reduceIte,Nat.reduceEqDiff,Nat.reduceAdd,reduceCtorEq]
  refine RN ?_
  refine Ak (Uk r R B hp hr) ?_
  simp only [hed,go_sem,↓reduceIte,Nat.reduceEqDiff,Nat.reduceAdd,reduceCtorEq]
  (refine RN ?_;try with_reducible exact trivial)
 ·have hpd:decide (IsPos r R B)=true:=decide_eq_true hp
  have hed:decide (Cd R B)=true:=decide_eq_true he
  have hes:=Ul r R B 1 (by omega)
  have hel:=Kq R 1 R.length
  change (Am R 1).length≤R.length at hel
  generalize Am R 1=es at hes h14 hel
  refine Bm Rb rfl rfl ?_;unfold Na
  refine RN ?_
  refine Ak (Qt r R B (by omega) (by omega) gr) ?_
  simp only [hpd,go_sem,↓reduceIte,Nat.reduceEqDiff,Nat.reduceAdd,reduceCtorEq]
  refine RN ?_
  refine Ak (Uk r R B hp hr) ?_
  simp only [hed,go_sem,↓reduceIte,Nat.reduceEqDiff,Nat.reduceAdd,reduceCtorEq]
  refine RN ?_
  refine Ak (hes) ?_
  refine RN ?_
  refine ⟨fun _=>?_,fun hx=>?_⟩
  ·(refine RN ?_;try with_reducible exact trivial)
  ·exact absurd hx (by omega)
end
end Go.Proofs.YtcneanpkpmfaiaaGreat
