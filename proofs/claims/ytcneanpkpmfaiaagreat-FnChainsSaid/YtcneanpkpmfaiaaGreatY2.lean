/- Texts that belong together. -/
import Derived.Test.YtcneanpkpmfaiaaGreatZv
import Derived.Test.YtcneanpkpmfaiaaGreatY1
set_option maxHeartbeats 16000000
set_option linter.unusedSimpArgs false
set_option linter.unusedVariables false
set_option maxRecDepth 100000
namespace Go.Proofs.YtcneanpkpmfaiaaGreat
section
open Go.Gov
open Classical
def Dm (R:List Int)(i:Int)(k:Nat):List Int:=((List.range k).filter fun e=>decide (R.getD e 0=i)).map fun e:Nat=>(e:Int)
def Ba (R:List Int)(i:Int):List Int:=Dm R i R.length
theorem Uh (R:List Int)(i:Int)(k:Nat):Dm R i (k+1)=if R.getD k 0=i then Dm R i k++[(k:Int)] else Dm R i k:=by
 unfold Dm
 rw [List.range_succ,List.filter_append,List.map_append]
 by_cases h:R.getD k 0=i
 ·rw [if_pos h,List.filter_cons_of_pos (by simpa using h)];rfl
 ·rw [if_neg h,List.filter_cons_of_neg (by simpa using h)];simp
theorem Qa (R:List Int)(i:Int)(k:Nat):(Dm R i k).length≤k:=by
 unfold Dm
 rw [List.length_map]
 have:=List.length_filter_le (fun e=>decide (R.getD e 0=i)) (List.range k)
 rwa [List.length_range] at this
theorem mem_plcN {R:List Int}{i:Int}{k:Nat}{e:Int}:e∈Dm R i k ↔ 0≤e∧e<k∧R.getD e.toNat 0=i:=by
 unfold Dm
 simp only [List.mem_map,List.mem_filter,List.mem_range,decide_eq_true_eq]
 constructor
 ·rintro ⟨n,⟨h1,h2⟩,rfl⟩
  exact ⟨by omega,by omega,by simpa using h2⟩
 ·rintro ⟨h1,h2,h3⟩
  exact ⟨e.toNat,⟨by omega,h3⟩,by omega⟩
theorem Ug (R:List Int)(i:Int):∀ k:Nat,sst (Dm R i k)
 | 0=>List.Pairwise.nil
 | k+1=>by
  rw [Uh]
  split
  ·refine List.pairwise_append.2 ⟨Ug R i k,List.pairwise_singleton _ _,fun a ha b hb=>?_⟩
   have:=(mem_plcN.1 ha).2.1
   rw [List.mem_singleton.1 hb]
   exact this
  ·exact Ug R i k
theorem rM (r:Int)(R:List Int)(B:List (List Int))(i:Int)(h1:R.length≤1048576):Pure Tryz.prog 37 [A6 r R B,i64 i] (.sl 0 1 0 (Ba R i).length) [some (Aa (Ba R i))]:=by
 unfold Ba
 refine Gc [1] wM rfl ?_;unfold W1
 refine RN ?_
 refine Aj (α:=Nat) (S:=fun k=>([(1,i64 i),(2,.ref 0 0),(5,.sl 1 1 0 (Dm R i k).length),(6,i64 k)],[some [i64 r,Ac R,Ae B],some (Aa (Dm R i k))])) (C:=fun k=>k≤R.length) (μ:=fun k=>R.length - k) 0 (by omega) (Ref.to (by simp [Aa,Dm]) (by simp [sub,Ab,Dm])) ?_
 intro k hk
 have hln:=Qa R i k
 have hst:=Uh R i k
 generalize hL:Dm R i k=L at hln hst ⊢
 refine RN ?_
 refine ⟨fun hc=>?_,fun hc=>?_⟩
 ·(refine RN ?_;try with_reducible exact trivial)
  refine ⟨fun hc2=>?_,fun hc2=>?_⟩
  ·rw [if_pos hc2] at hst
   refine RN ?_
   refine ⟨k+1,by omega,by omega,?_⟩
   rw [hst]
   refine Ref.gc [0,3] rfl ?_ (by simp [sub,Ab,go_sem,↓reduceIte,Nat.reduceEqDiff,Nat.reduceAdd,reduceCtorEq])
   (try simp only [go_sem,↓reduceIte,Nat.reduceEqDiff,Nat.reduceAdd,reduceCtorEq,Jc,H7,Gg])
  ·rw [if_neg hc2] at hst
   refine RN ?_
   refine ⟨k+1,by omega,by omega,?_⟩
   rw [hst]
   exact Ref.frame (by simp [sub,Ab])
 ·obtain rfl:k=R.length:=by omega
  subst hL
  (refine RN ?_;try with_reducible exact trivial)
  (try simp only [go_sem,↓reduceIte,Nat.reduceEqDiff,Nat.reduceAdd,reduceCtorEq,and_self])
theorem yS (R:List Int)(i:Int)(h1:R.length≤1048576):Pure Tryz.prog 60 [Ac R,i64 i] (.sl 0 1 0 (Ba R i).length) [some (Aa (Ba R i))]:=by
 unfold Ba
 refine Gc [0] xD rfl ?_;unfold Xf
 refine RN ?_
 refine Aj (α:=Nat) (S:=fun k=>([(1,i64 i),(5,.sl 0 1 0 (Dm R i k).length),(8,Ac R),(9,i64 R.length),(10,i64 k)],[some (Aa (Dm R i k))])) (C:=fun k=>k≤R.length) (μ:=fun k=>R.length - k) 0 (by omega) ((Ref.nil 5 1 rfl).trans (Ref.to (by simp [Aa,Dm]) (by simp [sub,Ab,Dm]))) ?_
 intro k hk
 have hln:=Qa R i k
 have hst:=Uh R i k
 generalize hL:Dm R i k=L at hln hst ⊢
 refine RN ?_
 refine ⟨fun hc=>?_,fun hc=>?_⟩
 ·(refine RN ?_;try with_reducible exact trivial)
  refine ⟨fun hc2=>?_,fun hc2=>?_⟩
  ·rw [if_pos (by first | exact hc2 | exact hc2.symm)] at hst
   refine RN ?_
   refine ⟨k+1,by omega,by omega,?_⟩
   rw [hst]
   refine Ref.gc [2] rfl ?_ (by simp [sub,Ab,go_sem,↓reduceIte,Nat.reduceEqDiff,Nat.reduceAdd,reduceCtorEq])
   (try simp only [go_sem,↓reduceIte,Nat.reduceEqDiff,Nat.reduceAdd,reduceCtorEq,Jc,H7,Gg])
  ·rw [if_neg (by first | exact hc2 | exact fun h=>hc2 h.symm)] at hst
   refine RN ?_
   refine ⟨k+1,by omega,by omega,?_⟩
   rw [hst]
   exact Ref.frame (by simp [sub,Ab])
 ·obtain rfl:k=R.length:=by omega
  subst hL
  (refine RN ?_;try with_reducible exact trivial)
  (try simp only [go_sem,↓reduceIte,Nat.reduceEqDiff,Nat.reduceAdd,reduceCtorEq,and_self])
end
section
open Go.Gov
open Classical
abbrev Pr:=List Int×List Int
def P0:Pr:=([],[])
def C9:List Pr→List (List Int)
 | []=>[]
 | p :: l=>p.1 :: p.2 :: C9 l
theorem Sn:∀ P:List Pr,(C9 P).length=P.length*2
 | []=>rfl
 | p :: l=>by rw [C9,List.length_cons,List.length_cons,Sn l,List.length_cons];omega
theorem Yq:∀ (l:List Pr) (i:Nat),(C9 l).getD (i*2) []=(l.getD i P0).1
 | [],i=>by simp [C9,P0]
 | p :: l,0=>rfl
 | p :: l,i+1=>by
  rw [show (i+1)*2=i*2+1+1 by omega,C9,List.getD_cons_succ,List.getD_cons_succ,Yq l i,List.getD_cons_succ]
theorem Yr:∀ (l:List Pr) (i:Nat),(C9 l).getD (i*2+1) []=(l.getD i P0).2
 | [],i=>by simp [C9,P0]
 | p :: l,0=>rfl
 | p :: l,i+1=>by
  rw [show (i+1)*2+1=(i*2+1)+1+1 by omega,C9,List.getD_cons_succ,List.getD_cons_succ,Yr l i,List.getD_cons_succ]
theorem Yp:∀ (P:List Pr) (p:Pr),C9 (P++[p])=C9 P++[p.1,p.2]
 | [],p=>rfl
 | q :: l,p=>by rw [List.cons_append,C9,C9,Yp l p];rfl
abbrev Lh (P:List Pr):AV:=.slc 2 P.length ((C9 P).map Ac)
theorem Adf (P:List Pr):((C9 P).map Ad).take (P.length*2)=(C9 P).map Ad:=List.take_of_length_le (by rw [List.length_map,Sn];exact Nat.le_refl _)
theorem Pd (P:List Pr)(i:Nat)(h:i<P.length):P.getD i P0∈P:=by
 rw [show P.getD i P0=P[i] by simp [h]];exact List.getElem_mem h
attribute [go_sem] Adf Yq Yr Sn
def inB (c:List Int):Prop:=∀ e∈c,0≤e∧e<500
theorem Cb {c:List Int}(h:sst c)(hb:inB c):c.length≤500:=by
 have hg:∀ k,k<c.length→c.getD k 0∈c:=fun k hk=>by rw [Dj c k hk];exact List.getElem_mem hk
 have h2:=Us h (fun k hk=>(hb _ (hg k hk)).1)
 rcases Nat.eq_zero_or_pos c.length with h0 | h0
 ·omega
 ·have h3:=h2 (c.length - 1) (by omega)
  have h4:=(hb _ (hg (c.length - 1) (by omega))).2
  omega
theorem F4 {a b:List Int}(ha:sst a)(hb:sst b)(h1:inB a)(h2:inB b):inB (Ag a b):=fun e he=>by
 have h:=(Dt ha hb e).1 he
 by_cases h6:e∈a
 ·exact h1 e h6
 ·by_cases h7:e∈b
  ·exact h2 e h7
  ·exact absurd (iff_of_false h6 h7) h
theorem M0 {c:List Int}(h:0<c.length):c.head? = some (c.getD 0 0):=by
 cases c with
 | nil=>simp at h
 | cons x l=>rfl
def Gm (D:List Int):Nat:=match D.head? with
 | none=>0
 | some d=>(501 - d).toNat
theorem Y8 {a b:List Int}(ha:sst a)(hb:sst b)(ia:inB a)(ib:inB b)(h1:0<a.length)(h2:0<b.length)(h:b.getD 0 0=a.getD 0 0):Gm (Ag a b)<Gm a:=by
 have hA:Gm a=(501 - a.getD 0 0).toNat:=by unfold Gm;rw [M0 h1]
 have hmem:a.getD 0 0∈a:=by rw [Dj a 0 h1];exact List.getElem_mem h1
 have hr:=ia _ hmem
 rw [hA]
 unfold Gm
 cases hs:(Ag a b).head? with
 | none=>dsimp only;omega
 | some d=>
  dsimp only
  have hd:d∈Ag a b:=List.mem_of_mem_head? hs
  have hm:=(Dt ha hb d).1 hd
  have hge:∀ (c:List Int),sst c→∀ (h0:0<c.length),d∈c→c.getD 0 0≤d:=fun c hc h0 hdc=>by
   obtain ⟨j,hj,hje⟩:=List.mem_iff_getElem.1 hdc
   rcases Nat.eq_zero_or_pos j with h | h
   ·subst h;rw [Dj c 0 h0];omega
   ·have:=List.pairwise_iff_getElem.1 hc 0 j h0 hj h
    rw [Dj c 0 h0];omega
  have hne:d≠a.getD 0 0:=fun e=>by
   have h7:b.getD 0 0∈b:=by rw [Dj b 0 h2];exact List.getElem_mem h2
   exact hm (iff_of_true (e ▸ hmem) (by rw [e,← h];exact h7))
  by_cases h6:d∈a
  ·have:=hge a ha h1 h6;omega
  ·by_cases h7:d∈b
   ·have:=hge b hb h2 h7;omega
   ·exact absurd (iff_of_false h6 h7) hm
def Ly (P:List Pr):Prop:=∀ p∈P,sst p.1∧sst p.2∧p.2≠[]∧inB p.1∧inB p.2
def Lz (ld:List Int→Option Int)(P:List Pr)(x y:Pr):Prop:=Adds P x y∧Ii ld P y∧sst y.1∧sst y.2∧inB y.1∧inB y.2
theorem rO (P : List Pr) (C0 D0 : List Int) (hP : P.length ≤ 500) (hok : Ly P) (hC : sst C0) (hD : sst D0) (bC : inB C0) (bD : inB D0) :
    Dg Tryz.prog 41 [Lh P,.agg [.sl 0 1 0 C0.length,.sl 1 1 0 D0.length]] [some (Aa C0),some (Aa D0)] (Lz List.head? P (C0,D0)) (fun y=>.agg [.sl 2 1 0 y.1.length,.sl 3 1 0 y.2.length]) (fun y=>[none,none,some (Aa y.1),some (Aa y.2)]):=by
 refine fO [0,1,4,5] cK rfl ?_;unfold R7
 refine RN ?_
 refine Aj (α:=Nat×Pr) (S:=fun p=>([(0,Lh P),(3,.ref 2 0),(4,.ref 3 0),(5,i64 p.1)],[none,none,some [.sl 4 1 0 p.2.1.length,.sl 5 1 0 p.2.2.length],some [Af,Af],some (Aa p.2.1),some (Aa p.2.2)])) (C:=fun p=>p.1≤P.length∧Adds P (C0,D0) p.2∧sst p.2.1∧sst p.2.2∧inB p.2.1∧inB p.2.2∧∀ j,j<p.1→(P.getD j P0).2.head? ≠ p.2.2.head?) (μ:=fun p=>Gm p.2.2*(P.length+1)+(P.length - p.1)) (0,C0,D0) ⟨Nat.zero_le _,.refl _,hC,hD,bC,bD,fun j hj=>by omega⟩ ?_ ?_
 ·refine (Ref.mv 0 (cs:=Aa C0) rfl (F' := [(0,Lh P),(3,.ref 2 0),(4,.ref 3 0),(5,i64 0)]) (H' := [none,some (Aa D0),some [.sl 4 1 0 C0.length,.sl 1 1 0 D0.length],some [Af,Af],some (Aa C0)]) (by simp only [go_sem,↓reduceIte,Nat.reduceEqDiff,Nat.reduceAdd,reduceCtorEq]) (by simp [sub,Ab,go_sem,↓reduceIte,Nat.reduceEqDiff,Nat.reduceAdd,reduceCtorEq])).trans ?_
  refine (Ref.mv 1 (cs:=Aa D0) rfl (F' := [(0,Lh P),(3,.ref 2 0),(4,.ref 3 0),(5,i64 0)]) (H' := [none,none,some [.sl 4 1 0 C0.length,.sl 5 1 0 D0.length],some [Af,Af],some (Aa C0),some (Aa D0)]) (by simp only [go_sem,↓reduceIte,Nat.reduceEqDiff,Nat.reduceAdd,reduceCtorEq]) (by simp [sub,Ab,go_sem,↓reduceIte,Nat.reduceEqDiff,Nat.reduceAdd,reduceCtorEq])).trans ?_
  exact Ref.to1
 rintro ⟨i,C,D⟩ ⟨hi,hA,sC,sD,bC', bD', hall⟩
 dsimp only at hi hA sC sD bC' bD' hall ⊢
 have lC:=Cb sC bC'
 have lD:=Cb sD bD'
 refine RN ?_
 refine ⟨fun hc=>?_,fun hc=>?_⟩
 ·have hi' : i<P.length:=by omega
  have hp:=hok _ (Pd P i hi')
  have hp2:0<(P.getD i P0).2.length:=List.length_pos_iff.2 hp.2.2.1
  have l1:=Cb hp.1 hp.2.2.2.1
  have l2:=Cb hp.2.1 hp.2.2.2.2
  have hD1:=M0 (c:=D) (by omega)
  have hp1:=M0 hp2
  refine RN ?_
  refine ⟨fun hc2=>?_,fun hc2=>?_⟩
  ·(refine RN ?_;try with_reducible exact trivial)
   refine Am (Jx C (P.getD i P0).1 (by omega) (by omega)) ?_
   refine RN ?_
   refine Am (Jx D (P.getD i P0).2 (by omega) (by omega)) ?_
   refine RN ?_
   have hm:=Y8 sD hp.2.1 bD' hp.2.2.2.2 (by omega) hp2 hc2
   refine ⟨(0,Ag C (P.getD i P0).1,Ag D (P.getD i P0).2),⟨Nat.zero_le _,hA.step (Pd P i hi'),Bt sC hp.1,Bt sD hp.2.1,F4 sC hp.1 bC' hp.2.2.2.1,F4 sD hp.2.1 bD' hp.2.2.2.2,fun j hj=>by omega⟩,?_,?_⟩
   ·dsimp only
    have h9:(Gm (Ag D (P.getD i P0).2)+1)*(P.length+1)≤Gm D*(P.length+1):=Nat.mul_le_mul_right _ hm
    rw [Nat.add_mul] at h9
    omega
   ·exact Ref.gc1 [0,1,2,3,6,7]
  ·(refine RN ?_;try with_reducible exact trivial)
   refine ⟨(i+1,C,D),⟨hi', hA,sC,sD,bC', bD', fun j hj=>?_⟩,by dsimp only;omega,by exact Ref.frame (by simp [sub,Ab])⟩
   rcases Nat.lt_or_ge j i with h | h
   ·exact hall j h
   ·obtain rfl:j=i:=by omega
    dsimp only
    rw [hp1,hD1]
    exact fun h=>hc2 (Option.some.inj h)
 ·have hdone : Ii List.head? P (C, D) := by
    rcases Nat.eq_zero_or_pos D.length with h | h
    ·exact .inl (List.eq_nil_of_length_eq_zero h)
    ·refine .inr fun p hp=>?_
     obtain ⟨j,hj,rfl⟩:=List.mem_iff_getElem.1 hp
     have:=hall j (by omega)
     rwa [show P.getD j P0=P[j] by simp [hj]] at this
  refine RN ?_
  exact ⟨(C,D),⟨hA,hdone,sC,sD,bC', bD'⟩,rfl,rfl⟩
theorem rN (P : List Pr) (D0 : List Int) (hP : P.length ≤ 500) (hok : Ly P) (hD : sst D0) (bD : inB D0) :
    B1 Tryz.prog 41 [Lh P,.agg [Af,Ac D0]] (Lz List.head? P ([],D0)) (fun y=>.agg [.sl 0 1 0 y.1.length,Ac y.2]) (fun y=>[some (Aa y.1)]):=by
 refine Ka [2] cK rfl ?_;unfold R7
 refine RN ?_
 refine Aj (α:=Nat×Pr) (S:=fun p=>([(0,Lh P),(3,.ref 0 0),(4,.ref 1 0),(5,i64 p.1)],[some [.sl 2 1 0 p.2.1.length,Ac p.2.2],some [Af,Af],some (Aa p.2.1)])) (C:=fun p=>p.1≤P.length∧Adds P ([],D0) p.2∧sst p.2.1∧sst p.2.2∧inB p.2.1∧inB p.2.2∧∀ j,j<p.1→(P.getD j P0).2.head? ≠ p.2.2.head?) (μ:=fun p=>Gm p.2.2*(P.length+1)+(P.length - p.1)) (0,[],D0) ⟨Nat.zero_le _,.refl _,Es,hD,(fun e he=>by simp at he),bD,fun j hj=>by omega⟩ ?_ ?_
 ·refine (Ref.nilC 0 0 1 (cs:=[Af,Ac D0]) rfl rfl).trans ?_
  exact Ref.to1
 rintro ⟨i,C,D⟩ ⟨hi,hA,sC,sD,bC', bD', hall⟩
 dsimp only at hi hA sC sD bC' bD' hall ⊢
 have lC:=Cb sC bC'
 have lD:=Cb sD bD'
 refine RN ?_
 refine ⟨fun hc=>?_,fun hc=>?_⟩
 ·have hi' : i<P.length:=by omega
  have hp:=hok _ (Pd P i hi')
  have hp2:0<(P.getD i P0).2.length:=List.length_pos_iff.2 hp.2.2.1
  have l1:=Cb hp.1 hp.2.2.2.1
  have l2:=Cb hp.2.1 hp.2.2.2.2
  have hD1:=M0 (c:=D) (by omega)
  have hp1:=M0 hp2
  refine RN ?_
  refine ⟨fun hc2=>?_,fun hc2=>?_⟩
  ·(refine RN ?_;try with_reducible exact trivial)
   refine Am (Jx C (P.getD i P0).1 (by omega) (by omega)) ?_
   refine RN ?_
   refine Mg (rP D (P.getD i P0).2 (by omega) (by omega)) (by simp only [go_sem,↓reduceIte,Nat.reduceEqDiff,Nat.reduceAdd,reduceCtorEq]<;>rfl) ?_
   refine RN ?_
   have hm:=Y8 sD hp.2.1 bD' hp.2.2.2.2 (by omega) hp2 hc2
   refine ⟨(0,Ag C (P.getD i P0).1,Ag D (P.getD i P0).2),⟨Nat.zero_le _,hA.step (Pd P i hi'),Bt sC hp.1,Bt sD hp.2.1,F4 sC hp.1 bC' hp.2.2.2.1,F4 sD hp.2.1 bD' hp.2.2.2.2,fun j hj=>by omega⟩,?_,?_⟩
   ·dsimp only
    have h9:(Gm (Ag D (P.getD i P0).2)+1)*(P.length+1)≤Gm D*(P.length+1):=Nat.mul_le_mul_right _ hm
    rw [Nat.add_mul] at h9
    omega
   ·exact Ref.gc1 [0,1,3]
  ·(refine RN ?_;try with_reducible exact trivial)
   refine ⟨(i+1,C,D),⟨hi', hA,sC,sD,bC', bD', fun j hj=>?_⟩,by dsimp only;omega,by exact Ref.frame (by simp [sub,Ab])⟩
   rcases Nat.lt_or_ge j i with h | h
   ·exact hall j h
   ·obtain rfl:j=i:=by omega
    dsimp only
    rw [hp1,hD1]
    exact fun h=>hc2 (Option.some.inj h)
 ·have hdone : Ii List.head? P (C, D) := by
    rcases Nat.eq_zero_or_pos D.length with h | h
    ·exact .inl (List.eq_nil_of_length_eq_zero h)
    ·refine .inr fun p hp=>?_
     obtain ⟨j,hj,rfl⟩:=List.mem_iff_getElem.1 hp
     have:=hall j (by omega)
     rwa [show P.getD j P0=P[j] by simp [hj]] at this
  refine RN ?_
  exact ⟨(C,D),⟨hA,hdone,sC,sD,bC', bD'⟩,rfl,rfl⟩
end
end Go.Proofs.YtcneanpkpmfaiaaGreat
namespace Go.Gov
variable {P:Program} {N:Nat} {F:Frame} {H:Heap} {M:List Nat} {n0:Nat}
theorem iA {α:Type}(C:α→Prop)(F1:α→Frame)(H1:α→Heap){t:GT}{y:ACode}{Q:Exit→Frame→Heap→Prop}(hE:LT P false t (fun F' H' => ∃ o,C o∧Ref n0 F' H' (F1 o) (H1 o)) F H)(hy:∀ o,C o→W P M N n0 y Q (F1 o) (H1 o)):V P M N n0 (.alts t) (Dx (W P M N n0 y Q) Q) F H:=
 Kt (G0 (fun F' H' ⟨o,ho,h⟩=>Df h (hy o ho)) t false F H hE)
theorem Ref.close2 (o o2 o3 : Nat) {L cs2 cs3 : List AV} {n2 n3 : Nat} (ho : H[o]? = some (some (L ++ [.sl o2 1 0 n2, .sl o3 1 0 n3]))) (h2 : H[o2]? = some (some cs2)) (h3 : H[o3]? = some (some cs3)) (hne : o ≠ o2 ∧ o ≠ o3 ∧ o2 ≠ o3) (hl2 : cs2.length = n2) (hl3 : cs3.length = n3) :
    Ref n0 F H F (((H.set o (some (L++[.osl 1 n2 cs2,.osl 1 n3 cs3]))).set o2 none).set o3 none):=by
 have hol:o<H.length:=(List.getElem?_eq_some_iff.1 ho).1
 have r1:=Ref.close (n0:=n0) (F:=F) o L.length o2 (k:=1) (n:=n2) ho (by simp) h2 hne.1 (by simpa using hl2)
 have e1:(L++[AV.sl o2 1 0 n2,.sl o3 1 0 n3]).set L.length (.osl 1 n2 cs2)=L++[.osl 1 n2 cs2,.sl o3 1 0 n3]:=by simp
 rw [e1] at r1
 have g1:((H.set o (some (L++[.osl 1 n2 cs2,.sl o3 1 0 n3]))).set o2 none)[o]? = some (some (L++[.osl 1 n2 cs2,.sl o3 1 0 n3])):=by
  rw [List.getElem?_set_ne (Ne.symm hne.1),List.getElem?_set_self hol]
 have g3:((H.set o (some (L++[.osl 1 n2 cs2,.sl o3 1 0 n3]))).set o2 none)[o3]? = some (some cs3):=by
  rw [List.getElem?_set_ne hne.2.2,List.getElem?_set_ne hne.2.1];exact h3
 have r2:=Ref.close (n0:=n0) (F:=F) o (L.length+1) o3 (k:=1) (n:=n3) g1 (by simp) g3 hne.2.1 (by simpa using hl3)
 have e2:(L++[AV.osl 1 n2 cs2,.sl o3 1 0 n3]).set (L.length+1) (.osl 1 n3 cs3)=L++[.osl 1 n2 cs2,.osl 1 n3 cs3]:=by simp
 have e3:∀ x y:Option (List AV),((H.set o x).set o2 none).set o y=(H.set o y).set o2 none:=fun x y=>by
  rw [List.set_comm _ _ (Ne.symm hne.1),List.set_set]
 rw [e2,e3] at r2
 exact r1.trans r2
end Go.Gov
namespace Go.Proofs.YtcneanpkpmfaiaaGreat
open Go.Gov
open Classical
theorem Rf (f:Int→List Int):∀ es:List Int,(NR f es).length≤es.length
 | []=>by simp [NR]
 | e :: es=>by
  have:=Rf f es
  unfold NR
  split
  ·simp;omega
  ·simpa using this
theorem Ru {r:Int}{R:List Int}{B:List (List Int)}(h:IsPos r R B)(e:Int):inB (At R B e):=fun x hx=>by
 obtain ⟨k,hk,hkx⟩:=List.mem_iff_getElem.1 hx
 obtain ⟨_,_,a3,a4,_⟩:=h.rank
 by_cases he:e.toNat<B.length
 ·have:=jO h e k hk he
  rw [Dj _ k hk,hkx] at this
  omega
 ·have:At R B e=[]:=by unfold At;simp [he]
  rw [this] at hx
  simp at hx
theorem Zi {r:Int}{R:List Int}{B:List (List Int)}(h:IsPos r R B){e:Int}(h0:0≤e)(h1:e<R.length):inB [e]:=fun x hx=>by
 obtain ⟨_,_,a3,_⟩:=h.rank
 rw [List.mem_singleton.1 hx]
 omega
theorem eZ (es:List Int)(k:Nat)(h:k<es.length):(es.take (k+1)).reverse=es.getD k 0 :: (es.take k).reverse:=by
 rw [List.take_succ_eq_append_getElem h,List.reverse_append,Dj es k h]
 rfl
def U7 (R:List Int)(B:List (List Int))(i:Int)(P:List Pr):Prop:=Piv List.head? (At R B) (Ba R i).reverse P∧Ly P∧P.length≤500
theorem rL (r : Int) (R : List Int) (B : List (List Int)) (i : Int) (hp : IsPos r R B) (hr : ∀ xs ∈ B, xs.length ≤ 1048576) :
    B1 Tryz.prog 38 [A6 r R B,i64 i] (U7 R B i) (fun P=>.sl 0 2 0 P.length) (fun P=>[some ((C9 P).map Ad)]):=by
 obtain ⟨a1,a2,a3,a4,a5⟩:=hp.rank
 obtain ⟨hok,hs⟩:=hp.rows
 have hR:∀ x,x<R.length→0≤R.getD x 0∧R.getD x 0≤1048576:=fun x hx=>by
  have:=a5 x hx
  omega
 have hel:(Ba R i).length≤500:=Nat.le_trans (Qa R i R.length) a3
 have hem:∀ k,k<(Ba R i).length→0≤(Ba R i).getD k 0∧(Ba R i).getD k 0<R.length:=fun k hk=>by
  have h1:(Ba R i).getD k 0∈Ba R i:=by rw [Dj _ k hk];exact List.getElem_mem hk
  have h2:=mem_plcN.1 h1
  exact ⟨h2.1,h2.2.1⟩
 unfold U7
 have hrank:=rM r R B i (by omega)
 generalize Ba R i=es at hel hem hrank ⊢
 refine Ka [2] wN rfl ?_;unfold W2
 refine RN ?_
 refine Am (hrank) ?_
 refine RN ?_
 refine Aj (α:=Nat×List Pr) (S:=fun p=>([(2,.ref 0 0),(5,.sl 1 1 0 es.length),(6,.sl 2 2 0 p.2.length),(7,i64 p.1)],[some [i64 r,Ac R,Ae B],some (Aa es),some ((C9 p.2).map Ad)])) (C:=fun p=>p.1≤es.length∧Piv List.head? (At R B) (es.take p.1).reverse p.2∧Ly p.2) (μ:=fun p=>es.length - p.1) (0,[]) ⟨Nat.zero_le _,Piv.nil,fun p hp=>by simp at hp⟩ (Ref.to (by simp [C9]) (by simp [sub,Ab])) ?_
 rintro ⟨k,P⟩ ⟨hk,hP,hPo⟩
 dsimp only at hk hP hPo ⊢
 have hPl:P.length≤500:=by
  have h1:=hP.len
  have h2:=Rf (At R B) (es.take k).reverse
  rw [List.length_reverse,List.length_take] at h2
  omega
 refine RN ?_
 refine ⟨fun hc=>?_,fun hc=>?_⟩
 ·have hk' : k<es.length:=by omega
  obtain ⟨e1,e2⟩:=hem k hk'
  have hrw:=rO P [es.getD k 0] (At R B (es.getD k 0)) hPl hPo (Lo _) (Gj hs _) (Zi hp e1 e2) (Ru hp _)
  have hbl:=aF r R B (es.getD k 0) (by omega) a4 hr hok hR e1 (by omega)
  have hb5:=dY hp (es.getD k 0)
  refine RN ?_
  refine iA (Lz List.head? P ([es.getD k 0],At R B (es.getD k 0))) (fun y=>[(2,.ref 0 0),(5,.sl 1 1 0 es.length),(6,.sl 2 2 0 P.length),(7,i64 k),(8,.ref 5 0)]) (fun y=>[some [i64 r,Ac R,Ae B],some (Aa es),some ((C9 P).map Ad),some (Aa y.1),some (Aa y.2),some [.sl 3 1 0 y.1.length,.sl 4 1 0 y.2.length]]) ?_ ?_
  ·repeat' first
     | simp only [go_sem,↓reduceIte,Nat.reduceEqDiff,Nat.reduceAdd,reduceCtorEq]
     | with_reducible refine Ar ?_
     | with_reducible refine Aq ?_
     | with_reducible exact As
     | with_reducible refine Ap ?_ ?_
     | (with_reducible refine And.intro ?_ ?_;focus first | assumption | omega | grind)
     | refine Am (hbl) ?_
     | (refine Kl (hrw) [3,4] ?_ ?_ ?_ ?_ ?_;(focus first | rfl | simp);(focus (simp only [go_sem,↓reduceIte,Nat.reduceEqDiff,Nat.reduceAdd,reduceCtorEq]<;>rfl));(focus (simp only [go_sem,↓reduceIte,Nat.reduceEqDiff,Nat.reduceAdd,reduceCtorEq]<;>rfl));(focus (intro o;first | rfl | simp only [go_sem,↓reduceIte,Nat.reduceEqDiff,Nat.reduceAdd,reduceCtorEq]));intro o ho)
     | (refine Kl (hrw) [3,5] ?_ ?_ ?_ ?_ ?_;(focus first | rfl | simp);(focus (simp only [go_sem,↓reduceIte,Nat.reduceEqDiff,Nat.reduceAdd,reduceCtorEq]<;>rfl));(focus (simp only [go_sem,↓reduceIte,Nat.reduceEqDiff,Nat.reduceAdd,reduceCtorEq]<;>rfl));(focus (intro o;first | rfl | simp only [go_sem,↓reduceIte,Nat.reduceEqDiff,Nat.reduceAdd,reduceCtorEq]));intro o ho)
     | (refine Kl (hrw) [4,5] ?_ ?_ ?_ ?_ ?_;(focus first | rfl | simp);(focus (simp only [go_sem,↓reduceIte,Nat.reduceEqDiff,Nat.reduceAdd,reduceCtorEq]<;>rfl));(focus (simp only [go_sem,↓reduceIte,Nat.reduceEqDiff,Nat.reduceAdd,reduceCtorEq]<;>rfl));(focus (intro o;first | rfl | simp only [go_sem,↓reduceIte,Nat.reduceEqDiff,Nat.reduceAdd,reduceCtorEq]));intro o ho)
     | (refine Kl (hrw) [4,3] ?_ ?_ ?_ ?_ ?_;(focus first | rfl | simp);(focus (simp only [go_sem,↓reduceIte,Nat.reduceEqDiff,Nat.reduceAdd,reduceCtorEq]<;>rfl));(focus (simp only [go_sem,↓reduceIte,Nat.reduceEqDiff,Nat.reduceAdd,reduceCtorEq]<;>rfl));(focus (intro o;first | rfl | simp only [go_sem,↓reduceIte,Nat.reduceEqDiff,Nat.reduceAdd,reduceCtorEq]));intro o ho)
     | (refine Kl (hrw) [5,4] ?_ ?_ ?_ ?_ ?_;(focus first | rfl | simp);(focus (simp only [go_sem,↓reduceIte,Nat.reduceEqDiff,Nat.reduceAdd,reduceCtorEq]<;>rfl));(focus (simp only [go_sem,↓reduceIte,Nat.reduceEqDiff,Nat.reduceAdd,reduceCtorEq]<;>rfl));(focus (intro o;first | rfl | simp only [go_sem,↓reduceIte,Nat.reduceEqDiff,Nat.reduceAdd,reduceCtorEq]));intro o ho)
     | (refine Kl (hrw) [5,3] ?_ ?_ ?_ ?_ ?_;(focus first | rfl | simp);(focus (simp only [go_sem,↓reduceIte,Nat.reduceEqDiff,Nat.reduceAdd,reduceCtorEq]<;>rfl));(focus (simp only [go_sem,↓reduceIte,Nat.reduceEqDiff,Nat.reduceAdd,reduceCtorEq]<;>rfl));(focus (intro o;first | rfl | simp only [go_sem,↓reduceIte,Nat.reduceEqDiff,Nat.reduceAdd,reduceCtorEq]));intro o ho)
   all_goals (refine ⟨_,ho,?_⟩;first
    | (refine Ref.gc [0,1,2,5,6,7] rfl ?_ ?_<;>first | (simp only [go_sem,↓reduceIte,Nat.reduceEqDiff,Nat.reduceAdd,reduceCtorEq];done) | (simp [sub,Ab,go_sem,↓reduceIte,Nat.reduceEqDiff,Nat.reduceAdd,reduceCtorEq];done))
    | (refine Ref.gc [0,1,2,6,7,5] rfl ?_ ?_<;>first | (simp only [go_sem,↓reduceIte,Nat.reduceEqDiff,Nat.reduceAdd,reduceCtorEq];done) | (simp [sub,Ab,go_sem,↓reduceIte,Nat.reduceEqDiff,Nat.reduceAdd,reduceCtorEq];done))
    | (refine Ref.gc [0,1,2,6,7,4] rfl ?_ ?_<;>first | (simp only [go_sem,↓reduceIte,Nat.reduceEqDiff,Nat.reduceAdd,reduceCtorEq];done) | (simp [sub,Ab,go_sem,↓reduceIte,Nat.reduceEqDiff,Nat.reduceAdd,reduceCtorEq];done))
    | (refine Ref.gc [0,1,2,6,7,3] rfl ?_ ?_<;>first | (simp only [go_sem,↓reduceIte,Nat.reduceEqDiff,Nat.reduceAdd,reduceCtorEq];done) | (simp [sub,Ab,go_sem,↓reduceIte,Nat.reduceEqDiff,Nat.reduceAdd,reduceCtorEq];done))
    | trace_state)
  rintro ⟨C,D⟩ ⟨hA,hdn,sC,sD,bC,bD⟩
  dsimp only at hdn sC sD bC bD ⊢
  have lC:=Cb sC bC
  have lD:=Cb sD bD
  have hnx:=hP.next aO hA (Gj hs) hdn
  have htr:=eZ es k hk'
  refine RN ?_
  refine ⟨fun hc2=>?_,fun hc2=>?_⟩
  ·have hD0:D≠[]:=List.length_pos_iff.1 (by omega)
   refine RN ?_
   refine ⟨(k+1,P++[(C,D)]),⟨hk', by rw [htr];exact hnx.2 hD0,?_⟩,by dsimp only;omega,?_⟩
   ·intro q hq
    rcases List.mem_append.1 hq with h | h
    ·exact hPo q h
    ·rw [List.mem_singleton.1 h];exact ⟨sC,sD,hD0,bC,bD⟩
   ·refine (Ref.close2 7 3 4 (L:=(C9 P).map Ad) (cs2:=Aa C) (cs3:=Aa D) rfl rfl rfl (by omega) (B4 _) (B4 _)).trans ?_
    refine Ref.gc [0,1,7] rfl (by simp only [Yp,List.map_append,List.map_cons,List.map_nil,List.set_cons_zero,List.set_cons_succ,go_sem,↓reduceIte,Nat.reduceEqDiff,Nat.reduceAdd,reduceCtorEq]) (by simp [sub,Ab,go_sem,↓reduceIte,Nat.reduceEqDiff,Nat.reduceAdd,reduceCtorEq])
  ·have hD0:D=[]:=List.eq_nil_of_length_eq_zero (by omega)
   refine RN ?_
   refine ⟨(k+1,P),⟨hk', by rw [htr];exact hnx.1 hD0,hPo⟩,by dsimp only;omega,?_⟩
   exact Ref.gc1 [0,1,2]
 ·obtain rfl:k=es.length:=by omega
  rw [List.take_length] at hP
  refine RN ?_
  exact ⟨P,⟨hP,hPo,hPl⟩,rfl,rfl⟩
end Go.Proofs.YtcneanpkpmfaiaaGreat
