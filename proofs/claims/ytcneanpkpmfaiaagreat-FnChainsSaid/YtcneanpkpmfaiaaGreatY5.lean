/- Texts that belong together. -/
import Derived.Test.YtcneanpkpmfaiaaGreatY4
set_option maxHeartbeats 16000000
set_option linter.unusedSimpArgs false
set_option linter.unusedVariables false
set_option maxRecDepth 100000
namespace Go.Proofs.YtcneanpkpmfaiaaGreat
section
open Go.Gov
open Classical
def Q7 (R:List Int)(B:List (List Int))(i:Int)(c:List Int)(y:Pr):Prop:=
 (∃ (ld:List Int→Option Int) (P:List Pr),Ik ld∧Piv ld (At R B) (Ba R (i+1)).reverse P∧Adds P ([],c) y∧Ii ld P y)∧sst y.1∧inB y.1
def Q8 (R:List Int)(B:List (List Int))(i:Int)(c:List Int)(y:Pr):Prop:=(c=[]∧y=([],[]))∨Q7 R B i c y
noncomputable def D3 (R:List Int)(B:List (List Int))(i:Int)(c:List Int):Option (List Int):=
 if c=[] then some [] else if h:∃ y,Q7 R B i c y∧y.2=[] then some (Classical.choose h).1 else none
theorem Ui (R:List Int)(i:Int):(Ba R i).reverse.Nodup:=by
 refine List.pairwise_reverse.2 ((Ug R i R.length).imp fun {a b} h=>?_)
 exact fun e=>by omega
theorem O7 {r:Int}{R:List Int}{B:List (List Int)}(hp:IsPos r R B){i:Int}{c:List Int}(hc:sst c){y:Pr}(h:Q8 R B i c y):(y.2=[]→D3 R B i c=some y.1)∧(y.2≠[]→D3 R B i c=none):=by
 have hf:∀ e,sst (At R B e):=Gj hp.rows.2
 rcases h with ⟨rfl,rfl⟩ | h
 ·refine ⟨fun _=>?_,fun h=>absurd rfl h⟩
  unfold D3
  rw [if_pos rfl]
 ·have h0:=h
  obtain ⟨⟨ld,P,hl,hP,hA,hd⟩,_⟩:=h
  by_cases hc0:c=[]
  ·subst hc0
   have h1:=Sk hl hl hP hP hf (Ui R (i+1)) Es hA (Adds.refl ([],[])) hd (.inl rfl)
   have h2:=h1.1.2 rfl
   have h3:=h1.2 h2
   refine ⟨fun _=>?_,fun h=>absurd h2 h⟩
   unfold D3
   rw [if_pos rfl,h3]
  ·unfold D3
   rw [if_neg hc0]
   refine ⟨fun h2=>?_,fun h2=>?_⟩
   ·have hex:∃ y,Q7 R B i c y∧y.2=[]:=⟨y,h0,h2⟩
    rw [dif_pos hex]
    obtain ⟨⟨⟨ld', P', hl', hP', hA', hd'⟩,_⟩,h4⟩:=Classical.choose_spec hex
    have h1:=Sk hl hl' hP hP' hf (Ui R (i+1)) hc hA hA' hd hd'
    rw [h1.2 h2]
   ·rw [dif_neg]
    rintro ⟨y', ⟨⟨ld', P', hl', hP', hA', hd'⟩,_⟩,h4⟩
    have h1:=Sk hl hl' hP hP' hf (Ui R (i+1)) hc hA hA' hd hd'
    exact h2 (h1.1.2 h4)
theorem Tq (D:List Int):((D.length:Int) == 0)=decide (D=[]):=by cases D<;>simp<;>omega
theorem rK (r : Int) (R : List Int) (B : List (List Int)) (i : Int) (c : List Int) (hp : IsPos r R B) (hr : ∀ xs ∈ B, xs.length ≤ 1048576) (hi : 0 ≤ i) (hi2 : i ≤ r) (hc : sst c) (bc : inB c) :
    B1 Tryz.prog 29 [A6 r R B,i64 i,Ac c] (Q8 R B i c) (fun y=>.tup [.sl 0 1 0 y.1.length,bl (decide (y.2=[]))]) (fun y=>[some (Aa y.1)]):=by
 obtain ⟨a1,a2,a3,a4,a5⟩:=hp.rank
 have lc:=Cb hc bc
 refine Ka [2] wF rfl ?_;unfold Wv
 refine RN ?_
 refine Bx (rL r R B (i+1) hp hr) (by simp only [go_sem,↓reduceIte,Nat.reduceEqDiff,Nat.reduceAdd,reduceCtorEq]<;>rfl) (fun P=>(by first | rfl | simp only [go_sem,↓reduceIte,Nat.reduceEqDiff,Nat.reduceAdd,reduceCtorEq])) fun P hP=>?_
 obtain ⟨hPv,hPo,hPl⟩:=hP
 have hre:=rN P c hPl hPo hc bc
 refine RN ?_
 refine dL (hre) (by (try simp only [go_sem,↓reduceIte,Nat.reduceEqDiff,Nat.reduceAdd,reduceCtorEq,Nat.reduceMul,List.take_succ_cons,List.take_zero]);try rfl) fun o ho=>?_
 obtain ⟨C,D⟩:=o
 obtain ⟨hA,hdn,sC,sD,bC,bD⟩:=ho
 dsimp only at hdn sC sD bC bD
 have lD:=Cb sD bD
 refine RN ?_
 rw [Tq]
 exact ⟨(C,D),.inr ⟨⟨_,P,aO,hPv,hA,hdn⟩,sC,bC⟩,rfl,rfl⟩
theorem Yl (r : Int) (R : List Int) (B : List (List Int)) (i : Int) (c : List Int) (hp : IsPos r R B) (hr : ∀ xs ∈ B, xs.length ≤ 1048576) (hi : 0 ≤ i) (hi2 : i ≤ r) (hc : sst c) (bc : inB c) :
    B1 Tryz.prog 28 [.pto [i64 r,Ac R,Ae B] 0,i64 i,Ac c] (Q8 R B i c) (fun y=>.tup [.sl 0 1 0 y.1.length,bl (decide (y.2=[]))]) (fun y=>[some (Aa y.1)]):=by
 obtain ⟨a1,a2,a3,a4,a5⟩:=hp.rank
 have lc:=Cb hc bc
 by_cases hc0:c=[]
 ·have h0 : Pure Tryz.prog 28 [.pto [i64 r, Ac R, Ae B] 0, i64 i, Ac c] (.tup [Af, bl true]) [] := by
    have hcl:c.length=0:=by rw [hc0];rfl
    refine Bj cJ rfl rfl ?_;unfold R6
    refine RN ?_
    refine ⟨fun h=>?_,fun h=>absurd (by omega) h⟩
    (refine RN ?_;try with_reducible exact trivial)
  have h1:=Kb 1 h0
  exact CallsX.mono h1 fun av H' ⟨e1,e2⟩=>⟨([],[]),.inl ⟨hc0,rfl⟩,e1,e2⟩
 ·have hcl:0<c.length:=List.length_pos_iff.2 hc0
  refine Ka [1] cJ rfl ?_;unfold R6
  refine RN ?_
  refine fun _=>?_
  refine RN ?_
  refine Bx (oM r R B (i+1) hp hr) (by simp only [go_sem,↓reduceIte,Nat.reduceEqDiff,Nat.reduceAdd,reduceCtorEq]<;>rfl) (fun m=>(by first | rfl | simp only [go_sem,↓reduceIte,Nat.reduceEqDiff,Nat.reduceAdd,reduceCtorEq])) fun m hm=>?_
  obtain ⟨hPv,hPo,hPl⟩:=hm
  have hre:=Aay m c hPo hc bc
  refine RN ?_
  refine dL (hre) (by (try simp only [go_sem,↓reduceIte,Nat.reduceEqDiff,Nat.reduceAdd,reduceCtorEq,Nat.reduceMul,List.take_succ_cons,List.take_zero]);try rfl) fun o ho=>?_
  obtain ⟨b,C,D⟩:=o
  obtain ⟨hA,hdn,sC,sD,bC,bD⟩:=ho
  dsimp only at hA hdn sC sD bC bD ⊢
  have lD:=Cb sD bD
  cases b
  all_goals simp only [cond_true,cond_false]
  ·(refine RN ?_;try with_reducible exact trivial)
   rw [Tq]
   exact ⟨(C,D),.inr ⟨⟨_,_,Tp,hPv,hA,hdn⟩,sC,bC⟩,rfl,rfl⟩
  ·(refine RN ?_;try with_reducible exact trivial)
   rw [Tq]
   exact ⟨(C,D),.inr ⟨⟨_,_,Tp,hPv,hA,hdn⟩,sC,bC⟩,rfl,rfl⟩
end
section
open Go.Gov
open Classical
theorem ChOk.inB {R:List Int}{i:Int}{c:List Int}(h:ChOk R i c)(hR:R.length≤500):inB c:=fun e he=>by
 obtain ⟨k,hk,hke⟩:=List.mem_iff_getElem.1 he
 have:=h.in k hk
 rw [Dj c k hk,hke] at this
 omega
section
variable (r:Int) (R:List Int) (B:List (List Int)) (i:Int) (a b c:List Int)
noncomputable def D9:List Int:=if A3 r R B i [c]=0 then (D3 R B i c).getD [] else []
noncomputable def Hp:Int:=if A3 r R B i [c]=0 then if (D3 R B i c).isSome then 0 else 4 else A3 r R B i [c]
theorem oA (h1:R.length≤1048576)(hl:B.length≤1048576)(hr:∀ xs∈B,xs.length≤1048576)(hc:c.length≤1048576):Pure Tryz.prog 12 [A6 r R B,i64 i,Ac c] (.tup [.sl 0 1 0 (D9 r R B i c).length,i64 (Hp r R B i c)]) [some (Aa (D9 r R B i c))]:=by
 have g3:∀ xs∈B,xs.length≤1099511627776:=fun xs hx=>by have:=hr xs hx;omega
 unfold D9 Hp
 by_cases h0:A3 r R B i [c]=0
 ·obtain ⟨hp,hi,hcs⟩:=Hm h0
  have hck:=hcs c (by simp)
  obtain ⟨a1,a2,a3,a4,hrk⟩:=hp.rank
  have hib:=hck.inB a3
  have hfe:=Yl r R B i c hp hr hi.1 (by omega) hck.sst hib
  rw [if_pos h0,if_pos h0]
  cases hO:D3 R B i c with
  | none=>
   simp only [Option.getD_none,Option.isSome_none,Bool.false_eq_true,if_false]
   refine Kb 1 ?_
   refine Bj T9 rfl rfl ?_;unfold Og
   refine RN ?_
   refine E4 (Gk r R B i [c] (by omega) (by omega) g3 (by simp) (by simp;omega)) (by (try simp only [go_sem,↓reduceIte,Nat.reduceEqDiff,Nat.reduceAdd,reduceCtorEq,Nat.reduceMul,List.take_succ_cons,List.take_zero,List.take_nil]);try rfl) ?_
   generalize A3 r R B i [c]=C at h0
   refine RN ?_
   (first | with_reducible refine fun _=>?_ | refine ⟨fun _=>?_,fun hx=>absurd hx (by simp_all)⟩ | refine ⟨fun hx=>absurd hx (by simp_all),fun _=>?_⟩)
   refine RN ?_
   refine Bx (hfe) (by simp only [go_sem,↓reduceIte,Nat.reduceEqDiff,Nat.reduceAdd,reduceCtorEq]<;>rfl) (fun o=>by first | rfl | simp only [go_sem,↓reduceIte,Nat.reduceEqDiff,Nat.reduceAdd,reduceCtorEq]) fun o ho=>?_
   have hok:=O7 hp hck.sst ho
   have hne:o.2≠[]:=fun h=>by
    have:=hok.1 h
    rw [hO] at this
    cases this
   have hnd:decide (o.2=[])=false:=decide_eq_false hne
   simp only [hnd,go_sem,↓reduceIte,Nat.reduceEqDiff,Nat.reduceAdd,reduceCtorEq]
   (refine RN ?_;try with_reducible exact trivial)
  | some l=>
   simp only [Option.getD_some,Option.isSome_some,if_true]
   refine Gc [2] T9 rfl ?_;unfold Og
   refine RN ?_
   refine E4 (Gk r R B i [c] (by omega) (by omega) g3 (by simp) (by simp;omega)) (by (try simp only [go_sem,↓reduceIte,Nat.reduceEqDiff,Nat.reduceAdd,reduceCtorEq,Nat.reduceMul,List.take_succ_cons,List.take_zero,List.take_nil]);try rfl) ?_
   generalize A3 r R B i [c]=C at h0
   refine RN ?_
   (first | with_reducible refine fun _=>?_ | refine ⟨fun _=>?_,fun hx=>absurd hx (by simp_all)⟩ | refine ⟨fun hx=>absurd hx (by simp_all),fun _=>?_⟩)
   refine RN ?_
   refine Bx (hfe) (by simp only [go_sem,↓reduceIte,Nat.reduceEqDiff,Nat.reduceAdd,reduceCtorEq]<;>rfl) (fun o=>by first | rfl | simp only [go_sem,↓reduceIte,Nat.reduceEqDiff,Nat.reduceAdd,reduceCtorEq]) fun o ho=>?_
   have hok:=O7 hp hck.sst ho
   have hne:o.2=[]:=Classical.byContradiction fun h=>by
    have:=hok.2 h
    rw [hO] at this
    cases this
   have hl2:o.1=l:=by
    have:=hok.1 hne
    rw [hO] at this
    exact (Option.some.inj this).symm
   have hnd:decide (o.2=[])=true:=decide_eq_true hne
   simp only [hnd,hl2,go_sem,↓reduceIte,Nat.reduceEqDiff,Nat.reduceAdd,reduceCtorEq]
   (refine RN ?_;try with_reducible exact trivial)
   (try simp only [go_sem,↓reduceIte,Nat.reduceEqDiff,Nat.reduceAdd,reduceCtorEq,and_self])
 ·rw [if_neg h0,if_neg h0]
  refine Kb 1 ?_
  refine Bj T9 rfl rfl ?_;unfold Og
  refine RN ?_
  refine E4 (Gk r R B i [c] (by omega) (by omega) g3 (by simp) (by simp;omega)) (by (try simp only [go_sem,↓reduceIte,Nat.reduceEqDiff,Nat.reduceAdd,reduceCtorEq,Nat.reduceMul,List.take_succ_cons,List.take_zero,List.take_nil]);try rfl) ?_
  generalize A3 r R B i [c]=C at h0
  refine RN ?_
  (first | with_reducible refine fun _=>?_ | refine ⟨fun _=>?_,fun hx=>absurd hx (by simp_all)⟩ | refine ⟨fun hx=>absurd hx (by simp_all),fun _=>?_⟩)
  (refine RN ?_;try with_reducible exact trivial)
/-! ### AreHomologous -/
noncomputable def Jk:Bool:=if A3 r R B i [a,b]=0 then (D3 R B i (Ag a b)).isSome else false
theorem Ack (h1:R.length≤1048576)(hl:B.length≤1048576)(hr:∀ xs∈B,xs.length≤1048576)(ha:a.length≤1048576)(hb:b.length≤1048576):Pure Tryz.prog 11 [A6 r R B,i64 i,Ac a,Ac b] (.tup [bl (Jk r R B i a b),i64 (A3 r R B i [a,b])]) []:=by
 have g3:∀ xs∈B,xs.length≤1099511627776:=fun xs hx=>by have:=hr xs hx;omega
 unfold Jk
 by_cases h0:A3 r R B i [a,b]=0
 ·obtain ⟨hp,hi,hcs⟩:=Hm h0
  have ca:=hcs a (by simp)
  have cb:=hcs b (by simp)
  obtain ⟨a1,a2,a3,a4,hrk⟩:=hp.rank
  have sc:=Bt ca.sst cb.sst
  have hib:=F4 ca.sst cb.sst (ca.inB a3) (cb.inB a3)
  have hfe:=rK r R B i (Ag a b) hp hr hi.1 (by omega) sc hib
  rw [if_pos h0]
  refine Bj cB rfl rfl ?_;unfold Ry
  refine RN ?_
  refine Am (Pv r R B i a b (by omega) (by omega) g3 (by omega) (by omega)) ?_
  generalize A3 r R B i [a,b]=C at h0
  refine RN ?_
  (first | with_reducible refine fun _=>?_ | refine ⟨fun _=>?_,fun hx=>absurd hx (by simp_all)⟩ | refine ⟨fun hx=>absurd hx (by simp_all),fun _=>?_⟩)
  refine RN ?_
  refine Am (Jx a b (by omega) (by omega)) ?_
  refine RN ?_
  refine Bx (hfe) (by simp only [go_sem,↓reduceIte,Nat.reduceEqDiff,Nat.reduceAdd,reduceCtorEq]<;>rfl) (fun o=>by first | rfl | simp only [go_sem,↓reduceIte,Nat.reduceEqDiff,Nat.reduceAdd,reduceCtorEq]) fun o ho=>?_
  have hok:=O7 hp sc ho
  have hnd:decide (o.2=[])=(D3 R B i (Ag a b)).isSome:=by
   by_cases h:o.2=[]
   ·rw [hok.1 h,decide_eq_true h];rfl
   ·rw [hok.2 h,decide_eq_false h];rfl
  simp only [hnd,go_sem,↓reduceIte,Nat.reduceEqDiff,Nat.reduceAdd,reduceCtorEq]
  (refine RN ?_;try with_reducible exact trivial)
  (try simp only [h0])
 ·rw [if_neg h0]
  refine Bj cB rfl rfl ?_;unfold Ry
  refine RN ?_
  refine Am (Pv r R B i a b (by omega) (by omega) g3 (by omega) (by omega)) ?_
  generalize A3 r R B i [a,b]=C at h0
  refine RN ?_
  (first | with_reducible refine fun _=>?_ | refine ⟨fun _=>?_,fun hx=>absurd hx (by simp_all)⟩ | refine ⟨fun hx=>absurd hx (by simp_all),fun _=>?_⟩)
  (refine RN ?_;try with_reducible exact trivial)
theorem nY (h1:R.length≤1048576)(hl:B.length≤1048576)(hr:∀ xs∈B,xs.length≤1048576)(ha:a.length≤1048576)(hb:b.length≤1048576):Pure Tryz.prog 10 [A6 r R B,i64 i,Ac a,Ac b] (.tup [bl (Jk r R B i a b),i64 (A3 r R B i [a,b])]) []:=by
 have g3:∀ xs∈B,xs.length≤1099511627776:=fun xs hx=>by have:=hr xs hx;omega
 have g4:∀ xs∈[a,b],xs.length≤1099511627776:=fun xs hx=>by
  simp only [List.mem_cons,List.not_mem_nil,or_false] at hx
  rcases hx with rfl | rfl<;>omega
 have htot:Ck [a,b]≤1099511627776:=by simp [Ck];omega
 unfold Jk
 by_cases h0:A3 r R B i [a,b]=0
 ·obtain ⟨hp,hi,hcs⟩:=Hm h0
  have ca:=hcs a (by simp)
  have cb:=hcs b (by simp)
  obtain ⟨a1,a2,a3,a4,hrk⟩:=hp.rank
  have sc:=Bt ca.sst cb.sst
  have hib:=F4 ca.sst cb.sst (ca.inB a3) (cb.inB a3)
  have hfe:=Yl r R B i (Ag a b) hp hr hi.1 (by omega) sc hib
  have hodd:=I4 ca.sst cb.sst
  have hfl:[a,b].flatten=a++b:=by simp
  have hfl2:[a,b].flatten.length≤1099511627776:=by rw [hfl,List.length_append];omega
  rw [← hfl] at hodd
  rw [if_pos h0]
  refine Bj cA rfl rfl ?_;unfold Rx
  refine RN ?_
  refine E4 (Gk r R B i [a,b] (by omega) (by omega) g3 (by simp) g4) (by (try simp only [go_sem,↓reduceIte,Nat.reduceEqDiff,Nat.reduceAdd,reduceCtorEq,Nat.reduceMul,List.take_succ_cons,List.take_zero,List.take_nil]);try rfl) ?_
  generalize A3 r R B i [a,b]=C at h0
  refine RN ?_
  (first | with_reducible refine fun _=>?_ | refine ⟨fun _=>?_,fun hx=>absurd hx (by simp_all)⟩ | refine ⟨fun hx=>absurd hx (by simp_all),fun _=>?_⟩)
  refine RN ?_
  refine E4 (Is [a,b] (by simp) htot) (by (try simp only [go_sem,↓reduceIte,Nat.reduceEqDiff,Nat.reduceAdd,reduceCtorEq,Nat.reduceMul,List.take_succ_cons,List.take_zero,List.take_nil]);try rfl) ?_
  generalize [a,b].flatten=ab at hfl2 hodd
  have hoo:=H6 ab hfl2
  rw [hodd] at hoo
  refine RN ?_
  refine Jg (hoo) [3] ?_
  refine RN ?_
  refine Bx (hfe) (by simp only [go_sem,↓reduceIte,Nat.reduceEqDiff,Nat.reduceAdd,reduceCtorEq]<;>rfl) (fun o=>by first | rfl | simp only [go_sem,↓reduceIte,Nat.reduceEqDiff,Nat.reduceAdd,reduceCtorEq]) fun o ho=>?_
  have hok:=O7 hp sc ho
  have hnd:decide (o.2=[])=(D3 R B i (Ag a b)).isSome:=by
   by_cases h:o.2=[]
   ·rw [hok.1 h,decide_eq_true h];rfl
   ·rw [hok.2 h,decide_eq_false h];rfl
  simp only [hnd,go_sem,↓reduceIte,Nat.reduceEqDiff,Nat.reduceAdd,reduceCtorEq]
  (refine RN ?_;try with_reducible exact trivial)
  (try simp only [h0])
 ·rw [if_neg h0]
  refine Bj cA rfl rfl ?_;unfold Rx
  refine RN ?_
  refine E4 (Gk r R B i [a,b] (by omega) (by omega) g3 (by simp) g4) (by (try simp only [go_sem,↓reduceIte,Nat.reduceEqDiff,Nat.reduceAdd,reduceCtorEq,Nat.reduceMul,List.take_succ_cons,List.take_zero,List.take_nil]);try rfl) ?_
  generalize A3 r R B i [a,b]=C at h0
  refine RN ?_
  (first | with_reducible refine fun _=>?_ | refine ⟨fun _=>?_,fun hx=>absurd hx (by simp_all)⟩ | refine ⟨fun hx=>absurd hx (by simp_all),fun _=>?_⟩)
  (refine RN ?_;try with_reducible exact trivial)
end
end
end Go.Proofs.YtcneanpkpmfaiaaGreat
