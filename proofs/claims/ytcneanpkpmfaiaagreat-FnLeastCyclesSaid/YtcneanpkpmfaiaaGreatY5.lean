/- Texts that belong together. -/
import Derived.Test.YtcneanpkpmfaiaaGreatY4
set_option maxHeartbeats 16000000
set_option linter.unusedSimpArgs false
set_option linter.unusedVariables false
set_option maxRecDepth 100000
namespace Go.Proofs.YtcneanpkpmfaiaaGreat
section
open Go.Gov
open Classical
def Sg (R:List Int)(B:List (List Int))(i:Int)(c:List Int)(y:Pr):Prop:=
 (∃ (ld:List Int→Option Int) (P:List Pr),H7 ld∧Piv ld (Av R B) (Am R (i+1)).reverse P∧Adds P ([],c) y∧Fp ld P y)∧sst y.1∧inB y.1
def Vz (R:List Int)(B:List (List Int))(i:Int)(c:List Int)(y:Pr):Prop:=(c=[]∧y=([],[]))∨Sg R B i c y
noncomputable def Ho (R:List Int)(B:List (List Int))(i:Int)(c:List Int):Option (List Int):=
 if c=[] then some [] else if h:∃ y,Sg R B i c y∧y.2=[] then some (Classical.choose h).1 else none
theorem Ve (R:List Int)(i:Int):(Am R i).reverse.Nodup:=by
 refine List.pairwise_reverse.2 ((Jn R i R.length).imp fun {a b} h=>?_)
 exact fun e=>by omega
theorem Zn {r:Int}{R:List Int}{B:List (List Int)}(hp:IsPos r R B){i:Int}{c:List Int}(hc:sst c){y:Pr}(h:Vz R B i c y):(y.2=[]→Ho R B i c=some y.1)∧(y.2≠[]→Ho R B i c=none):=by
 have hf:∀ e,sst (Av R B e):=E9 hp.rows.2
 rcases h with ⟨rfl,rfl⟩ | h
 ·refine ⟨fun _=>?_,fun h=>absurd rfl h⟩
  unfold Ho
  rw [if_pos rfl]
 ·have h0:=h
  obtain ⟨⟨ld,P,hl,hP,hA,hd⟩,_⟩:=h
  by_cases hc0:c=[]
  ·subst hc0
   have h1:=Tj hl hl hP hP hf (Ve R (i+1)) D9 hA (Adds.refl ([],[])) hd (.inl rfl)
   have h2:=h1.1.2 rfl
   have h3:=h1.2 h2
   refine ⟨fun _=>?_,fun h=>absurd h2 h⟩
   unfold Ho
   rw [if_pos rfl,h3]
  ·unfold Ho
   rw [if_neg hc0]
   refine ⟨fun h2=>?_,fun h2=>?_⟩
   ·have hex:∃ y,Sg R B i c y∧y.2=[]:=⟨y,h0,h2⟩
    rw [dif_pos hex]
    obtain ⟨⟨⟨ld', P', hl', hP', hA', hd'⟩,_⟩,h4⟩:=Classical.choose_spec hex
    have h1:=Tj hl hl' hP hP' hf (Ve R (i+1)) hc hA hA' hd hd'
    rw [h1.2 h2]
   ·rw [dif_neg]
    rintro ⟨y', ⟨⟨ld', P', hl', hP', hA', hd'⟩,_⟩,h4⟩
    have h1:=Tj hl hl' hP hP' hf (Ve R (i+1)) hc hA hA' hd hd'
    exact h2 (h1.1.2 h4)
theorem cN (D:List Int):((D.length:Int) == 0)=decide (D=[]):=by cases D<;>simp<;>omega
theorem oT (r : Int) (R : List Int) (B : List (List Int)) (i : Int) (c : List Int) (hp : IsPos r R B) (hr : ∀ xs ∈ B, xs.length ≤ 1048576) (hi : 0 ≤ i) (hi2 : i ≤ r) (hc : sst c) (bc : inB c) :
    Cf Tryz.prog 28 [.pto [i64 r,Ac R,Af B] 0,i64 i,Ac c] (Vz R B i c) (fun y=>.tup [.sl 0 1 0 y.1.length,bl (decide (y.2=[]))]) (fun y=>[some (Aa y.1)]):=by
 obtain ⟨a1,a2,a3,a4,a5⟩:=hp.rank
 have lc:=Bp hc bc
 by_cases hc0:c=[]
 ·have h0 : Pure Tryz.prog 28 [.pto [i64 r, Ac R, Af B] 0, i64 i, Ac c] (.tup [Ae, bl true]) [] := by
    have hcl:c.length=0:=by rw [hc0];rfl
    refine Bm eC rfl rfl ?_;unfold S5
    refine RN ?_
    refine ⟨fun h=>?_,fun h=>absurd (by omega) h⟩
    (refine RN ?_;try with_reducible exact trivial)
  have h1:=Iq 1 h0
  exact CallsX.mono h1 fun av H' ⟨e1,e2⟩=>⟨([],[]),.inl ⟨hc0,rfl⟩,e1,e2⟩
 ·have hcl:0<c.length:=List.length_pos_iff.2 hc0
  refine Oc [1] eC rfl ?_;unfold S5
  refine RN ?_
  refine fun _=>?_
  refine RN ?_
  refine B0 (Qo r R B (i+1) hp hr) (by simp only [go_sem,↓reduceIte,Nat.reduceEqDiff,Nat.reduceAdd,reduceCtorEq]<;>rfl) (fun m=>(by first | rfl | simp only [go_sem,↓reduceIte,Nat.reduceEqDiff,Nat.reduceAdd,reduceCtorEq])) fun m hm=>?_
  obtain ⟨hPv,hPo,hPl⟩:=hm
  have hre:=Acn m c hPo hc bc
  refine RN ?_
  refine Abi (hre) (by (try simp only [go_sem,↓reduceIte,Nat.reduceEqDiff,Nat.reduceAdd,reduceCtorEq,Nat.reduceMul,List.take_succ_cons,List.take_zero]);try rfl) fun o ho=>?_
  obtain ⟨b,C,D⟩:=o
  obtain ⟨hA,hdn,sC,sD,bC,bD⟩:=ho
  dsimp only at hA hdn sC sD bC bD ⊢
  have lD:=Bp sD bD
  cases b
  all_goals simp only [cond_true,cond_false]
  ·(refine RN ?_;try with_reducible exact trivial)
   rw [cN]
   exact ⟨(C,D),.inr ⟨⟨_,_,lead_last,hPv,hA,hdn⟩,sC,bC⟩,rfl,rfl⟩
  ·(refine RN ?_;try with_reducible exact trivial)
   rw [cN]
   exact ⟨(C,D),.inr ⟨⟨_,_,lead_last,hPv,hA,hdn⟩,sC,bC⟩,rfl,rfl⟩
end
section
open Go.Gov
open Classical
theorem ChOk.inB {R:List Int}{i:Int}{c:List Int}(h:ChOk R i c)(hR:R.length≤500):inB c:=fun e he=>by
 obtain ⟨k,hk,hke⟩:=List.mem_iff_getElem.1 he
 have:=h.in k hk
 rw [B8 c k hk,hke] at this
 omega
section
variable (r:Int) (R:List Int) (B:List (List Int)) (i:Int) (a b c:List Int)
noncomputable def Tp:List Int:=if D4 r R B i [c]=0 then (Ho R B i c).getD [] else []
noncomputable def Qf:Int:=if D4 r R B i [c]=0 then if (Ho R B i c).isSome then 0 else 4 else D4 r R B i [c]
theorem qK (h1:R.length≤1048576)(hl:B.length≤1048576)(hr:∀ xs∈B,xs.length≤1048576)(hc:c.length≤1048576):Pure Tryz.prog 12 [Bo r R B,i64 i,Ac c] (.tup [.sl 0 1 0 (Tp r R B i c).length,i64 (Qf r R B i c)]) [some (Aa (Tp r R B i c))]:=by
 have g3:∀ xs∈B,xs.length≤1099511627776:=fun xs hx=>by have:=hr xs hx;omega
 unfold Tp Qf
 by_cases h0:D4 r R B i [c]=0
 ·obtain ⟨hp,hi,hcs⟩:=Te h0
  have hck:=hcs c (by simp)
  obtain ⟨a1,a2,a3,a4,hrk⟩:=hp.rank
  have hib:=hck.inB a3
  have hfe:=oT r R B i c hp hr hi.1 (by omega) hck.sst hib
  rw [if_pos h0,if_pos h0]
  cases hO:Ho R B i c with
  | none=>
   simp only [Option.getD_none,Option.isSome_none,Bool.false_eq_true,if_false]
   refine Iq 1 ?_
   refine Bm U5 rfl rfl ?_;unfold Pj
   refine RN ?_
   refine Oa (Py r R B i [c] (by omega) (by omega) g3 (by simp) (by simp;omega)) (by (try simp only [go_sem,↓reduceIte,Nat.reduceEqDiff,Nat.reduceAdd,reduceCtorEq,Nat.reduceMul,List.take_succ_cons,List.take_zero,List.take_nil]);try rfl) ?_
   generalize D4 r R B i [c]=C at h0
   refine RN ?_
   (first | with_reducible refine fun _=>?_ | refine ⟨fun _=>?_,fun hx=>absurd hx (by simp_all)⟩ | refine ⟨fun hx=>absurd hx (by simp_all),fun _=>?_⟩)
   refine RN ?_
   refine B0 (hfe) (by simp only [go_sem,↓reduceIte,Nat.reduceEqDiff,Nat.reduceAdd,reduceCtorEq]<;>rfl) (fun o=>by first | rfl | simp only [go_sem,↓reduceIte,Nat.reduceEqDiff,Nat.reduceAdd,reduceCtorEq]) fun o ho=>?_
   have hok:=Zn hp hck.sst ho
   have hne:o.2≠[]:=fun h=>by
    have:=hok.1 h
    rw [hO] at this
    cases this
   have hnd:decide (o.2=[])=false:=decide_eq_false hne
   simp only [hnd,go_sem,↓reduceIte,Nat.reduceEqDiff,Nat.reduceAdd,reduceCtorEq]
   (refine RN ?_;try with_reducible exact trivial)
  | some l=>
   simp only [Option.getD_some,Option.isSome_some,if_true]
   refine Fi [2] U5 rfl ?_;unfold Pj
   refine RN ?_
   refine Oa (Py r R B i [c] (by omega) (by omega) g3 (by simp) (by simp;omega)) (by (try simp only [go_sem,↓reduceIte,Nat.reduceEqDiff,Nat.reduceAdd,reduceCtorEq,Nat.reduceMul,List.take_succ_cons,List.take_zero,List.take_nil]);try rfl) ?_
   generalize D4 r R B i [c]=C at h0
   refine RN ?_
   (first | with_reducible refine fun _=>?_ | refine ⟨fun _=>?_,fun hx=>absurd hx (by simp_all)⟩ | refine ⟨fun hx=>absurd hx (by simp_all),fun _=>?_⟩)
   refine RN ?_
   refine B0 (hfe) (by simp only [go_sem,↓reduceIte,Nat.reduceEqDiff,Nat.reduceAdd,reduceCtorEq]<;>rfl) (fun o=>by first | rfl | simp only [go_sem,↓reduceIte,Nat.reduceEqDiff,Nat.reduceAdd,reduceCtorEq]) fun o ho=>?_
   have hok:=Zn hp hck.sst ho
   have hne:o.2=[]:=Classical.byContradiction fun h=>by
    have:=hok.2 h
    rw [hO] at this
    cases this
   have hl2:o.1=l:=by
    have:=hok.1 hne
    rw [hO] at this
    exact (Option.some.inj this).symm
   have hnd:decide (o.2=[])=true:=decide_eq_true hne
   simp only [hnd,hl2,go_sem,↓reduceIte,Nat.reduceEqDiff,Nat.reduceAdd,reduceCtorEq]
   (refine RN ?_;try with_reducible exact trivial)
   (try simp only [go_sem,↓reduceIte,Nat.reduceEqDiff,Nat.reduceAdd,reduceCtorEq,and_self])
 ·rw [if_neg h0,if_neg h0]
  refine Iq 1 ?_
  refine Bm U5 rfl rfl ?_;unfold Pj
  refine RN ?_
  refine Oa (Py r R B i [c] (by omega) (by omega) g3 (by simp) (by simp;omega)) (by (try simp only [go_sem,↓reduceIte,Nat.reduceEqDiff,Nat.reduceAdd,reduceCtorEq,Nat.reduceMul,List.take_succ_cons,List.take_zero,List.take_nil]);try rfl) ?_
  generalize D4 r R B i [c]=C at h0
  refine RN ?_
  (first | with_reducible refine fun _=>?_ | refine ⟨fun _=>?_,fun hx=>absurd hx (by simp_all)⟩ | refine ⟨fun hx=>absurd hx (by simp_all),fun _=>?_⟩)
  (refine RN ?_;try with_reducible exact trivial)
/-! ### AreHomologous -/
end
end
end Go.Proofs.YtcneanpkpmfaiaaGreat
