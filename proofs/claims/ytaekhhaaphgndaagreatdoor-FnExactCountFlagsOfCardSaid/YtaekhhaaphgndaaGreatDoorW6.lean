/- Texts that belong together. -/
import Derived.Test.YtaekhhaaphgndaaGreatDoorW4
import Derived.Test.YtaekhhaaphgndaaGreatDoorW5
set_option maxHeartbeats 16000000
set_option linter.unusedSimpArgs false
set_option linter.unusedVariables false
set_option maxRecDepth 100000
namespace Go.Proofs.YtaekhhaaphgndaaGreatDoor
section
open Go.Gov Go.Fl Go.Kz
open Classical
def Pty (r:Int)(R:List Int)(B:List (List Int))(F:List (List Int)):Prop:=0<F.length∧Cov R F∧Dia r R B∧Lnk F
theorem l03Polytope_c (r : Int) (R : List Int) (B : List (List Int)) (hp : IsPos r R B) (F : List (List Int)) (hF : F.length ≤ 400) (hX : Fs r.toNat F) (hl : ∀ i : Nat, (F.getD i []).length ≤ 5) (hb : ∀ i : Nat, ∀ k, k < (F.getD i []).length → 0 ≤ (F.getD i []).getD k 0 ∧ (F.getD i []).getD k 0 ≤ (R.length : Int) - 1) :
    Pure Tryz.prog 41 [posetA r R B,mat F] (bl (decide (Pty r R B F))) []:=by
 obtain ⟨a1,a2,a3,a4,a5⟩:=hp.rank
 have hpu:=l03Pure_c r R B (by omega) F (by omega) hl hb
 have hfa:=l03Fault_e r R B hp
 refine pureV0 ok41 rfl rfl ?_;unfold c41
 refine RN ?_
 by_cases h0:0<F.length
 ·have hpa:=l03Parted_e F r.toNat hX (by omega) hF h0
  have d0:decide ((0:Int)<(F.length:Int))=true:=decide_eq_true (by omega)
  rw [d0]
  by_cases hcv:Cov R F
  ·rw [decide_eq_true hcv] at hpu
   refine GC1 (bl true ) (fun hg =>  hpu) ?_
   refine ⟨fun _=>⟨by omega,by simp only [go_sem,↓reduceIte,Nat.reduceEqDiff,Nat.reduceAdd,reduceCtorEq]⟩,?_⟩
   simp only [go_sem,↓reduceIte,Nat.reduceEqDiff,Nat.reduceAdd,reduceCtorEq,cond_true]
   refine GCall.on rfl ?_
   refine pureEC (hfa) (by simp only [go_sem,↓reduceIte,Nat.reduceEqDiff,Nat.reduceAdd,reduceCtorEq]<;>rfl) (fun o=>by first | rfl | simp only [go_sem,↓reduceIte,Nat.reduceEqDiff,Nat.reduceAdd,reduceCtorEq]) fun o ho=>?_
   by_cases hd:o=[]
   ·subst hd
    have hdi:=ho.2.1 rfl
    simp only [List.length_nil,go_sem,↓reduceIte,Nat.reduceEqDiff,Nat.reduceAdd,reduceCtorEq]
    refine GCall.on rfl ?_
    refine ⟨rfl,?_⟩
    refine pureEC (hpa) (by simp only [go_sem,↓reduceIte,Nat.reduceEqDiff,Nat.reduceAdd,reduceCtorEq]<;>rfl) (fun o=>by first | rfl | simp only [go_sem,↓reduceIte,Nat.reduceEqDiff,Nat.reduceAdd,reduceCtorEq]) fun o ho=>?_
    by_cases hk:o=[]
    ·subst hk
     have dp:decide (Pty r R B F)=true:=decide_eq_true ⟨h0,hcv,hdi,ho.2.1 rfl⟩
     rw [dp]
     simp only [List.length_nil,go_sem,↓reduceIte,Nat.reduceEqDiff,Nat.reduceAdd,reduceCtorEq]
     refine RN ?_
     rfl
    ·have hnl:¬ Lnk F:=fun h=>hk (ho.2.2 h)
     have dp:decide (Pty r R B F)=false:=decide_eq_false fun h=>hnl h.2.2.2
     have hln:((o.length:Int) == 0)=false:=by
      have:o.length≠0:=fun e=>hk (List.length_eq_zero_iff.1 e)
      simp;omega
     rw [dp]
     simp only [hln,go_sem,↓reduceIte,Nat.reduceEqDiff,Nat.reduceAdd,reduceCtorEq]
     (refine RN ?_;try with_reducible exact trivial)
   ·have hdi:¬ Dia r R B:=fun h=>hd (ho.2.2 h)
    have dp:decide (Pty r R B F)=false:=decide_eq_false fun h=>hdi h.2.2.1
    have hln:((o.length:Int) == 0)=false:=by
     have:o.length≠0:=fun e=>hd (List.length_eq_zero_iff.1 e)
     simp;omega
    rw [dp]
    simp only [hln,go_sem,↓reduceIte,Nat.reduceEqDiff,Nat.reduceAdd,reduceCtorEq]
    refine GCall_no (.sl 0 1 0 0) (by first | rfl | exact hln) ?_
    simp only [go_sem,↓reduceIte,Nat.reduceEqDiff,Nat.reduceAdd,reduceCtorEq]
    (refine RN ?_;try with_reducible exact trivial)
  ·have dp:decide (Pty r R B F)=false:=decide_eq_false fun h=>hcv h.2.1
   rw [decide_eq_false hcv] at hpu
   rw [dp]
   refine GC1 (bl false ) (fun hg =>  hpu) ?_
   refine ⟨fun _=>⟨by omega,by simp only [go_sem,↓reduceIte,Nat.reduceEqDiff,Nat.reduceAdd,reduceCtorEq]⟩,?_⟩
   simp only [go_sem,↓reduceIte,Nat.reduceEqDiff,Nat.reduceAdd,reduceCtorEq,cond_true]
   refine GCall_no (.sl 0 1 0 0) rfl ?_
   simp only [go_sem,↓reduceIte,Nat.reduceEqDiff,Nat.reduceAdd,reduceCtorEq]
   refine GCall_no (.sl 0 1 0 0) rfl ?_
   (refine RN ?_;try with_reducible exact trivial)
 ·have d0:decide ((0:Int)<(F.length:Int))=false:=decide_eq_false (by omega)
  have dp:decide (Pty r R B F)=false:=decide_eq_false fun h=>h0 h.1
  rw [dp,d0]
  refine GCall_no (bl false) rfl ?_
  refine ⟨fun h=>(by cases h),?_⟩
  simp only [go_sem,↓reduceIte,Nat.reduceEqDiff,Nat.reduceAdd,reduceCtorEq,cond_false]
  refine GCall_no (.sl 0 1 0 0) rfl ?_
  simp only [go_sem,↓reduceIte,Nat.reduceEqDiff,Nat.reduceAdd,reduceCtorEq]
  refine GCall_no (.sl 0 1 0 0) rfl ?_
  (refine RN ?_;try with_reducible exact trivial)
end
section
open Go.Gov Go.Fl Go.Kz
open Classical
theorem isPolytope_c (r : Int) (R : List Int) (B : List (List Int)) (hp : IsPos r R B) (F : List (List Int)) (hF : F.length ≤ 400) (hX : Fs r.toNat F) (hS : Sm F) (hl : ∀ i : Nat, (F.getD i []).length ≤ 5) (hb : ∀ i : Nat, ∀ k, k < (F.getD i []).length → 0 ≤ (F.getD i []).getD k 0 ∧ (F.getD i []).getD k 0 ≤ (R.length : Int) - 1) :
    PureG Tryz.prog tabZ 50 [posetA r R B,mat F] (bl (decide (Pty r R B F))) []:=by
 obtain ⟨a1,a2,a3,a4,a5⟩:=hp.rank
 have hpu:=isPure_c r R B (by omega) F (by omega) hl hb
 have hfa:=diamondFault_e r R B hp
 have hcf:=connectionFault_e F r.toNat hX hS (by omega) (by omega) hF
 refine pureGV ok50 rfl ?_;unfold c50
 refine RN ?_
 by_cases h0:0<F.length
 ·have d0:decide ((0:Int)<(F.length:Int))=true:=decide_eq_true (by omega)
  rw [d0]
  by_cases hcv:Cov R F
  ·rw [decide_eq_true hcv] at hpu
   refine GC1 (bl true ) (fun hg =>  hpu) ?_
   refine ⟨fun _=>⟨by omega,by simp only [go_sem,↓reduceIte,Nat.reduceEqDiff,Nat.reduceAdd,reduceCtorEq]⟩,?_⟩
   simp only [go_sem,↓reduceIte,Nat.reduceEqDiff,Nat.reduceAdd,reduceCtorEq,cond_true]
   refine GCall.on rfl ?_
   refine pureEC hfa (by simp only [go_sem,↓reduceIte,Nat.reduceEqDiff,Nat.reduceAdd,reduceCtorEq]<;>rfl) (fun o=>by by_cases h:o=[]<;>simp [h,nf,nfH,intsC,go_sem,↓reduceIte,Nat.reduceEqDiff,Nat.reduceAdd,reduceCtorEq]) fun o ho=>?_
   by_cases hd:o=[]
   ·subst hd
    have hdi:=ho.2.1 rfl
    simp only [if_true,go_sem,↓reduceIte,Nat.reduceEqDiff,Nat.reduceAdd,reduceCtorEq]
    have hn:∀ H:Heap,nilOf H nilS=some true:=fun _=>rfl
    simp only [hn,Option.isSome_some,Option.getD_some,true_and,go_sem,↓reduceIte,Nat.reduceEqDiff,Nat.reduceAdd,reduceCtorEq]
    refine GCall.on rfl ?_
    refine pureGEC 0 hcf rfl (by simp only [go_sem,↓reduceIte,Nat.reduceEqDiff,Nat.reduceAdd,reduceCtorEq]<;>rfl) (fun o=>by by_cases h:o=[]<;>simp [h,nf,nfH,intsC,go_sem,↓reduceIte,Nat.reduceEqDiff,Nat.reduceAdd,reduceCtorEq]) fun o ho=>?_
    by_cases hk:o=[]
    ·subst hk
     have dp:decide (Pty r R B F)=true:=decide_eq_true ⟨h0,hcv,hdi,ho.2.1 rfl⟩
     rw [dp]
     simp only [if_true,go_sem,↓reduceIte,Nat.reduceEqDiff,Nat.reduceAdd,reduceCtorEq]
     simp only [hn,Option.isSome_some,Option.getD_some,true_and,go_sem,↓reduceIte,Nat.reduceEqDiff,Nat.reduceAdd,reduceCtorEq]
     refine RN ?_
     exact Ref.gc1 []
    ·have hnl:¬ Lnk F:=fun h=>hk (ho.2.2 h)
     have dp:decide (Pty r R B F)=false:=decide_eq_false fun h=>hnl h.2.2.2
     rw [dp]
     obtain ⟨m,hm⟩:∃ m,o.length=m+1:=⟨o.length - 1,by
      have:o.length≠0:=fun e=>hk (List.length_eq_zero_iff.1 e)
      omega⟩
     have hn2:∀ C,nilOf [some (gvs tabZ),some [i64 r,ints R,mat B],some C] (.sl 2 1 0 (m+1))=some false:=fun _=>rfl
     simp only [if_neg hk,hm,hn2,Option.isSome_some,Option.getD_some,true_and,go_sem,↓reduceIte,Nat.reduceEqDiff,Nat.reduceAdd,reduceCtorEq]
     refine RN ?_
     exact Ref.gc1 []
   ·have hdi:¬ Dia r R B:=fun h=>hd (ho.2.2 h)
    have dp:decide (Pty r R B F)=false:=decide_eq_false fun h=>hdi h.2.2.1
    rw [dp]
    obtain ⟨m,hm⟩:∃ m,o.length=m+1:=⟨o.length - 1,by
     have:o.length≠0:=fun e=>hd (List.length_eq_zero_iff.1 e)
     omega⟩
    have hn2:∀ C,nilOf [some (gvs tabZ),some [i64 r,ints R,mat B],some C] (.sl 2 1 0 (m+1))=some false:=fun _=>rfl
    simp only [if_neg hd,hm,hn2,Option.isSome_some,Option.getD_some,true_and,go_sem,↓reduceIte,Nat.reduceEqDiff,Nat.reduceAdd,reduceCtorEq]
    refine GCall_no nilS rfl ?_
    refine RN ?_
    exact Ref.gc1 []
  ·have dp:decide (Pty r R B F)=false:=decide_eq_false fun h=>hcv h.2.1
   rw [decide_eq_false hcv] at hpu
   rw [dp]
   refine GC1 (bl false ) (fun hg =>  hpu) ?_
   refine ⟨fun _=>⟨by omega,by simp only [go_sem,↓reduceIte,Nat.reduceEqDiff,Nat.reduceAdd,reduceCtorEq]⟩,?_⟩
   simp only [go_sem,↓reduceIte,Nat.reduceEqDiff,Nat.reduceAdd,reduceCtorEq,cond_true]
   refine GCall_no nilS rfl ?_
   refine RN ?_
   refine GCall_no nilS rfl ?_
   refine RN ?_
   exact Ref.gc1 []
 ·have d0:decide ((0:Int)<(F.length:Int))=false:=decide_eq_false (by omega)
  have dp:decide (Pty r R B F)=false:=decide_eq_false fun h=>h0 h.1
  rw [dp,d0]
  refine GCall_no (bl false) rfl ?_
  refine ⟨fun h=>(by cases h),?_⟩
  simp only [go_sem,↓reduceIte,Nat.reduceEqDiff,Nat.reduceAdd,reduceCtorEq,cond_false]
  refine GCall_no nilS rfl ?_
  refine RN ?_
  refine GCall_no nilS rfl ?_
  refine RN ?_
  exact Ref.gc1 []
end
section
open Go.Gov Go.Fl Go.Kz
open Classical
theorem allF_sm {r:Int}{R:List Int}{B:List (List Int)}(hp:IsPos r R B):Sm (allF r R B):=by
 obtain ⟨a1,a2,a3,a4,a5⟩:=hp.rank
 intro x hx e he
 obtain ⟨a,ha,rfl⟩:=List.mem_iff_getElem.1 hx
 obtain ⟨k,hk,rfl⟩:=List.mem_iff_getElem.1 he
 have h1:(allF r R B).getD a []=(allF r R B)[a]:=by simp [ha]
 have h:=allF_at (r:=r) (R:=R) (B:=B) a k (by rw [h1];exact hk)
 rw [h1,show ((allF r R B)[a]).getD k 0=((allF r R B)[a])[k] by simp [hk]] at h
 omega
end
end Go.Proofs.YtaekhhaaphgndaaGreatDoor
