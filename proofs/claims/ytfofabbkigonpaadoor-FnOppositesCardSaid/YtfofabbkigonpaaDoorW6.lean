/- Texts that belong together. -/
import Derived.Test.YtfofabbkigonpaaDoorW4
import Derived.Test.YtfofabbkigonpaaDoorW5
set_option linter.unusedSimpArgs false
set_option linter.unusedVariables false
set_option maxRecDepth 100000
namespace Go.Proofs.YtfofabbkigonpaaDoor
section
open Go.Gov Go.Fl Go.Kz
open Classical
def Fi (r:Int)(R:List Int)(B:List (List Int))(F:List (List Int)):Prop:=0<F.length∧Jn R F∧Fc r R B∧Il F
end
section
open Go.Gov Go.Fl Go.Kz
open Classical
set_option maxHeartbeats 4000000 in
theorem jV (r : Int) (R : List Int) (B : List (List Int)) (hp : IsPos r R B) (F : List (List Int)) (hF : F.length ≤ 400) (hX : Fs r.toNat F) (hS : Sm F) (hl : ∀ i : Nat, (F.getD i []).length ≤ 5) (hb : ∀ i : Nat, ∀ k, k < (F.getD i []).length → 0 ≤ (F.getD i []).getD k 0 ∧ (F.getD i []).getD k 0 ≤ (R.length : Int) - 1) :
    D9 Tryd.prog Bh 28 [A6 r R B,Ae F] (bl (decide (Fi r R B F))) []:=by
 obtain ⟨a1,a2,a3,a4,a5⟩:=hp.rank
 have hpu:=jW r R B (by omega) F (by omega) hl hb
 have hfa:=Qk r R B hp
 have hcf:=fV F r.toNat hX hS (by omega) (by omega) hF
 refine Kp oY rfl ?_;unfold Ue
 refine RN ?_
 by_cases h0:0<F.length
 ·have d0:decide ((0:Int)<(F.length:Int))=true:=decide_eq_true (by omega)
  rw [d0]
  by_cases hcv:Jn R F
  ·rw [decide_eq_true hcv] at hpu
   refine G2 (bl true ) (fun hg =>  hpu) ?_
   refine ⟨fun _=>⟨by omega,by simp only [go_sem,↓reduceIte,Nat.reduceEqDiff,Nat.reduceAdd,reduceCtorEq]⟩,?_⟩
   simp only [go_sem,↓reduceIte,Nat.reduceEqDiff,Nat.reduceAdd,reduceCtorEq,cond_true]
   refine GCall.on rfl ?_
   refine B3 hfa (by simp only [go_sem,↓reduceIte,Nat.reduceEqDiff,Nat.reduceAdd,reduceCtorEq]<;>rfl) (fun o=>by by_cases h:o=[]<;>simp [h,nf,Cj,Aa,go_sem,↓reduceIte,Nat.reduceEqDiff,Nat.reduceAdd,reduceCtorEq]) fun o ho=>?_
   by_cases hd:o=[]
   ·subst hd
    have hdi:=ho.2.1 rfl
    simp only [if_true,go_sem,↓reduceIte,Nat.reduceEqDiff,Nat.reduceAdd,reduceCtorEq]
    have hn:∀ H:Heap,Eh H Ag=some true:=fun _=>rfl
    simp only [hn,Option.isSome_some,Option.getD_some,true_and,go_sem,↓reduceIte,Nat.reduceEqDiff,Nat.reduceAdd,reduceCtorEq]
    refine GCall.on rfl ?_
    refine Zl 0 hcf rfl (by simp only [go_sem,↓reduceIte,Nat.reduceEqDiff,Nat.reduceAdd,reduceCtorEq]<;>rfl) (fun o=>by by_cases h:o=[]<;>simp [h,nf,Cj,Aa,go_sem,↓reduceIte,Nat.reduceEqDiff,Nat.reduceAdd,reduceCtorEq]) fun o ho=>?_
    by_cases hk:o=[]
    ·subst hk
     have dp:decide (Fi r R B F)=true:=decide_eq_true ⟨h0,hcv,hdi,ho.2.1 rfl⟩
     rw [dp]
     simp only [if_true,go_sem,↓reduceIte,Nat.reduceEqDiff,Nat.reduceAdd,reduceCtorEq]
     simp only [hn,Option.isSome_some,Option.getD_some,true_and,go_sem,↓reduceIte,Nat.reduceEqDiff,Nat.reduceAdd,reduceCtorEq]
     refine RN ?_
     exact Ref.gc1 []
    ·have hnl:¬ Il F:=fun h=>hk (ho.2.2 h)
     have dp:decide (Fi r R B F)=false:=decide_eq_false fun h=>hnl h.2.2.2
     rw [dp]
     obtain ⟨m,hm⟩:∃ m,o.length=m+1:=⟨o.length - 1,by
      have:o.length≠0:=fun e=>hk (List.length_eq_zero_iff.1 e)
      omega⟩
     have hn2:∀ C,Eh [some (Ay Bh),some [i64 r,Ad R,Ae B],some C] (.sl 2 1 0 (m+1))=some false:=fun _=>rfl
     simp only [if_neg hk,hm,hn2,Option.isSome_some,Option.getD_some,true_and,go_sem,↓reduceIte,Nat.reduceEqDiff,Nat.reduceAdd,reduceCtorEq]
     refine RN ?_
     exact Ref.gc1 []
   ·have hdi:¬ Fc r R B:=fun h=>hd (ho.2.2 h)
    have dp:decide (Fi r R B F)=false:=decide_eq_false fun h=>hdi h.2.2.1
    rw [dp]
    obtain ⟨m,hm⟩:∃ m,o.length=m+1:=⟨o.length - 1,by
     have:o.length≠0:=fun e=>hd (List.length_eq_zero_iff.1 e)
     omega⟩
    have hn2:∀ C,Eh [some (Ay Bh),some [i64 r,Ad R,Ae B],some C] (.sl 2 1 0 (m+1))=some false:=fun _=>rfl
    simp only [if_neg hd,hm,hn2,Option.isSome_some,Option.getD_some,true_and,go_sem,↓reduceIte,Nat.reduceEqDiff,Nat.reduceAdd,reduceCtorEq]
    refine Dz Ag rfl ?_
    refine RN ?_
    exact Ref.gc1 []
  ·have dp:decide (Fi r R B F)=false:=decide_eq_false fun h=>hcv h.2.1
   rw [decide_eq_false hcv] at hpu
   rw [dp]
   refine G2 (bl false ) (fun hg =>  hpu) ?_
   refine ⟨fun _=>⟨by omega,by simp only [go_sem,↓reduceIte,Nat.reduceEqDiff,Nat.reduceAdd,reduceCtorEq]⟩,?_⟩
   simp only [go_sem,↓reduceIte,Nat.reduceEqDiff,Nat.reduceAdd,reduceCtorEq,cond_true]
   refine Dz Ag rfl ?_
   refine RN ?_
   refine Dz Ag rfl ?_
   refine RN ?_
   exact Ref.gc1 []
 ·have d0:decide ((0:Int)<(F.length:Int))=false:=decide_eq_false (by omega)
  have dp:decide (Fi r R B F)=false:=decide_eq_false fun h=>h0 h.1
  rw [dp,d0]
  refine Dz (bl false) rfl ?_
  refine ⟨fun h=>(by cases h),?_⟩
  simp only [go_sem,↓reduceIte,Nat.reduceEqDiff,Nat.reduceAdd,reduceCtorEq,cond_false]
  refine Dz Ag rfl ?_
  refine RN ?_
  refine Dz Ag rfl ?_
  refine RN ?_
  exact Ref.gc1 []
end
section
open Go.Gov Go.Fl Go.Kz
open Classical
noncomputable def Lx (r:Int)(R:List Int)(B:List (List Int)):Bool:=if IsPos r R B∧(Ax r R B).length≤400 then decide (Fi r R B (Ax r R B)) else false
theorem dG {r:Int}{R:List Int}{B:List (List Int)}(hp:IsPos r R B):Sm (Ax r R B):=by
 obtain ⟨a1,a2,a3,a4,a5⟩:=hp.rank
 intro x hx e he
 obtain ⟨a,ha,rfl⟩:=List.mem_iff_getElem.1 hx
 obtain ⟨k,hk,rfl⟩:=List.mem_iff_getElem.1 he
 have h1:(Ax r R B).getD a []=(Ax r R B)[a]:=by simp [ha]
 have h:=S5 (r:=r) (R:=R) (B:=B) a k (by rw [h1];exact hk)
 rw [h1,show ((Ax r R B)[a]).getD k 0=((Ax r R B)[a])[k] by simp [hk]] at h
 omega
theorem W1 (r:Int)(R:List Int)(B:List (List Int))(h1:R.length≤1048576)(hl:B.length≤1048576)(hr:∀ xs∈B,xs.length≤1048576):D9 Tryd.prog Bh 11 [A6 r R B] (.tup [bl (Lx r R B),i64 (L6 r R B)]) []:=by
 unfold Lx L6
 refine Kp oK rfl ?_;unfold Tz
 refine RN ?_
 by_cases hp:IsPos r R B
 ·obtain ⟨a1,a2,a3,a4,a5⟩:=hp.rank
  have hfl:=iD r R B hp h1 hl hr _ _ rfl rfl
  by_cases hk:(Ax r R B).length≤400
  ·rw [if_pos hk,if_pos hk] at hfl
   refine An (hfl) ?_
   simp only [if_pos hp,if_pos hk,if_pos (And.intro hp hk)]
   refine RN ?_
   refine bS (bl (decide (Fi r R B (Ax r R B))) ) (fun hg =>  jV r R B hp (Ax r R B) hk (Pz a1) (dG hp) (dF a2) (S5 (r:=r))) ?_
   refine RN ?_
   exact Ref.gc1 []
  ·rw [if_neg hk,if_neg hk] at hfl
   refine An (hfl) ?_
   simp only [if_pos hp,if_neg hk,if_neg (fun h:IsPos r R B∧(Ax r R B).length≤400=>hk h.2)]
   refine RN ?_
   refine Dz (bl false) rfl ?_
   refine RN ?_
   exact Ref.gc1 []
 ·refine An (iE r R B hp h1 hl hr) ?_
  simp only [if_neg hp,if_neg (fun h:IsPos r R B∧(Ax r R B).length≤400=>hp h.1)]
  refine RN ?_
  refine Dz (bl false) rfl ?_
  refine RN ?_
  exact Ref.gc1 []
end
end Go.Proofs.YtfofabbkigonpaaDoor
