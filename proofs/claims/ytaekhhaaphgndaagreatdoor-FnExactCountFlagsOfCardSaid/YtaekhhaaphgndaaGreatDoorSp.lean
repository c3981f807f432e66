/- Texts that belong together. -/
import Derived.Test.YtaekhhaaphgndaaGreatDoorSo
set_option linter.unusedSimpArgs false
set_option linter.unusedVariables false
set_option maxRecDepth 100000
namespace Go.Proofs.YtaekhhaaphgndaaGreatDoor
open Go.Gov Go.Fl Go.Kz
open Classical
def chI (n:Nat):Nat→Int
 | 0=>1
 | i+1=>(chI n i*((n:Int) - (i:Int))).tdiv ((i:Int)+1)
def wyI (a b:Nat):Nat→Int
 | 0=>1
 | i+1=>(wyI a b i*((a:Int) - (b:Int)+((i:Int)+1))).tdiv ((i:Int)+1)
theorem ch_b0:∀ n:Fin 13,∀ i:Fin 13,0≤chI n i∧chI n i≤1000:=by decide +kernel
theorem ch_b {n i:Nat}(hn:n≤12)(hi:i≤12):0≤chI n i∧chI n i≤1000:=ch_b0 ⟨n,by omega⟩ ⟨i,by omega⟩
theorem wy_b0:∀ n:Fin 7,∀ r:Fin 7,∀ i:Fin 7,i≤n→0≤wyI (n+r:Nat) n i∧wyI (n+r:Nat) n i≤1000:=by decide +kernel
theorem wy_b {n r i:Nat}(hn:n≤6)(hr:r≤6)(hi:i≤n):0≤wyI (n+r) n i∧wyI (n+r) n i≤1000:=wy_b0 ⟨n,by omega⟩ ⟨r,by omega⟩ ⟨i,by omega⟩ hi
theorem ch_wy0:∀ n:Fin 7,∀ r:Fin 7,wyI (n+r:Nat) n n=chI (n+r:Nat) n:=by decide +kernel
theorem ch_wy {n r:Nat}(hn:n≤6)(hr:r≤6):wyI (n+r) n n=chI (n+r) n:=ch_wy0 ⟨n,by omega⟩ ⟨r,by omega⟩
theorem mul_b {x y:Int}(hx:0≤x∧x≤1000)(hy : -20≤y∧y≤20) : -20000≤x*y∧x*y≤20000:=by
 have h1:x*y≤x*20:=Int.mul_le_mul_of_nonneg_left hy.2 hx.1
 have h2:x * -20≤x*y:=Int.mul_le_mul_of_nonneg_left hy.1 hx.1
 omega
theorem choose2_c (n k:Nat)(hn:n≤12)(hk:k≤n):Pure Tryz.prog 37 [i64 (n:Int),i64 (k:Int)] (i64 (chI n k)) []:=by
 refine pureV0 ok37 rfl rfl ?_;unfold c37
 refine RN ?_
 refine V_loop (α:=Nat) (S:=fun i=>([(0,i64 (n:Int)),(5,i64 (chI n i)),(7,i64 (k:Int)),(8,i64 (i:Int))],[])) (C:=fun i=>i≤k) (μ:=fun i=>k - i) 0 (by omega) (Ref.to rfl (by simp [sub,fget,chI])) ?_
 intro i hi
 have hb:=ch_b hn (show i≤12 by omega)
 refine RN ?_
 refine ⟨fun hc=>?_,fun hc=>?_⟩
 ·have hm:=mul_b hb (show -20≤(n:Int) - (i:Int)∧(n:Int) - (i:Int)≤20 by omega)
  have hb2:=ch_b hn (show i+1≤12 by omega)
  have hst:chI n (i+1)=(chI n i*((n:Int) - (i:Int))).tdiv ((i:Int)+1):=rfl
  rw [hst] at hb2
  refine RN ?_
  exact ⟨i+1,by omega,by omega,Ref.to rfl (by simp [sub,fget,hst])⟩
 ·obtain rfl:i=k:=by omega
  (refine RN ?_;try with_reducible exact trivial)
theorem ways_c (n r:Nat)(hn:n≤6)(hr:r≤6):Pure Tryz.prog 33 [i64 ((n+r:Nat):Int),i64 (n:Int)] (i64 (wyI (n+r) n n)) []:=by
 refine pureV0 ok33 rfl rfl ?_;unfold c33
 refine RN ?_
 refine V_loop (α:=Nat) (S:=fun i=>([(0,i64 ((n+r:Nat):Int)),(1,i64 (n:Int)),(5,i64 (wyI (n+r) n i)),(6,i64 ((i:Int)+1))],[])) (C:=fun i=>i≤n) (μ:=fun i=>n - i) 0 (by omega) (Ref.to rfl (by simp [sub,fget,wyI])) ?_
 intro i hi
 have hb:=wy_b hn hr hi
 refine RN ?_
 refine ⟨fun hc=>?_,fun hc=>?_⟩
 ·have hm:=mul_b hb (show -20≤((n+r:Nat):Int) - (n:Int)+((i:Int)+1)∧((n+r:Nat):Int) - (n:Int)+((i:Int)+1)≤20 by omega)
  have hb2:=wy_b hn hr (show i+1≤n by omega)
  have hst:wyI (n+r) n (i+1)=(wyI (n+r) n i*(((n+r:Nat):Int) - (n:Int)+((i:Int)+1))).tdiv ((i:Int)+1):=rfl
  rw [hst] at hb2
  refine RN ?_
  exact ⟨i+1,by omega,by omega,Ref.to rfl (by simp [sub,fget,hst])⟩
 ·obtain rfl:i=n:=by omega
  (refine RN ?_;try with_reducible exact trivial)
noncomputable def pcC (M K:List (List Int))(z:Int):Int:=if IsMan M∧IsMan K then if 0≤z∧z≤2 then if fpC M=0 then fpC K else fpC M else 2 else 1
noncomputable def pcV (M K:List (List Int))(z:Int):Int:=if pcC M K z=0 then (fl M:Int)*(fl K:Int)*chI (M.length+(if z=0 then 1 else 0)+(K.length+(if z=0 then 1 else 0))) (M.length+(if z=0 then 1 else 0)) else 0
theorem pcC_ok {M K:List (List Int)}{z:Int}(h:pcC M K z=0):IsMan M∧IsMan K∧0≤z∧z≤2:=by
 unfold pcC at h
 split at h
 ·rename_i h1
  split at h
  ·rename_i h2
   exact ⟨h1.1,h1.2,h2⟩
  ·cases h
 ·cases h
theorem l09Code_c (M K:List (List Int))(z:Int)(hl:M.length≤1048576)(hr:∀ p∈M,p.length≤1048576)(hl2:K.length≤1048576)(hr2:∀ p∈K,p.length≤1048576):Pure Tryz.prog 31 [maniA M,maniA K,i64 z] (i64 (pcC M K z)) []:=by
 have h1:=l02Is_c M hl hr
 have h2:=l02Is_c K hl2 hr2
 have g1:=l09Good_c M hl hr
 have g2:=l09Good_c K hl2 hr2
 unfold pcC
 generalize fpC M=c at *
 generalize fpC K=d at *
 by_cases hm:IsMan M
 ·rw [decide_eq_true hm] at h1
  by_cases hk:IsMan K
  ·rw [decide_eq_true hk] at h2
   simp only [hm,hk,and_self,if_true]
   refine pureV0 ok31 rfl rfl ?_;unfold c31
   refine RN ?_
   refine pureC1 (h1) ?_
   refine RN ?_
   refine GCall.on rfl ?_
   refine pureC1 (h2) ?_
   refine RN ?_
   refine pureC1 (l01In_c z 0 2) ?_
   refine RN ?_
   refine ⟨fun hc=>?_,fun hc=>?_⟩
   ·(refine RN ?_;try with_reducible exact trivial)
    rw [if_neg (by omega)]
   ·rw [if_pos hc]
    refine RN ?_
    refine pureC1 (g1) ?_
    refine RN ?_
    refine ⟨fun hc=>?_,fun hc=>?_⟩
    ·rw [if_pos hc]
     refine RN ?_
     refine pureC1 (g2) ?_
     (refine RN ?_;try with_reducible exact trivial)
    ·rw [if_neg hc]
     (refine RN ?_;try with_reducible exact trivial)
  ·rw [decide_eq_false hk] at h2
   simp only [hm,hk,and_false,if_false]
   refine pureV0 ok31 rfl rfl ?_;unfold c31
   refine RN ?_
   refine pureC1 (h1) ?_
   refine RN ?_
   refine GCall.on rfl ?_
   refine pureC1 (h2) ?_
   (refine RN ?_;try with_reducible exact trivial)
 ·rw [decide_eq_false hm] at h1
  simp only [hm,false_and,if_false]
  refine pureV0 ok31 rfl rfl ?_;unfold c31
  refine RN ?_
  refine pureC1 (h1) ?_
  refine RN ?_
  refine GCall_no (bl false) rfl ?_
  (refine RN ?_;try with_reducible exact trivial)
theorem productCode_c (M K:List (List Int))(z:Int)(hl:M.length≤1048576)(hr:∀ p∈M,p.length≤1048576)(hl2:K.length≤1048576)(hr2:∀ p∈K,p.length≤1048576):PureG Tryz.prog tabZ 34 [maniA M,maniA K,i64 z] (i64 (pcC M K z)) []:=by
 have h1:=isManiplex_c M hl hr
 have h2:=isManiplex_c K hl2 hr2
 unfold pcC
 by_cases hm:IsMan M
 ·rw [decide_eq_true hm] at h1
  by_cases hk:IsMan K
  ·rw [decide_eq_true hk] at h2
   simp only [hm,hk,and_self,if_true]
   refine pureGV ok34 rfl ?_;unfold c34
   refine RN ?_
   refine pureC1 (h1) ?_
   refine RN ?_
   refine GCall.on rfl ?_
   refine pureC1 (h2) ?_
   refine RN ?_
   refine pureC1 (within_c z 0 2) ?_
   refine RN ?_
   refine ⟨fun hc=>?_,fun hc=>?_⟩
   ·(refine RN ?_;try with_reducible exact trivial)
    rw [if_neg (by omega)]
    exact Ref.gc1 []
   ·rw [if_pos hc]
    refine RN ?_
    by_cases h0:fpC M=0
    ·rw [if_pos h0]
     have hfo:=facesOf_y M hl hr h0
     refine pureGC 0 hfo rfl (by simp only [go_sem,↓reduceIte,Nat.reduceEqDiff,Nat.reduceAdd,reduceCtorEq]) (by simp only [go_sem,↓reduceIte,Nat.reduceEqDiff,Nat.reduceAdd,reduceCtorEq]) ?_
     refine RN ?_
     by_cases h3:fpC K=0
     ·rw [h3]
      have hfo2:=facesOf_y K hl2 hr2 h3
      refine pureGC 0 hfo2 rfl (by simp only [go_sem,↓reduceIte,Nat.reduceEqDiff,Nat.reduceAdd,reduceCtorEq]) (by simp only [go_sem,↓reduceIte,Nat.reduceEqDiff,Nat.reduceAdd,reduceCtorEq]) ?_
      refine RN ?_
      exact Ref.gc1 []
     ·have hfo2:=facesOf_n K hl2 hr2 h3
      generalize fpC K=c at *
      refine pureGC 0 hfo2 rfl (by simp only [go_sem,↓reduceIte,Nat.reduceEqDiff,Nat.reduceAdd,reduceCtorEq]) (by simp only [go_sem,↓reduceIte,Nat.reduceEqDiff,Nat.reduceAdd,reduceCtorEq]) ?_
      refine RN ?_
      exact Ref.gc1 []
    ·rw [if_neg h0]
     have hfo:=facesOf_n M hl hr h0
     generalize fpC M=c at *
     refine pureGC 0 hfo rfl (by simp only [go_sem,↓reduceIte,Nat.reduceEqDiff,Nat.reduceAdd,reduceCtorEq]) (by simp only [go_sem,↓reduceIte,Nat.reduceEqDiff,Nat.reduceAdd,reduceCtorEq]) ?_
     refine RN ?_
     refine fun _=>?_
     refine RN ?_
     exact Ref.gc1 []
  ·rw [decide_eq_false hk] at h2
   simp only [hm,hk,and_false,if_false]
   refine pureGV ok34 rfl ?_;unfold c34
   refine RN ?_
   refine pureC1 (h1) ?_
   refine RN ?_
   refine GCall.on rfl ?_
   refine pureC1 (h2) ?_
   refine RN ?_
   exact Ref.gc1 []
 ·rw [decide_eq_false hm] at h1
  simp only [hm,false_and,if_false]
  refine pureGV ok34 rfl ?_;unfold c34
  refine RN ?_
  refine pureC1 (h1) ?_
  refine RN ?_
  refine GCall_no (bl false) rfl ?_
  refine RN ?_
  exact Ref.gc1 []
theorem fl_mul {M K:List (List Int)}(hm:IsMan M)(hk:IsMan K){x:Int}(hx:0≤x∧x≤1000):(0≤(fl M:Int)*(fl K:Int)∧(fl M:Int)*(fl K:Int)≤160000)∧0≤(fl M:Int)*(fl K:Int)*x∧(fl M:Int)*(fl K:Int)*x≤160000000:=by
 have f4:=hm.f4
 have g4:=hk.f4
 have h1:(fl M:Int)*(fl K:Int)≤400*400:=by
  have:fl M*fl K≤400*400:=Nat.mul_le_mul f4 g4
  rw [← Int.natCast_mul];omega
 have h0:0≤(fl M:Int)*(fl K:Int):=by rw [← Int.natCast_mul];omega
 have h2:(fl M:Int)*(fl K:Int)*x≤(fl M:Int)*(fl K:Int)*1000:=Int.mul_le_mul_of_nonneg_left hx.2 h0
 have h3:0≤(fl M:Int)*(fl K:Int)*x:=Int.mul_nonneg h0 hx.1
 omega
theorem specCf_c (M K:List (List Int))(z:Int)(hl:M.length≤1048576)(hr:∀ p∈M,p.length≤1048576)(hl2:K.length≤1048576)(hr2:∀ p∈K,p.length≤1048576):Pure Tryz.prog 17 [maniA M,maniA K,i64 z] (.tup [i64 (pcV M K z),i64 (pcC M K z)]) []:=by
 have hpc:=l09Code_c M K z hl hr hl2 hr2
 by_cases h0:pcC M K z=0
 ·obtain ⟨hm,hk,z0,z2⟩:=pcC_ok h0
  have hfg:=l02Flags_c M (by have:=hm.r1;omega) (by omega) (by have:=hm.f4;unfold fl at this;omega)
  have hff:(M.getD 0 []).length=fl M:=rfl
  rw [hff] at hfg
  have hfk:=l02Flags_c K (by have:=hk.r1;omega) (by omega) (by have:=hk.f4;unfold fl at this;omega)
  have hffk:(K.getD 0 []).length=fl K:=rfl
  rw [hffk] at hfk
  have r5:=hm.r5
  have s5:=hk.r5
  unfold pcV
  rw [if_pos h0]
  rw [h0] at hpc ⊢
  by_cases hz:z=0
  ·subst hz
   have hw:=ways_c (M.length+1) (K.length+1) (by omega) (by omega)
   rw [ch_wy (by omega) (by omega)] at hw
   have hb:=fl_mul hm hk (ch_b (n:=M.length+1+(K.length+1)) (i:=M.length+1) (by omega) (by omega))
   simp only [if_true]
   generalize chI (M.length+1+(K.length+1)) (M.length+1)=x at *
   push_cast at hw
   have hb1:=hb.1.1
   have hb2:=hb.1.2
   have hb3:=hb.2.1
   have hb4:=hb.2.2
   generalize hq:(fl M:Int)*(fl K:Int)=q at *
   refine pureV0 ok17 rfl rfl ?_;unfold c17
   refine RN ?_
   refine pureC1 (hpc) ?_
   refine RN ?_
   refine pureC1 (hfg) ?_
   refine RN ?_
   refine pureC1 (hfk) ?_
   refine RN ?_
   simp only [hq,go_sem,↓reduceIte,Nat.reduceEqDiff,Nat.reduceAdd,reduceCtorEq]
   refine RN ?_
   refine pureC1 (hw) ?_
   (refine RN ?_;try with_reducible exact trivial)
  ·have hw:=ways_c (M.length) (K.length) (by omega) (by omega)
   rw [ch_wy (by omega) (by omega)] at hw
   have hb:=fl_mul hm hk (ch_b (n:=M.length+(K.length)) (i:=M.length) (by omega) (by omega))
   simp only [if_neg hz,Nat.add_zero]
   generalize chI (M.length+K.length) M.length=x at *
   push_cast at hw
   have hb1:=hb.1.1
   have hb2:=hb.1.2
   have hb3:=hb.2.1
   have hb4:=hb.2.2
   generalize hq:(fl M:Int)*(fl K:Int)=q at *
   refine pureV0 ok17 rfl rfl ?_;unfold c17
   refine RN ?_
   refine pureC1 (hpc) ?_
   refine RN ?_
   refine fun _=>?_
   refine RN ?_
   refine pureC1 (hfg) ?_
   refine RN ?_
   refine pureC1 (hfk) ?_
   refine RN ?_
   simp only [hq,go_sem,↓reduceIte,Nat.reduceEqDiff,Nat.reduceAdd,reduceCtorEq]
   refine RN ?_
   refine pureC1 (hw) ?_
   (refine RN ?_;try with_reducible exact trivial)
 ·have hv:pcV M K z=0:=if_neg h0
  rw [hv]
  generalize pcC M K z=c at *
  refine pureV0 ok17 rfl rfl ?_;unfold c17
  refine RN ?_
  refine pureC1 (hpc) ?_
  refine RN ?_
  refine ⟨fun _=>?_,fun h=>absurd h h0⟩
  (refine RN ?_;try with_reducible exact trivial)
theorem implCf_c (M K:List (List Int))(z:Int)(hl:M.length≤1048576)(hr:∀ p∈M,p.length≤1048576)(hl2:K.length≤1048576)(hr2:∀ p∈K,p.length≤1048576):PureG Tryz.prog tabZ 18 [maniA M,maniA K,i64 z] (.tup [i64 (pcV M K z),i64 (pcC M K z)]) []:=by
 have hpc:=productCode_c M K z hl hr hl2 hr2
 by_cases h0:pcC M K z=0
 ·obtain ⟨hm,hk,z0,z2⟩:=pcC_ok h0
  have hfg:=flags_c M (by have:=hm.r1;omega) (by omega) (by have:=hm.f4;unfold fl at this;omega)
  have hff:(M.getD 0 []).length=fl M:=rfl
  rw [hff] at hfg
  have hfk:=flags_c K (by have:=hk.r1;omega) (by omega) (by have:=hk.f4;unfold fl at this;omega)
  have hffk:(K.getD 0 []).length=fl K:=rfl
  rw [hffk] at hfk
  have r5:=hm.r5
  have s5:=hk.r5
  have hrm:=rank_c M (by omega)
  have hrk:=rank_c K (by omega)
  unfold pcV
  rw [if_pos h0]
  rw [h0] at hpc ⊢
  by_cases hz:z=0
  ·subst hz
   have hw:=choose2_c (M.length+1+(K.length+1)) (M.length+1) (by omega) (by omega)
   have hb:=fl_mul hm hk (ch_b (n:=M.length+1+(K.length+1)) (i:=M.length+1) (by omega) (by omega))
   simp only [if_true]
   generalize chI (M.length+1+(K.length+1)) (M.length+1)=x at *
   push_cast at hw
   have hb1:=hb.1.1
   have hb2:=hb.1.2
   have hb3:=hb.2.1
   have hb4:=hb.2.2
   generalize hq:(fl M:Int)*(fl K:Int)=q at *
   refine pureGV ok18 rfl ?_;unfold c18
   refine RN ?_
   refine pureGC1 (hpc) ?_
   refine RN ?_
   refine pureC1 (hrm) ?_
   refine RN ?_
   refine pureC1 (hrk) ?_
   refine RN ?_
   refine pureC1 (hfg) ?_
   refine RN ?_
   refine pureC1 (hfk) ?_
   refine RN ?_
   simp only [hq,go_sem,↓reduceIte,Nat.reduceEqDiff,Nat.reduceAdd,reduceCtorEq]
   refine RN ?_
   refine pureC1 (hw) ?_
   refine RN ?_
   exact Ref.gc1 []
  ·have hw:=choose2_c (M.length+(K.length)) (M.length) (by omega) (by omega)
   have hb:=fl_mul hm hk (ch_b (n:=M.length+(K.length)) (i:=M.length) (by omega) (by omega))
   simp only [if_neg hz,Nat.add_zero]
   generalize chI (M.length+K.length) M.length=x at *
   push_cast at hw
   have hb1:=hb.1.1
   have hb2:=hb.1.2
   have hb3:=hb.2.1
   have hb4:=hb.2.2
   generalize hq:(fl M:Int)*(fl K:Int)=q at *
   refine pureGV ok18 rfl ?_;unfold c18
   refine RN ?_
   refine pureGC1 (hpc) ?_
   refine RN ?_
   refine pureC1 (hrm) ?_
   refine RN ?_
   refine pureC1 (hrk) ?_
   refine RN ?_
   refine fun _=>?_
   refine RN ?_
   refine pureC1 (hfg) ?_
   refine RN ?_
   refine pureC1 (hfk) ?_
   refine RN ?_
   simp only [hq,go_sem,↓reduceIte,Nat.reduceEqDiff,Nat.reduceAdd,reduceCtorEq]
   refine RN ?_
   refine pureC1 (hw) ?_
   refine RN ?_
   exact Ref.gc1 []
 ·have hv:pcV M K z=0:=if_neg h0
  rw [hv]
  generalize pcC M K z=c at *
  refine pureGV ok18 rfl ?_;unfold c18
  refine RN ?_
  refine pureGC1 (hpc) ?_
  refine RN ?_
  refine ⟨fun _=>?_,fun h=>absurd h h0⟩
  refine RN ?_
  exact Ref.gc1 []
end Go.Proofs.YtaekhhaaphgndaaGreatDoor
