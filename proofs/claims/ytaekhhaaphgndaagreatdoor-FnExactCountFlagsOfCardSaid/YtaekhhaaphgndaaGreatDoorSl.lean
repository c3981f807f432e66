/- Texts that belong together. -/
import Derived.Test.YtaekhhaaphgndaaGreatDoorW6
import Derived.Test.YtaekhhaaphgndaaGreatDoorSk
set_option linter.unusedSimpArgs false
set_option linter.unusedVariables false
set_option maxRecDepth 100000
namespace Go.Proofs.YtaekhhaaphgndaaGreatDoor
section
open Go.Gov Go.Fl Go.Kz
open Classical
noncomputable def fpF (M:List (List Int)):List (List Int):=allF (M.length:Int) (rkL M M.length) (blwL M M.length)
noncomputable def plB (M:List (List Int)):Bool:=decide (IsMan M∧off M M.length≤500∧(fpF M).length≤400∧(fpF M).length=fl M∧Pty M.length (rkL M M.length) (blwL M M.length) (fpF M))
noncomputable def plK (M:List (List Int)):Int:=if IsMan M then if off M M.length≤500∧(fpF M).length≤400 then 0 else 3 else 1
theorem fp_pos {M:List (List Int)}(hm:IsMan M)(hk:off M M.length≤500):IsPos (M.length:Int) (rkL M M.length) (blwL M M.length):=face_pos hm hk
theorem l03Polytopal_c (M:List (List Int))(hl:M.length≤1048576)(hr:∀ p∈M,p.length≤1048576):Pure Tryz.prog 20 [maniA M] (.tup [bl (plB M),i64 (plK M)]) []:=by
 unfold plB plK
 by_cases hm:IsMan M
 ·have r1:=hm.r1
  have r5:=hm.r5
  have f2:=hm.f2
  have f4:=hm.f4
  have hfg:=l02Flags_c M (by omega) (by omega) (by unfold fl at f4;omega)
  have hff:(M.getD 0 []).length=fl M:=rfl
  rw [hff] at hfg
  by_cases hk:off M M.length≤500
  ·have hp:=fp_pos hm hk
   have hfp:=specFp_y M hl hr hm hk
   have t1:=take_rk M
   have t2:=take_bl M
   have hrl:=rkL_len M M.length
   have hbl:=blwL_len M M.length
   obtain ⟨a1,a2,a3,a4,a5⟩:=hp.rank
   have hfl:=l03Flags_p _ _ _ hp _ rfl
   by_cases h4:(fpF M).length≤400
   ·have e4:(allF (M.length:Int) (rkL M M.length) (blwL M M.length)).take 401=fpF M:=List.take_of_length_le (by unfold fpF at h4;omega)
    rw [e4] at hfl
    refine pureV0 ok20 rfl rfl ?_;unfold c20
    refine RN ?_
    refine pureC1 (hfp) ?_
    refine RN ?_
    refine pureC hfl (by simp only [go_sem,↓reduceIte,Nat.reduceEqDiff,Nat.reduceAdd,reduceCtorEq,posetA,ints,mat,t1,t2,hrl,hbl]) (by simp only [go_sem,↓reduceIte,Nat.reduceEqDiff,Nat.reduceAdd,reduceCtorEq]) ?_
    refine RN ?_
    refine fun _=>?_
    refine RN ?_
    refine pureC1 (hfg) ?_
    refine RN ?_
    have hX:=allF_fs (r:=(M.length:Int)) (R:=rkL M M.length) (B:=blwL M M.length) a1
    have hxl:=allF_len (r:=(M.length:Int)) (R:=rkL M M.length) (B:=blwL M M.length) a2
    have hxa:=allF_at (r:=(M.length:Int)) (R:=rkL M M.length) (B:=blwL M M.length)
    have hpt:=l03Polytope_c _ _ _ hp (fpF M) h4 hX hxl hxa
    have t3:((fpF M).map oints).take (fpF M).length=(fpF M).map oints:=List.take_of_length_le (by simp)
    by_cases he:(fpF M).length=fl M
    ·have hbe:(((fpF M).length:Int) == (fl M:Int))=true:=by rw [beq_iff_eq];omega
     refine GCall.on hbe ?_
     simp only [hbe,hm,hk,h4,he,true_and,and_self,if_true,go_sem,↓reduceIte,Nat.reduceEqDiff,Nat.reduceAdd,reduceCtorEq]
     refine pureC hpt (by simp only [go_sem,↓reduceIte,Nat.reduceEqDiff,Nat.reduceAdd,reduceCtorEq,posetA,ints,mat,t1,t2,t3,hrl,hbl,← he]) (by simp only [go_sem,↓reduceIte,Nat.reduceEqDiff,Nat.reduceAdd,reduceCtorEq]) ?_
     refine RN ?_
     rw [he] at h4
     simp only [h4,true_and,if_true]
    ·have hbe:(((fpF M).length:Int) == (fl M:Int))=false:=by rw [beq_eq_false_iff_ne];omega
     refine GCall_no (bl false) hbe ?_
     simp only [hbe,hm,hk,h4,he,true_and,false_and,and_self,if_true,decide_false,go_sem,↓reduceIte,Nat.reduceEqDiff,Nat.reduceAdd,reduceCtorEq]
     (refine RN ?_;try with_reducible exact trivial)
   ·have e5 : ((allF (M.length : Int) (rkL M M.length) (blwL M M.length)).take 401).length = 401 := by
      rw [List.length_take]
      unfold fpF at h4
      omega
    generalize (allF (M.length:Int) (rkL M M.length) (blwL M M.length)).take 401=FT at *
    simp only [hm,hk,h4,false_and,and_false,if_false,if_true,decide_false]
    refine pureV0 ok20 rfl rfl ?_;unfold c20
    refine RN ?_
    refine pureC1 (hfp) ?_
    refine RN ?_
    refine pureC hfl (by simp only [go_sem,↓reduceIte,Nat.reduceEqDiff,Nat.reduceAdd,reduceCtorEq,posetA,ints,mat,t1,t2,hrl,hbl]) (by simp only [go_sem,↓reduceIte,Nat.reduceEqDiff,Nat.reduceAdd,reduceCtorEq]) ?_
    refine RN ?_
    refine ⟨fun _=>?_,fun h=>absurd h (by omega)⟩
    (refine RN ?_;try with_reducible exact trivial)
  ·simp only [hm,hk,false_and,and_false,if_false,if_true,decide_false]
   have hfp:=specFp_l M hl hr hm hk
   refine pureV0 ok20 rfl rfl ?_;unfold c20
   refine RN ?_
   refine pureC1 (hfp) ?_
   refine RN ?_
   refine ⟨fun _=>?_,fun h=>absurd h (by decide)⟩
   (refine RN ?_;try with_reducible exact trivial)
 ·simp only [hm,false_and,if_false,decide_false]
  have hfp:=specFp_n M hl hr hm
  refine pureV0 ok20 rfl rfl ?_;unfold c20
  refine RN ?_
  refine pureC1 (hfp) ?_
  refine RN ?_
  refine ⟨fun _=>?_,fun h=>absurd h (by decide)⟩
  (refine RN ?_;try with_reducible exact trivial)
theorem isPolytopal_n (M:List (List Int))(hl:M.length≤1048576)(hr:∀ p∈M,p.length≤1048576)(hm:IsMan M)(hk:¬ off M M.length≤500):PureG Tryz.prog tabZ 23 [maniA M] (.tup [bl (plB M),i64 (plK M)]) []:=by
 unfold plB plK
 simp only [hm,hk,false_and,and_false,if_false,if_true,decide_false]
 have hfp:=facePoset_n M hm hk
 refine pureGV ok23 rfl ?_;unfold c23
 refine RN ?_
 refine pureC1 (hfp) ?_
 refine RN ?_
 exact Ref.gc1 []
set_option maxHeartbeats 4000000 in
theorem isPolytopal_c (M:List (List Int))(hl:M.length≤1048576)(hr:∀ p∈M,p.length≤1048576)(hm:IsMan M):PureG Tryz.prog tabZ 23 [maniA M] (.tup [bl (plB M),i64 (plK M)]) []:=by
 by_cases hk:off M M.length≤500
 ·have r1:=hm.r1
  have r5:=hm.r5
  have f2:=hm.f2
  have f4:=hm.f4
  have hfg:=flags_c M (by omega) (by omega) (by unfold fl at f4;omega)
  have hff:(M.getD 0 []).length=fl M:=rfl
  rw [hff] at hfg
  have hp:=fp_pos hm hk
  have hfp:=facePoset_c M hm hk
  have t1:=take_rk M
  have t2:=take_bl M
  have hrl:=rkL_len M M.length
  have hbl:=blwL_len M M.length
  obtain ⟨a1,a2,a3,a4,a5⟩:=hp.rank
  have hfl:=flagsOf_i _ _ _ hp (by omega) (by omega) (fun xs h=>by have:=blwL_b M _ xs h;omega) _ _ rfl rfl
  change Gov.Pure _ _ _ (if (fpF M).length≤400 then .tup [.sl 0 1 0 (fpF M).length,i64 0] else .tup [nilS,i64 3]) (if (fpF M).length≤400 then [some ((fpF M).map oints)] else []) at hfl
  unfold plB plK
  by_cases h4:(fpF M).length≤400
  ·rw [if_pos h4,if_pos h4] at hfl
   have hX:=allF_fs (r:=(M.length:Int)) (R:=rkL M M.length) (B:=blwL M M.length) a1
   have hxl:=allF_len (r:=(M.length:Int)) (R:=rkL M M.length) (B:=blwL M M.length) a2
   have hxa:=allF_at (r:=(M.length:Int)) (R:=rkL M M.length) (B:=blwL M M.length)
   have hpt:=isPolytope_c _ _ _ hp (fpF M) h4 hX (allF_sm hp) hxl hxa
   have hsz:=sizeRows_c (fpF M) (by omega)
   have t3:((fpF M).map oints).take (fpF M).length=(fpF M).map oints:=List.take_of_length_le (by simp)
   refine pureGV ok23 rfl ?_;unfold c23
   refine RN ?_
   refine pureC1 (hfp) ?_
   refine RN ?_
   refine pureC hfl (by simp only [go_sem,↓reduceIte,Nat.reduceEqDiff,Nat.reduceAdd,reduceCtorEq,posetA,ints,mat,t1,t2,hrl,hbl]) (by simp only [go_sem,↓reduceIte,Nat.reduceEqDiff,Nat.reduceAdd,reduceCtorEq]) ?_
   refine RN ?_
   refine GCall.on rfl ?_
   refine pureC hsz (by simp only [go_sem,↓reduceIte,Nat.reduceEqDiff,Nat.reduceAdd,reduceCtorEq,mat,t3]) (by simp only [go_sem,↓reduceIte,Nat.reduceEqDiff,Nat.reduceAdd,reduceCtorEq]) ?_
   refine RN ?_
   refine GCall.on rfl ?_
   refine pureC1 (hfg) ?_
   refine RN ?_
   by_cases he:(fpF M).length=fl M
   ·have hbe:(((fpF M).length:Int) == (fl M:Int))=true:=by rw [beq_iff_eq];omega
    refine GCall.on hbe ?_
    simp only [hbe,hm,hk,h4,he,true_and,and_self,if_true,go_sem,↓reduceIte,Nat.reduceEqDiff,Nat.reduceAdd,reduceCtorEq]
    refine pureGC 0 hpt rfl (by simp only [go_sem,↓reduceIte,Nat.reduceEqDiff,Nat.reduceAdd,reduceCtorEq,posetA,ints,mat,t1,t2,t3,hrl,hbl,← he]) (by simp only [go_sem,↓reduceIte,Nat.reduceEqDiff,Nat.reduceAdd,reduceCtorEq]) ?_
    refine RN ?_
    rw [he] at h4
    simp only [h4,true_and,if_true]
    exact Ref.gc1 []
   ·have hbe:(((fpF M).length:Int) == (fl M:Int))=false:=by rw [beq_eq_false_iff_ne];omega
    refine GCall_no (bl false) hbe ?_
    simp only [hbe,hm,hk,h4,he,true_and,false_and,and_self,if_true,decide_false,go_sem,↓reduceIte,Nat.reduceEqDiff,Nat.reduceAdd,reduceCtorEq]
    refine RN ?_
    exact Ref.gc1 []
  ·rw [if_neg h4,if_neg h4] at hfl
   simp only [hm,hk,h4,false_and,and_false,if_false,if_true,decide_false]
   refine pureGV ok23 rfl ?_;unfold c23
   refine RN ?_
   refine pureC1 (hfp) ?_
   refine RN ?_
   refine pureC hfl (by simp only [go_sem,↓reduceIte,Nat.reduceEqDiff,Nat.reduceAdd,reduceCtorEq,posetA,ints,mat,t1,t2,hrl,hbl]) (by simp only [go_sem,↓reduceIte,Nat.reduceEqDiff,Nat.reduceAdd,reduceCtorEq]) ?_
   refine RN ?_
   refine GCall_no (i64 0) rfl ?_
   refine RN ?_
   refine GCall_no (i64 0) rfl ?_
   refine RN ?_
   refine GCall_no (bl false) rfl ?_
   refine RN ?_
   exact Ref.gc1 []
 ·exact isPolytopal_n M hl hr hm hk
end
section
open Go.Gov Go.Fl Go.Kz
open Classical
theorem pl_no {M:List (List Int)}(hm:¬ IsMan M):plB M=false∧plK M=1:=⟨decide_eq_false fun h=>hm h.1,if_neg hm⟩
end
end Go.Proofs.YtaekhhaaphgndaaGreatDoor
