/- Texts that belong together. -/
import Derived.Test.YtaekhhaaphgndaaGreatDoorSl
set_option linter.unusedSimpArgs false
set_option linter.unusedVariables false
set_option maxRecDepth 100000
namespace Go.Proofs.YtaekhhaaphgndaaGreatDoor
open Go.Gov Go.Fl Go.Kz
open Classical
noncomputable def fpC (M:List (List Int)):Int:=if plK M=0 then if plB M then 0 else 5 else plK M
theorem fpC_ok {M:List (List Int)}(h:fpC M=0):IsMan M∧off M M.length≤500∧plK M=0∧plB M=true:=by
 unfold fpC at h
 split at h
 ·rename_i h1
  split at h
  ·rename_i h2
   have:=of_decide_eq_true h2
   exact ⟨this.1,this.2.1,h1,h2⟩
  ·cases h
 ·exact absurd h (by assumption)
theorem l09Good_c (M:List (List Int))(hl:M.length≤1048576)(hr:∀ p∈M,p.length≤1048576):Pure Tryz.prog 26 [maniA M] (i64 (fpC M)) []:=by
 have hp:=l03Polytopal_c M hl hr
 unfold fpC
 generalize plB M=b at *
 generalize plK M=k at *
 refine pureV0 ok26 rfl rfl ?_;unfold c26
 refine RN ?_
 refine pureC1 (hp) ?_
 refine RN ?_
 refine ⟨fun hc=>?_,fun hc=>?_⟩
 ·obtain ⟨rfl,rfl⟩:=hc
  (refine RN ?_;try with_reducible exact trivial)
 ·(refine RN ?_;try with_reducible exact trivial)
  by_cases h:k=0
  ·rcases hc with hc | hc
   ·exact absurd h hc
   ·simp [h,hc]
  ·simp [h]
set_option maxHeartbeats 4000000 in
theorem facesOf_y (M:List (List Int))(hl:M.length≤1048576)(hr:∀ p∈M,p.length≤1048576)(h0:fpC M=0):PureG Tryz.prog tabZ 28 [maniA M] (.tup [.agg [.sl 0 1 0 (off M M.length+2),i64 M.length,.sl 1 1 0 (off M M.length),.sl 2 1 0 (off M M.length)],i64 0]) [some (intsC (-1 :: (rkL M M.length++[(M.length:Int)]))),some (intsC (rkL M M.length)),some ((blwL M M.length).map oints)]:=by
 obtain ⟨hm,hk,e1,e2⟩:=fpC_ok h0
 have hp:=isPolytopal_c M hl hr hm
 have hfp:=facePoset_c M hm hk
 have t1:=take_rk M
 have hrl:=rkL_len M M.length
 have r5:=hm.r5
 rw [e1,e2] at hp
 refine pureGV ok28 rfl ?_;unfold c28
 refine RN ?_
 refine pureC1 (isManiplex_c M hl hr) ?_
 simp only [hm,go_sem,↓reduceIte,Nat.reduceEqDiff,Nat.reduceAdd,reduceCtorEq]
 refine RN ?_
 refine pureGC1 (hp) ?_
 refine RN ?_
 refine pureC1 (hfp) ?_
 refine RN ?_
 have hbl:=blwL_len M M.length
 have hk2:off M M.length≤500:=hk
 obtain ⟨rk,hrk⟩:∃ rk,rk=rkL M M.length:=⟨_,rfl⟩
 obtain ⟨bw,hbw⟩:∃ bw,bw=blwL M M.length:=⟨_,rfl⟩
 obtain ⟨o,ho⟩:∃ o,o=off M M.length:=⟨_,rfl⟩
 rw [← hrk,← ho] at t1 hrl
 rw [← ho] at hk2
 rw [← hrk,← hbw,← ho]
 clear hfp hp
 simp only [t1,all_plain_intsC,all_one_intsC,true_and,go_sem,↓reduceIte,Nat.reduceEqDiff,Nat.reduceAdd,reduceCtorEq]
 refine ⟨by omega,by omega,?_⟩
 refine RN ?_
 have sp1:∀ w x y z a b c:AV,splice [w,x,y,z] 1 [a,b,c]=[w,a,b,c]:=fun _ _ _ _ _ _ _=>rfl
 have sp2:∀ w x y z e a b c:AV,splice [w,x,y,z] 0 [e,a,b,c]=[e,a,b,c]:=fun _ _ _ _ _ _ _ _=>rfl
 refine V_altsS [(2,.ref 1 0),(3,i64 0)] [some (gvs tabZ),some [.sl 2 1 0 (1+o+1),i64 M.length,.sl 3 1 0 o,.sl 4 1 0 o],some (intsC (-1 :: (rk++[(M.length:Int)]))),some (intsC rk),some (bw.map oints)] ?_ ?_
 ·repeat' first
    | simp only [sp1,sp2,go_sem,↓reduceIte,Nat.reduceEqDiff,Nat.reduceAdd,reduceCtorEq]
    | with_reducible refine LT_reg ?_
    | with_reducible refine LT_fin ?_
    | with_reducible exact LT_tt
    | with_reducible refine LT_alt ?_ ?_
    | (with_reducible refine And.intro ?_ ?_;focus first | assumption | omega | grind)
  all_goals
   refine Ref.gc [0,2,9,3,4] rfl ?_ (by simp [sub,fget,go_sem,↓reduceIte,Nat.reduceEqDiff,Nat.reduceAdd,reduceCtorEq])
   have t4:(i64 (-1) :: intsC rk).take (1+o)=i64 (-1) :: intsC rk:=List.take_of_length_le (by simp [intsC];omega)
   simp only [t4,rnmL_orows,rnmL_ints,go_sem,↓reduceIte,Nat.reduceEqDiff,Nat.reduceAdd,reduceCtorEq]
   simp [gvs,intsC,rnmL_map,rnm]
 ·(refine RN ?_;try with_reducible exact trivial)
  exact Ref.gc [2,3,4] rfl (by simp only [rnmL_orows,rnmL_ints,go_sem,↓reduceIte,Nat.reduceEqDiff,Nat.reduceAdd,reduceCtorEq]) (by simp [sub,fget,go_sem,↓reduceIte,Nat.reduceEqDiff,Nat.reduceAdd,reduceCtorEq];omega)
theorem facesOf_n (M:List (List Int))(hl:M.length≤1048576)(hr:∀ p∈M,p.length≤1048576)(h0:fpC M≠0):PureG Tryz.prog tabZ 28 [maniA M] (.tup [.agg [nilS,i64 0,nilS,nilS],i64 (fpC M)]) []:=by
 by_cases hm:IsMan M
 ·have hp:=isPolytopal_c M hl hr hm
  unfold fpC at h0 ⊢
  generalize plB M=b at *
  generalize plK M=k at *
  refine pureGV ok28 rfl ?_;unfold c28
  refine RN ?_
  refine pureC1 (isManiplex_c M hl hr) ?_
  simp only [hm,go_sem,↓reduceIte,Nat.reduceEqDiff,Nat.reduceAdd,reduceCtorEq]
  refine RN ?_
  refine pureGC1 (hp) ?_
  refine RN ?_
  refine ⟨fun hc=>?_,fun hc=>?_⟩
  ·(refine RN ?_;try with_reducible exact trivial)
   rw [if_neg hc]
   exact Ref.gc [] rfl (by simp only [go_sem,↓reduceIte,Nat.reduceEqDiff,Nat.reduceAdd,reduceCtorEq]) (by simp [sub,fget,rnm,rnmL,splice,go_sem,↓reduceIte,Nat.reduceEqDiff,Nat.reduceAdd,reduceCtorEq])
  ·subst hc
   cases b with
   | true=>exact absurd rfl h0
   | false=>
    refine RN ?_
    exact Ref.gc [] rfl (by simp only [go_sem,↓reduceIte,Nat.reduceEqDiff,Nat.reduceAdd,reduceCtorEq]) (by simp [sub,fget,rnm,rnmL,splice,go_sem,↓reduceIte,Nat.reduceEqDiff,Nat.reduceAdd,reduceCtorEq])
 ·obtain ⟨e1,e2⟩:=pl_no hm
  have e3:fpC M=1:=by unfold fpC;rw [e2];rfl
  rw [e3]
  refine pureGV ok28 rfl ?_;unfold c28
  refine RN ?_
  refine pureC1 (isManiplex_c M hl hr) ?_
  simp only [hm,go_sem,↓reduceIte,Nat.reduceEqDiff,Nat.reduceAdd,reduceCtorEq]
  refine RN ?_
  exact Ref.gc [] rfl (by simp only [go_sem,↓reduceIte,Nat.reduceEqDiff,Nat.reduceAdd,reduceCtorEq]) (by simp [sub,fget,rnm,rnmL,splice,go_sem,↓reduceIte,Nat.reduceEqDiff,Nat.reduceAdd,reduceCtorEq])
end Go.Proofs.YtaekhhaaphgndaaGreatDoor
