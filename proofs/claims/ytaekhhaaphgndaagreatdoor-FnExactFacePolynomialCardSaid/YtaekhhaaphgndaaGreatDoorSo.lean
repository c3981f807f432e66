/- Texts that belong together. -/
import Derived.Test.YtaekhhaaphgndaaGreatDoorSl
set_option linter.unusedSimpArgs false
set_option linter.unusedVariables false
set_option maxRecDepth 100000
namespace Go.Proofs.YtaekhhaaphgndaaGreatDoor
open Go.Gov Go.Fl Go.Kz
open Classical
noncomputable def fpC (M:List (List Int)):Int:=if plK M=0 then if plB M then 0 else 5 else plK M
noncomputable def fpV (M:List (List Int)):List Int:=if fpC M=0 then 1 :: (fcV (fl M) M M.length++[1]) else []
theorem fpC_ok {M:List (List Int)}(h:fpC M=0):IsMan M∧off M M.length≤500∧plK M=0∧plB M=true:=by
 unfold fpC at h
 split at h
 ·rename_i h1
  split at h
  ·rename_i h2
   have:=of_decide_eq_true h2
   exact ⟨this.1,this.2.1,h1,h2⟩
  ·cases h
 ·exact absurd h (by assumption)
theorem fpV_len (M:List (List Int)):(fpV M).length≤1099511627776:=by
 unfold fpV
 split
 ·rename_i h
  have:=(fpC_ok h).1.r5
  simp [fcV_len]
  omega
 ·simp
theorem rkL_cnt (M:List (List Int))(i:Nat):∀ m,(rkL M m).count (i:Int)=if i<m then nf M i else 0
 | 0=>by simp [rkL]
 | m+1=>by
  unfold rkL
  rw [List.count_append,rkL_cnt M i m,List.count_replicate]
  by_cases h2:i=m
  ·subst h2;simp
  ·have hb:((m:Int) == (i:Int))=false:=by rw [beq_eq_false_iff_ne];omega
   rw [hb]
   simp only [show (i<m+1)=(i<m) from propext ⟨fun h=>by omega,fun h=>by omega⟩]
   simp
theorem cnt_rk (M:List (List Int)):cntV (M.length:Int) (rkL M M.length)=fcV (fl M) M M.length:=by
 unfold cntV fcV
 simp only [Int.toNat_natCast]
 refine List.map_congr_left fun i hi=>?_
 rw [rkL_cnt,if_pos (List.mem_range.1 hi)]
 rfl
theorem l09Good_c (M:List (List Int))(hl:M.length≤1048576)(hr:∀ p∈M,p.length≤1048576):Pure Tryz.prog 26 [maniA M] (i64 (fpC M)) []:=by
 have hp:=l03Polytopal_c M hl hr
 unfold fpC
 generalize plB M=b at *
 generalize plK M=k at *
 refine pureV0 ok26 rfl rfl ?_;unfold c26
 refine RN ?_
 refine pureC1 (hp) ?_
 refine RN ?_
 refine ⟨fun hc=>?_,fun hc=>?_⟩
 ·obtain ⟨rfl,rfl⟩:=hc
  (refine RN ?_;try with_reducible exact trivial)
 ·(refine RN ?_;try with_reducible exact trivial)
  by_cases h:k=0
  ·rcases hc with hc | hc
   ·exact absurd h hc
   ·simp [h,hc]
  ·simp [h]
set_option maxHeartbeats 4000000 in
theorem facesOf_y (M:List (List Int))(hl:M.length≤1048576)(hr:∀ p∈M,p.length≤1048576)(h0:fpC M=0):PureG Tryz.prog tabZ 28 [maniA M] (.tup [.agg [.sl 0 1 0 (off M M.length+2),i64 M.length,.sl 1 1 0 (off M M.length),.sl 2 1 0 (off M M.length)],i64 0]) [some (intsC (-1 :: (rkL M M.length++[(M.length:Int)]))),some (intsC (rkL M M.length)),some ((blwL M M.length).map oints)]:=by
 obtain ⟨hm,hk,e1,e2⟩:=fpC_ok h0
 have hp:=isPolytopal_c M hl hr hm
 have hfp:=facePoset_c M hm hk
 have t1:=take_rk M
 have hrl:=rkL_len M M.length
 have r5:=hm.r5
 rw [e1,e2] at hp
 refine pureGV ok28 rfl ?_;unfold c28
 refine RN ?_
 refine pureC1 (isManiplex_c M hl hr) ?_
 simp only [hm,go_sem,↓reduceIte,Nat.reduceEqDiff,Nat.reduceAdd,reduceCtorEq]
 refine RN ?_
 refine pureGC1 (hp) ?_
 refine RN ?_
 refine pureC1 (hfp) ?_
 refine RN ?_
 have hbl:=blwL_len M M.length
 have hk2:off M M.length≤500:=hk
 obtain ⟨rk,hrk⟩:∃ rk,rk=rkL M M.length:=⟨_,rfl⟩
 obtain ⟨bw,hbw⟩:∃ bw,bw=blwL M M.length:=⟨_,rfl⟩
 obtain ⟨o,ho⟩:∃ o,o=off M M.length:=⟨_,rfl⟩
 rw [← hrk,← ho] at t1 hrl
 rw [← ho] at hk2
 rw [← hrk,← hbw,← ho]
 clear hfp hp
 simp only [t1,all_plain_intsC,all_one_intsC,true_and,go_sem,↓reduceIte,Nat.reduceEqDiff,Nat.reduceAdd,reduceCtorEq]
 refine ⟨by omega,by omega,?_⟩
 refine RN ?_
 have sp1:∀ w x y z a b c:AV,splice [w,x,y,z] 1 [a,b,c]=[w,a,b,c]:=fun _ _ _ _ _ _ _=>rfl
 have sp2:∀ w x y z e a b c:AV,splice [w,x,y,z] 0 [e,a,b,c]=[e,a,b,c]:=fun _ _ _ _ _ _ _ _=>rfl
 refine V_altsS [(2,.ref 1 0),(3,i64 0)] [some (gvs tabZ),some [.sl 2 1 0 (1+o+1),i64 M.length,.sl 3 1 0 o,.sl 4 1 0 o],some (intsC (-1 :: (rk++[(M.length:Int)]))),some (intsC rk),some (bw.map oints)] ?_ ?_
 ·repeat' first
    | simp only [sp1,sp2,go_sem,↓reduceIte,Nat.reduceEqDiff,Nat.reduceAdd,reduceCtorEq]
    | with_reducible refine LT_reg ?_
    | with_reducible refine LT_fin ?_
    | with_reducible exact LT_tt
    | with_reducible refine LT_alt ?_ ?_
    | (with_reducible refine And.intro ?_ ?_;focus first | assumption | omega | grind)
  all_goals
   refine Ref.gc [0,2,9,3,4] rfl ?_ (by simp [sub,fget,go_sem,↓reduceIte,Nat.reduceEqDiff,Nat.reduceAdd,reduceCtorEq])
   have t4:(i64 (-1) :: intsC rk).take (1+o)=i64 (-1) :: intsC rk:=List.take_of_length_le (by simp [intsC];omega)
   simp only [t4,rnmL_orows,rnmL_ints,go_sem,↓reduceIte,Nat.reduceEqDiff,Nat.reduceAdd,reduceCtorEq]
   simp [gvs,intsC,rnmL_map,rnm]
 ·(refine RN ?_;try with_reducible exact trivial)
  exact Ref.gc [2,3,4] rfl (by simp only [rnmL_orows,rnmL_ints,go_sem,↓reduceIte,Nat.reduceEqDiff,Nat.reduceAdd,reduceCtorEq]) (by simp [sub,fget,go_sem,↓reduceIte,Nat.reduceEqDiff,Nat.reduceAdd,reduceCtorEq];omega)
theorem facesOf_n (M:List (List Int))(hl:M.length≤1048576)(hr:∀ p∈M,p.length≤1048576)(h0:fpC M≠0):PureG Tryz.prog tabZ 28 [maniA M] (.tup [.agg [nilS,i64 0,nilS,nilS],i64 (fpC M)]) []:=by
 by_cases hm:IsMan M
 ·have hp:=isPolytopal_c M hl hr hm
  unfold fpC at h0 ⊢
  generalize plB M=b at *
  generalize plK M=k at *
  refine pureGV ok28 rfl ?_;unfold c28
  refine RN ?_
  refine pureC1 (isManiplex_c M hl hr) ?_
  simp only [hm,go_sem,↓reduceIte,Nat.reduceEqDiff,Nat.reduceAdd,reduceCtorEq]
  refine RN ?_
  refine pureGC1 (hp) ?_
  refine RN ?_
  refine ⟨fun hc=>?_,fun hc=>?_⟩
  ·(refine RN ?_;try with_reducible exact trivial)
   rw [if_neg hc]
   exact Ref.gc [] rfl (by simp only [go_sem,↓reduceIte,Nat.reduceEqDiff,Nat.reduceAdd,reduceCtorEq]) (by simp [sub,fget,rnm,rnmL,splice,go_sem,↓reduceIte,Nat.reduceEqDiff,Nat.reduceAdd,reduceCtorEq])
  ·subst hc
   cases b with
   | true=>exact absurd rfl h0
   | false=>
    refine RN ?_
    exact Ref.gc [] rfl (by simp only [go_sem,↓reduceIte,Nat.reduceEqDiff,Nat.reduceAdd,reduceCtorEq]) (by simp [sub,fget,rnm,rnmL,splice,go_sem,↓reduceIte,Nat.reduceEqDiff,Nat.reduceAdd,reduceCtorEq])
 ·obtain ⟨e1,e2⟩:=pl_no hm
  have e3:fpC M=1:=by unfold fpC;rw [e2];rfl
  rw [e3]
  refine pureGV ok28 rfl ?_;unfold c28
  refine RN ?_
  refine pureC1 (isManiplex_c M hl hr) ?_
  simp only [hm,go_sem,↓reduceIte,Nat.reduceEqDiff,Nat.reduceAdd,reduceCtorEq]
  refine RN ?_
  exact Ref.gc [] rfl (by simp only [go_sem,↓reduceIte,Nat.reduceEqDiff,Nat.reduceAdd,reduceCtorEq]) (by simp [sub,fget,rnm,rnmL,splice,go_sem,↓reduceIte,Nat.reduceEqDiff,Nat.reduceAdd,reduceCtorEq])
theorem countsAt_c (X:AV)(r:Int)(R:List Int)(B:List (List Int))(h1:R.length≤1099511627776)(hr0:0≤r)(hr5:r≤1048576)(hR:∀ x,x<R.length→0≤R.getD x 0∧R.getD x 0≤r - 1):Pure Tryz.prog 29 [.pto [X,i64 r,ints R,mat B] 1] (.sl 0 1 0 (cntV r R).length) [some (intsC (cntV r R))]:=by
 rw [show (cntV r R).length=r.toNat by simp [cntV]]
 refine pureV ok29 rfl ?_;unfold c29
 refine RN ?_
 rw [← cntV_nil r]
 refine V_loop (α:=Nat) (S:=fun x=>([(3,.sl 0 1 0 r.toNat),(14,ints R),(15,i64 R.length),(16,i64 x)],[some (intsC (cntV r (R.take x)))])) (C:=fun x=>x≤R.length) (μ:=fun x=>R.length - x) 0 (by omega) (by simp only [List.take_zero];exact Ref.frame (by simp [sub,fget])) ?_
 intro x hx
 have hlen:(cntV r (R.take x)).length=r.toNat:=by simp [cntV]
 refine RN ?_
 refine ⟨fun hc1=>?_,fun hc1=>?_⟩
 ·obtain ⟨b1,b2⟩:=hR x (by omega)
  have hcn:0≤(cntV r (R.take x)).getD (R.getD x 0).toNat 0∧(cntV r (R.take x)).getD (R.getD x 0).toNat 0≤R.length:=by
   have h3:(R.getD x 0).toNat<r.toNat:=by omega
   have h4:List.count (((R.getD x 0).toNat:Nat):Int) (R.take x)≤(R.take x).length:=List.count_le_length
   rw [List.length_take] at h4
   have h5:(cntV r (R.take x)).getD (R.getD x 0).toNat 0=(List.count (((R.getD x 0).toNat:Nat):Int) (R.take x):Int):=by
    unfold cntV
    rw [List.getD_eq_getElem?_getD,List.getElem?_map,List.getElem?_range h3]
    rfl
   rw [h5]
   omega
  refine RN ?_
  refine ⟨x+1,by omega,by omega,Ref.to ?_ (by simp [sub,fget])⟩
  rw [cntV_step b1 (by omega),List.take_succ_eq_append_getElem (by omega)]
  simp [show x<R.length by omega]
 ·(refine RN ?_;try with_reducible exact trivial)
  rw [show x=R.length by omega,List.take_length]
theorem specPy_c (M:List (List Int))(hl:M.length≤1048576)(hr:∀ p∈M,p.length≤1048576):Pure Tryz.prog 11 [maniA M] (.tup [.sl 0 1 0 (fpV M).length,i64 (fpC M)]) [some (intsC (fpV M))]:=by
 have hg:=l09Good_c M hl hr
 by_cases h0:fpC M=0
 ·obtain ⟨hm,hk,e1,e2⟩:=fpC_ok h0
  have r5:=hm.r5
  have f4:=hm.f4
  have hco:=l02Counts_c (fl M) M hm.mv rfl (by omega) hl
  have hfl:=fcV_len (fl M) M M.length
  unfold fpV
  rw [if_pos h0]
  rw [h0] at hg ⊢
  generalize fcV (fl M) M M.length=C at *
  refine pureRV ok11 rfl ?_;unfold c11
  refine RN ?_
  refine pureC1 (l02Is_c M hl hr) ?_
  simp only [hm,go_sem,↓reduceIte,Nat.reduceEqDiff,Nat.reduceAdd,reduceCtorEq]
  refine RN ?_
  refine pureC1 (hg) ?_
  refine RN ?_
  refine pureC1 (hco) ?_
  refine RN ?_
  have t6:(intsC C).take M.length=intsC C:=List.take_of_length_le (by simp [intsC,hfl])
  have t7:(i64 1 :: intsC C).take (1+M.length)=i64 1 :: intsC C:=List.take_of_length_le (by simp [intsC,hfl];omega)
  simp only [t6,all_plain_intsC,all_one_intsC,true_and,go_sem,↓reduceIte,Nat.reduceEqDiff,Nat.reduceAdd,reduceCtorEq]
  refine ⟨by omega,by omega,rfl,by omega,by omega,?_⟩
  refine RN ?_
  refine Ref.gc [5] rfl ?_ (by simp [sub,fget,hfl,go_sem,↓reduceIte,Nat.reduceEqDiff,Nat.reduceAdd,reduceCtorEq];omega)
  simp only [t6,t7,go_sem,↓reduceIte,Nat.reduceEqDiff,Nat.reduceAdd,reduceCtorEq]
  simp [intsC,rnmL_map,rnm]
 ·have hv:fpV M=[]:=if_neg h0
  rw [hv]
  refine pure_nil 1 ?_
  by_cases hm:IsMan M
  ·generalize fpC M=c at *
   refine pureV0 ok11 rfl rfl ?_;unfold c11
   refine RN ?_
   refine pureC1 (l02Is_c M hl hr) ?_
   simp only [hm,go_sem,↓reduceIte,Nat.reduceEqDiff,Nat.reduceAdd,reduceCtorEq]
   refine RN ?_
   refine pureC1 (hg) ?_
   refine RN ?_
   refine ⟨fun _=>?_,fun h=>absurd h h0⟩
   (refine RN ?_;try with_reducible exact trivial)
  ·obtain ⟨e1,e2⟩:=pl_no hm
   have e3:fpC M=1:=by unfold fpC;rw [e2];rfl
   rw [e3]
   refine pureV0 ok11 rfl rfl ?_;unfold c11
   refine RN ?_
   refine pureC1 (l02Is_c M hl hr) ?_
   simp only [hm,go_sem,↓reduceIte,Nat.reduceEqDiff,Nat.reduceAdd,reduceCtorEq]
   (refine RN ?_;try with_reducible exact trivial)
theorem implPy_c (M:List (List Int))(hl:M.length≤1048576)(hr:∀ p∈M,p.length≤1048576):PureG Tryz.prog tabZ 12 [maniA M] (.tup [.sl 0 1 0 (fpV M).length,i64 (fpC M)]) [some (intsC (fpV M))]:=by
 by_cases h0:fpC M=0
 ·obtain ⟨hm,hk,e1,e2⟩:=fpC_ok h0
  have r1:=hm.r1
  have r5:=hm.r5
  have f4:=hm.f4
  have hfo:=facesOf_y M hl hr h0
  have t1:=take_rk M
  have t2:=take_bl M
  have hrl:=rkL_len M M.length
  have hbl:=blwL_len M M.length
  have hp:=fp_pos hm hk
  obtain ⟨a1,a2,a3,a4,a5⟩:=hp.rank
  have hco:=countsAt_c (ints (-1 :: (rkL M M.length++[(M.length:Int)]))) (M.length:Int) (rkL M M.length) (blwL M M.length) (by omega) (by omega) (by omega) a5
  rw [cnt_rk] at hco
  have hfl:=fcV_len (fl M) M M.length
  unfold fpV
  rw [if_pos h0]
  rw [h0]
  have hXl:(-1 :: (rkL M M.length++[(M.length:Int)])).length=off M M.length+2:=by simp [hrl]
  have tX:(intsC (-1 :: (rkL M M.length++[(M.length:Int)]))).take (off M M.length+2)=intsC (-1 :: (rkL M M.length++[(M.length:Int)])):=List.take_of_length_le (by simp [intsC,hrl])
  generalize fcV (fl M) M M.length=C at *
  generalize -1 :: (rkL M M.length++[(M.length:Int)])=X at *
  have sp2:∀ w x y z e a b c:AV,splice [w,x,y,z] 0 [e,a,b,c]=[e,a,b,c]:=fun _ _ _ _ _ _ _ _=>rfl
  refine pureGV ok12 rfl ?_;unfold c12
  refine RN ?_
  refine pureGC 0 hfo rfl (by simp only [go_sem,↓reduceIte,Nat.reduceEqDiff,Nat.reduceAdd,reduceCtorEq]) (by simp only [go_sem,↓reduceIte,Nat.reduceEqDiff,Nat.reduceAdd,reduceCtorEq]) ?_
  refine RN ?_
  simp only [sp2,go_sem,↓reduceIte,Nat.reduceEqDiff,Nat.reduceAdd,reduceCtorEq]
  refine pureC hco (by simp only [go_sem,↓reduceIte,Nat.reduceEqDiff,Nat.reduceAdd,reduceCtorEq,ints,mat,t1,t2,tX,hrl,hbl,hXl]) (by simp only [go_sem,↓reduceIte,Nat.reduceEqDiff,Nat.reduceAdd,reduceCtorEq]) ?_
  refine RN ?_
  have t7:(i64 1 :: intsC C).take (1+C.length)=i64 1 :: intsC C:=List.take_of_length_le (by simp [intsC];omega)
  refine Ref.gc [10] rfl ?_ (by simp [sub,fget,go_sem,↓reduceIte,Nat.reduceEqDiff,Nat.reduceAdd,reduceCtorEq];omega)
  simp only [t7,go_sem,↓reduceIte,Nat.reduceEqDiff,Nat.reduceAdd,reduceCtorEq]
  simp [intsC,rnmL_map,rnm]
 ·have hv:fpV M=[]:=if_neg h0
  rw [hv]
  refine pureG_nil 1 ?_
  have hfo:=facesOf_n M hl hr h0
  generalize fpC M=c at *
  refine pureGV ok12 rfl ?_;unfold c12
  refine RN ?_
  refine pureGC 0 hfo rfl (by simp only [go_sem,↓reduceIte,Nat.reduceEqDiff,Nat.reduceAdd,reduceCtorEq]) (by simp only [go_sem,↓reduceIte,Nat.reduceEqDiff,Nat.reduceAdd,reduceCtorEq]) ?_
  refine RN ?_
  refine ⟨fun _=>?_,fun h=>absurd h h0⟩
  refine RN ?_
  exact Ref.gc [] rfl (by simp only [go_sem,↓reduceIte,Nat.reduceEqDiff,Nat.reduceAdd,reduceCtorEq]) (by simp [sub,fget,rnm,rnmL,go_sem,↓reduceIte,Nat.reduceEqDiff,Nat.reduceAdd,reduceCtorEq])
end Go.Proofs.YtaekhhaaphgndaaGreatDoor
