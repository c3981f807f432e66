/- Texts that belong together. -/
import Derived.Test.YtaekhhaaphgndaaV1
import Derived.Test.YtaekhhaaphgndaaSj
set_option linter.unusedSimpArgs false
set_option linter.unusedVariables false
set_option maxRecDepth 100000
namespace Go.Proofs.Ytaekhhaaphgndaa
section
open Go.Gov
open Classical
theorem vw_intsC (ks:List Nat)(H:Heap)(X:List Int):(intsC X).map (vwC ks H)=intsC X:=by simp [intsC,vwC,rnm]
theorem vw_rows (ks:List Nat)(H:Heap)(X:List (List Int)):(X.map ints).map (vwC ks H)=X.map ints:=by
 rw [List.map_map]
 refine List.map_congr_left fun z _=>?_
 simp only [Function.comp,vwC,rnm,rnmL_ints]
theorem vw_orows (ks:List Nat)(H:Heap)(X:List (List Int)):(X.map oints).map (vwC ks H)=X.map oints:=by
 rw [List.map_map]
 refine List.map_congr_left fun z _=>?_
 simp only [Function.comp,vwC,rnm,rnmL_ints]
set_option maxHeartbeats 8000000 in
theorem l03Poset_c (M:List (List Int))(hm:IsMan M):Pure Try.prog 23 [maniA M] (.agg [i64 M.length,.sl 0 1 0 (off M M.length),.sl 1 1 0 (off M M.length)]) [some (intsC (rkL M M.length)),some ((blwL M M.length).map oints)]:=by
 have hM:=hm.mv
 have r1:=hm.r1
 have r5:=hm.r5
 have f2:=hm.f2
 have f4:=hm.f4
 have hfg:=l02Flags_c M (by omega) (by omega) (by unfold fl at f4;omega)
 have hff:(M.getD 0 []).length=fl M:=rfl
 rw [hff] at hfg
 refine pureRV ok23 rfl ?_;unfold c23
 refine RN ?_
 refine V_loop (α:=Nat) (S:=fun i=>([(1,.ref 0 0),(2,.ref 1 0),(3,i64 (M.length:Int)),(4,.ref 4 0),(5,.sl 2 1 0 i),(6,.sl 3 1 0 i),(7,i64 (i:Int))],[some [mat M],some [i64 0,nilS,nilS],some (intsC (ofV M i)),some ((lbR M i).map ints),some [i64 (M.length:Int),.sl 5 1 0 (off M i),.sl 6 1 0 (off M i)],some (intsC (rkL M i)),some ((List.replicate (off M i) ([]:List Int)).map oints)])) (C:=fun i=>i≤M.length) (μ:=fun i=>M.length - i) 0 (by omega) ?_ ?_
 ·refine (Ref.nilC 4 1 1 (cs:=[i64 (M.length:Int),nilS,nilS]) rfl rfl).trans ((Ref.nilC 4 2 1 (cs:=[i64 (M.length:Int),.sl 5 1 0 0,nilS]) rfl rfl).trans (Ref.to ?_ (by simp [sub,fget])))
  simp [ofV,lbR,off,rkL,intsC]
 intro i hi
 have hrb:=rkL_b hi r5 f4
 have hrl:=rkL_len M i
 have hol:=ofV_len M i
 have hll:=lbR_len M i
 refine RN ?_
 refine ⟨fun hc=>?_,fun hc=>?_⟩
 ·have hi2:i<M.length:=by omega
  have hlf:=l02Faces_c (fl M) M i hM hi2 rfl (by omega) (by omega)
  have hgr:=l02Greatest_c (fl M) (oth M i M.length) (hM.oth i _) (by omega)
  refine RN ?_
  refine pureC1 (hlf) ?_
  refine RN ?_
  have hgl:∀ v d:AV,(List.take i ((lbR M i).map ints)++[v]).getD i d=v:=fun v d=>by
   rw [List.take_of_length_le (by simp [hll]),List.getD_eq_getElem?_getD,List.getElem?_append_right (by simp [hll])]
   simp [hll]
  have hlb:=labs_len (fl M) (oth M i M.length)
  have htk:=take_labs (fl M) (oth M i M.length)
  have hls:=lbR_succ M i
  have hnc:ncnt (oth M i M.length) (fl M)=nf M i:=rfl
  have hncl:nf M i≤400:=Nat.le_trans (ncnt_le _ _) f4
  have hos:=off_succ M i
  have hvs:=ofV_succ M i
  have hst:rkL M (i+1)=rkL M i++List.replicate (nf M i) (i:Int):=rfl
  have hrb2:=rkL_b (M:=M) (i:=i+1) (by omega) r5 f4
  rw [rkL_len] at hrb2
  rw [hnc] at hgr
  generalize nf M i=c at *
  generalize labs (fl M) (oth M i M.length)=lb at *
  simp only [hgl,hll,go_sem,↓reduceIte,Nat.reduceEqDiff,Nat.reduceAdd,reduceCtorEq]
  refine ⟨by omega,?_⟩
  refine call_pure hgr (by simp only [go_sem,↓reduceIte,Nat.reduceEqDiff,Nat.reduceAdd,reduceCtorEq,htk,ints,hlb]) rfl rfl ?_
  refine RN ?_
  refine V_loop (α:=Nat) (S:=fun t=>([(1,.ref 0 0),(2,.ref 1 0),(3,i64 (M.length:Int)),(4,.ref 4 0),(5,.sl 2 1 0 (i+1)),(6,.sl 3 1 0 (i+1)),(7,i64 (i:Int)),(8,i64 ((c:Int) - (t:Int)))],[some [mat M],some [i64 0,nilS,nilS],some (intsC (ofV M (i+1))),some ((lbR M (i+1)).map ints),some [i64 (M.length:Int),.sl 5 1 0 (off M i+t),.sl 6 1 0 (off M i+t)],some (intsC (rkL M i++List.replicate t (i:Int))),some ((List.replicate (off M i+t) ([]:List Int)).map oints)])) (C:=fun t=>t≤c) (μ:=fun t=>c - t) 0 (by omega) ?_ ?_
  ·refine Ref.sel [0,1,8,11,4,5,6] rfl ?_ ?_
   ·have t1:(intsC (ofV M i)).take i=intsC (ofV M i):=List.take_of_length_le (by simp [intsC,hol])
    have t2:((lbR M i).map ints).take i=(lbR M i).map ints:=List.take_of_length_le (by simp [hll])
    have hvw:∀ (ks:List Nat) (H:Heap) (z:Int),vwC ks H (i64 z)=i64 z:=fun ks H z=>by simp [vwC,rnm]
    simp only [t1,t2,List.map_append,List.map_cons,List.map_nil,vw_intsC,vw_rows,vw_orows,hvw,go_sem,↓reduceIte,Nat.reduceEqDiff,Nat.reduceAdd,reduceCtorEq]
    rw [hvs,hls]
    simp only [intsC,List.map_append,List.map_cons,List.map_nil,vwC,vw,frz,List.drop_zero,go_sem,↓reduceIte,Nat.reduceEqDiff,Nat.reduceAdd,reduceCtorEq]
    rw [List.take_of_length_le (by simp [hlb])]
    simp [Function.comp_def,frz,hlb,intsC]
   ·simp only [go_sem,↓reduceIte,Nat.reduceEqDiff,Nat.reduceAdd,reduceCtorEq]
    simp [sub,fget]
  intro t ht
  dsimp only
  have hrk:(rkL M i++List.replicate t (i:Int)).length=off M i+t:=by simp [hrl]
  have htk2:(intsC (rkL M i++List.replicate t (i:Int))).take (off M i+t)=intsC (rkL M i++List.replicate t (i:Int)):=List.take_of_length_le (by simp [intsC,hrl])
  have htk3:((List.replicate (off M i+t) ([]:List Int)).map oints).take (off M i+t)=(List.replicate (off M i+t) ([]:List Int)).map oints:=List.take_of_length_le (by simp)
  refine RN ?_
  refine ⟨fun hc2=>?_,fun hc2=>?_⟩
  ·have htc:t<c:=by omega
   refine RN ?_
   refine ⟨t+1,by omega,by omega,(Ref.close 11 (off M i+t) 9 (k:=1) (n:=0) (cs:=((List.replicate (off M i+t) ([]:List Int)).map oints).take (off M i+t)++[.sl 9 1 0 0]) (cs2:=[]) rfl (by rw [htk3,List.getElem?_append_right (by simp)];simp) rfl (by decide) rfl).trans (Ref.gc [0,1,2,3,4,8,11] rfl ?_ ?_)⟩
   ·have e1 : ((List.replicate (off M i + t) ([] : List Int)).map oints ++ [AV.sl 9 1 0 0]).set (off M i + t) (.osl 1 0 []) = (List.replicate (off M i + (t + 1)) ([] : List Int)).map oints := by
      rw [List.set_append_right _ _ (by simp),List.length_map,List.length_replicate,Nat.sub_self,← Nat.add_assoc,List.replicate_succ', List.map_append]
      rfl
    have e2:intsC (rkL M i++List.replicate (t+1) (i:Int))=intsC (rkL M i++List.replicate t (i:Int))++[i64 i]:=by
     rw [List.replicate_succ', ← List.append_assoc]
     simp [intsC]
    rw [e2]
    simp only [htk2,htk3,e1,rnmL_orows,rnmL_rows,rnmL_ints,go_sem,↓reduceIte,Nat.reduceEqDiff,Nat.reduceAdd,reduceCtorEq]
    try rfl
   ·simp [sub,fget,go_sem,↓reduceIte,Nat.reduceEqDiff,Nat.reduceAdd,reduceCtorEq]
    omega
  ·obtain rfl:t=c:=by omega
   refine RN ?_
   refine ⟨i+1,by omega,by omega,Ref.to ?_ ?_⟩
   ·rw [hst,hos]
   ·simp [sub,fget]
 ·obtain rfl:i=M.length:=by omega
  clear hc
  have hsb:off M M.length≤2000:=by omega
  obtain ⟨s,hs⟩:∃ s,s=off M M.length:=⟨_,rfl⟩
  have hs2:s≤2000:=by omega
  have hss:s*s≤4000000:=Nat.mul_le_mul hs2 hs2
  rw [← hs]
  refine RN ?_
  refine V_loop (α:=Nat) (S:=fun i=>([(1,.ref 0 0),(2,.ref 1 0),(3,i64 (M.length:Int)),(4,.ref 4 0),(5,.sl 2 1 0 M.length),(6,.sl 3 1 0 M.length),(9,i64 (i:Int))],[some [mat M],some [i64 0,nilS,nilS],some (intsC (ofV M M.length)),some ((lbR M M.length).map ints),some [i64 (M.length:Int),.sl 5 1 0 s,.sl 6 1 0 s],some (intsC (rkL M M.length)),some ((blwL M i).map oints)])) (C:=fun i=>1≤i∧i≤M.length) (μ:=fun i=>M.length - i) 1 ⟨by omega,by omega⟩ (Ref.to (by rw [blwL_one,hs]) (by simp [sub,fget])) ?_
  rintro i ⟨hi1,hin⟩
  have hbl:=blwL_len M i
  rw [← hs] at hbl
  refine RN ?_
  refine ⟨fun hc=>?_,fun hc=>?_⟩
  ·have hi2:i<M.length:=by omega
   have hss3:((s:Int)*(s:Int)).toNat=s*s:=by rw [← Int.natCast_mul];rfl
   have hss4:(s:Int)*(s:Int)≤4000000:=by rw [← Int.natCast_mul];omega
   have hss5:0≤(s:Int)*(s:Int):=by rw [← Int.natCast_mul];omega
   refine RN ?_
   refine V_loop (α:=Nat) (S:=fun f=>([(1,.ref 0 0),(2,.ref 1 0),(3,i64 (M.length:Int)),(4,.ref 4 0),(5,.sl 2 1 0 M.length),(6,.sl 3 1 0 M.length),(9,i64 (i:Int)),(10,i64 (s:Int)),(11,.sl 7 1 0 (s*s)),(12,i64 (f:Int))],[some [mat M],some [i64 0,nilS,nilS],some (intsC (ofV M M.length)),some ((lbR M M.length).map ints),some [i64 (M.length:Int),.sl 5 1 0 s,.sl 6 1 0 s],some (intsC (rkL M M.length)),some ((blwL M i).map oints),some (boolsC (fnd M i f 0))])) (C:=fun f=>f≤fl M) (μ:=fun f=>fl M - f) 0 (by omega) (Ref.to (by rw [fnd_zero,hss3,← hs]) (by simp [sub,fget,hss3])) ?_
   intro f hf
   dsimp only
   refine RN ?_
   refine pureC1 (hfg) ?_
   refine RN ?_
   refine ⟨fun hc2=>?_,fun hc2=>?_⟩
   ·have hf2:f<fl M:=by omega
    refine RN ?_
    refine V_loop (α:=Nat) (S:=fun k=>([(1,.ref 0 0),(2,.ref 1 0),(3,i64 (M.length:Int)),(4,.ref 4 0),(5,.sl 2 1 0 M.length),(6,.sl 3 1 0 M.length),(9,i64 (i:Int)),(10,i64 (s:Int)),(11,.sl 7 1 0 (s*s)),(12,i64 (f:Int)),(13,i64 (k:Int))],[some [mat M],some [i64 0,nilS,nilS],some (intsC (ofV M M.length)),some ((lbR M M.length).map ints),some [i64 (M.length:Int),.sl 5 1 0 s,.sl 6 1 0 s],some (intsC (rkL M M.length)),some ((blwL M i).map oints),some (boolsC (fnd M i f k))])) (C:=fun k=>k≤i) (μ:=fun k=>i - k) 0 (by omega) (Ref.to1) ?_
    intro k hk
    dsimp only
    have hfnl:=fnd_len M i f k
    rw [← hs] at hfnl
    refine RN ?_
    refine ⟨fun hc3=>?_,fun hc3=>?_⟩
    ·have hk2:k<i:=by omega
     have hoi:=ofV_at (M:=M) hi2
     have hok:=ofV_at (M:=M) (show k<M.length by omega)
     have hli:=lbR_at (M:=M) hi2
     have hlk:=lbR_at (M:=M) (show k<M.length by omega)
     have hri:((lbR M M.length).getD i []).length=fl M:=by rw [hli,labs_len]
     have hrk:((lbR M M.length).getD k []).length=fl M:=by rw [hlk,labs_len]
     have hai:((lbR M M.length).getD i []).getD f 0=((lbf M i f:Nat):Int):=by rw [hli,labs_at hf2];rfl
     have hak:((lbR M M.length).getD k []).getD f 0=((lbf M k f:Nat):Int):=by rw [hlk,labs_at hf2];rfl
     have hei:elt M i f<s:=by rw [hs];exact elt_lt hM hi2 hf2
     have hek:elt M k f<s:=by rw [hs];exact elt_lt hM (by omega) hf2
     have hsq:=sq_lt hei hek
     have hidx:((off M i:Int)+(lbf M i f:Int))*(s:Int)+(off M k:Int)+(lbf M k f:Int)=((elt M i f*s+elt M k f:Nat):Int):=by
      have e1:elt M i f=off M i+lbf M i f:=rfl
      have e2:elt M k f=off M k+lbf M k f:=rfl
      rw [e1,e2]
      push_cast
      omega
     have hst:=fnd_step (i:=i) (k:=k) (elt_lt hM hi2 hf2) (elt_lt hM (show k<M.length by omega) hf2)
     rw [← hs] at hst
     generalize elt M i f*s+elt M k f=ix at *
     clear hli hlk
     generalize lbR M M.length=LB at *
     generalize ofV M M.length=OV at *
     have b1:(off M i:Int)+(lbf M i f:Int)=(elt M i f:Int):=rfl
     have b2:0≤(elt M i f:Int)*(s:Int)∧(elt M i f:Int)*(s:Int)≤4000000:=by
      have:elt M i f*s≤2000*2000:=Nat.mul_le_mul (by omega) (by omega)
      rw [← Int.natCast_mul]
      omega
     refine RN ?_
     simp only [hoi,hok,hai,hak,hri,hrk,b1] at hidx ⊢
     refine ⟨k+1,by omega,by omega,Ref.to ?_ (by simp [sub,fget])⟩
     rw [hidx,Int.toNat_natCast,hst]
    ·(refine RN ?_;try with_reducible exact trivial)
     obtain rfl:k=i:=by omega
     rw [fnd_end]
     exact ⟨f+1,by omega,by omega,Ref.to1⟩
   ·obtain rfl:f=fl M:=by omega
    have hfat:∀ d e,d<s→e<s→(fnd M i (fl M) 0).getD (e*s+d) false=decide (FQ M i d e):=fun d e hd he=>by
     rw [hs] at hd he ⊢
     rw [fnd_at hd he,decide_eq_decide]
     exact fq_iff
    have hfnl:=fnd_len M i (fl M) 0
    rw [← hs] at hfnl
    generalize fnd M i (fl M) 0=FN at *
    refine RN ?_
    refine (W_loop (α:=Nat) (S:=fun e=>([(1,.ref 0 0),(2,.ref 1 0),(3,i64 (M.length:Int)),(4,.ref 4 0),(5,.sl 2 1 0 M.length),(6,.sl 3 1 0 M.length),(9,i64 (i:Int)),(10,i64 (s:Int)),(11,.sl 7 1 0 (s*s)),(14,i64 (e:Int))],[some [mat M],some [i64 0,nilS,nilS],some (intsC (ofV M M.length)),some ((lbR M M.length).map ints),some [i64 (M.length:Int),.sl 5 1 0 s,.sl 6 1 0 s],some (intsC (rkL M M.length)),some ((prR M i e).map oints),some (boolsC FN)])) (C:=fun e=>e≤s) (μ:=fun e=>s - e) 0 (by omega) (Ref.to (by rw [prR_zero]) (by simp [sub,fget])) ?_)
    intro e he
    by_cases hes:e<s
    ·have hat:(prR M i e).getD e []=blwE M i e:=by rw [prR_at (by omega),if_neg (Nat.lt_irrefl _)]
     have hUl:=prR_len M i e
     rw [← hs] at hUl
     have hst:=prR_step (M:=M) (i:=i) (e:=e)
     have hen:=prw_end hM (i:=i) (e:=e)
     rw [← hs] at hen
     generalize hU:prR M i e=U at *
     have hrow:(U.map oints)[e]? = some (oints (U.getD e [])):=by
      rw [List.getElem?_map,List.getElem?_eq_getElem (by omega)]
      simp [show e<U.length by omega]
     rw [hat] at hrow
     generalize hL:U.map oints=L at hrow ⊢
     have hLl:L.length=s:=by rw [← hL,List.length_map,hUl]
     have hrn:∀ τ,rnmL τ L=L:=fun τ=>by rw [← hL];exact rnmL_orows τ _
     refine V_ref (Ref.open 6 e (cs:=L) rfl hrow) ?_
     simp only [List.set_cons_zero,List.set_cons_succ,List.cons_append,List.nil_append,List.length_cons,List.length_nil,Nat.zero_add]
     refine RN ?_
     refine ⟨fun hc3=>?_,fun hc3=>absurd hc3 (by omega)⟩
     refine RN ?_
     refine V_loop (α:=Nat) (S:=fun d=>([(1,.ref 0 0),(2,.ref 1 0),(3,i64 (M.length:Int)),(4,.ref 4 0),(5,.sl 2 1 0 M.length),(6,.sl 3 1 0 M.length),(9,i64 (i:Int)),(10,i64 (s:Int)),(11,.sl 7 1 0 (s*s)),(14,i64 (e:Int)),(15,i64 (d:Int))],[some [mat M],some [i64 0,nilS,nilS],some (intsC (ofV M M.length)),some ((lbR M M.length).map ints),some [i64 (M.length:Int),.sl 5 1 0 s,.sl 6 1 0 s],some (intsC (rkL M M.length)),some (L.set e (.sl 8 1 0 (prw M i e d).length)),some (boolsC FN),some (intsC (prw M i e d))])) (C:=fun d=>d≤s) (μ:=fun d=>s - d) 0 (by omega) (Ref.to (by rw [prw_zero]) (by simp [sub,fget])) ?_
     intro d hd
     dsimp only
     have hpl:=prw_len M i e d
     rw [← hs] at hpl
     refine RN ?_
     refine ⟨fun hc4=>?_,fun hc4=>?_⟩
     ·have hds:d<s:=by omega
      have hfa:=hfat d e hds hes
      have hx:(e:Int)*(s:Int)+(d:Int)=((e*s+d:Nat):Int):=by push_cast;rfl
      have hb:0≤(e:Int)*(s:Int)∧(e:Int)*(s:Int)≤4000000:=by
       have:e*s≤2000*2000:=Nat.mul_le_mul (by omega) (by omega)
       rw [← Int.natCast_mul]
       omega
      have hsq:=sq_lt hes hds
      have hpy:=prw_yes (M:=M) (i:=i) (e:=e) (d:=d)
      have hpn:=prw_no (M:=M) (i:=i) (e:=e) (d:=d)
      generalize prw M i e d=cur at *
      generalize e*s+d=ix at *
      refine RN ?_
      have e1:((e:Int)*(s:Int)+(d:Int)).toNat=ix:=by rw [hx];rfl
      simp only [e1,hfa]
      refine ⟨fun hq=>?_,fun hq=>?_⟩
      ·have hq:=of_decide_eq_true hq
       have hg:=getD_set_self' L e (.sl 8 1 0 cur.length) (.slc 1 0 []) (by omega)
       have hg2:=getD_set_self' L e (.sl 8 1 0 cur.length) .any (by omega)
       have hls:(L.set e (.sl 8 1 0 cur.length)).length=s:=by rw [List.length_set];exact hLl
       have hps:=hpy hq
       refine V_altsB [(1,.ref 0 0),(2,.ref 1 0),(3,i64 (M.length:Int)),(4,.ref 4 0),(5,.sl 2 1 0 M.length),(6,.sl 3 1 0 M.length),(9,i64 (i:Int)),(10,i64 (s:Int)),(11,.sl 7 1 0 (s*s)),(14,i64 (e:Int)),(15,i64 (d:Int))] [some [mat M],some [i64 0,nilS,nilS],some (intsC (ofV M M.length)),some ((lbR M M.length).map ints),some [i64 (M.length:Int),.sl 5 1 0 s,.sl 6 1 0 s],some (intsC (rkL M M.length)),some (L.set e (.sl 8 1 0 (cur.length+1))),some (boolsC FN),some (intsC cur++[i64 (d:Int)])] ?_ ?_
       ·repeat' first
          | simp only [hg,hg2,hls,go_sem,↓reduceIte,Nat.reduceEqDiff,Nat.reduceAdd,reduceCtorEq]
          | with_reducible refine LT_reg ?_
          | with_reducible refine LT_fin ?_
          | with_reducible exact LT_tt
          | with_reducible refine LT_alt ?_ ?_
          | (with_reducible refine And.intro ?_ ?_;focus first | assumption | omega | grind)
        all_goals exact Ref.gc [0,1,2,3,4,5,6,7,10] rfl (by simp only [rnmL_set,hrn,List.set_set,rnmL_rows,go_sem,↓reduceIte,Nat.reduceEqDiff,Nat.reduceAdd,reduceCtorEq]) (by simp [sub,fget,go_sem,↓reduceIte,Nat.reduceEqDiff,Nat.reduceAdd,reduceCtorEq])
       ·(refine RN ?_;try with_reducible exact trivial)
        refine ⟨d+1,by omega,by omega,Ref.to ?_ (by simp [sub,fget])⟩
        rw [hps]
        simp [intsC]
      ·have hps:=hpn (of_decide_eq_false hq)
       refine RN ?_
       refine ⟨d+1,by omega,by omega,Ref.to ?_ (by simp [sub,fget])⟩
       rw [hps]
     ·obtain rfl:d=s:=by omega
      refine RN ?_
      refine ⟨e+1,by omega,by omega,(Ref.close 6 e 8 (k:=1) (n:=(prw M i e d).length) (cs:=L.set e (.sl 8 1 0 (prw M i e d).length)) (cs2:=intsC (prw M i e d)) rfl (List.getElem?_set_self (by omega)) rfl (by decide) (by simp [intsC])).trans (Ref.gc [0,1,2,3,4,5,6,7] rfl ?_ (by simp [sub,fget,go_sem,↓reduceIte,Nat.reduceEqDiff,Nat.reduceAdd,reduceCtorEq]))⟩
      rw [hen,← hst,List.map_set,hL]
      simp only [List.set_set,rnmL_set,hrn,rnmL_rows,go_sem,↓reduceIte,Nat.reduceEqDiff,Nat.reduceAdd,reduceCtorEq]
    ·obtain rfl:e=s:=by omega
     refine V_W ?_
     refine RN ?_
     refine fun hc3=>?_
     refine RN ?_
     have hre:=prR_end M i
     rw [← hs] at hre
     rw [hre]
     exact ⟨i+1,⟨by omega,by omega⟩,by omega,Ref.gc [0,1,2,3,4,5,6] rfl (by simp only [rnmL_orows,rnmL_rows,go_sem,↓reduceIte,Nat.reduceEqDiff,Nat.reduceAdd,reduceCtorEq]) (by simp [sub,fget,go_sem,↓reduceIte,Nat.reduceEqDiff,Nat.reduceAdd,reduceCtorEq])⟩
  ·(refine RN ?_;try with_reducible exact trivial)
   obtain rfl:i=M.length:=by omega
   exact Ref.gc [5,6] rfl (by simp only [rnmL_orows,go_sem,↓reduceIte,Nat.reduceEqDiff,Nat.reduceAdd,reduceCtorEq]) (by simp [sub,fget,go_sem,↓reduceIte,Nat.reduceEqDiff,Nat.reduceAdd,reduceCtorEq])
end
section
open Go.Gov
open Classical
theorem frz_ints (H:Heap)(d:Nat)(X:List Int):(intsC X).map (frz H (d+1))=intsC X:=by
 unfold intsC
 rw [List.map_map]
 refine List.map_congr_left fun z _=>?_
 simp [frz]
theorem blwL_b (M:List (List Int))(m:Nat)(xs:List Int)(h:xs∈blwL M m):xs.length≤off M M.length:=by
 unfold blwL at h
 obtain ⟨e,_,rfl⟩:=List.mem_map.1 h
 exact blwE_len M m e
theorem take_rk (M:List (List Int)):(intsC (rkL M M.length)).take (off M M.length)=intsC (rkL M M.length):=List.take_of_length_le (by simp [intsC,rkL_len])
theorem take_bl (M:List (List Int)):((blwL M M.length).map oints).take (off M M.length)=(blwL M M.length).map oints:=List.take_of_length_le (by simp [blwL_len])
theorem specFp_y (M:List (List Int))(hl:M.length≤1048576)(hr:∀ p∈M,p.length≤1048576)(hm:IsMan M)(hk:off M M.length≤500):Pure Try.prog 7 [maniA M] (.tup [.agg [i64 M.length,.sl 0 1 0 (off M M.length),.sl 1 1 0 (off M M.length)],i64 0]) [some (intsC (rkL M M.length)),some ((blwL M M.length).map oints)]:=by
 have hp:=l03Poset_c M hm
 have r5:=hm.r5
 have f4:=hm.f4
 have hlb:=rkL_b (Nat.le_refl _) r5 f4
 rw [rkL_len] at hlb
 refine pureRV ok7 rfl ?_;unfold c7
 refine RN ?_
 refine pureC1 (l02Is_c M hl hr) ?_
 simp only [hm,go_sem,↓reduceIte,Nat.reduceEqDiff,Nat.reduceAdd,reduceCtorEq]
 refine RN ?_
 refine pureC1 (hp) ?_
 refine RN ?_
 refine fun _=>?_
 refine RN ?_
 exact Ref.gc [2,3] rfl (by simp only [rnmL_orows,go_sem,↓reduceIte,Nat.reduceEqDiff,Nat.reduceAdd,reduceCtorEq]) (by simp [sub,fget,go_sem,↓reduceIte,Nat.reduceEqDiff,Nat.reduceAdd,reduceCtorEq])
theorem specFp_l (M:List (List Int))(hl:M.length≤1048576)(hr:∀ p∈M,p.length≤1048576)(hm:IsMan M)(hk:¬ off M M.length≤500):Pure Try.prog 7 [maniA M] (.tup [.agg [i64 0,nilS,nilS],i64 3]) []:=by
 have hp:=l03Poset_c M hm
 have r5:=hm.r5
 have f4:=hm.f4
 have hlb:=rkL_b (Nat.le_refl _) r5 f4
 rw [rkL_len] at hlb
 refine pureRV ok7 rfl ?_;unfold c7
 refine RN ?_
 refine pureC1 (l02Is_c M hl hr) ?_
 simp only [hm,go_sem,↓reduceIte,Nat.reduceEqDiff,Nat.reduceAdd,reduceCtorEq]
 refine RN ?_
 refine pureC1 (hp) ?_
 refine RN ?_
 refine ⟨fun _=>?_,fun h=>absurd h (by omega)⟩
 refine RN ?_
 exact Ref.gc1 []
theorem specFp_n (M:List (List Int))(hl:M.length≤1048576)(hr:∀ p∈M,p.length≤1048576)(hm:¬ IsMan M):Pure Try.prog 7 [maniA M] (.tup [.agg [i64 0,nilS,nilS],i64 1]) []:=by
 refine pureRV ok7 rfl ?_;unfold c7
 refine RN ?_
 refine pureC1 (l02Is_c M hl hr) ?_
 simp only [hm,go_sem,↓reduceIte,Nat.reduceEqDiff,Nat.reduceAdd,reduceCtorEq]
 refine RN ?_
 exact Ref.gc1 []
theorem implFp_y (M:List (List Int))(hl:M.length≤1048576)(hr:∀ p∈M,p.length≤1048576)(hm:IsMan M)(hk:off M M.length≤500):Pure Try.prog 6 [maniA M] (.tup [.agg [i64 M.length,.sl 0 1 0 (off M M.length),.sl 1 1 0 (off M M.length)],i64 0]) [some (intsC (rkL M M.length)),some ((blwL M M.length).map oints)]:=by
 have hp:=facePoset_c M hm hk
 have r5:=hm.r5
 have f4:=hm.f4
 have hlb:=rkL_b (Nat.le_refl _) r5 f4
 rw [rkL_len] at hlb
 refine pureRV ok6 rfl ?_;unfold c6
 refine RN ?_
 refine pureC1 (isManiplex_c M hl hr) ?_
 simp only [hm,go_sem,↓reduceIte,Nat.reduceEqDiff,Nat.reduceAdd,reduceCtorEq]
 refine RN ?_
 refine pureC1 (hp) ?_
 refine RN ?_
 exact Ref.gc [2,3] rfl (by simp only [rnmL_orows,go_sem,↓reduceIte,Nat.reduceEqDiff,Nat.reduceAdd,reduceCtorEq]) (by simp [sub,fget,go_sem,↓reduceIte,Nat.reduceEqDiff,Nat.reduceAdd,reduceCtorEq])
theorem implFp_l (M:List (List Int))(hl:M.length≤1048576)(hr:∀ p∈M,p.length≤1048576)(hm:IsMan M)(hk:¬ off M M.length≤500):Pure Try.prog 6 [maniA M] (.tup [.agg [i64 0,nilS,nilS],i64 3]) []:=by
 have hp:=facePoset_n M hm hk
 have r5:=hm.r5
 have f4:=hm.f4
 have hlb:=rkL_b (Nat.le_refl _) r5 f4
 rw [rkL_len] at hlb
 refine pureRV ok6 rfl ?_;unfold c6
 refine RN ?_
 refine pureC1 (isManiplex_c M hl hr) ?_
 simp only [hm,go_sem,↓reduceIte,Nat.reduceEqDiff,Nat.reduceAdd,reduceCtorEq]
 refine RN ?_
 refine pureC1 (hp) ?_
 refine RN ?_
 exact Ref.gc1 []
theorem implFp_n (M:List (List Int))(hl:M.length≤1048576)(hr:∀ p∈M,p.length≤1048576)(hm:¬ IsMan M):Pure Try.prog 6 [maniA M] (.tup [.agg [i64 0,nilS,nilS],i64 1]) []:=by
 refine pureRV ok6 rfl ?_;unfold c6
 refine RN ?_
 refine pureC1 (isManiplex_c M hl hr) ?_
 simp only [hm,go_sem,↓reduceIte,Nat.reduceEqDiff,Nat.reduceAdd,reduceCtorEq]
 refine RN ?_
 exact Ref.gc1 []
end
end Go.Proofs.Ytaekhhaaphgndaa
