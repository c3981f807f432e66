/- Texts that belong together. -/
import Derived.Test.YtaekhhaaphgndaaSi
set_option maxHeartbeats 16000000
set_option linter.unusedSimpArgs false
set_option linter.unusedVariables false
set_option maxRecDepth 100000
namespace Go.Gov
open Classical
theorem Ref.closeL {n0 : Nat} {F : Frame} {H : Heap} (o j o2 : Nat) {cs cs2 : List AV} {k n : Nat} (ho : H[o]? = some (some cs)) (hj : cs[j]? = some (.sl o2 k 0 n)) (h2 : H[o2]? = some (some cs2)) (hne : o ≠ o2) (hlen : n * k ≤ cs2.length) :
    Ref n0 F H F (killL [o2] (H.set o (some (cs.set j (.osl k n (cs2.take (n*k))))))):=absorb o [o2] ho (by simp) (by simp [hne]) (by simpa using ⟨cs2,h2⟩) (by simp) fun g w hp=>by
 obtain ⟨hjl,hje⟩:=List.getElem?_eq_some_iff.1 hj
 have h1:=hp.obj o cs ho
 cases hl:g.ρ o with
 | none=>
  rw [hl] at h1
  have h3:=h1.1.gh _ (List.getElem_mem hjl)
  rw [hje] at h3
  cases h3
 | some l=>
  obtain ⟨b,base,sz⟩:=l
  rw [hl] at h1
  obtain ⟨u,bss,hblk,hr,hob⟩:=h1
  have hrj:=hr j hjl
  rw [hje] at hrj
  have hbj:bss j=[]:=by
   generalize bss j=x at hrj
   cases hrj;rfl
  obtain ⟨bs', hsub,hrd⟩:∃ bs', bs'.Sublist (g.ob o2)∧Rd w (g.tr H) g.G (.osl k n (cs2.take (n*k))) (u j) bs' := by
   generalize u j=x,bss j=y at hrj
   cases hrj with
   | sl h0 hv h=>
    obtain ⟨_,hS⟩:=h _ (Gh.tr_some (g:=g) h2)
    have h3:=hp.obj o2 cs2 h2
    dsimp only at hS
    cases hl2:g.ρ o2 with
    | none=>
     rw [hl2] at hS h3
     obtain ⟨rfl,a0,rfl⟩:=hS
     rw [Nat.zero_mul,List.take_zero]
     exact ⟨[],List.nil_sublist _,.osl0⟩
    | some l2=>
     obtain ⟨b2,base2,sz2⟩:=l2
     rw [hl2] at hS h3
     obtain ⟨cap,hn,hm,hs,hv⟩:=hS
     obtain ⟨arr2,elem2,u2,bss2,hb2,hsz2,hbase2,hc2,hr2,hob2⟩:=h3.cells (by omega)
     subst hsz2
     have e:(cs2.take (n*k)).length=n*k:=by rw [List.length_take];omega
     rcases hv with rfl | ⟨rfl,a0,rfl⟩
     ·refine ⟨b2 :: (List.range (n*k)).flatMap bss2,?_,?_⟩
      ·rw [hob2]
       refine List.Sublist.cons_cons _ ?_
       have:List.range cs2.length=List.range (n*k)++(List.range (cs2.length - n*k)).map (n*k + ·):=by rw [← List.range_add];congr 1;omega
       rw [this,List.flatMap_append]
       exact List.sublist_append_left _ _
      ·have := Rd.osl (w := w) (tr := g.tr H) (G := g.G) (k := k) (n := n) (cs := cs2.take (n * k)) (elem := elem2) u2 bss2 e hn hm hb2 (by omega) (fun m hm => hc2 m (by omega)) (fun m hm => by
         simp only [List.getElem_take]
         exact hr2 m (by omega))
       rwa [e] at this
     ·obtain rfl:n=0:=by omega
      rw [Nat.zero_mul,List.take_zero]
      exact ⟨[],List.nil_sublist _,.osl0⟩
  let bss' : Nat→List Nat:=fun m=>if m=j then bs' else bss m
  refine ⟨b :: (List.range cs.length).flatMap bss', bs', ⟨u,bss', by simpa using hblk,fun m hm=>?_,by simp⟩,?_,by simpa using hsub⟩
  ·simp only [List.length_set] at hm
   by_cases e:m=j
   ·subst e
    simp only [List.getElem_set_self,bss', if_true]
    exact hrd
   ·rw [List.getElem_set_ne (Ne.symm e)]
    simp only [bss', if_neg e]
    exact hr m hm
  ·rw [hob]
   exact ((flatMap_upd hjl hbj bs').cons b).trans List.perm_middle.symm
end Go.Gov
namespace Go.Proofs.Ytaekhhaaphgndaa
section
open Go.Gov
open Classical
theorem fcT_row {M:List (List Int)}{i f:Nat}(h:f<fl M):((fcT M i f).map oints)[f]? = some (oints (fcs M i f)):=by
 rw [List.getElem?_map,List.getElem?_eq_getElem (by rw [fcT_len];exact h)]
 simp [fcT]
theorem take_labs (n:Nat)(L:List (List Int)):(intsC (labs n L)).take n=intsC (labs n L):=List.take_of_length_le (by simp [intsC,labs_len])
theorem allFaces_c (M:List (List Int))(hm:IsMan M):Pure Try.prog 41 [maniP M] (.sl 0 1 0 (fl M)) [some ((fcT M M.length 0).map oints)]:=by
 have hM:=hm.mv
 have hr:=hm.rows 0 hm.r1
 have r1:=hm.r1
 have r5:=hm.r5
 have f2:=hm.f2
 have f4:=hm.f4
 have hfg:=flags_c M (by omega) (by omega) (by unfold fl at f4;omega)
 have hrk:=rank_c M (by omega)
 have hff:(M.getD 0 []).length=fl M:=rfl
 rw [hff] at hfg
 refine pureVg [0] ok41 rfl ?_;unfold c41
 refine RN ?_
 refine pureC1 (hfg) ?_
 refine RN ?_
 refine pureC1 (hrk) ?_
 refine RN ?_
 refine V_loop (α:=Nat) (S:=fun i=>([(0,maniP M),(3,.sl 0 1 0 (fl M)),(4,i64 (off M i)),(14,i64 M.length),(15,i64 (i:Int))],[some ((fcT M i 0).map oints)])) (C:=fun i=>i≤M.length) (μ:=fun i=>M.length - i) 0 (by omega) ?_ ?_
 ·refine (Ref.nils 0 1 (fl M) rfl).trans (Ref.to ?_ (by simp [sub,fget,off]))
  simp [fcT_zero,intsC]
 intro i hi
 have hoi:=off_le (M:=M) i
 have hol:off M i≤2000:=by
  have:i*fl M≤5*400:=Nat.mul_le_mul (by omega) (by omega)
  omega
 refine RN ?_
 refine ⟨fun hc=>?_,fun hc=>?_⟩
 ·have hi2:i<M.length:=by omega
  have hfa:=faces_c (fl M) M i hM hi2 rfl (by omega) (by omega)
  have hll:=labs_len (fl M) (oth M i M.length)
  have htk:=take_labs (fl M) (oth M i M.length)
  refine RN ?_
  refine pureC1 (hfa) ?_
  refine RN ?_
  obtain ⟨nc,hnc⟩:∃ nc,nc=ncnt (oth M i M.length) (fl M):=⟨_,rfl⟩
  have hncl:nc≤400:=by rw [hnc];exact Nat.le_trans (ncnt_le _ _) f4
  rw [← hnc]
  refine (W_loop (α:=Nat) (S:=fun f=>([(0,maniP M),(3,.sl 0 1 0 (fl M)),(4,i64 (off M i)),(7,i64 (nc:Int)),(14,i64 M.length),(15,i64 (i:Int)),(24,.sl 1 1 0 (fl M)),(25,i64 (fl M:Int)),(26,i64 (f:Int))],[some ((fcT M i f).map oints),some (intsC (labs (fl M) (oth M i M.length)))])) (C:=fun f=>f≤fl M) (μ:=fun f=>fl M - f) 0 (by omega) (Ref.to1) ?_)
  intro f hf
  by_cases hfl:f<fl M
  ·have hrow:=fcT_row (i:=i) hfl
   have hat:=labs_at (L:=oth M i M.length) hfl
   have hlb:lab (oth M i M.length) f<nc:=by rw [hnc];exact lab_lt (hM.oth i _) hfl
   have hst:=fcT_step (i:=i) hfl
   have hsu:=fcs_succ M i f
   rw [show elt M i f=off M i+lab (oth M i M.length) f from rfl] at hsu
   have hfcl:=fcs_len M i f
   generalize hcur:fcs M i f=cur at hrow hsu hfcl
   rw [hsu] at hst
   generalize hL:(fcT M i f).map oints=L at hrow ⊢
   have hLl:L.length=fl M:=by rw [← hL,List.length_map,fcT_len]
   have hrn:∀ τ,rnmL τ L=L:=fun τ=>by rw [← hL];exact rnmL_orows τ _
   refine V_ref (Ref.open 0 f (cs:=L) rfl hrow) ?_
   simp only [List.set_cons_zero,List.cons_append,List.nil_append,List.length_cons,List.length_nil,Nat.zero_add]
   rw [hfcl]
   have hg:=getD_set_self' L f (.sl 2 1 0 i) (.slc 1 0 []) (by omega)
   have hg2:=getD_set_self' L f (.sl 2 1 0 i) .any (by omega)
   have hls:(L.set f (.sl 2 1 0 i)).length=fl M:=by rw [List.length_set];exact hLl
   generalize labs (fl M) (oth M i M.length)=lb at *
   refine RN ?_
   refine ⟨fun hc1=>?_,fun hc1=>absurd hc1 (by omega)⟩
   refine RN ?_
   simp only [hg,hg2,go_sem,↓reduceIte,Nat.reduceEqDiff,Nat.reduceAdd,reduceCtorEq]
   refine RN ?_
   refine ⟨f+1,by omega,by omega,(Ref.close 0 f 4 (k:=1) (n:=i+1) (cs:=(L.set f (.sl 2 1 0 i)).set f (.sl 4 1 0 (i+1))) (cs2:=(intsC cur).take i++[i64 ((off M i:Int)+lb.getD f 0)]) rfl (List.getElem?_set_self (by omega)) rfl (by decide) (by simp [intsC,hfcl])).trans (Ref.gc [0,1] rfl ?_ (by simp [sub,fget,go_sem,↓reduceIte,Nat.reduceEqDiff,Nat.reduceAdd,reduceCtorEq]))⟩
   rw [← hst,List.map_set,hL]
   have hct:(intsC cur).take i=intsC cur:=List.take_of_length_le (by simp [intsC,hfcl])
   simp only [List.set_set,rnmL_set,hrn,hct,hat,go_sem,↓reduceIte,Nat.reduceEqDiff,Nat.reduceAdd,reduceCtorEq]
   simp [intsC,oints,hfcl,i64]
  ·obtain rfl:f=fl M:=by omega
   refine V_W ?_
   refine RN ?_
   refine fun hc1=>?_
   refine RN ?_
   rw [fcT_end]
   refine ⟨i+1,by omega,by omega,Ref.gc [0] rfl ?_ ?_⟩
   ·simp only [rnmL_orows,go_sem,↓reduceIte,Nat.reduceEqDiff,Nat.reduceAdd,reduceCtorEq]
   ·rw [show off M (i+1)=off M i+nc by rw [hnc,off_succ];rfl]
    simp [sub,fget,go_sem,↓reduceIte,Nat.reduceEqDiff,Nat.reduceAdd,reduceCtorEq]
 ·(refine RN ?_;try with_reducible exact trivial)
  obtain rfl:i=M.length:=by omega
  rfl
end
section
open Go.Gov
open Classical
theorem rkL_b {M:List (List Int)}{i:Nat}(hi:i≤M.length)(h5:M.length≤5)(h4:fl M≤400):(rkL M i).length≤2000:=by
 rw [rkL_len]
 have h1:=off_le (M:=M) i
 have:i*fl M≤5*400:=Nat.mul_le_mul (by omega) (by omega)
 omega
theorem facePoset_c (M:List (List Int))(hm:IsMan M)(hk:off M M.length≤500):Pure Try.prog 21 [maniA M] (.tup [.agg [i64 M.length,.sl 0 1 0 (off M M.length),.sl 1 1 0 (off M M.length)],bl true]) [some (intsC (rkL M M.length)),some ((blwL M M.length).map oints)]:=by
 have hM:=hm.mv
 have r1:=hm.r1
 have r5:=hm.r5
 have f2:=hm.f2
 have f4:=hm.f4
 have hrk:=rank_c M (by omega)
 have hfc:=faceCounts_c (fl M) M hM rfl (by omega) (by omega)
 have haf:=allFaces_c M hm
 have hfl:=fcV_len (fl M) M M.length
 refine pureRV ok21 rfl ?_;unfold c21
 refine RN ?_
 refine pureC1 (hrk) ?_
 refine RN ?_
 refine pureC1 (hfc) ?_
 refine RN ?_
 refine V_loop (α:=Nat) (S:=fun i=>([(1,.ref 0 0),(2,.ref 1 0),(4,.ref 2 0),(14,.sl 3 1 0 M.length),(15,i64 (M.length:Int)),(16,i64 (i:Int))],[some [mat M],some [i64 0,nilS,nilS],some [i64 (M.length:Int),.sl 4 1 0 (off M i),nilS],some (intsC (fcV (fl M) M M.length)),some (intsC (rkL M i))])) (C:=fun i=>i≤M.length) (μ:=fun i=>M.length - i) 0 (by omega) ?_ ?_
 ·exact (Ref.nilC 2 1 1 (cs:=[i64 (M.length:Int),nilS,nilS]) rfl rfl).trans (Ref.to (by simp [rkL,intsC,off]) (by simp [sub,fget,off]))
 intro i hi
 have hrb:=rkL_b hi r5 f4
 have hrl:=rkL_len M i
 refine RN ?_
 refine ⟨fun hc=>?_,fun hc=>?_⟩
 ·have hi2:i<M.length:=by omega
  have hfa:(fcV (fl M) M M.length).getD i 0=(nf M i:Int):=by simp [fcV,hi2,nf]
  have hrp:=repeat_c (i:Int) (nf M i) (by unfold nf;have:=ncnt_le (oth M i M.length) (fl M);omega)
  refine RN ?_
  simp only [hfa,go_sem,↓reduceIte,Nat.reduceEqDiff,Nat.reduceAdd,reduceCtorEq]
  have hst:rkL M (i+1)=rkL M i++List.replicate (nf M i) (i:Int):=rfl
  have hos:=off_succ M i
  have hnl:nf M i≤400:=by unfold nf;have:=ncnt_le (oth M i M.length) (fl M);omega
  have hrb2:=rkL_b (M:=M) (i:=i+1) (by omega) r5 f4
  rw [rkL_len] at hrb2
  generalize nf M i=c at *
  have e0:(intsC (List.replicate c (i:Int))).take c=intsC (List.replicate c (i:Int)):=List.take_of_length_le (by simp [intsC])
  refine pureC1 (hrp) ?_
  refine RN ?_
  simp only [e0,all_plain_intsC,all_one_intsC,true_and,go_sem,↓reduceIte,Nat.reduceEqDiff,Nat.reduceAdd,reduceCtorEq]
  refine ⟨by omega,by omega,?_⟩
  refine RN ?_
  refine ⟨i+1,by omega,by omega,Ref.gc [0,1,2,3,7] rfl ?_ ?_⟩
  ·have e1:(intsC (rkL M i)).take (rkL M i).length=intsC (rkL M i):=List.take_of_length_le (by simp [intsC])
   rw [hrl] at e1
   rw [hst,hos]
   simp only [e1,go_sem,↓reduceIte,Nat.reduceEqDiff,Nat.reduceAdd,reduceCtorEq]
   simp [intsC,take_intsC]
  ·simp [sub,fget,go_sem,↓reduceIte,Nat.reduceEqDiff,Nat.reduceAdd,reduceCtorEq,hos]
 ·obtain rfl:i=M.length:=by omega
  refine RN ?_
  refine fun _=>?_
  refine RN ?_
  refine pureC1 (haf) ?_
  refine RN ?_
  have htk:∀ Hx:Heap,(List.take (fl M) ((fcT M M.length 0).map oints)).map (frz Hx 5)=(fcT M M.length 0).map ints:=fun Hx=>by
   rw [List.take_of_length_le (by simp [fcT_len]),List.map_map]
   refine List.map_congr_left fun z _=>?_
   simp [frz,intsC]
  have hFl:=fcT_len M M.length 0
  have hFx:∀ x,x<fl M→(fcT M M.length 0).getD x []=fcs M M.length x:=fun x hx=>by rw [fcT_at hx,if_neg (Nat.not_lt_zero _)]
  generalize hFC:fcT M M.length 0=FC at *
  refine V_loop (α:=Nat) (S:=fun x=>([(2,.ref 0 0),(4,.ref 1 0),(40,mat FC),(41,i64 (fl M:Int)),(42,i64 (x:Int))],[some [i64 0,nilS,nilS],some [i64 (M.length:Int),.sl 2 1 0 (off M M.length),.sl 3 1 0 (off M M.length)],some (intsC (rkL M M.length)),some ((rwX M x).map oints)])) (C:=fun x=>x≤fl M) (μ:=fun x=>fl M - x) 0 (by omega) ?_ ?_
  ·refine (Ref.nils 5 1 (off M M.length) rfl).trans (Ref.sel [1,2,4,5] rfl ?_ ?_)
   ·simp only [go_sem,↓reduceIte,Nat.reduceEqDiff,Nat.reduceAdd,reduceCtorEq]
    simp [rwX,intsC,vwC,rnm,rnmL]
   ·simp only [go_sem,↓reduceIte,Nat.reduceEqDiff,Nat.reduceAdd,reduceCtorEq]
    rw [htk]
    simp [sub,fget,mat,hFl]
  intro x hx
  refine RN ?_
  refine ⟨fun hc1=>?_,fun hc1=>?_⟩
  ·have hx2:x<fl M:=by omega
   have hrow:=hFx x hx2
   have hfl2:=fcs_len M M.length x
   generalize hT:rwX M x=T at *
   have hTl:T.length=off M M.length:=by rw [← hT,rwX_len]
   have hTb:∀ e,(T.getD e []).length≤25*x:=by rw [← hT];exact rwX_b r5 x
   have hTs:rwI M x T M.length=rwX M (x+1):=by rw [← hT];rfl
   refine RN ?_
   simp only [hrow,go_sem,↓reduceIte,Nat.reduceEqDiff,Nat.reduceAdd,reduceCtorEq]
   refine RN ?_
   rw [hfl2]
   obtain ⟨fx,hfx⟩:∃ fx,fx=fcs M M.length x:=⟨_,rfl⟩
   rw [← hfx] at hfl2 ⊢
   refine (W_loop (α:=Nat) (S:=fun i=>([(2,.ref 0 0),(4,.ref 1 0),(8,ints fx),(40,mat FC),(41,i64 (fl M:Int)),(42,i64 (x:Int)),(46,ints fx),(47,i64 (M.length:Int)),(48,i64 (i:Int))],[some [i64 0,nilS,nilS],some [i64 (M.length:Int),.sl 2 1 0 (off M M.length),.sl 3 1 0 (off M M.length)],some (intsC (rkL M M.length)),some ((rwI M x T i).map oints)])) (C:=fun i=>i≤M.length) (μ:=fun i=>M.length - i) 0 (by omega) (Ref.to1) ?_)
   intro i hi
   by_cases hil:i<M.length
   ·have hfi:fx.getD i 0=((elt M i x:Nat):Int):=by rw [hfx];exact fcs_at hil
    have hft:fx.take i=fcs M i x:=by rw [hfx];exact fcs_take (by omega)
    have helt:elt M i x<off M M.length:=elt_lt hM (by omega) hx2
    have hst:rwI M x T (i+1)=(rwI M x T i).set (elt M i x) ((rwI M x T i).getD (elt M i x) []++fcs M i x):=rfl
    have hTI:(rwI M x T i).length=off M M.length:=by rw [rwI_len,hTl]
    have hrb3:=rwI_b M x T hTb i (by omega) (elt M i x)
    have hcl:=fcs_len M i x
    generalize hU:rwI M x T i=U at *
    generalize elt M i x=e at *
    generalize fcs M i x=cf at *
    have hrow2:(U.map oints)[e]? = some (oints (U.getD e [])):=by
     rw [List.getElem?_map,List.getElem?_eq_getElem (by omega)]
     simp [show e<U.length by omega]
    obtain ⟨ur,hur⟩:∃ ur,ur=U.getD e []:=⟨_,rfl⟩
    rw [← hur] at hst hrb3 hrow2
    generalize hL:U.map oints=L at hrow2 ⊢
    have hLl:L.length=off M M.length:=by rw [← hL,List.length_map,hTI]
    have hrn:∀ τ,rnmL τ L=L:=fun τ=>by rw [← hL];exact rnmL_orows τ _
    refine V_ref (Ref.open 3 e (cs:=L) rfl hrow2) ?_
    simp only [List.set_cons_zero,List.cons_append,List.nil_append,List.length_cons,List.length_nil,Nat.zero_add]
    have hg:=getD_set_self' L e (.sl 4 1 0 ur.length) (.slc 1 0 []) (by omega)
    have hg2:=getD_set_self' L e (.sl 4 1 0 ur.length) .any (by omega)
    have hls:(L.set e (.sl 4 1 0 ur.length)).length=off M M.length:=by rw [List.length_set];exact hLl
    refine RN ?_
    refine ⟨fun hc2=>?_,fun hc2=>absurd hc2 (by omega)⟩
    refine RN ?_
    simp only [hfi,go_sem,↓reduceIte,Nat.reduceEqDiff,Nat.reduceAdd,reduceCtorEq]
    have htc:(intsC fx).take i=intsC cf:=by rw [take_intsC,hft]
    have hi0:((i:Int) - 0).toNat=i:=by omega
    refine V_altsB [(2,.ref 0 0),(4,.ref 1 0),(8,ints fx),(40,mat FC),(41,i64 (fl M:Int)),(42,i64 (x:Int)),(46,ints fx),(47,i64 (M.length:Int)),(48,i64 (i:Int))] [some [i64 0,nilS,nilS],some [i64 (M.length:Int),.sl 2 1 0 (off M M.length),.sl 3 1 0 (off M M.length)],some (intsC (rkL M M.length)),some (L.set e (.sl 4 1 0 (ur.length+i))),some (intsC (ur++cf))] ?_ ?_
    ·repeat' first
       | simp only [hi0,hg,hg2,hls,htc,all_plain_intsC,all_one_intsC,true_and,go_sem,↓reduceIte,Nat.reduceEqDiff,Nat.reduceAdd,reduceCtorEq]
       | with_reducible refine LT_reg ?_
       | with_reducible refine LT_fin ?_
       | with_reducible exact LT_tt
       | with_reducible refine LT_alt ?_ ?_
       | (with_reducible refine And.intro ?_ ?_;focus first | assumption | omega | grind)
     all_goals exact Ref.gc [0,1,2,3,5] rfl (by simp only [rnmL_set,hrn,List.set_set,go_sem,↓reduceIte,Nat.reduceEqDiff,Nat.reduceAdd,reduceCtorEq]<;>simp [intsC]) (by simp [sub,fget,go_sem,↓reduceIte,Nat.reduceEqDiff,Nat.reduceAdd,reduceCtorEq])
    ·(refine RN ?_;try with_reducible exact trivial)
     refine ⟨i+1,by omega,by omega,(Ref.close 3 e 4 (k:=1) (n:=ur.length+i) (cs:=L.set e (.sl 4 1 0 (ur.length+i))) (cs2:=intsC (ur++cf)) rfl (List.getElem?_set_self (by omega)) rfl (by decide) (by simp [intsC,hcl])).trans (Ref.gc [0,1,2,3] rfl ?_ (by simp [sub,fget,go_sem,↓reduceIte,Nat.reduceEqDiff,Nat.reduceAdd,reduceCtorEq]))⟩
     rw [hst,List.map_set,hL]
     simp only [List.set_set,rnmL_set,hrn,go_sem,↓reduceIte,Nat.reduceEqDiff,Nat.reduceAdd,reduceCtorEq]
     simp [intsC,oints,hcl,i64,rnm,rnmL]
   ·obtain rfl:i=M.length:=by omega
    refine V_W ?_
    refine RN ?_
    refine fun hc2=>?_
    refine RN ?_
    rw [hTs]
    exact ⟨x+1,by omega,by omega,Ref.to1⟩
  ·obtain rfl:x=fl M:=by omega
   refine RN ?_
   refine (W_loop (α:=Nat) (S:=fun e=>([(2,.ref 0 0),(4,.ref 1 0),(70,i64 (off M M.length:Int)),(71,i64 (e:Int))],[some [i64 0,nilS,nilS],some [i64 (M.length:Int),.sl 2 1 0 (off M M.length),.sl 3 1 0 (off M M.length)],some (intsC (rkL M M.length)),some ((srR M e).map oints)])) (C:=fun e=>e≤off M M.length) (μ:=fun e=>off M M.length - e) 0 (by omega) (Ref.to (by rw [srR_zero]) (by simp [sub,fget])) ?_)
   intro e he
   by_cases hel:e<off M M.length
   ·have hst:=srR_step (M:=M) (e:=e)
    have hrow:(rwX M (fl M)).getD e []=(srR M e).getD e []:=by rw [srR_at hel,if_neg (Nat.lt_irrefl _)]
    have hrw:=rwX_row hM e
    rw [hrow] at hrw
    have hb:=rwX_b r5 (fl M) e
    rw [hrow] at hb
    have hUl:=srR_len M e
    generalize hU:srR M e=U at *
    have hrow2:(U.map oints)[e]? = some (oints (U.getD e [])):=by
     rw [List.getElem?_map,List.getElem?_eq_getElem (by omega)]
     simp [show e<U.length by omega]
    obtain ⟨ur,hur⟩:∃ ur,ur=U.getD e []:=⟨_,rfl⟩
    rw [← hur] at hrw hb hrow2
    have hso:=sort_c ur (by omega)
    have hsl:=srtL_len ur
    have hcp:=compactZ_w (srtL ur) (by omega)
    rw [hrw,hsl] at hcp
    have hyl:(blwE M M.length e).length≤ur.length:=by rw [← hrw,← hsl];exact ddZ_le _
    generalize blwE M M.length e=y at *
    generalize hL:U.map oints=L at hrow2 ⊢
    have hLl:L.length=off M M.length:=by rw [← hL,List.length_map,hUl]
    have hrn:∀ τ,rnmL τ L=L:=fun τ=>by rw [← hL];exact rnmL_orows τ _
    refine V_ref (Ref.open 3 e (cs:=L) rfl hrow2) ?_
    simp only [List.set_cons_zero,List.cons_append,List.nil_append,List.length_cons,List.length_nil,Nat.zero_add]
    have hg:=getD_set_self' L e (.sl 4 1 0 ur.length) (.slc 1 0 []) (by omega)
    have hg2:=getD_set_self' L e (.sl 4 1 0 ur.length) .any (by omega)
    have hls:(L.set e (.sl 4 1 0 ur.length)).length=off M M.length:=by rw [List.length_set];exact hLl
    refine RN ?_
    refine ⟨fun hc2=>?_,fun hc2=>absurd hc2 (by omega)⟩
    refine RN ?_
    simp only [hg,hg2,go_sem,↓reduceIte,Nat.reduceEqDiff,Nat.reduceAdd,reduceCtorEq]
    refine RN ?_
    refine wriC1 (hso) [4] ?_
    refine RN ?_
    refine V_altsB [(2,.ref 0 0),(4,.ref 1 0),(70,i64 (off M M.length:Int)),(71,i64 (e:Int))] [some [i64 0,nilS,nilS],some [i64 (M.length:Int),.sl 2 1 0 (off M M.length),.sl 3 1 0 (off M M.length)],some (intsC (rkL M M.length)),some (L.set e (.sl 4 1 0 y.length)),some (intsC (y++List.replicate (ur.length - y.length) 0))] ?_ ?_
    ·repeat' first
       | simp only [hg,hg2,hls,go_sem,↓reduceIte,Nat.reduceEqDiff,Nat.reduceAdd,reduceCtorEq]
       | with_reducible refine LT_reg ?_
       | with_reducible refine LT_fin ?_
       | with_reducible exact LT_tt
       | with_reducible refine LT_alt ?_ ?_
       | (with_reducible refine And.intro ?_ ?_;focus first | assumption | omega | grind)
       | (refine wriC (hcp) [4] ?_ ?_ ?_ ?_ ?_;(focus first | rfl | simp);(focus (simp only [go_sem,↓reduceIte,Nat.reduceEqDiff,Nat.reduceAdd,reduceCtorEq]<;>rfl));(focus (simp only [go_sem,↓reduceIte,Nat.reduceEqDiff,Nat.reduceAdd,reduceCtorEq]<;>rfl));(focus first | rfl | simp only [go_sem,↓reduceIte,Nat.reduceEqDiff,Nat.reduceAdd,reduceCtorEq]))
     all_goals exact Ref.gc [0,1,2,3,4] rfl (by simp only [rnmL_set,hrn,List.set_set,go_sem,↓reduceIte,Nat.reduceEqDiff,Nat.reduceAdd,reduceCtorEq]<;>simp [intsC]) (by simp [sub,fget,go_sem,↓reduceIte,Nat.reduceEqDiff,Nat.reduceAdd,reduceCtorEq])
    ·(refine RN ?_;try with_reducible exact trivial)
     refine ⟨e+1,by omega,by omega,(Ref.closeL 3 e 4 (k:=1) (n:=y.length) (cs:=L.set e (.sl 4 1 0 y.length)) (cs2:=intsC (y++List.replicate (ur.length - y.length) 0)) rfl (List.getElem?_set_self (by omega)) rfl (by decide) (by simp [intsC])).trans (Ref.gc [0,1,2,3] rfl ?_ (by simp [sub,fget,go_sem,↓reduceIte,Nat.reduceEqDiff,Nat.reduceAdd,reduceCtorEq]))⟩
     have htc:(intsC (y++List.replicate (ur.length - y.length) 0)).take (y.length*1)=intsC y:=by rw [take_intsC];simp
     rw [← hst,List.map_set,hL]
     simp only [List.set_set,rnmL_set,hrn,htc,killL,go_sem,↓reduceIte,Nat.reduceEqDiff,Nat.reduceAdd,reduceCtorEq]
   ·obtain rfl:e=off M M.length:=by omega
    refine V_W ?_
    refine RN ?_
    refine fun hc2=>?_
    refine RN ?_
    rw [srR_end]
    exact Ref.gc [2,3] rfl (by simp only [rnmL_orows,go_sem,↓reduceIte,Nat.reduceEqDiff,Nat.reduceAdd,reduceCtorEq]) (by simp [sub,fget,go_sem,↓reduceIte,Nat.reduceEqDiff,Nat.reduceAdd,reduceCtorEq])
theorem facePoset_n (M:List (List Int))(hm:IsMan M)(hk:¬ off M M.length≤500):Pure Try.prog 21 [maniA M] (.tup [.agg [i64 0,nilS,nilS],bl false]) []:=by
 have hM:=hm.mv
 have r1:=hm.r1
 have r5:=hm.r5
 have f2:=hm.f2
 have f4:=hm.f4
 have hrk:=rank_c M (by omega)
 have hfc:=faceCounts_c (fl M) M hM rfl (by omega) (by omega)
 have hfl:=fcV_len (fl M) M M.length
 refine pureRV ok21 rfl ?_;unfold c21
 refine RN ?_
 refine pureC1 (hrk) ?_
 refine RN ?_
 refine pureC1 (hfc) ?_
 refine RN ?_
 refine V_loop (α:=Nat) (S:=fun i=>([(1,.ref 0 0),(2,.ref 1 0),(4,.ref 2 0),(14,.sl 3 1 0 M.length),(15,i64 (M.length:Int)),(16,i64 (i:Int))],[some [mat M],some [i64 0,nilS,nilS],some [i64 (M.length:Int),.sl 4 1 0 (off M i),nilS],some (intsC (fcV (fl M) M M.length)),some (intsC (rkL M i))])) (C:=fun i=>i≤M.length) (μ:=fun i=>M.length - i) 0 (by omega) ?_ ?_
 ·exact (Ref.nilC 2 1 1 (cs:=[i64 (M.length:Int),nilS,nilS]) rfl rfl).trans (Ref.to (by simp [rkL,intsC,off]) (by simp [sub,fget,off]))
 intro i hi
 have hrb:=rkL_b hi r5 f4
 have hrl:=rkL_len M i
 refine RN ?_
 refine ⟨fun hc=>?_,fun hc=>?_⟩
 ·have hi2:i<M.length:=by omega
  have hfa:(fcV (fl M) M M.length).getD i 0=(nf M i:Int):=by simp [fcV,hi2,nf]
  have hrp:=repeat_c (i:Int) (nf M i) (by unfold nf;have:=ncnt_le (oth M i M.length) (fl M);omega)
  refine RN ?_
  simp only [hfa,go_sem,↓reduceIte,Nat.reduceEqDiff,Nat.reduceAdd,reduceCtorEq]
  have hst:rkL M (i+1)=rkL M i++List.replicate (nf M i) (i:Int):=rfl
  have hos:=off_succ M i
  have hnl:nf M i≤400:=by unfold nf;have:=ncnt_le (oth M i M.length) (fl M);omega
  have hrb2:=rkL_b (M:=M) (i:=i+1) (by omega) r5 f4
  rw [rkL_len] at hrb2
  generalize nf M i=c at *
  have e0:(intsC (List.replicate c (i:Int))).take c=intsC (List.replicate c (i:Int)):=List.take_of_length_le (by simp [intsC])
  refine pureC1 (hrp) ?_
  refine RN ?_
  simp only [e0,all_plain_intsC,all_one_intsC,true_and,go_sem,↓reduceIte,Nat.reduceEqDiff,Nat.reduceAdd,reduceCtorEq]
  refine ⟨by omega,by omega,?_⟩
  refine RN ?_
  refine ⟨i+1,by omega,by omega,Ref.gc [0,1,2,3,7] rfl ?_ ?_⟩
  ·have e1:(intsC (rkL M i)).take (rkL M i).length=intsC (rkL M i):=List.take_of_length_le (by simp [intsC])
   rw [hrl] at e1
   rw [hst,hos]
   simp only [e1,go_sem,↓reduceIte,Nat.reduceEqDiff,Nat.reduceAdd,reduceCtorEq]
   simp [intsC,take_intsC]
  ·simp [sub,fget,go_sem,↓reduceIte,Nat.reduceEqDiff,Nat.reduceAdd,reduceCtorEq,hos]
 ·obtain rfl:i=M.length:=by omega
  refine RN ?_
  refine ⟨fun _=>?_,fun h=>absurd h (by omega)⟩
  refine RN ?_
  exact Ref.gc1 []
end
end Go.Proofs.Ytaekhhaaphgndaa
