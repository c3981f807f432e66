/- FnFacePosets: the given statement. -/
import Derived.Test.YtaekhhaaphgndaaRows
import Derived.Test.YtaekhhaaphgndaaRd
import Derived.Test.YtaekhhaaphgndaaSk
import Derived.Test.YtaekhhaaphgndaaSm
set_option maxHeartbeats 16000000
set_option linter.unusedSimpArgs false
set_option linter.unusedVariables false
set_option maxRecDepth 100000
namespace Go.Proofs.Ytaekhhaaphgndaa
section
open Go.Gov
open Classical
theorem likeRows5_c (A B:List (List Int))(hA:A.length≤1048576)(hB:B.length≤1048576)(rA:∀ p∈A,p.length≤1048576)(rB:∀ p∈B,p.length≤1048576):Pure Try.prog 24 [mat A,mat B] (bl (decide (A=B))) []:=by
 refine pureV ok24 rfl ?_;unfold c24
 refine RN ?_
 refine ⟨fun hc=>?_,fun hc=>?_⟩
 ·(refine RN ?_;try with_reducible exact trivial)
  rw [decide_eq_false (fun h=>hc (by rw [h]))]
 ·have hl:A.length=B.length:=by omega
  refine RN ?_
  refine V_loop (α:=Nat) (S:=fun i=>([(0,mat A),(1,mat B),(5,i64 i)],[])) (C:=fun i=>i≤A.length∧∀ j,j<i→A.getD j []=B.getD j []) (μ:=fun i=>A.length - i) 0 ⟨by omega,by omega⟩ (by exact Ref.frame (by simp [sub,fget])) ?_
  rintro i ⟨hi,hall⟩
  refine RN ?_
  refine ⟨fun hc1=>?_,fun hc1=>?_⟩
  ·have hi1:i<A.length:=by omega
   have hli:=likeInts_c (A.getD i []) (B.getD i []) (rA _ (by simp [hi1])) (rB _ (by simp [show i<B.length by omega]))
   refine RN ?_
   refine pureC1 (hli) ?_
   refine RN ?_
   refine ⟨fun hc2=>?_,fun hc2=>?_⟩
   ·(refine RN ?_;try with_reducible exact trivial)
    rw [decide_eq_false (fun h=>hc2 (by rw [h]))]
   ·(refine RN ?_;try with_reducible exact trivial)
    refine ⟨i+1,⟨by omega,fun j hj=>?_⟩,by omega,by exact Ref.frame (by simp [sub,fget])⟩
    rcases Nat.lt_or_ge j i with h | h
    ·exact hall j h
    ·obtain rfl:j=i:=by omega
     simpa using hc2
  ·(refine RN ?_;try with_reducible exact trivial)
   rw [decide_eq_true]
   refine List.ext_getElem hl fun j h1 h2=>?_
   have:=hall j (by omega)
   simpa [h1,h2] using this
theorem likePoset5_y (r:Int)(R:List Int)(B:List (List Int))(h1:R.length≤1048576)(hl:B.length≤1048576)(hr:∀ p∈B,p.length≤1048576):Pure Try.prog 8 [posetA r R B,posetA r R B] (bl true) []:=by
 have a1:=likeInts_c R R h1 h1
 have a2:=likeRows5_c B B hl hl hr hr
 rw [decide_eq_true rfl] at a1 a2
 have hb:(r == r)=true:=by simp
 refine pureRV ok8 rfl ?_;unfold c8
 refine RN ?_
 refine GCall.on rfl ?_
 refine pureC1 (a1) ?_
 refine RN ?_
 refine GCall.on rfl ?_
 refine pureC1 (a2) ?_
 refine RN ?_
 exact Ref.gc2 []
theorem likeInts_z:Pure Try.prog 11 [nilS,nilS] (bl true) []:=by
 refine pureV ok11 rfl ?_;unfold c11
 refine RN ?_
 refine V_loop (α:=Unit) (S:=fun _=>([(0,nilS),(5,i64 0)],[])) (C:=fun _=>True) (μ:=fun _=>0) () trivial (Ref.to1) ?_
 intro _ _
 refine RN ?_
 refine fun _=>?_
 (refine RN ?_;try with_reducible exact trivial)
theorem likeRows5_z:Pure Try.prog 24 [nilS,nilS] (bl true) []:=by
 refine pureV ok24 rfl ?_;unfold c24
 refine RN ?_
 refine V_loop (α:=Unit) (S:=fun _=>([(0,nilS),(5,i64 0)],[])) (C:=fun _=>True) (μ:=fun _=>0) () trivial (Ref.to1) ?_
 intro _ _
 refine RN ?_
 refine fun _=>?_
 (refine RN ?_;try with_reducible exact trivial)
theorem likePoset5_z:Pure Try.prog 8 [.agg [i64 0,nilS,nilS],.agg [i64 0,nilS,nilS]] (bl true) []:=by
 have a1:=likeInts_z
 have a2:=likeRows5_z
 refine pureRV ok8 rfl ?_;unfold c8
 refine RN ?_
 refine GCall.on rfl ?_
 refine pureC1 (a1) ?_
 refine RN ?_
 refine GCall.on rfl ?_
 refine pureC1 (a2) ?_
 refine RN ?_
 exact Ref.gc2 []
theorem hasInt_c (xs:List Int)(x:Int)(hl:xs.length≤1048576):Pure Try.prog 16 [ints xs,i64 x] (bl (decide (x∈xs))) []:=by
 refine pureV ok16 rfl ?_;unfold c16
 refine RN ?_
 refine V_loop (α:=Nat) (S:=fun i=>([(0,ints xs),(1,i64 x),(5,i64 i)],[])) (C:=fun i=>i≤xs.length∧∀ j,j<i→xs.getD j 0≠x) (μ:=fun i=>xs.length - i) 0 ⟨by omega,by omega⟩ (by exact Ref.frame (by simp [sub,fget])) ?_
 rintro i ⟨hi,hall⟩
 refine RN ?_
 refine ⟨fun hc1=>?_,fun hc1=>?_⟩
 ·have hi1:i<xs.length:=by omega
  refine RN ?_
  refine ⟨fun hc2=>?_,fun hc2=>?_⟩
  ·(refine RN ?_;try with_reducible exact trivial)
   rw [decide_eq_true]
   rw [← hc2]
   simp [hi1]
  ·(refine RN ?_;try with_reducible exact trivial)
   refine ⟨i+1,⟨by omega,fun j hj=>?_⟩,by omega,by exact Ref.frame (by simp [sub,fget])⟩
   rcases Nat.lt_or_ge j i with h | h
   ·exact hall j h
   ·obtain rfl:j=i:=by omega
    exact hc2
 ·(refine RN ?_;try with_reducible exact trivial)
  rw [decide_eq_false]
  intro hm
  obtain ⟨j,hj,e⟩:=List.mem_iff_getElem.1 hm
  exact hall j (by omega) (by simp [hj,e])
theorem implIsPoset_c (r:Int)(R:List Int)(B:List (List Int))(h1:R.length≤1099511627776)(hl:B.length≤1099511627776)(hr:∀ xs∈B,xs.length≤1099511627776):Pure Try.prog 12 [posetA r R B] (bl (decide (IsPos r R B))) []:=by
 have h:=isPoset_c r R B h1 hl hr
 refine pureRV ok12 rfl ?_;unfold c12
 refine RN ?_
 refine pureC1 (h) ?_
 refine RN ?_
 exact Ref.gc2 []
theorem hasRank5_c (M:List (List Int))(i:Int)(hl:M.length≤1048576):Pure Try.prog 28 [maniP M,i64 i] (bl (decide (0≤i)&&decide (i≤(M.length:Int) - 1))) []:=by
 have hrk:=rank_c M hl
 refine pureV ok28 rfl ?_;unfold c28
 refine RN ?_
 refine pureC1 (hrk) ?_
 refine RN ?_
 refine pureC1 (within_c i 0 ((M.length:Int) - 1)) ?_
 (refine RN ?_;try with_reducible exact trivial)
theorem faceLabels_c (M:List (List Int))(hm:IsMan M)(i:Nat)(hi:i<M.length):Pure Try.prog 15 [maniA M,i64 (i:Int)] (.tup [.sl 0 1 0 (fl M),i64 0]) [some (intsC (labs (fl M) (oth M i M.length)))]:=by
 have r5:=hm.r5
 have f4:=hm.f4
 have hq:=isManiplex_c M (by omega) (fun p hp=>by
  obtain ⟨k,hk,rfl⟩:=List.mem_iff_getElem.1 hp
  have h1:=(hm.rows k hk).1
  rw [show M.getD k []=M[k] by simp [hk]] at h1
  omega)
 rw [decide_eq_true hm] at hq
 have hr:=hasRank5_c M i (by omega)
 have hF:=faces_c (fl M) M i hm.mv hi rfl (by omega) (by omega)
 rw [show (decide ((0:Int)≤(i:Int))&&decide ((i:Int)≤(M.length:Int) - 1))=true by simp;omega] at hr
 refine pureRV ok15 rfl ?_;unfold c15
 refine RN ?_
 refine pureC1 (hq) ?_
 refine RN ?_
 refine pureC1 (hr) ?_
 refine RN ?_
 refine pureC1 (hF) ?_
 refine RN ?_
 exact Ref.gc2 [1]
theorem rkL_cntQ (M:List (List Int))(i:Nat):∀ m,(rkL M m).count (i:Int)=if i<m then nf M i else 0
 | 0=>by simp [rkL]
 | m+1=>by
  unfold rkL
  rw [List.count_append,rkL_cntQ M i m,List.count_replicate]
  by_cases h2:i=m
  ·subst h2;simp
  ·have hb:((m:Int) == (i:Int))=false:=by rw [beq_eq_false_iff_ne];omega
   rw [hb]
   simp only [show (i<m+1)=(i<m) from propext ⟨fun h=>by omega,fun h=>by omega⟩]
   simp
theorem cnt_rkQ (M:List (List Int)):cntV (M.length:Int) (rkL M M.length)=fcV (fl M) M M.length:=by
 unfold cntV fcV
 simp only [Int.toNat_natCast]
 refine List.map_congr_left fun i hi=>?_
 rw [rkL_cntQ,if_pos (List.mem_range.1 hi)]
 rfl
theorem inc_flag {M:List (List Int)}(hM:MvOk (fl M) M){i k e f:Nat}(hik:i<k)(hk:k<M.length)(he:e<nf M i)(hf:f<nf M k):(((off M i+e:Nat):Int)∈blwE M M.length (off M k+f)) ↔ ∃ g,g<fl M∧lbf M i g=e∧lbf M k g=f:=by
 rw [blwE_mem hM (Nat.le_refl _)]
 constructor
 ·rintro ⟨d,h1,x,hx,a,b,h2,h3,h4,h5⟩
  obtain rfl:off M i+e=d:=by omega
  obtain ⟨rfl,h6⟩:=off_inj he (lbf_lt hM hx) h4
  obtain ⟨rfl,h7⟩:=off_inj hf (lbf_lt hM hx) h5
  exact ⟨x,hx,h6.symm,h7.symm⟩
 ·rintro ⟨g,hg,rfl,rfl⟩
  exact ⟨_,rfl,g,hg,i,k,hik,hk,rfl,rfl⟩
end
section
open Go.Gov
open Classical
theorem lawFp_c (bs:List Int)(hl:bs.length≤9223372036854775807)(h8:∀ k,k<bs.length→0≤bs.getD k 0∧bs.getD k 0≤255):Pure Try.prog 3 [bytA' bs] (bl true) []:=by
 have hbig:=big_c bs hl
 unfold bytA' at *
 refine pureRV ok3 rfl ?_;unfold c3
 refine RN ?_
 refine pureC1 (hbig) ?_
 refine RN ?_
 refine ⟨fun hc=>?_,fun hc=>?_⟩
 ·(refine RN ?_;try with_reducible exact trivial)
  exact Ref.gc1 []
 have hb:Byt bs:=⟨by omega,h8⟩
 have hdr:=drawFacePoset_e bs hb
 unfold bytA' at hdr
 refine RN ?_
 refine pureEG hdr (by simp only [go_sem,↓reduceIte,Nat.reduceEqDiff,Nat.reduceAdd,reduceCtorEq]) fun M hMg=>?_
 obtain ⟨g1,g2⟩:=hMg
 have gr:∀ p∈M,p.length≤1048576:=fun p hp=>by have:=g2 p hp;omega
 have hz:=likePoset5_z
 by_cases hm:IsMan M
 ·by_cases hk:off M M.length≤500
  ·have hI:=implFp_y M (by omega) gr hm hk
   have hS:=specFp_y M (by omega) gr hm hk
   have hp:IsPos (M.length:Int) (rkL M M.length) (blwL M M.length):=face_pos hm hk
   have t1:=take_rk M
   have t2:=take_bl M
   have hrl:=rkL_len M M.length
   have hbl:=blwL_len M M.length
   obtain ⟨a1,a2,a3,a4,a5⟩:=hp.rank
   have hbr:∀ xs∈blwL M M.length,xs.length≤500:=fun xs h=>by have:=blwL_b M _ xs h;omega
   have hlp:=likePoset5_y (M.length:Int) (rkL M M.length) (blwL M M.length) (by omega) (by omega) (fun xs h=>by have:=hbr xs h;omega)
   refine RN ?_
   refine pureC1 (hI) ?_
   refine RN ?_
   refine pureC1 (hS) ?_
   refine RN ?_
   refine GCall.on rfl ?_
   refine pureC hlp (by simp only [go_sem,↓reduceIte,Nat.reduceEqDiff,Nat.reduceAdd,reduceCtorEq,posetA,ints,mat,t1,t2,hrl,hbl]) (by simp only [go_sem,↓reduceIte,Nat.reduceEqDiff,Nat.reduceAdd,reduceCtorEq]) ?_
   refine RN ?_
   have hfc:=faceCounts_y M hm
   have hCl:=fcV_len (fl M) M M.length
   have hCb:=fun i=>fcV_b (n:=fl M) (M:=M) (k:=M.length) (by have:=hm.f4;omega) i
   have hCa:∀ i,i<M.length→(fcV (fl M) M M.length).getD i 0=(nf M i:Int):=fun i hi=>by simp [fcV,hi,nf]
   have hec:=implCounts_c (M.length:Int) (rkL M M.length) (blwL M M.length) (by omega) (by omega) (fun xs h=>by have:=hbr xs h;omega)
   unfold ecV ecC at hec
   rw [if_pos hp,if_pos hp,cnt_rkQ] at hec
   have hip:=implIsPoset_c (M.length:Int) (rkL M M.length) (blwL M M.length) (by omega) (by omega) (fun xs h=>by have:=hbr xs h;omega)
   rw [decide_eq_true hp] at hip
   have hli:=likeInts_c (fcV (fl M) M M.length) (fcV (fl M) M M.length) (by omega) (by omega)
   rw [decide_eq_true rfl] at hli
   have tC:(intsC (fcV (fl M) M M.length)).take M.length=intsC (fcV (fl M) M M.length):=List.take_of_length_le (by simp [intsC,hCl])
   rw [hCl] at hec
   generalize fcV (fl M) M M.length=C at *
   refine pureC hfc (by simp only [go_sem,↓reduceIte,Nat.reduceEqDiff,Nat.reduceAdd,reduceCtorEq,maniA,mat]) (by simp only [go_sem,↓reduceIte,Nat.reduceEqDiff,Nat.reduceAdd,reduceCtorEq]) ?_
   refine RN ?_
   refine pureC hec (by simp only [go_sem,↓reduceIte,Nat.reduceEqDiff,Nat.reduceAdd,reduceCtorEq,posetA,ints,mat,t1,t2,hrl,hbl]) (by simp only [go_sem,↓reduceIte,Nat.reduceEqDiff,Nat.reduceAdd,reduceCtorEq]) ?_
   refine RN ?_
   refine GCall.on rfl ?_
   refine pureC hli (by simp only [go_sem,↓reduceIte,Nat.reduceEqDiff,Nat.reduceAdd,reduceCtorEq,ints,tC,hCl]) (by simp only [go_sem,↓reduceIte,Nat.reduceEqDiff,Nat.reduceAdd,reduceCtorEq]) ?_
   refine RN ?_
   refine GCall.on rfl ?_
   refine pureC hip (by simp only [go_sem,↓reduceIte,Nat.reduceEqDiff,Nat.reduceAdd,reduceCtorEq,posetA,ints,mat,t1,t2,hrl,hbl]) (by simp only [go_sem,↓reduceIte,Nat.reduceEqDiff,Nat.reduceAdd,reduceCtorEq]) ?_
   have hro:=roll_p bs hb 706
   unfold bytA' at hro
   refine RN ?_
   refine pureEG hro (by simp only [go_sem,↓reduceIte,Nat.reduceEqDiff,Nat.reduceAdd,reduceCtorEq]) fun h0 _=>?_
   refine RN ?_
   refine wriEF (below_w bs hb 0 h0 (Nat.zero_le _) (M.length:Int)) [9] (by first | rfl | simp) (by simp only [go_sem,↓reduceIte,Nat.reduceEqDiff,Nat.reduceAdd,reduceCtorEq]<;>rfl) (by simp only [go_sem,↓reduceIte,Nat.reduceEqDiff,Nat.reduceAdd,reduceCtorEq]<;>rfl) fun o ho=>?_
   obtain ⟨a1', b1', x1⟩:=o
   obtain ⟨q1,q2,q3⟩:=ho
   dsimp only at q1 q2 q3
   refine RN ?_
   refine wriEF (below_w bs hb a1' b1' q1 (M.length:Int)) [9] (by first | rfl | simp) (by simp only [go_sem,↓reduceIte,Nat.reduceEqDiff,Nat.reduceAdd,reduceCtorEq]<;>rfl) (by simp only [go_sem,↓reduceIte,Nat.reduceEqDiff,Nat.reduceAdd,reduceCtorEq]<;>rfl) fun o ho=>?_
   obtain ⟨a2', b2', x2⟩:=o
   obtain ⟨r1,r2,r3⟩:=ho
   dsimp only at r1 r2 r3
   obtain ⟨i,rfl⟩:=Int.eq_ofNat_of_zero_le q2
   obtain ⟨k,rfl⟩:=Int.eq_ofNat_of_zero_le r2
   refine RN ?_
   refine ⟨fun hc1=>?_,fun hc1=>?_⟩
   ·(refine RN ?_;try with_reducible exact trivial)
    exact Ref.gc1 []
   ·have hik:i<k:=by omega
    have hkn:k<M.length:=by omega
    refine V_ref (Ref.sel [9] (F' := [(3,.pto [mat M] 0),(4,.pto [i64 M.length,ints (rkL M M.length),mat (blwL M M.length)] 0),(8,ints C),(12,.ref 0 0),(14,i64 (i:Int)),(15,i64 (k:Int))]) (H' := [some (srcC bs a2' b2')]) rfl ?_ ?_) ?_
    ·simp only [go_sem,↓reduceIte,Nat.reduceEqDiff,Nat.reduceAdd,reduceCtorEq]
    ·simp only [t1,t2,tC,go_sem,↓reduceIte,Nat.reduceEqDiff,Nat.reduceAdd,reduceCtorEq]
     simp [sub,fget,ints,mat,hrl,hbl,hCl]
    have hob:∀ j,j≤M.length→off M j≤500:=fun j hj=>by have:=off_mono M hj;omega
    clear hdr hro hI hS hec hip hfc hlp hli
    refine RN ?_
    refine V_loop (α:=Nat) (S:=fun j=>([(3,.pto [mat M] 0),(4,.pto [i64 M.length,ints (rkL M M.length),mat (blwL M M.length)] 0),(8,ints C),(12,.ref 0 0),(14,i64 (i:Int)),(15,i64 (k:Int)),(16,i64 (off M (min j i):Int)),(17,i64 (off M j:Int)),(18,i64 (j:Int))],[some (srcC bs a2' b2')])) (C:=fun j=>j≤k) (μ:=fun j=>k - j) 0 (Nat.zero_le _) (Ref.to rfl (by simp [sub,fget,off])) ?_
    intro j hj
    have hoj:=hob j (by omega)
    have homin:=hob (min j i) (by omega)
    refine RN ?_
    refine ⟨fun hc2=>?_,fun hc2=>?_⟩
    ·have hjk:j<k:=by omega
     have hCj:=hCa j (by omega)
     have hos:=off_succ M j
     have hoj2:=hob (j+1) (by omega)
     refine RN ?_
     refine ⟨fun hc3=>?_,fun hc3=>?_⟩
     ·(refine RN ?_;try with_reducible exact trivial)
      refine ⟨j+1,by omega,by omega,Ref.to rfl ?_⟩
      rw [show min j i=j by omega,show min (j+1) i=j+1 by omega,hCj]
      simp [sub,fget,hos]
     ·(refine RN ?_;try with_reducible exact trivial)
      refine ⟨j+1,by omega,by omega,Ref.to rfl ?_⟩
      rw [show min j i=i by omega,show min (j+1) i=i by omega,hCj]
      simp [sub,fget,hos]
    ·obtain rfl:j=k:=by omega
     rw [show min j i=i by omega]
     have hCi:=hCa i (by omega)
     have hCk:=hCa j (by omega)
     have hfi:=faceLabels_c M hm i (by omega)
     have hfk:=faceLabels_c M hm j hkn
     have hoi:=hob i (by omega)
     have hni:0<nf M i:=Nat.lt_of_le_of_lt (Nat.zero_le _) (lbf_lt hm.mv (i:=i) (x:=0) (by have:=hm.f2;omega))
     have hnj:0<nf M j:=Nat.lt_of_le_of_lt (Nat.zero_le _) (lbf_lt hm.mv (i:=j) (x:=0) (by have:=hm.f2;omega))
     refine RN ?_
     refine V_altsD (fun o:Int×Int=>(0≤o.1∧o.1<(nf M i:Int))∧0≤o.2∧o.2<(nf M j:Int)) (fun o=>[(3,.pto [mat M] 0),(4,.pto [i64 M.length,ints (rkL M M.length),mat (blwL M M.length)] 0),(14,i64 (i:Int)),(15,i64 (j:Int)),(16,i64 (off M i:Int)),(17,i64 (off M j:Int)),(19,i64 o.1),(20,i64 o.2)]) (fun o=>[]) ?_ ?_
     ·repeat' first
        | simp only [hCi,hCk,go_sem,↓reduceIte,Nat.reduceEqDiff,Nat.reduceAdd,reduceCtorEq]
        | with_reducible refine LT_reg ?_
        | with_reducible refine LT_fin ?_
        | with_reducible exact LT_tt
        | with_reducible refine LT_alt ?_ ?_
        | (with_reducible refine And.intro ?_ ?_;focus first | assumption | omega | grind)
        | refine wriEF (below_w bs hb _ _ ho.1 ((nf M j:Nat):Int)) [0] (by first | rfl | simp) (by simp only [go_sem,↓reduceIte,Nat.reduceEqDiff,Nat.reduceAdd,reduceCtorEq]<;>rfl) (by simp only [go_sem,↓reduceIte,Nat.reduceEqDiff,Nat.reduceAdd,reduceCtorEq]<;>rfl) fun o ho=>?_
        | refine wriEF (below_w bs hb a2' b2' r1 ((nf M i:Nat):Int)) [0] (by first | rfl | simp) (by simp only [go_sem,↓reduceIte,Nat.reduceEqDiff,Nat.reduceAdd,reduceCtorEq]<;>rfl) (by simp only [go_sem,↓reduceIte,Nat.reduceEqDiff,Nat.reduceAdd,reduceCtorEq]<;>rfl) fun o ho=>?_
      all_goals
       rename_i o1 ho1
       exact ⟨(o1.2.2,o.2.2),⟨⟨ho1.2.1,by omega⟩,ho.2.1,by omega⟩,Ref.gc2 []⟩
     ·rintro ⟨e,f⟩ ⟨⟨c1,c2⟩,c3,c4⟩
      dsimp only at c1 c2 c3 c4 ⊢
      obtain ⟨e,rfl⟩:=Int.eq_ofNat_of_zero_le c1
      obtain ⟨f,rfl⟩:=Int.eq_ofNat_of_zero_le c3
      have he:e<nf M i:=by omega
      have hf:f<nf M j:=by omega
      have hol:=off_mono M (show j+1≤M.length by omega)
      rw [off_succ] at hol
      have hli:=labs_len (fl M) (oth M i M.length)
      have hlj:=labs_len (fl M) (oth M j M.length)
      have tli:=take_labs (fl M) (oth M i M.length)
      have tlj:=take_labs (fl M) (oth M j M.length)
      refine RN ?_
      refine pureC hfi (by simp only [go_sem,↓reduceIte,Nat.reduceEqDiff,Nat.reduceAdd,reduceCtorEq,maniA,mat]) (by simp only [go_sem,↓reduceIte,Nat.reduceEqDiff,Nat.reduceAdd,reduceCtorEq]) ?_
      refine RN ?_
      refine pureC hfk (by simp only [go_sem,↓reduceIte,Nat.reduceEqDiff,Nat.reduceAdd,reduceCtorEq,maniA,mat]) (by simp only [go_sem,↓reduceIte,Nat.reduceEqDiff,Nat.reduceAdd,reduceCtorEq]) ?_
      refine RN ?_
      refine fun _=>?_
      refine RN ?_
      obtain ⟨A,hA⟩:∃ A,A=labs (fl M) (oth M i M.length):=⟨_,rfl⟩
      obtain ⟨B,hB⟩:∃ B,B=labs (fl M) (oth M j M.length):=⟨_,rfl⟩
      rw [← hA] at hli tli ⊢
      rw [← hB] at hlj tlj ⊢
      have hAt:∀ g,g<fl M→A.getD g 0=((lbf M i g:Nat):Int):=fun g hg=>by rw [hA,labs_at hg];rfl
      have hBt:∀ g,g<fl M→B.getD g 0=((lbf M j g:Nat):Int):=fun g hg=>by rw [hB,labs_at hg];rfl
      clear hfi hfk
      refine V_loop (α:=Nat×Bool) (S:=fun o=>([(4,.pto [i64 M.length,ints (rkL M M.length),mat (blwL M M.length)] 0),(16,i64 (off M i:Int)),(17,i64 (off M j:Int)),(19,i64 (e:Int)),(20,i64 (f:Int)),(21,.sl 0 1 0 (fl M)),(23,.sl 1 1 0 (fl M)),(25,bl o.2),(26,i64 (o.1:Int))],[some (intsC A),some (intsC B)])) (C:=fun o=>o.1≤fl M∧(o.2=true ↔ ∃ g,g<o.1∧lbf M i g=e∧lbf M j g=f)) (μ:=fun o=>fl M - o.1) (0,false) ⟨Nat.zero_le _,by simp⟩ (Ref.to1) ?_
      rintro ⟨g,b⟩ ⟨hg,hbb⟩
      dsimp only at hg hbb ⊢
      refine RN ?_
      refine ⟨fun hc5=>?_,fun hc5=>?_⟩
      ·have hg2:g<fl M:=by omega
       have hAg:=hAt g hg2
       have hBg:=hBt g hg2
       have hstep:(∃ g', g' < g+1∧lbf M i g' = e∧lbf M j g' = f) ↔ (∃ g', g' < g∧lbf M i g' = e∧lbf M j g' = f)∨(lbf M i g=e∧lbf M j g=f):=by
        constructor
        ·rintro ⟨g', h1,h2⟩
         rcases Nat.lt_or_ge g' g with h3 | h3
         ·exact .inl ⟨g', h3,h2⟩
         ·obtain rfl:g' = g:=by omega
          exact .inr h2
        ·rintro (⟨g', h1,h2⟩ | h)
         ·exact ⟨g', by omega,h2⟩
         ·exact ⟨g,by omega,h⟩
       cases b with
       | true=>
        refine RN ?_
        refine ⟨(g+1,true),⟨by dsimp only;omega,?_⟩,by dsimp only;omega,Ref.to1⟩
        dsimp only
        rw [hstep]
        exact ⟨fun _=>.inl (hbb.1 rfl),fun _=>rfl⟩
       | false=>
        refine RN ?_
        refine ⟨(g+1,A.getD g 0 == (e:Int)&&B.getD g 0 == (f:Int)),⟨by dsimp only;omega,?_⟩,by dsimp only;omega,Ref.to1⟩
        dsimp only
        rw [hstep,hAg,hBg,Bool.and_eq_true,beq_iff_eq,beq_iff_eq]
        constructor
        ·rintro ⟨h1,h2⟩
         exact .inr ⟨by omega,by omega⟩
        ·rintro (h1 | ⟨h1,h2⟩)
         ·exact absurd (hbb.2 h1) (by simp)
         ·exact ⟨by omega,by omega⟩
      ·obtain rfl:g=fl M:=by omega
       have hinc:=inc_flag hm.mv (show i<j by omega) hkn he hf
       have hrow:(blwL M M.length).getD (off M j+f) []=blwE M M.length (off M j+f):=blwL_at (by omega)
       have hbl2:=blwE_len M M.length (off M j+f)
       have hhi:=hasInt_c (blwE M M.length (off M j+f)) ((off M i:Int)+(e:Int)) (by omega)
       have hcast:((off M i+e:Nat):Int)=(off M i:Int)+(e:Int):=by push_cast;rfl
       rw [hcast] at hinc
       have hbd:b=decide ((off M i:Int)+(e:Int)∈blwE M M.length (off M j+f)):=by
        rw [Bool.eq_iff_iff,decide_eq_true_eq]
        exact hbb.trans hinc.symm
       have htn:((off M j:Int)+(f:Int)).toNat=off M j+f:=by omega
       rw [← hbd] at hhi
       refine RN ?_
       simp only [htn,hrow]
       refine pureC1 (hhi) ?_
       refine RN ?_
       exact Ref.gc1 []
  ·have hI:=implFp_l M (by omega) gr hm hk
   have hS:=specFp_l M (by omega) gr hm hk
   refine RN ?_
   refine pureC1 (hI) ?_
   refine RN ?_
   refine pureC1 (hS) ?_
   refine RN ?_
   refine GCall.on rfl ?_
   refine pureC1 (hz) ?_
   refine RN ?_
   refine ⟨fun _=>?_,fun h=>absurd h (by decide)⟩
   refine RN ?_
   exact Ref.gc1 []
 ·have hI:=implFp_n M (by omega) gr hm
  have hS:=specFp_n M (by omega) gr hm
  refine RN ?_
  refine pureC1 (hI) ?_
  refine RN ?_
  refine pureC1 (hS) ?_
  refine RN ?_
  refine GCall.on rfl ?_
  refine pureC1 (hz) ?_
  refine RN ?_
  refine ⟨fun _=>?_,fun h=>absurd h (by decide)⟩
  refine RN ?_
  exact Ref.gc1 []
end
end Go.Proofs.Ytaekhhaaphgndaa
namespace Go.Proofs.Ytaekhhaaphgndaa.JFp
open Go.Proofs.Ytaekhhaaphgndaa
open Go.ChangeShapes Go.WideShapes Go.ChangeAt Go.RowKit Go.Gov
theorem lifted (os : Os) (started : os.Started) (H : Type) (enc : TypeId × Value → H) :
    ReturnsInHanded {} Try.checked os 3 .any (Rows.fnFacePosetsSpec.pre6 enc Try.prog Try.f3 Rows.fnFacePosetsRow.domain false) (Rows.fnFacePosetsSpec.post enc Try.prog Try.f3 false true false false):=by
 refine returnsInHanded_of_change (C:=Try.checked) Try.own started (by kernel_rfl) Try.func3
  (ChangeSpec.witness6 (enc:=enc) (C:=Try.checked) false ⟨#[],#[.slice none 0 0],[]⟩ 8 (by kernel_rfl) (by kernel_rfl) (by kernel_rfl) (by kernel_rfl)) ?_
 intro W base args ds gs before hval0 hW hcnd _
 have hval:∀ (j:Nat) t v,Try.f3.params[j]? = some t→args[j]? = some v→Value.okWide Try.prog W .any base t v:=hval0
 have hW' := hW
 obtain ⟨p,q,hA0,hV,rfl,hfz,hnd⟩:=hW
 have hA:DataW.TrodAll enc Try.prog W 0 (fun _=>true) true Try.f3.params.toList args.toList ds p:=hA0
 rw [Try.params3] at hA hval
 obtain ⟨v0,l0,d0,e0,p0,q0,ha0,rfl,rfl,h0,hA1⟩:=trodAll_cons hA
 obtain ⟨rfl,rfl,rfl⟩:=trodAll_nil hA1
 obtain rfl:args = #[v0]:=by rw [← Array.toArray_toList (xs:=args),ha0]
 have hv0:=hval 0 22 v0 rfl rfl
 obtain ⟨rfl,rfl⟩:=trodVars_none hV
 obtain ⟨a0,b0,c0,rfl⟩:=okWide_slice Try.underlying22 hv0
 obtain ⟨m0,t0⟩:=h0
 obtain ⟨s0,X0,hs0,hX0,hX80,rdX0⟩:=rd_bytes Try.underlying22 Try.underlying5 (by kernel_rfl) t0
 have h0:DataW.Trod enc Try.prog W 0 (fun _=>true) true 22 (.slice a0 b0 c0) d0 p0:=⟨m0,t0⟩
 obtain rfl:Value.slice a0 b0 c0=s0:=by simpa [Value.cells] using hs0
 have hrd:∀ m (h:m<([bytA' X0]:List AV).length),Rd W ((g0 W).tr []) (g0 W).G ([bytA' X0]:List AV)[m] ((#[Value.slice a0 b0 c0]:Array Value).getD m undef) []:=fun m h=>by
  match m,h with
  | 0,_=>exact rdX0 _
 refine (below_of (lawFp_c X0 (Nat.le_trans hX0 (by decide)) hX80) rfl hrd).mono fun e W' ⟨he,hb,hz⟩=>?_
 simp only [List.append_nil] at hW'
 have hS0:∀ sp:Nat→Bool,(∀ x∈p0,sp x.block=true)→DataW.Trod enc Try.prog W' 0 sp true 22 (.slice a0 b0 c0) _ p0:=fun sp hsp=>
  WideElems.Trod_stays Try.laidOut (by kernel_rfl) (of_decide_eq_true (by kernel_rfl)) h0 (fun x hx=>hb.same (hW'.lt x (by simp [hx]))) (fun x hx=>hsp x (by simp [hx]))
 have hR1:∀ (b:Nat) (sp:Nat→Bool) (hd:Bool),DataW.Trod enc Try.prog W' b sp hd 4 (.bool true) (.lit (.bool true)) []:=fun _ _ _=>shut_bool Try.underlying4 true
 refine ⟨_,he,post_of_new (pa:=p0) (pv:=[]) hW' (fun b sp hd=>trodAll_mk1 (hR1 b sp hd)) (fun sp hsp=>trodAll_mk1 (hS0 sp hsp)) (fun _ _=>?_) ?_ ?_ hz ?_⟩
 ·rfl
 ·simp
 ·exact hb.frame _
 ·exact ok_one (by kernel_rfl) rfl (okWide_bool_mk Try.underlying4 true)
theorem holds:Rows.FnFacePosetsSaid:=
 OpenClaim.holds_of_wide 3 Try.f3 rfl rfl rfl rfl rfl rfl rfl ⟨rfl,rfl,rfl,rfl,rfl⟩ rfl rfl rfl rfl rfl (by kernel_rfl) Try.func3 (by kernel_rfl)
  (of_decide_eq_true (by kernel_rfl)) (by unfold Func.isWrapper;first | (rw [if_pos (by decide +kernel)];kernel_rfl) | (rw [if_neg (by decide +kernel)];exact ⟨rfl,rfl⟩))
  (fun os started H enc _=>lifted os started H enc)
end Go.Proofs.Ytaekhhaaphgndaa.JFp
