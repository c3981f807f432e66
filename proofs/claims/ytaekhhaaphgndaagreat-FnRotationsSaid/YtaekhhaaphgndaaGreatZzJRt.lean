/- FnRotations: the given statement. -/
import Derived.Test.YtaekhhaaphgndaaGreatRows
import Derived.Test.YtaekhhaaphgndaaGreatRd
import Derived.Test.YtaekhhaaphgndaaGreatSf
import Derived.Test.YtaekhhaaphgndaaGreatSr
set_option maxHeartbeats 16000000
set_option linter.unusedSimpArgs false
set_option linter.unusedVariables false
set_option maxRecDepth 100000
namespace Go.Proofs.YtaekhhaaphgndaaGreat
open Go.Gov
open Classical
theorem mr_ok {r:List Int}(h:mrC r=0):IsRot r∧IsMap (moR r)∧mrV r=maniA (moR r)∧fl (moR r)=2*r.length∧sfB (moR r)=true∧vdC (moR r)=0∧altN (fcV (fl (moR r)) (moR r) (moR r).length) (moR r).length=2 - 2*sfG (moR r)∧0≤sfG (moR r)∧sfG (moR r)≤4000000:=by
 have hv:mrV r=maniA (moR r):=if_pos h
 unfold mrC at h
 split at h
 ·rename_i hr
  split at h
  ·rename_i hm
   have hR:=rot_ex hr
   obtain ⟨s1,s2,s3⟩:=hR.surface (by have:=hr.1;omega) hm
   have hb:=altN_bound (xs:=fcV (fl (moR r)) (moR r) (moR r).length) (fun i=>fcV_b (by have:=hm.1.f4;omega) i) (moR r).length
   have h3:=hm.2
   exact ⟨hr,hm,hv,hR.flen,s1,if_pos hm,s2,s3,by omega⟩
  ·cases h
 ·cases h
theorem mr_no {r:List Int}(h:mrC r≠0):mrV r = .agg [nilS]:=if_neg h
theorem ro_back {M:List (List Int)}(h:IsMap M)(hE:BipE (fl M) M):mrC (roV M)=0∧IsMap (moR (roV M))∧Iso (moR (roV M)) M∧(roV M).length≤200:=by
 have hR:=rt_of h hE
 have hfour:=hR.four
 have f2:=h.1.f2
 have f4:=h.1.f4
 have hv:roV M=roL M (2*ncnt (othE M) (fl M)):=if_pos ⟨h,hE⟩
 have hlen:(roV M).length=2*ncnt (othE M) (fl M):=by rw [hv,roL_len]
 have hpm:=roN_pm h hE
 have hat:∀ d,d<2*ncnt (othE M) (fl M)→(roV M).getD d 0=((roN M d:Nat):Int):=fun d hd=>by rw [hv];exact roL_at h hE (Nat.le_refl _) hd
 have hrot:IsRot (roV M):=by
  refine ⟨by omega,by omega,by omega,by omega,fun j hj=>?_⟩
  rw [hlen] at hj
  have hl:=hpm.lt j hj
  rw [hat j hj]
  refine ⟨by omega,fun i hi e=>?_⟩
  rw [hat i (by omega)] at e
  have:=hpm.inj i j (by omega) hj (by omega)
  omega
 have hX:=rot_ex hrot
 rw [hlen] at hX
 have hiso:=rot_iso h hE hX fun d hd=>by
  have:=hat d hd
  unfold rhoN
  omega
 have hN3:=hX.len
 have hNm:=hX.mvok
 have hNf:=hX.flen
 rw [← hNf] at hNm
 have hcon:=rot_con h hN3 hNm hiso
 have hmap:=hX.isMap (by omega) (by omega) (by rw [← hNf];exact hcon)
 refine ⟨?_,hmap,hiso.inv h,by omega⟩
 unfold mrC
 rw [if_pos hrot,if_pos hmap]
theorem ro_no {M:List (List Int)}(h:roC M≠0):roV M=[]:=by
 unfold roC at h
 unfold roV
 rw [if_neg]
 rintro ⟨h1,h2⟩
 rw [if_pos h1,if_pos h2] at h
 exact h rfl
theorem ro_yes {M:List (List Int)}(h:roC M=0):IsMap M∧BipE (fl M) M:=by
 unfold roC at h
 split at h
 ·rename_i h1
  split at h
  ·rename_i h2
   exact ⟨h1,h2⟩
  ·cases h
 ·cases h
theorem same9_z:Pure Tryz.prog 26 [nilS,nilS] (bl true) []:=by
 refine pureV ok26 rfl ?_;unfold c26
 refine RN ?_
 refine V_loop (α:=Unit) (S:=fun _=>([(0,nilS),(5,i64 0)],[])) (C:=fun _=>True) (μ:=fun _=>0) () trivial (Ref.to1) ?_
 intro _ _
 refine RN ?_
 refine fun _=>?_
 (refine RN ?_;try with_reducible exact trivial)
theorem equal9_z:Pure Tryz.prog 8 [.agg [nilS],.agg [nilS]] (bl true) []:=by
 have hs:=same9_z
 refine pureRV ok8 rfl ?_;unfold c8
 refine RN ?_
 refine pureC1 (hs) ?_
 refine RN ?_
 exact Ref.gc2 []
theorem lawRt_c (bs:List Int)(hl:bs.length≤9223372036854775807)(h8:∀ k,k<bs.length→0≤bs.getD k 0∧bs.getD k 0≤255):Pure Tryz.prog 3 [bytA' bs] (bl true) []:=by
 have hbig:=big_c bs hl
 unfold bytA' at *
 refine pureRV ok3 rfl ?_;unfold c3
 refine RN ?_
 refine pureC1 (hbig) ?_
 refine RN ?_
 refine ⟨fun hc=>?_,fun hc=>?_⟩
 ·(refine RN ?_;try with_reducible exact trivial)
  exact Ref.gc1 []
 have hb:Byt bs:=⟨by omega,h8⟩
 have hdr:=drawMapOfRotation_e bs hb
 have hdm:=drawRotationOf_e bs hb
 unfold bytA' at hdr hdm
 refine RN ?_
 refine pureEG hdr (by simp only [go_sem,↓reduceIte,Nat.reduceEqDiff,Nat.reduceAdd,reduceCtorEq]) fun r hr17=>?_
 have hI:=implMor_c r (by omega)
 have hS:=mapOfRotation_x r (by omega)
 have hi:=isRotation_x r (by omega)
 have hs:=isRotation_c r (by omega)
 obtain ⟨t,ht⟩:∃ t,t=decide (IsRot r):=⟨_,rfl⟩
 rw [← ht] at hi hs
 clear hbig hdr
 by_cases h0:mrC r=0
 case' pos=>
  obtain ⟨hrot,hM,hv,hfl,hsf,hvd,heu,hg0,hg1⟩:=mr_ok h0
  have h3:=hM.2
  have hrow:∀ p∈moR r,p.length≤1048576:=fun p hp=>by
   obtain ⟨k,hk,rfl⟩:=List.mem_iff_getElem.1 hp
   have h1:=(hM.1.rows k hk).1
   have f4:=hM.1.f4
   rw [show (moR r).getD k []=(moR r)[k] by simp [hk]] at h1
   omega
  have heq:=equal9_c (moR r) (moR r) (by omega) (by omega) hrow hrow
  rw [decide_eq_true rfl] at heq
  have hsu:=implSf_c (moR r) (by omega) hrow
  have hec:=implEu_c (moR r) hM.1
  have hf9:=flags9_c (moR r) (by omega) (by omega) hrow
  rw [heu] at hec
  rw [hsf,hvd] at hsu
  rw [hfl] at hf9
  rw [h0,hv] at hI hS
  generalize sfG (moR r)=G at *
  generalize moR r=M at *
  refine RN ?_
  refine call_pureG (hI) (by simp only [go_sem,↓reduceIte,Nat.reduceEqDiff,Nat.reduceAdd,reduceCtorEq]<;>rfl) ?_
  refine RN ?_
  refine call_pureG (hS) (by simp only [go_sem,↓reduceIte,Nat.reduceEqDiff,Nat.reduceAdd,reduceCtorEq]<;>rfl) ?_
  refine RN ?_
  refine GCall.on rfl ?_
  refine pureC heq (by simp only [go_sem,↓reduceIte,Nat.reduceEqDiff,Nat.reduceAdd,reduceCtorEq,maniA,mat]) (by simp only [go_sem,↓reduceIte,Nat.reduceEqDiff,Nat.reduceAdd,reduceCtorEq]) ?_
  refine RN ?_
  refine GCall.on rfl ?_
  refine pureC1 (hi) ?_
  refine RN ?_
  refine GCall.on rfl ?_
  refine pureC1 (hs) ?_
  refine RN ?_
  refine pureC hsu (by simp only [go_sem,↓reduceIte,Nat.reduceEqDiff,Nat.reduceAdd,reduceCtorEq,maniA,mat]) (by simp only [go_sem,↓reduceIte,Nat.reduceEqDiff,Nat.reduceAdd,reduceCtorEq]) ?_
  refine RN ?_
  refine pureC hec (by simp only [go_sem,↓reduceIte,Nat.reduceEqDiff,Nat.reduceAdd,reduceCtorEq,maniA,mat]) (by simp only [go_sem,↓reduceIte,Nat.reduceEqDiff,Nat.reduceAdd,reduceCtorEq]) ?_
  refine RN ?_
  have hG:decide (G<0)=false:=decide_eq_false (by omega)
  simp only [hG,eq_true hg0,go_sem,↓reduceIte,Nat.reduceEqDiff,Nat.reduceAdd,reduceCtorEq]
  refine GCall.on rfl ?_
  refine pureC hf9 (by simp only [go_sem,↓reduceIte,Nat.reduceEqDiff,Nat.reduceAdd,reduceCtorEq,maniA,mat]) (by simp only [go_sem,↓reduceIte,Nat.reduceEqDiff,Nat.reduceAdd,reduceCtorEq]) ?_
  refine RN ?_
  refine fun _=>?_
 case' neg=>
  have hv:=mr_no h0
  have heq:=equal9_z
  rw [hv] at hI hS
  generalize mrC r=c at *
  refine RN ?_
  refine call_pureG (hI) (by simp only [go_sem,↓reduceIte,Nat.reduceEqDiff,Nat.reduceAdd,reduceCtorEq]<;>rfl) ?_
  refine RN ?_
  refine call_pureG (hS) (by simp only [go_sem,↓reduceIte,Nat.reduceEqDiff,Nat.reduceAdd,reduceCtorEq]<;>rfl) ?_
  refine RN ?_
  refine GCall.on rfl ?_
  refine pureC heq (by simp only [go_sem,↓reduceIte,Nat.reduceEqDiff,Nat.reduceAdd,reduceCtorEq,maniA,mat]) (by simp only [go_sem,↓reduceIte,Nat.reduceEqDiff,Nat.reduceAdd,reduceCtorEq]) ?_
  refine RN ?_
  refine GCall.on rfl ?_
  refine pureC1 (hi) ?_
  refine RN ?_
  refine GCall.on rfl ?_
  refine pureC1 (hs) ?_
  refine RN ?_
  refine fun _=>?_
  refine RN ?_
  refine fun _=>?_
 all_goals
  clear hI hS hi hs h0
  refine W_ref (Ref.sel [] (F' := [(0,.slc 1 bs.length (u8s bs))]) (H' := []) rfl (by simp only [go_sem,↓reduceIte,Nat.reduceEqDiff,Nat.reduceAdd,reduceCtorEq]) ?_) ?_
  ·simp [sub,fget,go_sem,↓reduceIte,Nat.reduceEqDiff,Nat.reduceAdd,reduceCtorEq]
  refine RN ?_
  refine pureEG hdm (by simp only [go_sem,↓reduceIte,Nat.reduceEqDiff,Nat.reduceAdd,reduceCtorEq]) fun M2 hM2g=>?_
  have hl2:=hM2g.1
  have hr2:∀ p∈M2,p.length≤1048576:=fun p hp=>by have:=hM2g.2 p hp;omega
  have hI2:=implRo_c M2 (by omega) hr2
  have hS2:=specRo_c M2 (by omega) hr2
  have hi2:=implIsMap_c M2 (by omega) hr2
  have hs2:=specIsMap_c M2 (by omega) hr2
  have hrl:=roV_len M2
  have hli:=likeInts_c (roV M2) (roV M2) (by omega) (by omega)
  rw [decide_eq_true rfl] at hli
  have tk:(intsC (roV M2)).take (roV M2).length=intsC (roV M2):=List.take_of_length_le (by rw [len_intsC];exact Nat.le_refl _)
  have hcase:roC M2=0→IsMap M2∧BipE (fl M2) M2:=ro_yes
  have hno:roC M2≠0→(roV M2).length=0:=fun h=>by rw [ro_no h];rfl
  have hmb:=implMor_c (roV M2) (by omega)
  have hbk:roC M2=0→mrC (roV M2)=0∧∃ K,mrV (roV M2)=maniA K∧Pure Tryz.prog 20 [maniA K,maniA M2] (bl true) []:=fun h=>by
   obtain ⟨h1,h2⟩:=ro_yes h
   obtain ⟨k1,k2,k3,k4⟩:=ro_back h1 h2
   exact ⟨k1,_,(mr_ok k1).2.2.1,alike9_e _ _ k2 h1 k3⟩
  clear hcase hM2g hdm
  generalize decide (IsMap M2)=im at *
  generalize mrV (roV M2)=V at *
  generalize mrC (roV M2)=k at *
  generalize roC M2=c2 at *
  generalize roV M2=L at *
  refine RN ?_
  refine pureC1 (hI2) ?_
  refine RN ?_
  refine pureC1 (hS2) ?_
  refine RN ?_
  refine GCall.on rfl ?_
  refine pureC1 (hli) ?_
  refine RN ?_
  refine GCall.on rfl ?_
  refine pureC1 (hi2) ?_
  refine RN ?_
  refine GCall.on rfl ?_
  refine pureC1 (hs2) ?_
  refine RN ?_
  refine ⟨fun hc=>?_,fun hc=>?_⟩
  ·have hz:=hno (by simpa using hc)
   refine RN ?_
   simp only [hz]
   exact Ref.gc2 []
  have hc0:c2=0:=by simpa using hc
  obtain ⟨e1,K,e2,hal⟩:=hbk hc0
  rw [e1,e2] at hmb
  refine RN ?_
  refine CallsX.ice 1 ?_
  refine call_pureG hmb (by simp only [go_sem,↓reduceIte,Nat.reduceEqDiff,Nat.reduceAdd,reduceCtorEq,ints,tk]) ?_
  refine RN ?_
  refine GCall.on rfl ?_
  refine pureC hal (by simp only [go_sem,↓reduceIte,Nat.reduceEqDiff,Nat.reduceAdd,reduceCtorEq,maniA,mat]) (by simp only [go_sem,↓reduceIte,Nat.reduceEqDiff,Nat.reduceAdd,reduceCtorEq]) ?_
  refine RN ?_
  exact Ref.gc2 []
end Go.Proofs.YtaekhhaaphgndaaGreat
namespace Go.Proofs.YtaekhhaaphgndaaGreat.JRt
open Go.Proofs.YtaekhhaaphgndaaGreat
open Go.ChangeShapes Go.WideShapes Go.ChangeAt Go.RowKit Go.Gov
theorem lifted (os : Os) (started : os.Started) (H : Type) (enc : TypeId × Value → H) :
    ReturnsInHanded {} Tryz.checked os 3 .any (Rows.fnRotationsSpec.pre6 enc Tryz.prog Tryz.f3 Rows.fnRotationsRow.domain false) (Rows.fnRotationsSpec.post enc Tryz.prog Tryz.f3 false true false false):=by
 refine returnsInHanded_of_change (C:=Tryz.checked) Tryz.own started (by kernel_rfl) Tryz.func3
  (ChangeSpec.witness6 (enc:=enc) (C:=Tryz.checked) false ⟨#[],#[.slice none 0 0],[]⟩ 8 (by kernel_rfl) (by kernel_rfl) (by kernel_rfl) (by kernel_rfl)) ?_
 intro W base args ds gs before hval0 hW hcnd _
 have hval:∀ (j:Nat) t v,Tryz.f3.params[j]? = some t→args[j]? = some v→Value.okWide Tryz.prog W .any base t v:=hval0
 have hW' := hW
 obtain ⟨p,q,hA0,hV,rfl,hfz,hnd⟩:=hW
 have hA:DataW.TrodAll enc Tryz.prog W 0 (fun _=>true) true Tryz.f3.params.toList args.toList ds p:=hA0
 rw [Tryz.params3] at hA hval
 obtain ⟨v0,l0,d0,e0,p0,q0,ha0,rfl,rfl,h0,hA1⟩:=trodAll_cons hA
 obtain ⟨rfl,rfl,rfl⟩:=trodAll_nil hA1
 obtain rfl:args = #[v0]:=by rw [← Array.toArray_toList (xs:=args),ha0]
 have hv0:=hval 0 22 v0 rfl rfl
 obtain ⟨rfl,rfl⟩:=trodVars_none hV
 obtain ⟨a0,b0,c0,rfl⟩:=okWide_slice Tryz.underlying22 hv0
 obtain ⟨m0,t0⟩:=h0
 obtain ⟨s0,X0,hs0,hX0,hX80,rdX0⟩:=rd_bytes Tryz.underlying22 Tryz.underlying5 (by kernel_rfl) t0
 have h0:DataW.Trod enc Tryz.prog W 0 (fun _=>true) true 22 (.slice a0 b0 c0) d0 p0:=⟨m0,t0⟩
 obtain rfl:Value.slice a0 b0 c0=s0:=by simpa [Value.cells] using hs0
 have hrd:∀ m (h:m<([bytA' X0]:List AV).length),Rd W ((g0 W).tr []) (g0 W).G ([bytA' X0]:List AV)[m] ((#[Value.slice a0 b0 c0]:Array Value).getD m undef) []:=fun m h=>by
  match m,h with
  | 0,_=>exact rdX0 _
 refine (below_of (lawRt_c X0 (Nat.le_trans hX0 (by decide)) hX80) rfl hrd).mono fun e W' ⟨he,hb,hz⟩=>?_
 simp only [List.append_nil] at hW'
 have hS0:∀ sp:Nat→Bool,(∀ x∈p0,sp x.block=true)→DataW.Trod enc Tryz.prog W' 0 sp true 22 (.slice a0 b0 c0) _ p0:=fun sp hsp=>
  WideElems.Trod_stays Tryz.laidOut (by kernel_rfl) (of_decide_eq_true (by kernel_rfl)) h0 (fun x hx=>hb.same (hW'.lt x (by simp [hx]))) (fun x hx=>hsp x (by simp [hx]))
 have hR1:∀ (b:Nat) (sp:Nat→Bool) (hd:Bool),DataW.Trod enc Tryz.prog W' b sp hd 4 (.bool true) (.lit (.bool true)) []:=fun _ _ _=>shut_bool Tryz.underlying4 true
 refine ⟨_,he,post_of_new (pa:=p0) (pv:=[]) hW' (fun b sp hd=>trodAll_mk1 (hR1 b sp hd)) (fun sp hsp=>trodAll_mk1 (hS0 sp hsp)) (fun _ _=>?_) ?_ ?_ hz ?_⟩
 ·rfl
 ·simp
 ·exact hb.frame _
 ·exact ok_one (by kernel_rfl) rfl (okWide_bool_mk Tryz.underlying4 true)
theorem holds:Rows.FnRotationsSaid:=
 OpenClaim.holds_of_wide 3 Tryz.f3 rfl rfl rfl rfl rfl rfl rfl ⟨rfl,rfl,rfl,rfl,rfl⟩ rfl rfl rfl rfl rfl (by kernel_rfl) Tryz.func3 (by kernel_rfl)
  (of_decide_eq_true (by kernel_rfl)) (by unfold Func.isWrapper;first | (rw [if_pos (by decide +kernel)];kernel_rfl) | (rw [if_neg (by decide +kernel)];exact ⟨rfl,rfl⟩))
  (fun os started H enc _=>lifted os started H enc)
end Go.Proofs.YtaekhhaaphgndaaGreat.JRt
