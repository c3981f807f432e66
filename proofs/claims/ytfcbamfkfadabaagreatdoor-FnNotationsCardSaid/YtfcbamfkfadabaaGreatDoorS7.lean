/- Texts that belong together. -/
import Derived.Test.YtfcbamfkfadabaaGreatDoorRc
import Derived.Test.YtfcbamfkfadabaaGreatDoorS6
set_option linter.unusedSimpArgs false
set_option linter.unusedVariables false
set_option maxRecDepth 100000
namespace Go.Proofs.YtfcbamfkfadabaaGreatDoor
section
open Go.Gov Go.Ce
open Classical
structure IsoM (M N:List (List Int)) (φ:Nat→Nat):Prop where
 n:fl M=fl N
 lt:∀ x,x<fl M→φ x<fl M
 inj:∀ x y,x<fl M→y<fl M→φ x=φ y→x=y
 mv:∀ k x,k<3→x<fl M→mv N k (φ x)=φ (mv M k x)
def Iso (M N:List (List Int)):Prop:=∃ φ,IsoM M N φ
theorem psN_iso {n:Nat}{φ:Nat→Nat}(hi:∀ x y,x<n→y<n→φ x=φ y→x=y){O:List Nat}(hO:∀ d∈O,d<n){d:Nat}(hd:d<n):psN (O.map φ) (φ d)=(psN O d).map φ:=by
 have h:φ d∈O.map φ ↔ d∈O:=⟨fun h=>by
  obtain ⟨x,hx,e⟩:=List.mem_map.1 h
  rwa [← hi x d (hO x hx) hd e],fun h=>List.mem_map.2 ⟨d,h,rfl⟩⟩
 unfold psN
 by_cases hm:d∈O
 ·rw [if_pos hm,if_pos (h.2 hm)]
 ·rw [if_neg hm,if_neg (fun h' => hm (h.1 h'))];simp
theorem getD_mapN (φ:Nat→Nat)(O:List Nat){i:Nat}(h:i<O.length):(O.map φ).getD i 0=φ (O.getD i 0):=by simp [h]
theorem bG_iso {M N:List (List Int)}{φ:Nat→Nat}(hM:IsMap M)(h:IsoM M N φ){O:List Nat}(hO:Bd (fl M) O){x:Nat}(hx:x<fl M):∀ k,k≤3→bG N (O.map φ) (φ x) k=(bG M O x k).map φ
 | 0,_=>rfl
 | k+1,hk=>by
  have hb:=(bG_ok (mvr_of hM) hO hx k (by have:=hM.2;omega)).1
  rw [bG,bG,bG_iso hM h hO hx k (by omega),h.mv k x (by omega) hx]
  exact psN_iso h.inj hb.lt (hM.mvi.lt k x (by omega) hx)
theorem bF_iso {M N:List (List Int)}{φ:Nat→Nat}(hM:IsMap M)(hN:N.length=3)(h:IsoM M N φ):∀ (k:Nat) (O:List Nat) (i:Nat),Bd (fl M) O→bF N k (O.map φ) i=(bF M k O i).map φ
 | 0,O,i,_=>rfl
 | k+1,O,i,hO=>by
  rw [bF,bF,List.length_map]
  by_cases hi:i<O.length
  ·have hx:=hO.lt _ (getD_memN hi)
   rw [if_pos hi,if_pos hi,getD_mapN φ O hi,hN,hM.2,bG_iso hM h hO hx 3 (Nat.le_refl _)]
   exact bF_iso hM hN h k _ _ (bG_ok (mvr_of hM) hO hx 3 (by have:=hM.2;omega)).1
  ·rw [if_neg hi,if_neg hi]
theorem bfs_iso {M N:List (List Int)}{φ:Nat→Nat}(hM:IsMap M)(hN:N.length=3)(h:IsoM M N φ){f:Nat}(hf:f<fl M):bfs N (fl N) (φ f)=(bfs M (fl M) f).map φ:=by
 unfold bfs
 rw [← h.n]
 exact bF_iso hM hN h _ [f] 0 ⟨by simp,fun d hd=>by obtain rfl:=List.mem_singleton.1 hd;exact hf⟩
theorem plc_iso {n:Nat}{φ:Nat→Nat}(hi:∀ x y,x<n→y<n→φ x=φ y→x=y){O:List Nat}(hO:Bd n O){d:Nat}(hd:d∈O):plc (O.map φ) (φ d)=plc O d:=by
 have h1:=plc_lt hd
 have h2:=plc_get hd
 have hnd:(O.map φ).Nodup:=List.pairwise_map.2 (hO.nd.imp_of_mem fun {a b} ha hb hne e=>hne (hi a b (hO.lt a ha) (hO.lt b hb) e))
 have h3:=plc_at hnd (i:=plc O d) (by rw [List.length_map];exact h1)
 rw [getD_mapN φ O h1,h2] at h3
 exact h3
theorem frm_iso {M N:List (List Int)}{φ:Nat→Nat}(hM:IsMap M)(hN:N.length=3)(h:IsoM M N φ){f:Nat}(hf:f<fl M):frm N (φ f)=frm M f:=by
 obtain ⟨a1,a2⟩:=bfs_all hM hf
 have hB:=(bfs_ok (mvr_of hM) hf).bd
 unfold frm
 rw [bfs_iso hM hN h hf,hN,hM.2]
 generalize bfs M (fl M) f=O at a1 a2 hB
 unfold fmK
 refine List.map_congr_left fun k hk=>?_
 have hk3:=List.mem_range.1 hk
 unfold fmR
 rw [List.length_map]
 refine List.map_congr_left fun j hj=>?_
 have hj2:=List.mem_range.1 hj
 have hx:=hB.lt _ (getD_memN hj2)
 rw [getD_mapN φ O hj2,h.mv k _ hk3 hx,plc_iso h.inj hB (a1 _ (hM.mvi.lt k _ hk3 hx))]
theorem lexM_trans:∀ {A B C:List (List Int)},lexM A B=true→lexM B C=true→lexM A C=true
 | [],[],_,h,_=>by simp [lexM] at h
 | [],_ :: _,[],_,h=>by simp [lexM] at h
 | [],_ :: _,_ :: _,_,_=>by simp [lexM]
 | _ :: _,[],_,h,_=>by simp [lexM] at h
 | _ :: _,_ :: _,[],_,h=>by simp [lexM] at h
 | a :: A,b :: B,c :: C,h1,h2=>by
  unfold lexM at h1 h2 ⊢
  by_cases e1:a=b
  ·rw [if_pos e1] at h1
   by_cases e2:b=c
   ·rw [if_pos e2] at h2
    rw [if_pos (e1.trans e2)]
    exact lexM_trans h1 h2
   ·rw [if_neg e2] at h2
    rw [if_neg (by rw [e1];exact e2),e1]
    exact h2
  ·rw [if_neg e1] at h1
   by_cases e2:b=c
   ·rw [if_neg (by rw [← e2];exact e1),← e2]
    exact h1
   ·rw [if_neg e2] at h2
    have h3:=lexL_trans h1 h2
    rw [if_neg (fun e=>by rw [e,lexL_irr] at h3;cases h3)]
    exact h3
theorem lexM_tri:∀ {A B:List (List Int)},lexM A B=false→lexM B A=false→A=B
 | [],[],_,_=>rfl
 | [],_ :: _,h,_=>by simp [lexM] at h
 | _ :: _,[],_,h=>by simp [lexM] at h
 | a :: A,b :: B,h1,h2=>by
  unfold lexM at h1 h2
  by_cases e:a=b
  ·rw [if_pos e] at h1
   rw [if_pos e.symm] at h2
   rw [e,lexM_tri h1 h2]
  ·rw [if_neg e] at h1
   rw [if_neg (fun h=>e h.symm)] at h2
   exact absurd (lexL_tri h1 h2) e
theorem lfK_least (M:List (List Int)):∀ k,1≤k→(∃ j,j<k∧lfK M k=frm M j)∧∀ j,j<k→lexM (frm M j) (lfK M k)=false
 | 0,h=>by omega
 | 1,_=>by
  rw [lfK_one]
  refine ⟨⟨0,by omega,rfl⟩,fun j hj=>?_⟩
  obtain rfl:j=0:=by omega
  exact lexM_self _
 | k+2,_=>by
  obtain ⟨⟨j0,hj0,e0⟩,hm⟩:=lfK_least M (k+1) (by omega)
  rw [lfK]
  by_cases h:lexM (frm M (k+1)) (lfK M (k+1))=true
  ·rw [if_pos h]
   refine ⟨⟨k+1,by omega,rfl⟩,fun j hj=>?_⟩
   by_cases e:j=k+1
   ·rw [e];exact lexM_self _
   ·have h1:=hm j (by omega)
    cases h2:lexM (frm M j) (frm M (k+1)) with
    | false=>rfl
    | true=>rw [lexM_trans h2 h] at h1;cases h1
  ·rw [if_neg h]
   refine ⟨⟨j0,by omega,e0⟩,fun j hj=>?_⟩
   by_cases e:j=k+1
   ·rw [e];exact Bool.eq_false_iff.2 h
   ·exact hm j (by omega)
theorem onto_of {φ:Nat→Nat}:∀ n,(∀ x,x<n→φ x<n)→(∀ x y,x<n→y<n→φ x=φ y→x=y)→∀ y,y<n→∃ x,x<n∧φ x=y:=fun n hl hi y hy=>by
 have hnd:((List.range n).map φ).Nodup:=List.pairwise_map.2 (List.nodup_range.imp_of_mem fun {a b} ha hb hne e=>hne (hi a b (List.mem_range.1 ha) (List.mem_range.1 hb) e))
 refine Classical.byContradiction fun hn=>?_
 have hnd2:(y :: (List.range n).map φ).Nodup:=List.nodup_cons.2 ⟨fun h=>by
  obtain ⟨x,hx,e⟩:=List.mem_map.1 h
  exact hn ⟨x,List.mem_range.1 hx,e⟩,hnd⟩
 have:=nodup_len (n:=n) hnd2 fun d hd=>by
  rcases List.mem_cons.1 hd with rfl | h
  ·exact hy
  ·obtain ⟨x,hx,rfl⟩:=List.mem_map.1 h
   exact hl x (List.mem_range.1 hx)
 simp at this
 omega
theorem IsoM.inv {M N:List (List Int)}{φ:Nat→Nat}(hM:IsMap M)(h:IsoM M N φ):Iso N M:=by
 have hs:=onto_of (fl M) h.lt h.inj
 let ψ:Nat→Nat:=fun y=>if hy:y<fl M then (hs y hy).choose else 0
 have p1:∀ y,(hy:y<fl M)→ψ y<fl M∧φ (ψ y)=y:=fun y hy=>by
  show (if hy:y<fl M then (hs y hy).choose else 0)<fl M∧φ (if hy:y<fl M then (hs y hy).choose else 0)=y
  rw [dif_pos hy]
  exact (hs y hy).choose_spec
 refine ⟨ψ,h.n.symm,fun y hy=>by rw [← h.n] at hy ⊢;exact (p1 y hy).1,fun x y hx hy e=>?_,fun k y hk hy=>?_⟩
 ·rw [← h.n] at hx hy
  rw [← (p1 x hx).2,← (p1 y hy).2,e]
 ·rw [← h.n] at hy
  obtain ⟨q1,q2⟩:=p1 y hy
  have h3:=h.mv k (ψ y) hk q1
  rw [q2] at h3
  have h4:=hM.mvi.lt k (ψ y) hk q1
  have h5:=h.lt _ h4
  rw [← h3] at h5
  refine h.inj _ _ h4 (p1 _ h5).1 ?_
  rw [(p1 _ h5).2,h3]
theorem IsoM.trans {M N K:List (List Int)}{φ ψ:Nat→Nat}(hM:IsMap M)(h1:IsoM M N φ)(h2:IsoM N K ψ):IsoM M K (fun x=>ψ (φ x)):=
 ⟨h1.n.trans h2.n,fun x hx=>by rw [h1.n];exact h2.lt _ (by rw [← h1.n];exact h1.lt x hx),fun x y hx hy e=>h1.inj x y hx hy (h2.inj _ _ (by rw [← h1.n];exact h1.lt x hx) (by rw [← h1.n];exact h1.lt y hy) e),
  fun k x hk hx=>by rw [h2.mv k _ hk (by rw [← h1.n];exact h1.lt x hx),h1.mv k x hk hx]⟩
theorem Iso.refl (M:List (List Int)):Iso M M:=⟨id,rfl,fun _ h=>h,fun _ _ _ _ e=>e,fun _ _ _ _=>rfl⟩
theorem Iso.trans {M N K:List (List Int)}(hM:IsMap M)(h1:Iso M N)(h2:Iso N K):Iso M K:=by
 obtain ⟨_,a⟩:=h1
 obtain ⟨_,b⟩:=h2
 exact ⟨_,a.trans hM b⟩
theorem lsF_iso {M N:List (List Int)}(hM:IsMap M)(hN:IsMap N)(h:Iso M N):lsF M=lsF N:=by
 have one:∀ {M N:List (List Int)},IsMap M→IsMap N→Iso M N→lexM (lsF M) (lsF N)=false:=fun {M N} hM hN h=>by
  obtain ⟨ψ,hi⟩:=(h.choose_spec).inv hM
  have h2:=hM.1.f2
  have h3:=hN.1.f2
  obtain ⟨⟨j,hj,e⟩,_⟩:=lfK_least M (fl M) (by omega)
  obtain ⟨_,hm⟩:=lfK_least N (fl N) (by omega)
  obtain ⟨φ,hf⟩:=h
  have h4:=hm (φ j) (by rw [← hf.n];exact hf.lt j hj)
  rw [frm_iso hM hN.2 hf hj] at h4
  unfold lsF
  rw [e]
  exact h4
 obtain ⟨φ,hf⟩:=h
 exact lexM_tri (one hM hN ⟨φ,hf⟩) (one hN hM (hf.inv hM))
end
section
open Go.Gov Go.Ce Go.Cl
open Classical
theorem fl_ap {M:List (List Int)}(hM:IsMap M){T:List (List Tg)}(hT:IsTpl T):fl (apM M T 3)=fl M*T.length:=(ap_mvi hM.mvi hT).row 0 (by omega)
def apP (p:Nat)(φ:Nat→Nat)(y:Nat):Nat:=φ (y / p)*p+y%p
theorem ap_iso {M N:List (List Int)}{φ:Nat→Nat}(hM:IsMap M)(hN:IsMap N)(h:IsoM M N φ){T:List (List Tg)}(hT:IsTpl T):IsoM (apM M T 3) (apM N T 3) (apP T.length φ):=by
 have hp:=hT.p1
 have key:∀ f j,j<T.length→apP T.length φ (f*T.length+j)=φ f*T.length+j:=fun f j hj=>by
  obtain ⟨e1,e2⟩:=pt_div (f:=f) hj
  unfold apP
  rw [e1,e2]
 refine ⟨by rw [fl_ap hM hT,fl_ap hN hT,h.n],fun x hx=>?_,fun x y hx hy e=>?_,fun k x hk hx=>?_⟩
 ·rw [fl_ap hM hT] at hx ⊢
  obtain ⟨f,j,hf,hj,rfl⟩:=pt_of (by omega) hx
  rw [key f j hj]
  exact pt_lt (h.lt f hf) hj
 ·rw [fl_ap hM hT] at hx hy
  obtain ⟨f,j,hf,hj,rfl⟩:=pt_of (by omega) hx
  obtain ⟨g,i,hg,hi,rfl⟩:=pt_of (by omega) hy
  rw [key f j hj,key g i hi] at e
  obtain ⟨e1,e2⟩:=pt_inj hj hi e
  rw [h.inj f g hf hg e1,e2]
 ·rw [fl_ap hM hT] at hx
  obtain ⟨f,j,hf,hj,rfl⟩:=pt_of (by omega) hx
  have hf2:φ f<fl N:=by rw [← h.n];exact h.lt f hf
  obtain ⟨_,t2,t3⟩:=ap_val hM.mvi hT hk hf hj
  obtain ⟨o1,o2,o3,o4,_⟩:=hT.ok j k hj hk
  rw [key f j hj,ap_mv hN.mvi hT hk hf2 hj,ap_mv hM.mvi hT hk hf hj,key _ _ t3]
  congr 2
  unfold tpF
  split
  ·exact h.mv _ f (by omega) hf
  ·rfl
theorem Iso.ap {M N:List (List Int)}(hM:IsMap M)(hN:IsMap N)(h:Iso M N){T:List (List Tg)}(hT:IsTpl T):Iso (apM M T 3) (apM N T 3):=by
 obtain ⟨_,h⟩:=h
 exact ⟨_,ap_iso hM hN h hT⟩
theorem dual_mv {M:List (List Int)}(hM:IsMap M){i f:Nat}(hi:i<3)(hf:f<fl M):mv (apM M tD 3) i f=mv M (2 - i) f:=by
 have h:=ap_mv hM.mvi tD_ok hi hf (j:=0) (by decide)
 rw [show tD.length=1 from rfl,Nat.mul_one,Nat.add_zero,Nat.mul_one] at h
 rw [h]
 match i,hi with
 | 0,_=>rfl
 | 1,_=>rfl
 | 2,_=>rfl
theorem dual_fl {M:List (List Int)}(hM:IsMap M):fl (apM M tD 3)=fl M:=by rw [fl_ap hM tD_ok];exact Nat.mul_one _
theorem dd_iso {M:List (List Int)}(hM:IsMap M)(hD:IsMap (apM M tD 3)):Iso (apM (apM M tD 3) tD 3) M:=by
 refine ⟨id,by rw [dual_fl hD,dual_fl hM],fun x hx=>hx,fun _ _ _ _ e=>e,fun k x hk hx=>?_⟩
 rw [dual_fl hD] at hx
 show mv M k x=mv (apM (apM M tD 3) tD 3) k x
 rw [dual_mv hD hk hx,dual_mv hM (by omega) (by rwa [dual_fl hM] at hx),show 2 - (2 - k)=k by omega]
def adP (y:Nat):Nat:=y / 2*2+(1 - y%2)
theorem ad_iso {M:List (List Int)}(hM:IsMap M)(hD:IsMap (apM M tD 3)):Iso (apM (apM M tD 3) tA 3) (apM M tA 3):=by
 have e2:tA.length=2:=rfl
 have key:∀ f j,j<2→adP (f*2+j)=f*2+(1 - j):=fun f j hj=>by
  unfold adP
  omega
 have hA:fl (apM (apM M tD 3) tA 3)=fl M*2:=by rw [fl_ap hD tA_ok,dual_fl hM,e2]
 refine ⟨adP,by rw [hA,fl_ap hM tA_ok,e2],fun x hx=>?_,fun x y hx hy e=>?_,fun k x hk hx=>?_⟩
 ·rw [hA] at hx ⊢
  unfold adP
  omega
 ·unfold adP at e
  omega
 ·rw [hA] at hx
  obtain ⟨f,j,hf,hj,rfl⟩:=pt_of (by omega) hx
  have hf2:f<fl (apM M tD 3):=by rw [dual_fl hM];exact hf
  have q1:=ap_mv hD.mvi tA_ok hk hf2 (j:=j) (by rw [e2];exact hj)
  have q2:=ap_mv hM.mvi tA_ok hk hf (j:=1 - j) (by rw [e2];omega)
  rw [e2] at q1 q2
  have hj2:tpP tA k j<2:=(ap_val hM.mvi tA_ok hk hf (j:=j) (by rw [e2];exact hj)).2.2
  rw [key f j hj,q2,q1,key _ _ hj2]
  have hd:=fun i hi=>dual_mv hM (i:=i) (f:=f) hi hf
  have d0:=hd 0 (by omega)
  have d1:=hd 1 (by omega)
  have d2:=hd 2 (by omega)
  match k,hk,j,hj with
  | 0,_,0,_=>exact congrArg (fun z=>z*2+1) d1.symm
  | 0,_,1,_=>exact congrArg (fun z=>z*2+0) d1.symm
  | 1,_,0,_=>exact congrArg (fun z=>z*2+1) d0.symm
  | 1,_,1,_=>exact congrArg (fun z=>z*2+0) d2.symm
  | 2,_,0,_=>rfl
  | 2,_,1,_=>rfl
end
end Go.Proofs.YtfcbamfkfadabaaGreatDoor
