/- Texts that belong together. -/
import Derived.Test.YtaekhhaaphgndaaSh
set_option linter.unusedSimpArgs false
set_option linter.unusedVariables false
set_option maxRecDepth 100000
namespace Go.Proofs.Ytaekhhaaphgndaa
section
open Go.Gov
open Classical
theorem ncnt_lt {L:List (List Int)}{a b:Nat}(ha:fst L a=a)(h:a<b):ncnt L a<ncnt L b:=by
 have h2:=ncnt_succ L a
 rw [if_pos ha] at h2
 have h3:=ncnt_mono L (show a+1≤b by omega)
 omega
theorem lab_iff {n:Nat}{L:List (List Int)}(hL:MvOk n L){x y:Nat}(hx:x<n)(hy:y<n):lab L x=lab L y ↔ Rch L x y:=by
 constructor
 ·intro h
  unfold lab at h
  have e:fst L x=fst L y:=by
   rcases Nat.lt_trichotomy (fst L x) (fst L y) with h1 | h1 | h1
   ·have:=ncnt_lt (fst_fst hL hx) h1;omega
   ·exact h1
   ·have:=ncnt_lt (fst_fst hL hy) h1;omega
  obtain ⟨a1,a2,_⟩:=fst_spec L x
  have b2:=(fst_spec L y).2.1
  exact (a2.symm hL (by omega)).trans (e ▸ b2)
 ·intro h
  unfold lab
  rw [fst_eq hL h hx]
theorem rch_push {n:Nat}{U:List (List Int)}(hU:MvOk n U){v:List Int}(hv:∀ u∈U,∀ x,x<n→v.getD (u.getD x 0).toNat 0=u.getD (v.getD x 0).toNat 0){x y:Nat}(hx:x<n)(h:Rch U x y):Rch U (v.getD x 0).toNat (v.getD y 0).toNat:=by
 induction h with
 | refl=>exact .refl
 | step h1 hp ih=>
  rename_i z p
  rw [hv p hp z (h1.lt hU hx)]
  exact ih.step hp
theorem rch_split {n:Nat}{U V W:List (List Int)}(hU:MvOk n U)(hV:MvOk n V)(hW:∀ p∈W,p∈U∨p∈V)(hc:∀ u∈U,∀ v∈V,∀ x,x<n→v.getD (u.getD x 0).toNat 0=u.getD (v.getD x 0).toNat 0){x y:Nat}(hx:x<n)(h:Rch W x y):∃ z,Rch V x z∧Rch U z y:=by
 induction h with
 | refl=>exact ⟨x,.refl,.refl⟩
 | step h0 hp ih=>
  rename_i w p
  obtain ⟨z,h1,h2⟩:=ih
  rcases hW p hp with hp | hp
  ·exact ⟨z,h1,h2.step hp⟩
  ·exact ⟨_,h1.step hp,rch_push hU (fun u hu x hx=>hc u hu p hp x hx) (h1.lt hV hx) h2⟩
theorem Rch.sub {U V:List (List Int)}(h:∀ p∈U,p∈V){x y:Nat}(k:Rch U x y):Rch V x y:=by
 induction k with
 | refl=>exact .refl
 | step _ hp ih=>exact ih.step (h _ hp)
theorem oth_iff {M:List (List Int)}{i:Nat}{p:List Int}:p∈oth M i M.length ↔ ∃ k,k<M.length∧k≠i∧p=M.getD k []:=by
 unfold oth
 rw [List.take_length,List.mem_append]
 constructor
 ·rintro (h | h)
  ·obtain ⟨k,hk,rfl⟩:=List.mem_iff_getElem.1 h
   simp only [List.length_take] at hk
   exact ⟨k,by omega,by omega,by simp [show k<M.length by omega]⟩
  ·obtain ⟨k,hk,rfl⟩:=List.mem_iff_getElem.1 h
   simp only [List.length_drop] at hk
   exact ⟨i+1+k,by omega,by omega,by simp [show i+1+k<M.length by omega]⟩
 ·rintro ⟨k,hk,hne,rfl⟩
  have e:M.getD k []=M[k]:=by simp [hk]
  rw [e]
  rcases Nat.lt_or_gt_of_ne hne with h | h
  ·left
   exact List.mem_iff_getElem.2 ⟨k,by simp;omega,by simp⟩
  ·right
   exact List.mem_iff_getElem.2 ⟨k - (i+1),by simp;omega,by simp [show i+1+(k - (i+1))=k by omega]⟩
noncomputable def lbf (M:List (List Int))(i x:Nat):Nat:=lab (oth M i M.length) x
noncomputable def nf (M:List (List Int))(i:Nat):Nat:=ncnt (oth M i M.length) (fl M)
noncomputable def off (M:List (List Int)):Nat→Nat
 | 0=>0
 | i+1=>off M i+nf M i
theorem off_succ (M:List (List Int))(i:Nat):off M (i+1)=off M i+nf M i:=rfl
noncomputable def elt (M:List (List Int))(i x:Nat):Nat:=off M i+lbf M i x
noncomputable def rkL (M:List (List Int)):Nat→List Int
 | 0=>[]
 | i+1=>rkL M i++List.replicate (nf M i) (i:Int)
theorem rkL_len (M:List (List Int)):∀ i:Nat,(rkL M i).length=off M i
 | 0=>rfl
 | i+1=>by simp [rkL,off,rkL_len M i]
theorem off_mono (M:List (List Int)){a b:Nat}(h:a≤b):off M a≤off M b:=by
 induction b with
 | zero => obtain rfl : a = 0 := by omega
           exact Nat.le_refl _
 | succ b ih=>
  by_cases e:a=b+1
  ·rw [e];exact Nat.le_refl _
  ·have:=ih (by omega)
   rw [off_succ]
   omega
theorem off_inj {M:List (List Int)}{i j l m:Nat}(hl:l<nf M i)(hm:m<nf M j)(h:off M i+l=off M j+m):i=j∧l=m:=by
 rcases Nat.lt_trichotomy i j with h1 | h1 | h1
 ·have:=off_mono M (show i+1≤j by omega)
  rw [off_succ] at this
  omega
 ·subst h1;exact ⟨rfl,by omega⟩
 ·have:=off_mono M (show j+1≤i by omega)
  rw [off_succ] at this
  omega
theorem off_find {M:List (List Int)}:∀ {m e:Nat},e<off M m→∃ i l,i<m∧l<nf M i∧e=off M i+l
 | 0,e,h=>by simp [off] at h
 | m+1,e,h=>by
  by_cases h1:e<off M m
  ·obtain ⟨i,l,h2,h3,h4⟩:=off_find h1
   exact ⟨i,l,by omega,h3,h4⟩
  ·rw [off_succ] at h
   exact ⟨m,e - off M m,by omega,by omega,by omega⟩
theorem rkL_at {M:List (List Int)}{i l:Nat}(hl:l<nf M i):∀ {m:Nat},i<m→(rkL M m).getD (off M i+l) 0=i
 | 0,h=>by omega
 | m+1,h=>by
  unfold rkL
  by_cases e:i=m
  ·subst e
   rw [List.getD_eq_getElem?_getD,List.getElem?_append_right (by rw [rkL_len];omega),rkL_len,show off M i+l - off M i=l by omega,List.getElem?_replicate,if_pos hl]
   rfl
  ·have h1:=rkL_at hl (m:=m) (by omega)
   have h2:=off_mono M (show i+1≤m by omega)
   rw [off_succ] at h2
   rw [List.getD_eq_getElem?_getD,List.getElem?_append_left (by rw [rkL_len];omega),← List.getD_eq_getElem?_getD,h1]
theorem lbf_lt {M:List (List Int)}(hM:MvOk (fl M) M){i x:Nat}(hx:x<fl M):lbf M i x<nf M i:=lab_lt (hM.oth i _) hx
def Inc (M:List (List Int))(m d e:Nat):Prop:=∃ x,x<fl M∧∃ k i,k<i∧i<m∧d=elt M k x∧e=elt M i x
noncomputable def blwE (M:List (List Int))(m e:Nat):List Int:=((List.range (off M M.length)).filter fun d=>decide (Inc M m d e)).map fun d:Nat=>(d:Int)
noncomputable def blwL (M:List (List Int))(m:Nat):List (List Int):=(List.range (off M M.length)).map fun e=>blwE M m e
theorem blwL_len (M:List (List Int))(m:Nat):(blwL M m).length=off M M.length:=by simp [blwL]
theorem blwL_at {M:List (List Int)}{m e:Nat}(he:e<off M M.length):(blwL M m).getD e []=blwE M m e:=by simp [blwL,he]
theorem elt_lt {M:List (List Int)}(hM:MvOk (fl M) M){m i x:Nat}(hi:i<m)(hx:x<fl M):elt M i x<off M m:=by
 have h1:=lbf_lt hM (i:=i) hx
 have h2:=off_mono M (show i+1≤m by omega)
 rw [off_succ] at h2
 unfold elt
 omega
theorem elt_inj {M:List (List Int)}(hM:MvOk (fl M) M){i j x y:Nat}(hx:x<fl M)(hy:y<fl M)(h:elt M i x=elt M j y):i=j∧Rch (oth M i M.length) x y:=by
 obtain ⟨rfl,h2⟩:=off_inj (lbf_lt hM hx) (lbf_lt hM hy) h
 exact ⟨rfl,(lab_iff (hM.oth i _) hx hy).1 h2⟩
theorem blwE_mem {M:List (List Int)}(hM:MvOk (fl M) M){m e:Nat}(hm:m≤M.length){z:Int}:z∈blwE M m e ↔ ∃ d:Nat,z=d∧Inc M m d e:=by
 unfold blwE
 rw [List.mem_map]
 constructor
 ·rintro ⟨d,hd,rfl⟩
  exact ⟨d,rfl,by simpa using (List.mem_filter.1 hd).2⟩
 ·rintro ⟨d,rfl,h⟩
  refine ⟨d,List.mem_filter.2 ⟨List.mem_range.2 ?_,by simpa using h⟩,rfl⟩
  obtain ⟨x,hx,k,i,h1,h2,rfl,_⟩:=h
  exact elt_lt hM (by omega) hx
theorem Inc.trans {M:List (List Int)}(h:IsMan M){c d e:Nat}(h1:Inc M M.length c d)(h2:Inc M M.length d e):Inc M M.length c e:=by
 obtain ⟨x,hx,k,i,a1,a2,rfl,rfl⟩:=h1
 obtain ⟨y,hy,j,m,b1,b2,b3,rfl⟩:=h2
 have hM:=h.mv
 obtain ⟨rfl,hr⟩:=elt_inj hM hx hy b3
 have hU:MvOk (fl M) (M.take i):=fun p hp=>hM p (List.mem_of_mem_take hp)
 have hV:MvOk (fl M) (M.drop (i+1)):=fun p hp=>hM p (List.mem_of_mem_drop hp)
 have tk:∀ {p},p∈M.take i→∃ a,a<i∧a<M.length∧p=M.getD a []:=fun {p} hp=>by
  obtain ⟨a,ha,rfl⟩:=List.mem_iff_getElem.1 hp
  simp only [List.length_take] at ha
  exact ⟨a,by omega,by omega,by simp [show a<M.length by omega]⟩
 have dk:∀ {p},p∈M.drop (i+1)→∃ a,i<a∧a<M.length∧p=M.getD a []:=fun {p} hp=>by
  obtain ⟨a,ha,rfl⟩:=List.mem_iff_getElem.1 hp
  simp only [List.length_drop] at ha
  exact ⟨i+1+a,by omega,by omega,by simp [show i+1+a<M.length by omega]⟩
 obtain ⟨z,z1,z2⟩:=rch_split hU hV (W:=oth M i M.length) (fun p hp=>by
  unfold oth at hp
  rw [List.take_length] at hp
  exact List.mem_append.1 hp) (fun u hu v hv f hf=>by
  obtain ⟨a,ha1,ha2,rfl⟩:=tk hu
  obtain ⟨b,hb1,hb2,rfl⟩:=dk hv
  exact (h.com a b f (by omega) hb2 hf).2) hx hr
 have hz:z<fl M:=z1.lt hV hx
 refine ⟨z,hz,k,m,by omega,b2,?_,?_⟩
 ·unfold elt lbf
  rw [(lab_iff (hM.oth k _) hx hz).2 (z1.sub fun p hp=>?_)]
  obtain ⟨a,ha1,ha2,rfl⟩:=dk hp
  exact oth_iff.2 ⟨a,ha2,by omega,rfl⟩
 ·unfold elt lbf
  rw [(lab_iff (hM.oth m _) hz hy).2 (z2.sub fun p hp=>?_)]
  obtain ⟨a,ha1,ha2,rfl⟩:=tk hp
  exact oth_iff.2 ⟨a,ha2,by omega,rfl⟩
theorem rkL_some {M:List (List Int)}{e:Nat}(he:e<off M M.length):∃ i,i<M.length∧(rkL M M.length).getD e 0=(i:Int)∧off M i≤e∧e<off M (i+1):=by
 obtain ⟨i,l,h1,h2,rfl⟩:=off_find he
 exact ⟨i,h1,rkL_at h2 h1,by omega,by rw [off_succ];omega⟩
theorem elt_rk {M:List (List Int)}(hM:MvOk (fl M) M){i x:Nat}(hi:i<M.length)(hx:x<fl M):(rkL M M.length).getD (elt M i x) 0=i:=rkL_at (lbf_lt hM hx) hi
theorem getD_elF (l:List Int)(i:Nat)(h:i<l.length):l.getD i 0=l[i]:=by simp [h]
theorem face_pos {M:List (List Int)}(h:IsMan M)(hl:off M M.length≤500):IsPos M.length (rkL M M.length) (blwL M M.length):=by
 have hM:=h.mv
 have hrow:∀ e,e<off M M.length→((blwL M M.length).getD e []).Pairwise (· < ·):=fun e he=>by
  rw [blwL_at he]
  unfold blwE
  exact List.pairwise_map.2 ((List.pairwise_lt_range.filter _).imp fun {a b} hab=>by omega)
 have hget:∀ e,e<off M M.length→∀ k,k<((blwL M M.length).getD e []).length→∃ d:Nat,((blwL M M.length).getD e []).getD k 0=d∧Inc M M.length d e:=fun e he k hk=>by
  have hin:((blwL M M.length).getD e []).getD k 0∈(blwL M M.length).getD e []:=by
   rw [getD_elF _ k hk]
   exact List.getElem_mem hk
  rw [blwL_at he] at hin
  exact (blwE_mem hM (Nat.le_refl _)).1 hin |>.imp fun d hd=>⟨by rw [blwL_at he];exact hd.1,hd.2⟩
 have hlow:∀ {d e:Nat},Inc M M.length d e→d<e∧(rkL M M.length).getD d 0<(rkL M M.length).getD e 0∧d<off M M.length:=fun {d e} hi=>by
  obtain ⟨x,hx,k,i,h1,h2,rfl,rfl⟩:=hi
  rw [elt_rk hM (by omega) hx,elt_rk hM h2 hx]
  have h3:=elt_lt hM h1 hx
  have h4:=elt_lt hM (show k<M.length by omega) hx
  refine ⟨?_,by omega,h4⟩
  unfold elt at h3 ⊢
  omega
 refine ⟨⟨by have:=h.r1;omega,by have:=h.r5;omega,by rw [rkL_len];exact hl,by rw [blwL_len,rkL_len]⟩,fun e he=>?_⟩
 rw [rkL_len] at he
 refine ⟨?_,fun k hk=>?_⟩
 ·obtain ⟨i,i1,i2,i3,i4⟩:=rkL_some he
  refine ⟨by omega,by omega,fun h0=>?_⟩
  obtain ⟨j,j1,j2,j3,j4⟩:=rkL_some (show e - 1<off M M.length by omega)
  rw [i2,j2]
  rcases Nat.lt_or_ge i j with hij | hij
  ·have:=off_mono M (show i+1≤j by omega)
   omega
  ·omega
 ·obtain ⟨d,d1,d2⟩:=hget e he k hk
  obtain ⟨l1,l2,l3⟩:=hlow d2
  unfold CvrP TrnP
  rw [d1,Int.toNat_natCast]
  refine ⟨⟨by omega,by omega,l2,fun h0=>?_⟩,fun j hj=>?_⟩
  ·rw [← d1,getD_elF _ k hk,getD_elF _ (k - 1) (by omega)]
   exact List.pairwise_iff_getElem.1 (hrow e he) (k - 1) k (by omega) hk (by omega)
  ·obtain ⟨c,c1,c2⟩:=hget d l3 j hj
   rw [c1,blwL_at he]
   exact (blwE_mem hM (Nat.le_refl _)).2 ⟨c,rfl,c2.trans h d2⟩
end
section
open Go.Gov
open Classical
noncomputable def fcs (M:List (List Int))(i x:Nat):List Int:=(List.range i).map fun k=>((elt M k x:Nat):Int)
theorem fcs_len (M:List (List Int))(i x:Nat):(fcs M i x).length=i:=by simp [fcs]
theorem fcs_succ (M:List (List Int))(i x:Nat):fcs M (i+1) x=fcs M i x++[((elt M i x:Nat):Int)]:=by simp [fcs,List.range_succ]
theorem fcs_at {M:List (List Int)}{i x k:Nat}(h:k<i):(fcs M i x).getD k 0=((elt M k x:Nat):Int):=by simp [fcs,h]
theorem fcs_take {M:List (List Int)}{i j x:Nat}(h:j≤i):(fcs M i x).take j=fcs M j x:=by
 unfold fcs
 rw [← List.map_take,List.take_range,Nat.min_eq_left h]
noncomputable def fcT (M:List (List Int))(i f:Nat):List (List Int):=(List.range (fl M)).map fun x=>fcs M (if x<f then i+1 else i) x
theorem fcT_len (M:List (List Int))(i f:Nat):(fcT M i f).length=fl M:=by simp [fcT]
theorem fcT_at {M:List (List Int)}{i f x:Nat}(h:x<fl M):(fcT M i f).getD x []=fcs M (if x<f then i+1 else i) x:=by simp [fcT,h]
theorem fcT_zero (M:List (List Int)):fcT M 0 0=List.replicate (fl M) []:=by
 refine List.ext_getElem (by simp [fcT]) fun e h1 h2=>?_
 simp [fcT,fcs]
theorem fcT_end (M:List (List Int))(i:Nat):fcT M i (fl M)=fcT M (i+1) 0:=by
 refine List.ext_getElem (by simp [fcT]) fun e h1 h2=>?_
 have:e<fl M:=by simpa [fcT] using h1
 simp [fcT,this]
theorem fcT_step {M:List (List Int)}{i f:Nat}(h:f<fl M):(fcT M i f).set f (fcs M (i+1) f)=fcT M i (f+1):=by
 refine List.ext_getElem (by simp [fcT]) fun y h1 h2=>?_
 rw [List.getElem_set]
 simp only [fcT,List.getElem_map,List.getElem_range]
 by_cases e:f=y
 ·subst e;simp
 ·rw [if_neg e]
  by_cases h3:y<f
  ·rw [if_pos h3,if_pos (by omega)]
  ·rw [if_neg h3,if_neg (by omega)]
noncomputable def rwI (M:List (List Int))(x:Nat)(T:List (List Int)):Nat→List (List Int)
 | 0=>T
 | i+1=>(rwI M x T i).set (elt M i x) ((rwI M x T i).getD (elt M i x) []++fcs M i x)
noncomputable def rwX (M:List (List Int)):Nat→List (List Int)
 | 0=>List.replicate (off M M.length) []
 | x+1=>rwI M x (rwX M x) M.length
theorem rwI_len (M:List (List Int))(x:Nat)(T:List (List Int)):∀ i,(rwI M x T i).length=T.length
 | 0=>rfl
 | i+1=>by rw [rwI,List.length_set,rwI_len M x T i]
theorem rwX_len (M:List (List Int)):∀ x,(rwX M x).length=off M M.length
 | 0=>by simp [rwX]
 | x+1=>by rw [rwX,rwI_len,rwX_len M x]
theorem getD_set (T:List (List Int))(a e:Nat)(r:List Int):(T.set a r).getD e []=if a=e∧e<T.length then r else T.getD e []:=by
 rw [List.getD_eq_getElem?_getD,List.getElem?_set]
 by_cases h:a=e
 ·subst h
  by_cases h2:a<T.length
  ·simp [h2]
  ·simp [h2]
 ·simp [h]
theorem rwI_b (M:List (List Int))(x:Nat)(T:List (List Int)){b:Nat}(hT:∀ e,(T.getD e []).length≤b):∀ i,i≤5→∀ e,((rwI M x T i).getD e []).length≤b+5*i
 | 0,_,e=>hT e
 | i+1,hi,e=>by
  have h1:=rwI_b M x T hT i (by omega)
  rw [rwI,getD_set]
  split
  ·have:=h1 (elt M i x)
   rw [List.length_append,fcs_len]
   omega
  ·have:=h1 e
   omega
theorem rwX_b {M:List (List Int)}(hm:M.length≤5):∀ x e,((rwX M x).getD e []).length≤25*x
 | 0,e=>by
  have:(rwX M 0).getD e []=[]:=by
   unfold rwX
   by_cases h:e<off M M.length
   ·simp [h]
   ·simp [h]
  rw [this];exact Nat.zero_le _
 | x+1,e=>by
  have:=rwI_b M x (rwX M x) (rwX_b hm x) M.length hm e
  rw [rwX]
  omega
theorem rwI_mem {M:List (List Int)}(hM:MvOk (fl M) M){x:Nat}(hx:x<fl M){T:List (List Int)}(hT:T.length=off M M.length):∀ i,i≤M.length→∀ (e:Nat) (z:Int),z∈(rwI M x T i).getD e [] ↔ z∈T.getD e []∨∃ k j,k<j∧j<i∧z=(elt M k x:Nat)∧e=elt M j x
 | 0,_,e,z=>by
  rw [rwI]
  constructor
  ·exact .inl
  ·rintro (h | ⟨k,j,_,h,_⟩)
   ·exact h
   ·omega
 | i+1,hi,e,z=>by
  have ih:=rwI_mem hM hx hT i (by omega)
  have hlt:elt M i x<off M M.length:=elt_lt hM (by omega) hx
  rw [rwI,getD_set]
  have hf:z∈fcs M i x ↔ ∃ k,k<i∧z=(elt M k x:Nat):=by
   simp only [fcs,List.mem_map,List.mem_range]
   exact ⟨fun ⟨k,h1,h2⟩=>⟨k,h1,h2.symm⟩,fun ⟨k,h1,h2⟩=>⟨k,h1,h2.symm⟩⟩
  split
  ·rename_i h
   rw [List.mem_append,ih,hf,← h.1]
   constructor
   ·rintro ((h1 | ⟨k,j,h1,h2,h3,h4⟩) | ⟨k,h1,h2⟩)
    ·exact .inl h1
    ·exact .inr ⟨k,j,h1,by omega,h3,h4⟩
    ·exact .inr ⟨k,i,h1,by omega,h2,rfl⟩
   ·rintro (h1 | ⟨k,j,h1,h2,h3,h4⟩)
    ·exact .inl (.inl h1)
    ·rcases Nat.lt_or_ge j i with h5 | h5
     ·exact .inl (.inr ⟨k,j,h1,h5,h3,h4⟩)
     ·obtain rfl:j=i:=by omega
      exact .inr ⟨k,h1,h3⟩
  ·rename_i h
   rw [ih]
   constructor
   ·rintro (h1 | ⟨k,j,h1,h2,h3,h4⟩)
    ·exact .inl h1
    ·exact .inr ⟨k,j,h1,by omega,h3,h4⟩
   ·rintro (h1 | ⟨k,j,h1,h2,h3,h4⟩)
    ·exact .inl h1
    ·rcases Nat.lt_or_ge j i with h5 | h5
     ·exact .inr ⟨k,j,h1,h5,h3,h4⟩
     ·obtain rfl:j=i:=by omega
      refine absurd ⟨h4.symm,?_⟩ h
      rw [rwI_len,hT,h4]
      exact hlt
theorem rwX_mem {M:List (List Int)}(hM:MvOk (fl M) M):∀ n,n≤fl M→∀ (e:Nat) (z:Int),z∈(rwX M n).getD e [] ↔ ∃ x,x<n∧∃ k j,k<j∧j<M.length∧z=(elt M k x:Nat)∧e=elt M j x
 | 0,_,e,z=>by
  have:(rwX M 0).getD e []=[]:=by
   unfold rwX
   by_cases h:e<off M M.length
   ·simp [h]
   ·simp [h]
  rw [this]
  simp
 | n+1,hn,e,z=>by
  rw [rwX,rwI_mem hM (by omega) (rwX_len M n) M.length (Nat.le_refl _),rwX_mem hM n (by omega)]
  constructor
  ·rintro (⟨x,h1,h2⟩ | h)
   ·exact ⟨x,by omega,h2⟩
   ·exact ⟨n,by omega,h⟩
  ·rintro ⟨x,h1,h2⟩
   rcases Nat.lt_or_ge x n with h3 | h3
   ·exact .inl ⟨x,h3,h2⟩
   ·obtain rfl:x=n:=by omega
    exact .inr h2
theorem blwE_sst (M:List (List Int))(m e:Nat):sst (blwE M m e):=by
 unfold blwE sst
 rw [List.pairwise_map]
 exact ((List.pairwise_lt_range).filter _).imp fun h=>by omega
theorem rwX_row {M:List (List Int)}(hM:MvOk (fl M) M)(e:Nat):ddZ (srtL ((rwX M (fl M)).getD e []))=blwE M M.length e:=by
 obtain ⟨h1,h2⟩:=ddZ_ok (srtL_le ((rwX M (fl M)).getD e []))
 refine sst_ext h1 (blwE_sst M _ e) fun z=>?_
 rw [h2 z,(srtL_perm _).mem_iff,rwX_mem hM _ (Nat.le_refl _),blwE_mem hM (Nat.le_refl _)]
 constructor
 ·rintro ⟨x,hx,k,j,a1,a2,rfl,rfl⟩
  exact ⟨_,rfl,x,hx,k,j,a1,a2,rfl,rfl⟩
 ·rintro ⟨d,rfl,x,hx,k,j,a1,a2,rfl,rfl⟩
  exact ⟨x,hx,k,j,a1,a2,rfl,rfl⟩
noncomputable def srR (M:List (List Int))(e:Nat):List (List Int):=(List.range (off M M.length)).map fun y=>if y<e then blwE M M.length y else (rwX M (fl M)).getD y []
theorem srR_len (M:List (List Int))(e:Nat):(srR M e).length=off M M.length:=by simp [srR]
theorem srR_at {M:List (List Int)}{e y:Nat}(h:y<off M M.length):(srR M e).getD y []=if y<e then blwE M M.length y else (rwX M (fl M)).getD y []:=by simp [srR,h]
theorem srR_zero (M:List (List Int)):srR M 0=rwX M (fl M):=by
 refine List.ext_getElem (by simp [srR,rwX_len]) fun e h1 h2=>?_
 simp [srR,h2]
theorem srR_end (M:List (List Int)):srR M (off M M.length)=blwL M M.length:=by
 refine List.ext_getElem (by simp [srR,blwL]) fun e h1 h2=>?_
 have:e<off M M.length:=by simpa [srR] using h1
 simp [srR,blwL,this]
theorem srR_step {M:List (List Int)}{e:Nat}:(srR M e).set e (blwE M M.length e)=srR M (e+1):=by
 refine List.ext_getElem (by simp [srR]) fun y h1 h2=>?_
 rw [List.getElem_set]
 simp only [srR,List.getElem_map,List.getElem_range]
 by_cases h:e=y
 ·subst h;simp
 ·rw [if_neg h]
  by_cases h3:y<e
  ·rw [if_pos h3,if_pos (by omega)]
  ·rw [if_neg h3,if_neg (by omega)]
end
section
open Go.Gov
open Classical
def FP (M:List (List Int))(i f k d e:Nat):Prop:=(∃ x,x<f∧∃ j,j<i∧d=elt M j x∧e=elt M i x)∨(∃ j,j<k∧d=elt M j f∧e=elt M i f)
noncomputable def fnd (M:List (List Int))(i f k:Nat):List Bool:=(List.range (off M M.length*off M M.length)).map fun a=>decide (FP M i f k (a%off M M.length) (a / off M M.length))
theorem fnd_len (M:List (List Int))(i f k:Nat):(fnd M i f k).length=off M M.length*off M M.length:=by simp [fnd]
theorem sq_lt {a b s:Nat}(ha:a<s)(hb:b<s):a*s+b<s*s:=by
 have h1:(a+1)*s≤s*s:=Nat.mul_le_mul_right s (by omega)
 rw [Nat.succ_mul] at h1
 omega
theorem sq_div {a b s:Nat}(hb:b<s):(a*s+b) / s=a:=by
 rw [Nat.add_comm,Nat.add_mul_div_right _ _ (by omega),Nat.div_eq_of_lt hb,Nat.zero_add]
theorem sq_mod {a b s:Nat}(hb:b<s):(a*s+b)%s=b:=by
 rw [Nat.add_comm,Nat.add_mul_mod_self_right,Nat.mod_eq_of_lt hb]
theorem fnd_at {M:List (List Int)}{i f k d e:Nat}(hd:d<off M M.length)(he:e<off M M.length):(fnd M i f k).getD (e*off M M.length+d) false=decide (FP M i f k d e):=by
 have h:=sq_lt he hd
 simp only [fnd,List.getD_eq_getElem?_getD,List.getElem?_map,List.getElem?_range h,Option.map_some,Option.getD_some,sq_div hd,sq_mod hd]
theorem fnd_zero (M:List (List Int))(i:Nat):fnd M i 0 0=List.replicate (off M M.length*off M M.length) false:=by
 refine List.ext_getElem (by simp [fnd]) fun e h1 h2=>?_
 simp only [fnd,List.getElem_map,List.getElem_replicate,decide_eq_false_iff_not]
 rintro (⟨x,h,_⟩ | ⟨x,h,_⟩)<;>omega
theorem fnd_end (M:List (List Int))(i f:Nat):fnd M i f i=fnd M i (f+1) 0:=by
 refine List.ext_getElem (by simp [fnd]) fun e h1 h2=>?_
 simp only [fnd,List.getElem_map,List.getElem_range,decide_eq_decide]
 constructor
 ·rintro (⟨x,h,k⟩ | ⟨j,h1,h2,h3⟩)
  ·exact .inl ⟨x,by omega,k⟩
  ·exact .inl ⟨f,by omega,j,h1,h2,h3⟩
 ·rintro (⟨x,h,k⟩ | ⟨j,h1,h2,h3⟩)
  ·rcases Nat.lt_or_ge x f with h3 | h3
   ·exact .inl ⟨x,h3,k⟩
   ·obtain rfl:x=f:=by omega
    exact .inr k
  ·omega
theorem fnd_step {M:List (List Int)}{i f k:Nat}(h1:elt M i f<off M M.length)(h2:elt M k f<off M M.length):(fnd M i f k).set (elt M i f*off M M.length+elt M k f) true=fnd M i f (k+1):=by
 refine List.ext_getElem (by simp [fnd]) fun a h3 h4=>?_
 rw [List.getElem_set]
 simp only [fnd,List.getElem_map,List.getElem_range]
 by_cases h:elt M i f*off M M.length+elt M k f=a
 ·subst h
  rw [if_pos rfl,sq_div h2,sq_mod h2]
  exact (decide_eq_true (.inr ⟨k,by omega,rfl,rfl⟩)).symm
 ·rw [if_neg h,decide_eq_decide]
  constructor
  ·rintro (h5 | ⟨j,h5,h6⟩)
   ·exact .inl h5
   ·exact .inr ⟨j,by omega,h6⟩
  ·rintro (h5 | ⟨j,h5,h6,h7⟩)
   ·exact .inl h5
   ·rcases Nat.lt_or_ge j k with h8 | h8
    ·exact .inr ⟨j,h8,h6,h7⟩
    ·obtain rfl:j=k:=by omega
     refine absurd ?_ h
     rw [← h6,← h7,Nat.mul_comm,Nat.div_add_mod]
def FQ (M:List (List Int))(i d e:Nat):Prop:=∃ x,x<fl M∧∃ j,j<i∧d=elt M j x∧e=elt M i x
theorem fq_iff {M:List (List Int)}{i d e:Nat}:FP M i (fl M) 0 d e ↔ FQ M i d e:=by
 constructor
 ·rintro (h | ⟨j,h,_⟩)
  ·exact h
  ·omega
 ·exact .inl
noncomputable def prw (M:List (List Int))(i e d:Nat):List Int:=blwE M i e++((List.range d).filter fun z=>decide (FQ M i z e)).map fun z:Nat=>(z:Int)
theorem prw_zero (M:List (List Int))(i e:Nat):prw M i e 0=blwE M i e:=by simp [prw]
theorem prw_yes {M:List (List Int)}{i e d:Nat}(h:FQ M i d e):prw M i e (d+1)=prw M i e d++[(d:Int)]:=by
 unfold prw
 rw [List.range_succ,List.filter_append,List.filter_cons_of_pos (by simpa using h)]
 simp
theorem prw_no {M:List (List Int)}{i e d:Nat}(h:¬ FQ M i d e):prw M i e (d+1)=prw M i e d:=by
 unfold prw
 rw [List.range_succ,List.filter_append,List.filter_cons_of_neg (by simpa using h)]
 simp
theorem blwE_len (M:List (List Int))(m e:Nat):(blwE M m e).length≤off M M.length:=by
 unfold blwE
 rw [List.length_map]
 exact Nat.le_trans (List.length_filter_le _ _) (by simp)
theorem prw_len (M:List (List Int))(i e d:Nat):(prw M i e d).length≤off M M.length+d:=by
 unfold prw
 rw [List.length_append,List.length_map]
 have h1:=blwE_len M i e
 have h2:((List.range d).filter fun z=>decide (FQ M i z e)).length≤d:=Nat.le_trans (List.length_filter_le _ _) (by simp)
 omega
theorem prw_end {M:List (List Int)}(hM:MvOk (fl M) M){i e:Nat}:prw M i e (off M M.length)=blwE M (i+1) e:=by
 unfold prw
 by_cases h:∃ x,x<fl M∧e=elt M i x
 ·obtain ⟨x,hx,rfl⟩:=h
  have h1:blwE M i (elt M i x)=[]:=by
   unfold blwE
   rw [List.filter_eq_nil_iff.2 fun d hd=>?_]
   ·rfl
   ·simp only [decide_eq_true_eq]
    rintro ⟨y,hy,k,j,h1,h2,h3,h4⟩
    have:=(elt_inj hM hx hy h4).1
    omega
  rw [h1,List.nil_append]
  unfold blwE
  congr 1
  refine List.filter_congr fun d hd=>decide_eq_decide.2 ?_
  constructor
  ·rintro ⟨y,hy,j,h2,h3,h4⟩
   exact ⟨y,hy,j,i,h2,by omega,h3,h4⟩
  ·rintro ⟨y,hy,k,j,h2,h3,h4,h5⟩
   obtain ⟨rfl,_⟩:=elt_inj hM hx hy h5
   exact ⟨y,hy,k,h2,h4,h5⟩
 ·have h1:∀ d,¬ FQ M i d e:=fun d ⟨y,hy,j,_,_,h4⟩=>h ⟨y,hy,h4⟩
  rw [List.filter_eq_nil_iff.2 fun d hd=>by simpa using h1 d,List.map_nil,List.append_nil]
  unfold blwE
  congr 1
  refine List.filter_congr fun d hd=>decide_eq_decide.2 ?_
  constructor
  ·rintro ⟨y,hy,k,j,h2,h3,h4⟩
   exact ⟨y,hy,k,j,h2,by omega,h4⟩
  ·rintro ⟨y,hy,k,j,h2,h3,h4,h5⟩
   rcases Nat.lt_or_ge j i with h6 | h6
   ·exact ⟨y,hy,k,j,h2,h6,h4,h5⟩
   ·obtain rfl:j=i:=by omega
    exact absurd ⟨y,hy,h5⟩ h
noncomputable def prR (M:List (List Int))(i e:Nat):List (List Int):=(List.range (off M M.length)).map fun y=>blwE M (if y<e then i+1 else i) y
theorem prR_len (M:List (List Int))(i e:Nat):(prR M i e).length=off M M.length:=by simp [prR]
theorem prR_at {M:List (List Int)}{i e y:Nat}(h:y<off M M.length):(prR M i e).getD y []=blwE M (if y<e then i+1 else i) y:=by simp [prR,h]
theorem prR_zero (M:List (List Int))(i:Nat):prR M i 0=blwL M i:=by
 refine List.ext_getElem (by simp [prR,blwL]) fun e h1 h2=>?_
 simp [prR,blwL]
theorem prR_end (M:List (List Int))(i:Nat):prR M i (off M M.length)=blwL M (i+1):=by
 refine List.ext_getElem (by simp [prR,blwL]) fun e h1 h2=>?_
 have:e<off M M.length:=by simpa [prR] using h1
 simp [prR,blwL,this]
theorem prR_step {M:List (List Int)}{i e:Nat}:(prR M i e).set e (blwE M (i+1) e)=prR M i (e+1):=by
 refine List.ext_getElem (by simp [prR]) fun y h1 h2=>?_
 rw [List.getElem_set]
 simp only [prR,List.getElem_map,List.getElem_range]
 by_cases h:e=y
 ·subst h;simp
 ·rw [if_neg h]
  by_cases h3:y<e
  ·rw [if_pos h3,if_pos (by omega)]
  ·rw [if_neg h3,if_neg (by omega)]
theorem blwL_one (M:List (List Int)):blwL M 1=List.replicate (off M M.length) []:=by
 refine List.ext_getElem (by simp [blwL]) fun e h1 h2=>?_
 simp only [blwL,List.getElem_map,List.getElem_range,List.getElem_replicate]
 unfold blwE
 rw [List.filter_eq_nil_iff.2 fun d hd=>?_]
 ·rfl
 ·simp only [decide_eq_true_eq]
  rintro ⟨y,hy,k,j,h1,h2,_⟩
  omega
noncomputable def ofV (M:List (List Int))(i:Nat):List Int:=(List.range i).map fun k=>((off M k:Nat):Int)
theorem ofV_len (M:List (List Int))(i:Nat):(ofV M i).length=i:=by simp [ofV]
theorem ofV_succ (M:List (List Int))(i:Nat):ofV M (i+1)=ofV M i++[((off M i:Nat):Int)]:=by simp [ofV,List.range_succ]
theorem ofV_at {M:List (List Int)}{i k:Nat}(h:k<i):(ofV M i).getD k 0=((off M k:Nat):Int):=by simp [ofV,h]
noncomputable def lbR (M:List (List Int))(i:Nat):List (List Int):=(List.range i).map fun k=>labs (fl M) (oth M k M.length)
theorem lbR_len (M:List (List Int))(i:Nat):(lbR M i).length=i:=by simp [lbR]
theorem lbR_succ (M:List (List Int))(i:Nat):lbR M (i+1)=lbR M i++[labs (fl M) (oth M i M.length)]:=by simp [lbR,List.range_succ]
theorem lbR_at {M:List (List Int)}{i k:Nat}(h:k<i):(lbR M i).getD k []=labs (fl M) (oth M k M.length):=by simp [lbR,h]
theorem off_le {M:List (List Int)}(i:Nat):off M i≤i*fl M:=by
 induction i with
 | zero=>simp [off]
 | succ i ih=>
  rw [off_succ,Nat.succ_mul]
  have:nf M i≤fl M:=ncnt_le _ _
  omega
end
end Go.Proofs.Ytaekhhaaphgndaa
