/- Texts that belong together. -/
import Derived.Test.YtaekhhaaphgndaaGreatZn
set_option maxHeartbeats 16000000
set_option linter.unusedSimpArgs false
set_option linter.unusedVariables false
set_option maxRecDepth 100000
namespace Go.Proofs.YtaekhhaaphgndaaGreat
section
open Classical
structure Rt (n:Nat) (L:List (List Int)) (A C:Nat→Nat) (col:Nat→Int):Prop where
 hL:MvOk n L
 mv:∀ p∈L,(∀ x,x<n→(p.getD x 0).toNat=A x)∨∀ x,x<n→(p.getD x 0).toNat=C x
 mA:∃ p∈L,∀ x,x<n→(p.getD x 0).toNat=A x
 mC:∃ p∈L,∀ x,x<n→(p.getD x 0).toNat=C x
 la:∀ x,x<n→A x<n
 lc:∀ x,x<n→C x<n
 aa:∀ x,x<n→A (A x)=x
 cc:∀ x,x<n→C (C x)=x
 ne:∀ x,x<n→A x≠C x
 com:∀ x,x<n→C (A x)=A (C x)
 vals:∀ x,x<n→col x=0∨col x=1
 ca:∀ x,x<n→col (A x)≠col x
 cC:∀ x,x<n→col (C x)≠col x
section
variable {n:Nat} {L:List (List Int)} {A C:Nat→Nat} {col:Nat→Int} (h:Rt n L A C col)
include h
theorem Rt.lg {x:Nat}(hx:x<n):C (A x)<n:=h.lc _ (h.la x hx)
theorem Rt.gg {x:Nat}(hx:x<n):C (A (C (A x)))=x:=by
 have h1:=h.la x hx
 rw [← h.com _ h1,h.aa x hx,h.cc x hx]
theorem Rt.gne {x:Nat}(hx:x<n):C (A x)≠x:=fun e=>by
 have h1:=h.la x hx
 have:=congrArg C e
 rw [h.cc _ h1] at this
 exact h.ne x hx this
theorem Rt.colg {x:Nat}(hx:x<n):col (C (A x))=col x:=by
 have h1:=h.la x hx
 have a1:=h.vals x hx
 have a2:=h.vals _ h1
 have a3:=h.vals _ (h.lg hx)
 have a4:=h.ca x hx
 have a5:=h.cC _ h1
 omega
theorem Rt.stepA {x y:Nat}(hy:y<n)(k:Rch L x y):Rch L x (A y):=by
 obtain ⟨p,hp,hpa⟩:=h.mA
 have:=k.step hp
 rwa [hpa y hy] at this
theorem Rt.stepC {x y:Nat}(hy:y<n)(k:Rch L x y):Rch L x (C y):=by
 obtain ⟨p,hp,hpa⟩:=h.mC
 have:=k.step hp
 rwa [hpa y hy] at this
theorem Rt.orb {x y:Nat}(hx:x<n)(k:Rch L x y):y=x∨y=A x∨y=C x∨y=C (A x):=by
 induction k with
 | refl=>exact .inl rfl
 | step hy hp ih=>
  rename_i y p
  have hlt:=hy.lt h.hL hx
  have h1:=h.la x hx
  have h2:=h.lc x hx
  rcases h.mv p hp with hm | hm
  ·rw [hm y hlt]
   rcases ih with rfl | rfl | rfl | rfl
   ·exact .inr (.inl rfl)
   ·exact .inl (h.aa _ hx)
   ·rw [← h.com x hx];exact .inr (.inr (.inr rfl))
   ·rw [← h.com _ h1,h.aa x hx];exact .inr (.inr (.inl rfl))
  ·rw [hm y hlt]
   rcases ih with rfl | rfl | rfl | rfl
   ·exact .inr (.inr (.inl rfl))
   ·exact .inr (.inr (.inr rfl))
   ·exact .inl (h.cc _ hx)
   ·rw [h.cc _ h1];exact .inr (.inl rfl)
theorem Rt.same {x y:Nat}(hx:x<n)(k:Rch L x y)(hc:col y=col x):y=x∨y=C (A x):=by
 rcases h.orb hx k with e | e | e | e
 ·exact .inl e
 ·exact absurd (e ▸ hc) (h.ca x hx)
 ·exact absurd (e ▸ hc) (h.cC x hx)
 ·exact .inr e
theorem Rt.labg {x:Nat}(hx:x<n):lab L (C (A x))=lab L x:=by
 have k:Rch L x (C (A x)):=h.stepC (h.la x hx) (h.stepA hx .refl)
 unfold lab
 rw [fst_eq h.hL k hx]
omit h in
theorem lab_inj (hL:MvOk n L){x y:Nat}(hx:x<n)(hy:y<n)(e:lab L x=lab L y):Rch L x y:=by
 have hf:fst L x=fst L y:=by
  have f1:=fst_fst hL hx
  have f2:=fst_fst hL hy
  unfold lab at e
  rcases Nat.lt_trichotomy (fst L x) (fst L y) with h1 | h1 | h1
  ·have:=ncnt_new f1
   have:=ncnt_mono L (a:=fst L x+1) (b:=fst L y) h1
   omega
  ·exact h1
  ·have:=ncnt_new f2
   have:=ncnt_mono L (a:=fst L y+1) (b:=fst L x) h1
   omega
 have a1:=(fst_spec L x).2.1
 have a2:=(fst_spec L y).2.1
 have hlt:=(fst_spec L x).1
 rw [← hf] at a2
 exact (a1.symm hL (by omega)).trans a2
omit h in
theorem lab_sur (L:List (List Int)):∀ (n l:Nat),l<ncnt L n→∃ f,f<n∧fst L f=f∧ncnt L f=l
 | 0,l,hl=>by simp [ncnt] at hl
 | n+1,l,hl=>by
  rw [ncnt_succ] at hl
  rcases Nat.lt_or_ge l (ncnt L n) with h1 | h1
  ·obtain ⟨f,a1,a2,a3⟩:=lab_sur L n l h1
   exact ⟨f,by omega,a2,a3⟩
  ·by_cases hf:fst L n=n
   ·rw [if_pos hf] at hl
    exact ⟨n,by omega,hf,by omega⟩
   ·rw [if_neg hf] at hl;omega
noncomputable def dN (L:List (List Int))(A C:Nat→Nat)(x:Nat):Nat:=2*lab L x+if C (A x)<x then 1 else 0
theorem Rt.d_lt {x:Nat}(hx:x<n):dN L A C x<2*ncnt L n:=by
 have:=lab_lt h.hL hx
 unfold dN
 split<;>omega
theorem Rt.d_inj {x y:Nat}(hx:x<n)(hy:y<n)(cx:col x=0)(cy:col y=0)(e:dN L A C x=dN L A C y):x=y:=by
 have hl:lab L x=lab L y:=by
  unfold dN at e
  split at e<;>split at e<;>omega
 rcases h.same hx (lab_inj h.hL hx hy hl) (by rw [cx,cy]) with e2 | e2
 ·exact e2.symm
 ·exfalso
  subst e2
  unfold dN at e
  rw [h.gg hx,h.labg hx] at e
  have:=h.gne hx
  split at e<;>split at e<;>omega
theorem Rt.d_sur {d:Nat}(hd:d<2*ncnt L n):∃ x,x<n∧col x=0∧dN L A C x=d:=by
 obtain ⟨f,hf,h1,h2⟩:=lab_sur L n (d / 2) (by omega)
 have hlf:lab L f=d / 2:=by unfold lab;rw [h1,h2]
 obtain ⟨x,hx,hc,hl⟩:∃ x,x<n∧col x=0∧lab L x=d / 2:=by
  rcases h.vals f hf with hc | hc
  ·exact ⟨f,hf,hc,hlf⟩
  ·refine ⟨A f,h.la f hf,?_,?_⟩
   ·have:=h.vals _ (h.la f hf)
    have:=h.ca f hf
    omega
   ·rw [← hlf];unfold lab;rw [fst_eq h.hL (h.stepA hf .refl) hf]
 have hg:=h.gg hx
 have hne:=h.gne hx
 have hlg:=h.labg hx
 by_cases hb:C (A x)<x
 ·rcases Nat.mod_two_eq_zero_or_one d with hd2 | hd2
  ·refine ⟨C (A x),h.lg hx,by rw [h.colg hx,hc],?_⟩
   unfold dN
   rw [hg,hlg,if_neg (by omega),hl];omega
  ·refine ⟨x,hx,hc,?_⟩
   unfold dN
   rw [if_pos hb,hl];omega
 ·rcases Nat.mod_two_eq_zero_or_one d with hd2 | hd2
  ·refine ⟨x,hx,hc,?_⟩
   unfold dN
   rw [if_neg hb,hl];omega
  ·refine ⟨C (A x),h.lg hx,by rw [h.colg hx,hc],?_⟩
   unfold dN
   rw [hg,hlg,if_pos (by omega),hl];omega
omit h in
theorem nodup_map {α β:Type}{f:α→β}:∀ {l:List α},l.Nodup→(∀ x∈l,∀ y∈l,f x=f y→x=y)→(l.map f).Nodup
 | [],_,_=>by simp
 | a :: l,hn,hi=>by
  rw [List.map_cons,List.nodup_cons]
  obtain ⟨h1,h2⟩:=List.nodup_cons.1 hn
  refine ⟨fun hm=>?_,nodup_map h2 fun x hx y hy=>hi x (by simp [hx]) y (by simp [hy])⟩
  obtain ⟨y,hy,e⟩:=List.mem_map.1 hm
  have:=hi y (by simp [hy]) a (by simp) e
  subst this
  exact h1 hy
theorem Rt.four:n=4*ncnt L n:=by
 obtain ⟨L0,hL0⟩:∃ L0,L0=(List.range n).filter fun x=>decide (col x=0):=⟨_,rfl⟩
 have hm:∀ x,x∈L0 ↔ x<n∧col x=0:=fun x=>by rw [hL0,List.mem_filter];simp
 have hn:L0.Nodup:=by rw [hL0];exact List.Nodup.sublist List.filter_sublist List.nodup_range
 have e1:L0.length=2*ncnt L n:=by
  have hnd:(L0.map (dN L A C)).Nodup:=nodup_map hn fun x hx y hy e=>h.d_inj ((hm x).1 hx).1 ((hm y).1 hy).1 ((hm x).1 hx).2 ((hm y).1 hy).2 e
  have a1:=nodup_len (n:=2*ncnt L n) hnd fun y hy=>by
   obtain ⟨x,hx,rfl⟩:=List.mem_map.1 hy
   exact h.d_lt ((hm x).1 hx).1
  have a2:=len_mem (2*ncnt L n) (L0.map (dN L A C)) fun d hd=>by
   obtain ⟨x,hx,hc,e⟩:=h.d_sur hd
   exact List.mem_map.2 ⟨x,(hm x).2 ⟨hx,hc⟩,e⟩
  rw [List.length_map] at a1 a2
  omega
 have e2:2*L0.length=n:=by
  have hnd:(L0++L0.map A).Nodup:=by
   rw [List.nodup_append]
   refine ⟨hn,nodup_map hn fun x hx y hy e=>?_,fun x hx y hy e=>?_⟩
   ·have:=congrArg A e
    rwa [h.aa x ((hm x).1 hx).1,h.aa y ((hm y).1 hy).1] at this
   ·subst e
    obtain ⟨z,hz,rfl⟩:=List.mem_map.1 hy
    have:=h.ca z ((hm z).1 hz).1
    rw [((hm z).1 hz).2,((hm _).1 hx).2] at this
    exact this rfl
  have a1:=nodup_len (n:=n) hnd fun y hy=>by
   rcases List.mem_append.1 hy with hy | hy
   ·exact ((hm y).1 hy).1
   ·obtain ⟨x,hx,rfl⟩:=List.mem_map.1 hy
    exact h.la x ((hm x).1 hx).1
  have a2:=len_mem n (L0++L0.map A) fun x hx=>by
   rcases h.vals x hx with hc | hc
   ·exact List.mem_append_left _ ((hm x).2 ⟨hx,hc⟩)
   ·refine List.mem_append_right _ (List.mem_map.2 ⟨A x,(hm _).2 ⟨h.la x hx,?_⟩,h.aa x hx⟩)
    have:=h.vals _ (h.la x hx)
    have:=h.ca x hx
    omega
  simp only [List.length_append,List.length_map] at a1 a2
  omega
 omega
end
noncomputable def sn (L:List (List Int))(col:Nat→Int)(k e:Nat):Nat:=(List.range k).countP fun x=>decide (col x=0∧lab L x=e)
theorem sn_succ (L:List (List Int))(col:Nat→Int)(k e:Nat):sn L col (k+1) e=sn L col k e+if col k=0∧lab L k=e then 1 else 0:=by
 unfold sn
 rw [List.range_succ,List.countP_append]
 by_cases h:col k=0∧lab L k=e<;>simp [h]
theorem cnt_range (y:Nat):∀ k,(List.range k).countP (fun x=>decide (x=y))=if y<k then 1 else 0
 | 0=>by simp
 | k+1=>by
  rw [List.range_succ,List.countP_append,cnt_range y k]
  by_cases h:k=y
  ·subst h;simp
  ·by_cases h2:y<k
   ·simp [h,h2,show y<k+1 by omega]
   ·simp [h,h2,show ¬ y<k+1 by omega]
theorem Rt.sn_at {n:Nat}{L:List (List Int)}{A C:Nat→Nat}{col:Nat→Int}(h:Rt n L A C col){k:Nat}(hk:k<n)(hc:col k=0):sn L col k (lab L k)=if C (A k)<k then 1 else 0:=by
 rw [← cnt_range]
 unfold sn
 refine List.countP_congr fun x hx=>?_
 have hx:=List.mem_range.1 hx
 simp only [decide_eq_true_eq]
 constructor
 ·rintro ⟨c1,c2⟩
  rcases h.same hk (lab_inj h.hL hk (by omega) c2.symm) (by rw [c1,hc]) with e | e
  ·omega
  ·exact e
 ·rintro rfl
  exact ⟨by rw [h.colg hk,hc],h.labg hk⟩
theorem Rt.d_at {n:Nat}{L:List (List Int)}{A C:Nat→Nat}{col:Nat→Int}(h:Rt n L A C col){k:Nat}(hk:k<n)(hc:col k=0):dN L A C k=2*lab L k+sn L col k (lab L k):=by
 rw [h.sn_at hk hc];rfl
end
section
open Go.Gov
open Classical
theorem rmap_set {α:Type}{m i:Nat}{F G:Nat→α}{v:α}(hi:G i=v)(hne:∀ j,j<m→j≠i→G j=F j):((List.range m).map F).set i v=(List.range m).map G:=by
 refine List.ext_getElem (by simp) fun j h1 h2=>?_
 by_cases e:i=j
 ·subst e
  simp [hi]
 ·rw [List.getElem_set_ne e]
  simp only [List.length_map,List.length_range] at h2
  simp [hne j h2 (fun h=>e h.symm)]
theorem rmap_at {m i:Nat}{F:Nat→Int}(h:i<m):((List.range m).map F).getD i 0=F i:=by simp [h]
theorem rmap_atB {m i:Nat}{F:Nat→Bool}(h:i<m):((List.range m).map F).getD i false=F i:=by simp [h]
theorem rmap_rep {α:Type}{m:Nat}{F:Nat→α}{v:α}(h:∀ j,j<m→F j=v):(List.range m).map F=List.replicate m v:=by
 refine List.ext_getElem (by simp) fun j h1 h2=>?_
 simp only [List.length_map,List.length_range] at h1
 simp [h j h1]
theorem rmap_eq {α:Type}{m:Nat}{F G:Nat→α}(h:∀ j,j<m→F j=G j):(List.range m).map F=(List.range m).map G:=List.map_congr_left fun j hj=>h j (List.mem_range.1 hj)
abbrev mvN (M:List (List Int))(i:Nat)(x:Nat):Nat:=((M.getD i []).getD x 0).toNat
noncomputable abbrev colN (M:List (List Int))(x:Nat):Int:=(colV (fl M) M).getD x 0
abbrev othE (M:List (List Int)):List (List Int):=oth M 1 M.length
theorem IsMan.mv1 {M:List (List Int)}(h:IsMan M){i x:Nat}(hi:i<M.length)(hx:x<fl M):0≤(M.getD i []).getD x 0∧(M.getD i []).getD x 0<(fl M:Int)∧(M.getD i []).getD x 0=((mvN M i x:Nat):Int)∧mvN M i x<fl M∧mvN M i (mvN M i x)=x:=by
 obtain ⟨h1,h2⟩:=h.mv _ (row_mem (L:=M) (k:=i) hi)
 obtain ⟨a1,a2,a3⟩:=h2 x hx
 unfold mvN
 refine ⟨a1,a2,by omega,by omega,by rw [a3];omega⟩
theorem rt_of {M:List (List Int)}(h:IsMap M)(hE:BipE (fl M) M):Rt (fl M) (othE M) (mvN M 0) (mvN M 2) (colN M):=by
 obtain ⟨hm,h3⟩:=h
 obtain ⟨a,b,c,rfl⟩:∃ a b c,M=[a,b,c]:=by
  match M,h3 with
  | [a,b,c],_=>exact ⟨a,b,c,rfl⟩
 have hf:=hm.f2
 obtain ⟨c1,c2,c3,c4⟩:=colV_spec hE (by omega)
 have hL:othE [a,b,c]=[a,c]:=rfl
 have hcc:∀ i,i<3→∀ x,x<fl [a,b,c]→colN [a,b,c] (mvN [a,b,c] i x)≠colN [a,b,c] x:=fun i hi x hx=>by
  obtain ⟨_,_,_,h4,_⟩:=hm.mv1 (i:=i) (by simpa using hi) hx
  exact c4 x hx _ (row_mem (by simpa using hi)) h4
 refine ⟨hm.mv.oth 1 _,fun p hp=>?_,⟨a,by rw [hL];simp,fun x hx=>rfl⟩,⟨c,by rw [hL];simp,fun x hx=>rfl⟩,fun x hx=>(hm.mv1 (i:=0) (by simp) hx).2.2.2.1,fun x hx=>(hm.mv1 (i:=2) (by simp) hx).2.2.2.1,
  fun x hx=>(hm.mv1 (i:=0) (by simp) hx).2.2.2.2,fun x hx=>(hm.mv1 (i:=2) (by simp) hx).2.2.2.2,fun x hx e=>?_,fun x hx=>?_,c3,fun x hx=>hcc 0 (by omega) x hx,fun x hx=>hcc 2 (by omega) x hx⟩
 ·rw [hL] at hp
  rcases List.mem_cons.1 hp with rfl | hp
  ·exact .inl fun x hx=>rfl
  ·obtain rfl:=List.mem_singleton.1 hp
   exact .inr fun x hx=>rfl
 ·obtain ⟨k1,_⟩:=hm.com 0 2 x (by omega) (by simp) hx
  have a1:=(hm.mv1 (i:=0) (by simp) hx).2.2.1
  have a2:=(hm.mv1 (i:=2) (by simp) hx).2.2.1
  exact k1 (by rw [a1,a2,e])
 ·obtain ⟨_,k2⟩:=hm.com 0 2 x (by omega) (by simp) hx
  unfold mvN
  rw [k2]
noncomputable def dV (M:List (List Int))(x:Nat):Int:=if colN M x=0 then (dN (othE M) (mvN M 0) (mvN M 2) x:Nat) else 0
noncomputable def dL (M:List (List Int))(k:Nat):List Int:=(List.range (fl M)).map fun x=>if x<k then dV M x else 0
noncomputable def seenL (M:List (List Int))(k:Nat):List Int:=(List.range (ncnt (othE M) (fl M))).map fun e=>((sn (othE M) (colN M) k e:Nat):Int)
noncomputable def metL (M:List (List Int))(k:Nat):List Bool:=(List.range (fl M)).map fun e=>decide (0<sn (othE M) (colN M) k e)
noncomputable def invD (M:List (List Int))(d:Nat):Nat:=if h:∃ x,x<fl M∧colN M x=0∧dN (othE M) (mvN M 0) (mvN M 2) x=d then Classical.choose h else 0
noncomputable def flL (M:List (List Int))(k:Nat):List Int:=(List.range (2*ncnt (othE M) (fl M))).map fun d=>if invD M d<k then ((invD M d:Nat):Int) else 0
noncomputable def roD (M:List (List Int))(x:Nat):Int:=dV M (mvN M 2 (mvN M 1 x))
noncomputable def oL (M:List (List Int))(k:Nat):List Int:=(List.range (2*ncnt (othE M) (fl M))).map fun d=>if invD M d<k then roD M (invD M d) else 0
noncomputable def roL (M:List (List Int))(k:Nat):List Int:=(List.range k).map fun d=>roD M (invD M d)
theorem dL_len (M:List (List Int))(k:Nat):(dL M k).length=fl M:=by simp [dL]
theorem seenL_len (M:List (List Int))(k:Nat):(seenL M k).length=ncnt (othE M) (fl M):=by simp [seenL]
theorem metL_len (M:List (List Int))(k:Nat):(metL M k).length=fl M:=by simp [metL]
theorem flL_len (M:List (List Int))(k:Nat):(flL M k).length=2*ncnt (othE M) (fl M):=by simp [flL]
theorem oL_len (M:List (List Int))(k:Nat):(oL M k).length=2*ncnt (othE M) (fl M):=by simp [oL]
theorem roL_len (M:List (List Int))(k:Nat):(roL M k).length=k:=by simp [roL]
theorem roL_succ (M:List (List Int))(k:Nat):roL M (k+1)=roL M k++[roD M (invD M k)]:=by simp [roL,List.range_succ]
section
variable {M:List (List Int)} (h:IsMap M) (hE:BipE (fl M) M)
include h hE
theorem inv_spec {d:Nat}(hd:d<2*ncnt (othE M) (fl M)):invD M d<fl M∧colN M (invD M d)=0∧dN (othE M) (mvN M 0) (mvN M 2) (invD M d)=d:=by
 have hx:=(rt_of h hE).d_sur hd
 unfold invD
 rw [dif_pos hx]
 exact Classical.choose_spec hx
theorem inv_of {x:Nat}(hx:x<fl M)(hc:colN M x=0):invD M (dN (othE M) (mvN M 0) (mvN M 2) x)=x:=by
 obtain ⟨a1,a2,a3⟩:=inv_spec h hE ((rt_of h hE).d_lt hx)
 exact (rt_of h hE).d_inj a1 hx a2 hc a3
theorem rot_step {k : Nat} (hk : k < fl M) (hc : colN M k = 0) :
    lab (othE M) k<ncnt (othE M) (fl M)∧dN (othE M) (mvN M 0) (mvN M 2) k<2*ncnt (othE M) (fl M)∧dN (othE M) (mvN M 0) (mvN M 2) k=2*lab (othE M) k+sn (othE M) (colN M) k (lab (othE M) k)∧sn (othE M) (colN M) k (lab (othE M) k)≤1 ∧
    (seenL M k).getD (lab (othE M) k) 0=((sn (othE M) (colN M) k (lab (othE M) k):Nat):Int)∧(seenL M k).set (lab (othE M) k) (((sn (othE M) (colN M) k (lab (othE M) k):Nat):Int)+1)=seenL M (k+1) ∧
    (flL M k).set (dN (othE M) (mvN M 0) (mvN M 2) k) (k:Int)=flL M (k+1)∧(dL M k).set k ((dN (othE M) (mvN M 0) (mvN M 2) k:Nat):Int)=dL M (k+1):=by
 have hr:=rt_of h hE
 have hl:=lab_lt hr.hL hk
 refine ⟨hl,hr.d_lt hk,hr.d_at hk hc,?_,rmap_at hl,?_,?_,?_⟩
 ·rw [hr.sn_at hk hc];split<;>omega
 ·refine rmap_set ?_ fun j hj hne=>?_
  ·rw [sn_succ,if_pos ⟨hc,rfl⟩];omega
  ·rw [sn_succ,if_neg fun e=>hne e.2.symm];rfl
 ·refine rmap_set ?_ fun j hj hne=>?_
  ·rw [inv_of h hE hk hc,if_pos (by omega)]
  ·obtain ⟨a1,a2,a3⟩:=inv_spec h hE hj
   have:invD M j≠k:=fun e=>hne (by rw [← a3,e])
   by_cases h2:invD M j<k
   ·rw [if_pos h2,if_pos (by omega)]
   ·rw [if_neg h2,if_neg (by omega)]
 ·refine rmap_set ?_ fun j hj hne=>?_
  ·rw [if_pos (by omega)];unfold dV;rw [if_pos hc]
  ·by_cases h2:j<k
   ·rw [if_pos h2,if_pos (by omega)]
   ·rw [if_neg h2,if_neg (by omega)]
theorem rot_skip {k:Nat}(hc:colN M k≠0):seenL M (k+1)=seenL M k∧flL M (k+1)=flL M k∧dL M (k+1)=dL M k∧metL M (k+1)=metL M k∧oL M (k+1)=oL M k:=by
 have hs:∀ e,sn (othE M) (colN M) (k+1) e=sn (othE M) (colN M) k e:=fun e=>by rw [sn_succ,if_neg fun e=>hc e.1];rfl
 have hi:∀ d,d<2*ncnt (othE M) (fl M)→(invD M d<k+1 ↔ invD M d<k):=fun d hd=>by
  have:=(inv_spec h hE hd).2.1
  have:invD M d≠k:=fun e=>hc (by rw [← e];exact this)
  omega
 refine ⟨rmap_eq fun e _=>by rw [hs],rmap_eq fun d hd=>by simp only [hi d hd],rmap_eq fun x hx=>?_,rmap_eq fun e _=>by rw [hs],rmap_eq fun d hd=>by simp only [hi d hd]⟩
 by_cases h2:x<k
 ·rw [if_pos h2,if_pos (by omega)]
 ·rw [if_neg h2]
  by_cases h3:x<k+1
  ·obtain rfl:x=k:=by omega
   rw [if_pos h3];unfold dV;rw [if_neg hc]
  ·rw [if_neg h3]
end
theorem rotationOf_c (M:List (List Int))(hp:IsMap M)(hE:BipE (fl M) M):Pure Tryz.prog 33 [maniA M,ints (colV (fl M) M)] (.sl 0 1 0 (2*ncnt (othE M) (fl M))) [some (intsC (roL M (2*ncnt (othE M) (fl M))))]:=by
 have hf:=hp.1.f4
 have hf2:=hp.1.f2
 have h3:=hp.2
 have hr:=rt_of hp hE
 have hfour:=hr.four
 have hll:=labs_len (fl M) (othE M)
 have hcl:=(colV_spec hE (by omega)).1
 have hfa:=faces_c (fl M) M 1 hp.1.mv (by omega) rfl (by omega) (by omega)
 have hfg:=flags_c M (by omega) (by omega) (by unfold fl at hf;omega)
 have ec:(2*((ncnt (othE M) (fl M):Nat):Int)).toNat=2*ncnt (othE M) (fl M):=by omega
 have t1:Int.toNat 1=1:=rfl
 have t2:Int.toNat 2=2:=rfl
 rw [show ((1:Nat):Int)=1 from rfl] at hfa
 rw [show (M.getD 0 []).length=fl M from rfl] at hfg
 refine pureVg [5] ok33 rfl ?_;unfold c33
 refine RN ?_
 refine pureC1 (hfa) ?_
 refine RN ?_
 refine pureC1 (hfg) ?_
 refine RN ?_
 simp only [ec,go_sem,↓reduceIte,Nat.reduceEqDiff,Nat.reduceAdd,reduceCtorEq]
 refine V_loop (α:=Nat) (S:=fun k=>([(1,ints (colV (fl M) M)),(2,.ref 0 0),(7,.sl 2 1 0 (2*ncnt (othE M) (fl M))),(8,.sl 3 1 0 (ncnt (othE M) (fl M))),(9,.sl 4 1 0 (fl M)),(27,.sl 1 1 0 (fl M)),(28,i64 (fl M)),(29,i64 k)],[some [mat M],some (intsC (labs (fl M) (othE M))),some (intsC (flL M k)),some (intsC (seenL M k)),some (intsC (dL M k))])) (C:=fun k=>k≤fl M) (μ:=fun k=>fl M - k) 0 (by omega) (Ref.to ?_ (by simp [sub,fget])) ?_
 ·rw [show flL M 0=List.replicate (2*ncnt (othE M) (fl M)) 0 from rmap_rep fun j hj=>rfl,show seenL M 0=List.replicate (ncnt (othE M) (fl M)) 0 from rmap_rep fun j hj=>rfl,show dL M 0=List.replicate (fl M) 0 from rmap_rep fun j hj=>rfl]
 intro k hk
 have q1:=dL_len M k
 have q2:=seenL_len M k
 have q3:=flL_len M k
 refine RN ?_
 refine ⟨fun hc=>?_,fun hc=>?_⟩
 ·have hk' : k<fl M:=by omega
  have hat:=labs_at (L:=othE M) hk'
  have hlt:=lab_lt hr.hL hk'
  refine RN ?_
  refine ⟨fun hc2=>?_,fun hc2=>?_⟩
  ·obtain ⟨s1,s2,s3,s4,s5,s6,s7,s8⟩:=rot_step hp hE hk' hc2
   have hli:((lab (othE M) k:Nat):Int).toNat=lab (othE M) k:=by omega
   have hdi:(2*((lab (othE M) k:Nat):Int)+((sn (othE M) (colN M) k (lab (othE M) k):Nat):Int)).toNat=dN (othE M) (mvN M 0) (mvN M 2) k:=by omega
   have hde:2*((lab (othE M) k:Nat):Int)+((sn (othE M) (colN M) k (lab (othE M) k):Nat):Int)=((dN (othE M) (mvN M 0) (mvN M 2) k:Nat):Int):=by omega
   refine RN ?_
   simp only [hat,hli,s5,s6,hdi,go_sem,↓reduceIte,Nat.reduceEqDiff,Nat.reduceAdd,reduceCtorEq]
   refine RN ?_
   simp only [hde,s7,s8,go_sem,↓reduceIte,Nat.reduceEqDiff,Nat.reduceAdd,reduceCtorEq]
   refine RN ?_
   exact ⟨k+1,by omega,by omega,by exact Ref.frame (by simp [sub,fget])⟩
  ·obtain ⟨s1,s2,s3,s4,s5⟩:=rot_skip hp hE hc2
   refine RN ?_
   refine ⟨k+1,by omega,by omega,?_⟩
   rw [s1,s2,s3]
   exact Ref.frame (by simp [sub,fget])
 ·obtain rfl:k=fl M:=by omega
  refine RN ?_
  refine V_loop (α:=Nat) (S:=fun j=>([(2,.ref 0 0),(9,.sl 4 1 0 (fl M)),(13,.sl 5 1 0 j),(61,.sl 2 1 0 (2*ncnt (othE M) (fl M))),(62,i64 (2*ncnt (othE M) (fl M):Nat)),(63,i64 j)],[some [mat M],some (intsC (labs (fl M) (othE M))),some (intsC (flL M (fl M))),some (intsC (seenL M (fl M))),some (intsC (dL M (fl M))),some (intsC (roL M j))])) (C:=fun j=>j≤2*ncnt (othE M) (fl M)) (μ:=fun j=>2*ncnt (othE M) (fl M) - j) 0 (by omega) ((Ref.nil 13 1 (by simp [fget])).trans (Ref.to (by simp [roL,intsC]) (by simp [sub,fget]))) ?_
  intro j hj
  have q4:=roL_len M j
  refine RN ?_
  refine ⟨fun hc3=>?_,fun hc3=>?_⟩
  ·have hj' : j<2*ncnt (othE M) (fl M):=by omega
   obtain ⟨i1,i2,i3⟩:=inv_spec hp hE hj'
   have hfj:(flL M (fl M)).getD j 0=((invD M j:Nat):Int):=by
    unfold flL
    rw [rmap_at hj', if_pos i1]
   have hsu:=roL_succ M j
   obtain ⟨x,hx⟩:∃ x,x=invD M j:=⟨_,rfl⟩
   rw [← hx] at i1 hfj hsu
   obtain ⟨m1,m2,m3,m4,_⟩:=hp.1.mv1 (i:=1) (x:=x) (by omega) i1
   obtain ⟨n1,n2,n3,n4,_⟩:=hp.1.mv1 (i:=2) (x:=mvN M 1 x) (by omega) m4
   have r1:=(hp.1.rows 1 (by omega)).1
   have r2:=(hp.1.rows 2 (by omega)).1
   have hro:(dL M (fl M)).getD ((M.getD 2 []).getD ((M.getD 1 []).getD x 0).toNat 0).toNat 0=roD M x:=by
    unfold dL
    rw [rmap_at n4,if_pos n4];rfl
   have hxi:((x:Nat):Int).toNat=x:=by omega
   refine RN ?_
   simp only [hfj,hxi,t1,t2,go_sem,↓reduceIte,Nat.reduceEqDiff,Nat.reduceAdd,reduceCtorEq]
   refine RN ?_
   simp only [hro,go_sem,↓reduceIte,Nat.reduceEqDiff,Nat.reduceAdd,reduceCtorEq]
   refine RN ?_
   refine ⟨j+1,by omega,by omega,Ref.gc [0,1,2,3,4,7] rfl ?_ (by simp [sub,fget,go_sem,↓reduceIte,Nat.reduceEqDiff,Nat.reduceAdd,reduceCtorEq])⟩
   have htk:(intsC (roL M j)).take j=intsC (roL M j):=List.take_of_length_le (by simp [intsC,roL])
   simp only [go_sem,↓reduceIte,Nat.reduceEqDiff,Nat.reduceAdd,reduceCtorEq,htk,one_intsC,app_intsC,hsu]
  ·obtain rfl:j=2*ncnt (othE M) (fl M):=by omega
   (refine RN ?_;try with_reducible exact trivial)
end
section
open Go.Gov
open Classical
noncomputable def roV (M:List (List Int)):List Int:=if IsMap M∧BipE (fl M) M then roL M (2*ncnt (othE M) (fl M)) else []
noncomputable def roC (M:List (List Int)):Int:=if IsMap M then if BipE (fl M) M then 0 else 5 else 1
theorem roV_len (M:List (List Int)):(roV M).length≤400:=by
 unfold roV
 split
 ·rename_i h
  have h1:=(rt_of h.1 h.2).four
  have h2:=h.1.1.f4
  rw [roL_len];omega
 ·simp
theorem implRo_c (M:List (List Int))(hl:M.length≤1048576)(hr:∀ p∈M,p.length≤1048576):Pure Tryz.prog 15 [maniA M] (.tup [.sl 0 1 0 (roV M).length,i64 (roC M)]) [some (intsC (roV M))]:=by
 unfold roV roC
 by_cases hp:IsMap M
 ·have hf:=hp.1.f4
  have hf2:=hp.1.f2
  have h3:=hp.2
  have hco:=colouring_c (fl M) M hp.1.mv (by omega) (by omega) (by omega) hl rfl hp.1.con
  by_cases hE:BipE (fl M) M
  ·rw [if_pos ⟨hp,hE⟩,if_pos hp,if_pos hE,roL_len]
   have hcl:=(colV_spec hE (by omega)).1
   have htk:(intsC (colV (fl M) M)).take (fl M)=intsC (colV (fl M) M):=List.take_of_length_le (by simp [intsC,hcl])
   refine pureVg [2] ok15 rfl ?_;unfold c15
   refine RN ?_
   refine pureC1 (isMap_c M hl hr) ?_
   simp only [hp,go_sem,↓reduceIte,Nat.reduceEqDiff,Nat.reduceAdd,reduceCtorEq]
   refine RN ?_
   refine pureEC (hco) (by simp only [go_sem,↓reduceIte,Nat.reduceEqDiff,Nat.reduceAdd,reduceCtorEq]<;>rfl) (fun o=>by first | rfl | simp only [go_sem,↓reduceIte,Nat.reduceEqDiff,Nat.reduceAdd,reduceCtorEq]) fun o ho=>?_
   obtain rfl:=ho.2 hE
   simp only [hE,go_sem,↓reduceIte,Nat.reduceEqDiff,Nat.reduceAdd,reduceCtorEq]
   refine RN ?_
   refine pureC (rotationOf_c M hp hE) (by simp only [go_sem,↓reduceIte,Nat.reduceEqDiff,Nat.reduceAdd,reduceCtorEq,ints,hcl,htk]) (by simp only [go_sem,↓reduceIte,Nat.reduceEqDiff,Nat.reduceAdd,reduceCtorEq]) ?_
   (refine RN ?_;try with_reducible exact trivial)
  ·rw [if_neg (fun h=>hE h.2),if_pos hp,if_neg hE]
   refine pure_nil 1 ?_
   refine pureV0 ok15 rfl rfl ?_;unfold c15
   refine RN ?_
   refine pureC1 (isMap_c M hl hr) ?_
   simp only [hp,go_sem,↓reduceIte,Nat.reduceEqDiff,Nat.reduceAdd,reduceCtorEq]
   refine RN ?_
   refine pureEC (hco) (by simp only [go_sem,↓reduceIte,Nat.reduceEqDiff,Nat.reduceAdd,reduceCtorEq]<;>rfl) (fun o=>by first | rfl | simp only [go_sem,↓reduceIte,Nat.reduceEqDiff,Nat.reduceAdd,reduceCtorEq]) fun o ho=>?_
   simp only [hE,go_sem,↓reduceIte,Nat.reduceEqDiff,Nat.reduceAdd,reduceCtorEq]
   (refine RN ?_;try with_reducible exact trivial)
 ·rw [if_neg (fun h=>hp h.1),if_neg hp]
  refine pure_nil 1 ?_
  refine pureV0 ok15 rfl rfl ?_;unfold c15
  refine RN ?_
  refine pureC1 (isMap_c M hl hr) ?_
  simp only [hp,go_sem,↓reduceIte,Nat.reduceEqDiff,Nat.reduceAdd,reduceCtorEq]
  (refine RN ?_;try with_reducible exact trivial)
section
variable {M:List (List Int)} (h:IsMap M) (hE:BipE (fl M) M)
include h hE
theorem met_step {k:Nat}(hk:k<fl M)(hc:colN M k=0):(metL M k).getD (lab (othE M) k) false=decide (0<sn (othE M) (colN M) k (lab (othE M) k))∧(metL M k).set (lab (othE M) k) true=metL M (k+1):=by
 have hl:=lab_lt (rt_of h hE).hL hk
 have hle:=ncnt_le (othE M) (fl M)
 refine ⟨rmap_atB (by omega),rmap_set ?_ fun j hj hne=>?_⟩
 ·rw [sn_succ,if_pos ⟨hc,rfl⟩];simp
 ·rw [sn_succ,if_neg fun e=>hne e.2.symm];rfl
theorem o_step {k:Nat}(hk:k<fl M)(hc:colN M k=0):(oL M k).set (dN (othE M) (mvN M 0) (mvN M 2) k) (roD M k)=oL M (k+1):=by
 refine rmap_set ?_ fun j hj hne=>?_
 ·rw [inv_of h hE hk hc,if_pos (by omega)]
 ·obtain ⟨a1,a2,a3⟩:=inv_spec h hE hj
  have:invD M j≠k:=fun e=>hne (by rw [← a3,e])
  by_cases h2:invD M j<k
  ·rw [if_pos h2,if_pos (by omega)]
  ·rw [if_neg h2,if_neg (by omega)]
theorem o_all:oL M (fl M)=roL M (2*ncnt (othE M) (fl M)):=rmap_eq fun d hd=>by rw [if_pos (inv_spec h hE hd).1]
end
theorem specRo_c (M:List (List Int))(hl:M.length≤1048576)(hr:∀ p∈M,p.length≤1048576):Pure Tryz.prog 16 [maniA M] (.tup [.sl 0 1 0 (roV M).length,i64 (roC M)]) [some (intsC (roV M))]:=by
 unfold roV roC
 by_cases hp:IsMap M
 ·have hf:=hp.1.f4
  have hf2:=hp.1.f2
  have h3:=hp.2
  have hco:=l02Colours_c (fl M) M hp.1.mv (by omega) (by omega) (by omega) hl rfl hp.1.con
  by_cases hE:BipE (fl M) M
  ·rw [if_pos hE] at hco
   rw [if_pos ⟨hp,hE⟩,if_pos hp,if_pos hE,roL_len]
   have hrt:=rt_of hp hE
   have hfour:=hrt.four
   have hcl:=(colV_spec hE (by omega)).1
   have hll:=labs_len (fl M) (othE M)
   have hfa:=l02Faces_c (fl M) M 1 hp.1.mv (by omega) rfl (by omega) hl
   rw [show ((1:Nat):Int)=1 from rfl] at hfa
   have hq:((fl M:Nat):Int).tdiv 2=((2*ncnt (othE M) (fl M):Nat):Int):=by rw [Int.tdiv_eq_ediv_of_nonneg (by omega)];omega
   refine pureVg [5] ok16 rfl ?_;unfold c16
   refine RN ?_
   refine pureC1 (l14Is_c M hl hr) ?_
   simp only [hp,go_sem,↓reduceIte,Nat.reduceEqDiff,Nat.reduceAdd,reduceCtorEq]
   refine RN ?_
   refine pureC1 (hco) ?_
   refine RN ?_
   refine pureC1 (hfa) ?_
   refine RN ?_
   refine V_altsR [(1,.ref 0 0),(4,.sl 1 1 0 (fl M)),(6,.sl 2 1 0 (fl M)),(7,.sl 3 1 0 (fl M)),(8,.sl 4 1 0 (fl M))] [some [mat M],some (intsC (colV (fl M) M)),some (intsC (labs (fl M) (othE M))),some (intsC (dL M 0)),some (boolsC (metL M 0))] ?_ ?_
   ·rw [show dL M 0=List.replicate (fl M) 0 from rmap_rep fun j hj=>rfl,show metL M 0=List.replicate (fl M) false from rmap_rep fun j hj=>by simp [sn]]
    refine RN ?_
    refine ⟨?_,?_⟩
    ·(refine RN ?_;try with_reducible exact trivial)
     exact Ref.to1
    ·(refine RN ?_;try with_reducible exact trivial)
     refine Ref.gc [0,1,2,4,3] rfl ?_ (by simp [sub,fget,go_sem,↓reduceIte,Nat.reduceEqDiff,Nat.reduceAdd,reduceCtorEq])
     simp only [go_sem,↓reduceIte,Nat.reduceEqDiff,Nat.reduceAdd,reduceCtorEq]
   ·(refine RN ?_;try with_reducible exact trivial)
    refine V_loop (α:=Nat) (S:=fun k=>([(1,.ref 0 0),(4,.sl 1 1 0 (fl M)),(6,.sl 2 1 0 (fl M)),(7,.sl 3 1 0 (fl M)),(8,.sl 4 1 0 (fl M)),(9,i64 k)],[some [mat M],some (intsC (colV (fl M) M)),some (intsC (labs (fl M) (othE M))),some (intsC (dL M k)),some (boolsC (metL M k))])) (C:=fun k=>k≤fl M) (μ:=fun k=>fl M - k) 0 (by omega) (by exact Ref.frame (by simp [sub,fget])) ?_
    intro k hk
    have q1:=dL_len M k
    have q2:=metL_len M k
    refine RN ?_
    refine ⟨fun hc=>?_,fun hc=>?_⟩
    ·have hk' : k<fl M:=by omega
     have hat:=labs_at (L:=othE M) hk'
     have hlt:=lab_lt hrt.hL hk'
     have hle:=ncnt_le (othE M) (fl M)
     refine RN ?_
     refine ⟨fun hc2=>?_,fun hc2=>?_⟩
     ·obtain ⟨s1,s2,s3,s4,_,_,_,s8⟩:=rot_step hp hE hk' hc2
      obtain ⟨m1,m2⟩:=met_step hp hE hk' hc2
      have hli:((lab (othE M) k:Nat):Int).toNat=lab (othE M) k:=by omega
      refine RN ?_
      simp only [hat,hli,m1,go_sem,↓reduceIte,Nat.reduceEqDiff,Nat.reduceAdd,reduceCtorEq]
      refine RN ?_
      refine ⟨fun hc4=>?_,fun hc4=>?_⟩
      ·have hde:2*((lab (othE M) k:Nat):Int)+1=((dN (othE M) (mvN M 0) (mvN M 2) k:Nat):Int):=by omega
       have hga:((dL M k).set k (2*((lab (othE M) k:Nat):Int))).getD k 0=2*((lab (othE M) k:Nat):Int):=setD_self (by omega)
       refine RN ?_
       simp only [hat,hli,hga,hde,List.set_set,s8,m2,go_sem,↓reduceIte,Nat.reduceEqDiff,Nat.reduceAdd,reduceCtorEq]
       refine RN ?_
       exact ⟨k+1,by omega,by omega,by exact Ref.frame (by simp [sub,fget])⟩
      ·have hde:2*((lab (othE M) k:Nat):Int)=((dN (othE M) (mvN M 0) (mvN M 2) k:Nat):Int):=by omega
       refine RN ?_
       simp only [hat,hli,hde,s8,m2,go_sem,↓reduceIte,Nat.reduceEqDiff,Nat.reduceAdd,reduceCtorEq]
       refine RN ?_
       exact ⟨k+1,by omega,by omega,by exact Ref.frame (by simp [sub,fget])⟩
     ·obtain ⟨_,_,s3,s4,_⟩:=rot_skip hp hE hc2
      refine RN ?_
      refine ⟨k+1,by omega,by omega,?_⟩
      rw [s3,s4]
      exact Ref.frame (by simp [sub,fget])
    ·obtain rfl:k=fl M:=by omega
     refine RN ?_
     simp only [hq,Int.toNat_natCast,go_sem,↓reduceIte,Nat.reduceEqDiff,Nat.reduceAdd,reduceCtorEq]
     refine RN ?_
     refine V_loop (α:=Nat) (S:=fun k=>([(1,.ref 0 0),(4,.sl 1 1 0 (fl M)),(6,.sl 2 1 0 (fl M)),(7,.sl 3 1 0 (fl M)),(10,.sl 5 1 0 (2*ncnt (othE M) (fl M))),(11,i64 k)],[some [mat M],some (intsC (colV (fl M) M)),some (intsC (labs (fl M) (othE M))),some (intsC (dL M (fl M))),some (boolsC (metL M (fl M))),some (intsC (oL M k))])) (C:=fun k=>k≤fl M) (μ:=fun k=>fl M - k) 0 (by omega) (Ref.to (by rw [show oL M 0=List.replicate (2*ncnt (othE M) (fl M)) 0 from rmap_rep fun j hj=>rfl]) (by simp [sub,fget])) ?_
     intro j hj
     have q3:=oL_len M j
     refine RN ?_
     refine ⟨fun hc3=>?_,fun hc3=>?_⟩
     ·have hj' : j<fl M:=by omega
      obtain ⟨m1,m2,m3,m4,_⟩:=hp.1.mv1 (i:=1) (x:=j) (by omega) hj'
      obtain ⟨n1,n2,n3,n4,_⟩:=hp.1.mv1 (i:=2) (x:=mvN M 1 j) (by omega) m4
      have r1:=(hp.1.rows 1 (by omega)).1
      have r2:=(hp.1.rows 2 (by omega)).1
      have hro:(dL M (fl M)).getD ((M.getD 2 []).getD ((M.getD 1 []).getD j 0).toNat 0).toNat 0=roD M j:=by
       unfold dL
       rw [rmap_at n4,if_pos n4];rfl
      refine RN ?_
      refine ⟨fun hc4=>?_,fun hc4=>?_⟩
      ·have hd:=hrt.d_lt hj'
       have hst:=o_step hp hE hj' hc4
       have hdj:(dL M (fl M)).getD j 0=((dN (othE M) (mvN M 0) (mvN M 2) j:Nat):Int):=by
        unfold dL
        rw [rmap_at hj', if_pos hj'];unfold dV;rw [if_pos hc4]
       have hdi:((dN (othE M) (mvN M 0) (mvN M 2) j:Nat):Int).toNat=dN (othE M) (mvN M 0) (mvN M 2) j:=by omega
       refine RN ?_
       simp only [hro,hdj,hdi,hst,go_sem,↓reduceIte,Nat.reduceEqDiff,Nat.reduceAdd,reduceCtorEq]
       refine RN ?_
       exact ⟨j+1,by omega,by omega,by exact Ref.frame (by simp [sub,fget])⟩
      ·obtain ⟨_,_,_,_,s5⟩:=rot_skip hp hE hc4
       refine RN ?_
       refine ⟨j+1,by omega,by omega,?_⟩
       rw [s5]
       exact Ref.frame (by simp [sub,fget])
     ·obtain rfl:j=fl M:=by omega
      refine RN ?_
      rw [o_all hp hE]
  ·rw [if_neg hE] at hco
   rw [if_neg (fun h=>hE h.2),if_pos hp,if_neg hE]
   refine pure_nil 1 ?_
   refine pureV0 ok16 rfl rfl ?_;unfold c16
   refine RN ?_
   refine pureC1 (l14Is_c M hl hr) ?_
   simp only [hp,go_sem,↓reduceIte,Nat.reduceEqDiff,Nat.reduceAdd,reduceCtorEq]
   refine RN ?_
   refine pureC1 (hco) ?_
   (refine RN ?_;try with_reducible exact trivial)
 ·rw [if_neg (fun h=>hp h.1),if_neg hp]
  refine pure_nil 1 ?_
  refine pureV0 ok16 rfl rfl ?_;unfold c16
  refine RN ?_
  refine pureC1 (l14Is_c M hl hr) ?_
  simp only [hp,go_sem,↓reduceIte,Nat.reduceEqDiff,Nat.reduceAdd,reduceCtorEq]
  (refine RN ?_;try with_reducible exact trivial)
end
end Go.Proofs.YtaekhhaaphgndaaGreat
