/- Texts that belong together. -/
import Derived.Test.YtcneanpkpmfaiaaGreatZg
import Derived.Test.YtcneanpkpmfaiaaGreatZj
set_option linter.unusedSimpArgs false
set_option linter.unusedVariables false
set_option maxRecDepth 100000
namespace Go.Proofs.YtcneanpkpmfaiaaGreat
section
open Go.Gov
open Classical
def PrK (p:List Int)(k:Nat):Prop:=∀ j,j<k→(0≤p.getD j 0∧p.getD j 0≤(p.length:Int) - 1)∧∀ i,i<j→p.getD i 0≠p.getD j 0
def IsPrm (p:List Int):Prop:=p.length≤400∧PrK p p.length
theorem PrK.succ {p:List Int}{k:Nat}(h:PrK p k)(h1:0≤p.getD k 0∧p.getD k 0≤(p.length:Int) - 1)(h2:∀ i,i<k→p.getD i 0≠p.getD k 0):PrK p (k+1):=fun j hj=>by
 rcases Nat.lt_or_ge j k with h3 | h3
 ·exact h j h3
 ·obtain rfl:j=k:=by omega
  exact ⟨h1,h2⟩
noncomputable def E6 (p:List Int)(k:Nat):List Bool:=(List.range p.length).map fun (x:Nat)=>decide (∃ i,i<k∧p.getD i 0=(x:Int))
theorem Abw (p:List Int)(k:Nat):(E6 p k).length=p.length:=by simp [E6]
theorem Aby (p:List Int):E6 p 0=List.replicate p.length false:=by
 refine List.ext_getElem (by simp [E6]) fun j h1 h2=>by simp [E6]
theorem Abv {p:List Int}{k:Nat}{x:Int}(h0:0≤x)(h1:x≤(p.length:Int) - 1):(E6 p k).getD x.toNat false=decide (∃ i,i<k∧p.getD i 0=x):=by
 have h2:x.toNat<p.length:=by omega
 have h3:((x.toNat:Nat):Int)=x:=by omega
 rw [List.getD_eq_getElem?_getD,E6,List.getElem?_map,List.getElem?_range h2]
 simp only [Option.map_some,Option.getD_some,h3]
theorem Abx {p:List Int}{k:Nat}(h0:0≤p.getD k 0)(h1:p.getD k 0≤(p.length:Int) - 1):(E6 p k).set (p.getD k 0).toNat true=E6 p (k+1):=by
 refine List.ext_getElem (by simp [E6]) fun j h2 h3=>?_
 have hj:j<p.length:=by simpa [E6] using h3
 by_cases e:(p.getD k 0).toNat=j
 ·subst e
  rw [List.getElem_set_self]
  simp only [E6,List.getElem_map,List.getElem_range]
  exact (decide_eq_true ⟨k,by omega,by omega⟩).symm
 ·rw [List.getElem_set_ne e]
  simp only [E6,List.getElem_map,List.getElem_range]
  rw [decide_eq_decide]
  constructor
  ·rintro ⟨i,hi,h⟩;exact ⟨i,by omega,h⟩
  ·rintro ⟨i,hi,h⟩
   rcases Nat.lt_or_ge i k with h4 | h4
   ·exact ⟨i,h4,h⟩
   ·obtain rfl:i=k:=by omega
    omega
theorem Zr (p:List Int)(hl:p.length≤1099511627776):Pure Tryz.prog 141 [Ac p] (bl (decide (IsPrm p))) []:=by
 refine Bj vQ rfl rfl ?_;unfold Wg
 refine RN ?_
 refine ⟨fun hc=>?_,fun hc=>?_⟩
 ·(refine RN ?_;try with_reducible exact trivial)
  rw [decide_eq_false (fun h=>by have:=h.1;omega)]
 ·(refine RN ?_;try with_reducible exact trivial)
  refine Aj (α:=Nat) (S:=fun k=>([(0,Ac p),(3,.sl 0 1 0 p.length),(4,i64 k)],[some (Ci (E6 p k))])) (C:=fun k=>k≤p.length∧PrK p k) (μ:=fun k=>p.length - k) 0 ⟨by omega,fun j hj=>by omega⟩ (Ref.to (by simp only [Aby]) (by simp [sub,Ab])) ?_
  rintro k ⟨hk,hall⟩
  have hsl:=Abw p k
  refine RN ?_
  refine ⟨fun hc1=>?_,fun hc1=>?_⟩
  ·have hat:=Abv (p:=p) (k:=k) (x:=p.getD k 0)
   refine RN ?_
   refine Am (Ey (p.getD k 0) 0 (p.length - 1)) ?_
   refine RN ?_
   refine ⟨fun hc2=>?_,fun hc2=>?_⟩
   ·(refine RN ?_;try with_reducible exact trivial)
    rw [decide_eq_false (fun h=>?_)]
    obtain ⟨⟨b1,b2⟩,b3⟩:=h.2 k (by omega)
    try simp only [go_sem,↓reduceIte,Nat.reduceEqDiff,Nat.reduceAdd,reduceCtorEq] at hc2
    rcases hc2 with hc2 | hc2
    ·omega
    ·rw [hat b1 b2] at hc2
     obtain ⟨i,hi,he⟩:=of_decide_eq_true hc2
     exact b3 i hi he
   ·have hb : 0 ≤ p.getD k 0 ∧ p.getD k 0 ≤ (p.length : Int) - 1 := by
      try simp only [go_sem,↓reduceIte,Nat.reduceEqDiff,Nat.reduceAdd,reduceCtorEq] at hc2
      omega
    have hn:∀ i,i<k→p.getD i 0≠p.getD k 0:=fun i hi he=>by
     try simp only [go_sem,↓reduceIte,Nat.reduceEqDiff,Nat.reduceAdd,reduceCtorEq] at hc2
     have h5:=hc2.2
     rw [hat hb.1 hb.2,decide_eq_true ⟨i,hi,he⟩] at h5
     cases h5
    have hst:=Abx hb.1 hb.2
    refine RN ?_
    exact ⟨k+1,⟨by omega,hall.succ hb hn⟩,by omega,Ref.to (by rw [hst]) (by simp [sub,Ab])⟩
  ·obtain rfl:k=p.length:=by omega
   refine RN ?_
   rw [decide_eq_true (p:=IsPrm p) ⟨by omega,hall⟩]
def Q9 (p:List Int)(k:Nat):Prop:=p.getD k 0≠(k:Int)∧p.getD (p.getD k 0).toNat 0=(k:Int)
def N0 (p:List Int):Prop:=∀ k,k<p.length→Q9 p k
theorem IsPrm.at {p:List Int}(h:IsPrm p){k:Nat}(hk:k<p.length):0≤p.getD k 0∧p.getD k 0≤(p.length:Int) - 1:=(h.2 k hk).1
theorem oR (p:List Int)(hl:p.length≤1099511627776)(hp:IsPrm p):Pure Tryz.prog 142 [Ac p] (bl (decide (N0 p))) []:=by
 refine Bj vR rfl rfl ?_;unfold Wh
 refine RN ?_
 refine Aj (α:=Nat) (S:=fun k=>([(0,Ac p),(3,i64 k)],[])) (C:=fun k=>k≤p.length∧∀ j,j<k→Q9 p j) (μ:=fun k=>p.length - k) 0 ⟨by omega,by omega⟩ (by exact Ref.frame (by simp [sub,Ab])) ?_
 rintro k ⟨hk,hall⟩
 refine RN ?_
 refine ⟨fun hc1=>?_,fun hc1=>?_⟩
 ·have hb:=hp.at (k:=k) (by omega)
  refine RN ?_
  refine ⟨fun hc2=>?_,fun hc2=>?_⟩
  ·(refine RN ?_;try with_reducible exact trivial)
   rw [decide_eq_false (fun h=>?_)]
   obtain ⟨b1,b2⟩:=h k (by omega)
   try simp only [go_sem,↓reduceIte,Nat.reduceEqDiff,Nat.reduceAdd,reduceCtorEq] at hc2
   rcases hc2 with hc2 | hc2
   ·exact b1 hc2
   ·exact hc2 b2
  ·have hcv : Q9 p k := by
     try simp only [go_sem,↓reduceIte,Nat.reduceEqDiff,Nat.reduceAdd,reduceCtorEq] at hc2
     exact ⟨hc2.1,hc2.2⟩
   refine RN ?_
   refine ⟨k+1,⟨by omega,fun j hj=>?_⟩,by omega,by exact Ref.frame (by simp [sub,Ab])⟩
   rcases Nat.lt_or_ge j k with h | h
   ·exact hall j h
   ·obtain rfl:j=k:=by omega
    exact hcv
 ·(refine RN ?_;try with_reducible exact trivial)
  rw [decide_eq_true (p:=N0 p) (fun j hj=>hall j (by omega))]
end
section
open Go.Gov Go.Sort
theorem Adi (xs:List Int):(Aa xs).take xs.length=Aa xs:=List.take_of_length_le (by simp [Aa])
end
section
open Classical
def MvOk (n:Nat)(L:List (List Int)):Prop:=∀ p∈L,p.length=n∧∀ x,x<n→0≤p.getD x 0∧p.getD x 0<n∧p.getD (p.getD x 0).toNat 0=x
inductive Rch (L:List (List Int)) (x:Nat):Nat→Prop
 | refl:Rch L x x
 | step {y:Nat} {p:List Int}:Rch L x y→p∈L→Rch L x (p.getD y 0).toNat
theorem Rch.lt {n:Nat}{L:List (List Int)}(hL:MvOk n L){x y:Nat}(h:Rch L x y)(hx:x<n):y<n:=by
 induction h with
 | refl=>exact hx
 | step _ hp ih=>have:=(hL _ hp).2 _ ih;omega
noncomputable def Y0 (L:List (List Int))(x:Nat):Nat:=((List.range (x+1)).find? fun y=>decide (Rch L y x)).getD x
noncomputable def tW (L:List (List Int))(k:Nat):Nat:=(List.range k).countP fun m=>decide (Y0 L m=m)
noncomputable def lab (L:List (List Int))(x:Nat):Nat:=tW L (Y0 L x)
theorem X3 {L:List (List Int)}{i:Nat}{V:List Nat}(h0:i∈V)(hc:∀ x∈V,∀ p∈L,(p.getD x 0).toNat∈V):∀ j,Rch L i j→j∈V:=fun j h=>by
 induction h with
 | refl=>exact h0
 | step _ hp ih=>exact hc _ ih _ hp
theorem H5:∀ {n:Nat} {V:List Nat},V.Nodup→(∀ x∈V,x<n)→V.length≤n
 | 0,V,_,hV=>by
  cases V with
  | nil=>simp
  | cons x V=>have:=hV x (by simp);omega
 | n+1,V,hn,hV=>by
  have h1:=H5 (n:=n) (V:=V.erase n) (hn.erase n) fun x hx=>by
   have:=(hn.mem_erase_iff).1 hx
   have:=hV x this.2
   omega
  rw [List.length_erase] at h1
  split at h1<;>omega
end
section
open Go.Gov
open Classical
def nz (O:List Nat):List Int:=O.map fun (x:Nat)=>(x:Int)
theorem Ld (O:List Nat):(nz O).length=O.length:=by simp [nz]
theorem uN (O:List Nat)(x:Nat):nz (O++[x])=nz O++[(x:Int)]:=by simp [nz]
structure OrbI (L:List (List Int)) (n i:Nat) (V O:List Nat) (x:Option (Nat×Nat)):Prop where
 nd:V.Nodup
 start:i∈V
 reach:∀ y∈V,y<n∧Rch L i y
 wait:∀ y∈O,y∈V
 done:∀ y∈V,y∉O→(∀ q,x=some q→y≠q.1)→∀ p∈L,(p.getD y 0).toNat∈V
 now:∀ q,x=some q→q.1∈V∧∀ j,j<q.2→((L.getD j []).getD q.1 0).toNat∈V
 short:O.length≤V.length
theorem OrbI.skip {L:List (List Int)}{n i:Nat}{V O:List Nat}{x k:Nat}(h:OrbI L n i V O (some (x,k)))(hy:((L.getD k []).getD x 0).toNat∈V):OrbI L n i V O (some (x,k+1)):=
 ⟨h.nd,h.start,h.reach,h.wait,fun y hy hno hx=>h.done y hy hno fun q hq=>by cases hq;exact hx (x,k+1) rfl,fun q hq=>by
  cases hq
  obtain ⟨h1,h2⟩:=h.now (x,k) rfl
  refine ⟨h1,fun j hj=>?_⟩
  rcases Nat.lt_or_ge j k with h3 | h3
  ·exact h2 j h3
  ·obtain rfl:j=k:=by dsimp only at hj;omega
   exact hy,h.short⟩
theorem OrbI.add {L : List (List Int)} {n i : Nat} {V O : List Nat} {x k : Nat} (h : OrbI L n i V O (some (x, k))) (hy : ((L.getD k []).getD x 0).toNat ∉ V) (hn : ((L.getD k []).getD x 0).toNat < n) (hr : Rch L i ((L.getD k []).getD x 0).toNat) :
    OrbI L n i (V++[((L.getD k []).getD x 0).toNat]) (O++[((L.getD k []).getD x 0).toNat]) (some (x,k+1)):=by
 generalize hz:((L.getD k []).getD x 0).toNat=z at hy hn hr
 refine ⟨?_,by simp [h.start],fun y hy' => ?_,fun y hy' => ?_,fun y hy' hno hx p hp=>?_,fun q hq=>?_,by have:=h.short;simp;omega⟩
 ·rw [List.nodup_append]
  exact ⟨h.nd,by simp,fun a ha b hb=>by simp at hb;subst hb;exact fun e=>hy (e ▸ ha)⟩
 ·rcases List.mem_append.1 hy' with h1 | h1
  ·exact h.reach y h1
  ·simp at h1;subst h1;exact ⟨hn,hr⟩
 ·rcases List.mem_append.1 hy' with h1 | h1
  ·simp [h.wait y h1]
  ·simp [List.mem_singleton.1 h1]
 ·have hyO:y∉O:=fun hm=>hno (by simp [hm])
  have hyz:y≠z:=fun e=>hno (by simp [e])
  have hyV:y∈V:=by
   rcases List.mem_append.1 hy' with h1 | h1
   ·exact h1
   ·exact absurd (List.mem_singleton.1 h1) hyz
  exact List.mem_append_left _ (h.done y hyV hyO (fun q hq=>by cases hq;exact hx (x,k+1) rfl) p hp)
 ·cases hq
  obtain ⟨h1,h2⟩:=h.now (x,k) rfl
  refine ⟨by simp [h1],fun j hj=>?_⟩
  rcases Nat.lt_or_ge j k with h3 | h3
  ·exact List.mem_append_left _ (h2 j h3)
  ·obtain rfl:j=k:=by dsimp only at hj;omega
   dsimp only
   rw [hz]
   exact List.mem_append_right _ (List.mem_singleton.2 rfl)
theorem OrbI.fin {L:List (List Int)}{n i:Nat}{V O:List Nat}{x:Nat}(h:OrbI L n i V O (some (x,L.length))):OrbI L n i V O none:=
 ⟨h.nd,h.start,h.reach,h.wait,fun y hy hno _ p hp=>by
  by_cases e:y=x
  ·subst e
   obtain ⟨j,hj,rfl⟩:=List.mem_iff_getElem.1 hp
   have:=(h.now (y,L.length) rfl).2 j hj
   simpa [hj] using this
  ·exact h.done y hy hno (fun q hq=>by cases hq;exact e) p hp,fun q hq=>(by cases hq),h.short⟩
theorem Nk {L:List (List Int)}{k:Nat}(h:k<L.length):L.getD k []∈L:=by
 rw [show L.getD k []=L[k] by simp [h]];exact List.getElem_mem _
end
section
open Go.Gov
open Classical
theorem OrbI.popH {L:List (List Int)}{n i:Nat}{V O:List Nat}{x:Nat}(h:OrbI L n i V (x :: O) none):OrbI L n i V O (some (x,0)):=
 ⟨h.nd,h.start,h.reach,fun y hy=>h.wait y (by simp [hy]),fun y hy hno hx=>h.done y hy (by simp [hno,hx (x,0) rfl]) (fun q hq=>by cases hq),fun q hq=>by
  cases hq
  exact ⟨h.wait x (by simp),fun j hj=>absurd hj (by omega)⟩,by have:=h.short;simp at this;omega⟩
noncomputable def Ej (m:Nat)(V:List Nat):List Bool:=(List.range m).map fun (x:Nat)=>decide (x∈V)
theorem eE (m:Nat)(V:List Nat):(Ej m V).length=m:=by simp [Ej]
theorem eF (m:Nat):List.replicate m false=Ej m []:=List.ext_getElem (by simp [Ej]) fun j h1 h2=>by simp [Ej]
theorem Abz {m:Nat}{V:List Nat}{x:Nat}(h:x<m):(Ej m V).getD x false=decide (x∈V):=by simp [Ej,h]
theorem Uo {m:Nat}{V:List Nat}{x:Nat}:(Ej m V).set x true=Ej m (V++[x]):=by
 refine List.ext_getElem (by simp [Ej]) fun j h1 h2=>?_
 by_cases e:x=j
 ·subst e;simp [Ej]
 ·rw [List.getElem_set_ne e]
  simp [Ej,show ¬ j=x from fun h=>e h.symm]
def RgOk (n:Nat)(L:List (List Int)):Prop:=∀ p∈L,p.length=n∧∀ x,x<n→0≤p.getD x 0∧p.getD x 0<n
theorem MvOk.rg {n:Nat}{L:List (List Int)}(h:MvOk n L):RgOk n L:=fun p hp=>⟨(h p hp).1,fun x hx=>⟨((h p hp).2 x hx).1,((h p hp).2 x hx).2.1⟩⟩
theorem Rch.ltR {L:List (List Int)}{n x y:Nat}(hL:RgOk n L)(h:Rch L x y)(hx:x<n):y<n:=by
 induction h with
 | refl=>exact hx
 | step _ hp ih=>have:=(hL _ hp).2 _ ih;omega
set_option maxHeartbeats 4000000 in
theorem Tf (n:Nat)(L:List (List Int))(pt:Nat)(hL:RgOk n L)(hp:pt<n)(hn:n≤1048576)(hl:L.length≤1048576):B1 Tryz.prog 138 [Ae L,i64 pt] (fun V:List Nat=>V.Nodup∧∀ j,j∈V ↔ Rch L pt j) (fun V=>.sl 0 1 0 V.length) (fun V=>[some (Aa (nz V))]):=by
 refine Ka [0] vL rfl ?_;unfold Wc
 refine RN ?_
 have hI0:OrbI L n pt [pt] [pt] none:=⟨by simp,by simp,fun y hy=>by simp at hy;subst hy;exact ⟨hp,.refl⟩,fun y hy=>hy,fun y hy hno=>absurd hy hno,fun q hq=>(by cases hq),by simp⟩
 refine ⟨fun hcl=>?_,fun hcl=>?_⟩
 ·have hl0:(L.getD 0 []).length=n:=(hL _ (Nk (k:=0) (by omega))).1
  have hLne:L≠[]:=by intro h;subst h;simp at hcl
  have hm:(((n:Nat):Int)+(pt:Int)+1).toNat=n+pt+1:=by omega
  ·(refine RN ?_;try with_reducible exact trivial)
   simp only [hl0,hm,go_sem,↓reduceIte,Nat.reduceEqDiff,Nat.reduceAdd,reduceCtorEq]
   refine RN ?_
   rw [eF,Uo]
   simp only [List.nil_append]
   refine Aj (α:=Nat×List Nat) (S:=fun p=>([(0,Ae L),(5,.sl 0 1 0 p.2.length),(7,.sl 1 1 0 (n+pt+1)),(8,i64 p.1)],[some (Aa (nz p.2)),some (Ci (Ej (n+pt+1) p.2))])) (C:=fun p=>p.1≤p.2.length∧OrbI L n pt p.2 (p.2.drop p.1) none∧(L=[]→p.2=[pt])) (μ:=fun p=>n+1 - p.1) (0,[pt]) ⟨Nat.zero_le _,hI0,fun _=>rfl⟩ (Ref.to (by simp [nz,Aa]) (by simp [sub,Ab])) ?_
   rintro ⟨q,V⟩ ⟨hq,hI,hLe⟩
   dsimp only at hq hI hLe
   have hnzl:=Ld V
   have hVn:=H5 hI.nd fun y hy=>(hI.reach y hy).1
   refine RN ?_
   refine ⟨fun hc2=>?_,fun hc2=>?_⟩
   ·have hq' : q<V.length:=by omega
    have hdr:V.drop q=V[q] :: V.drop (q+1):=List.drop_eq_getElem_cons hq'
    rw [hdr] at hI
    have hpop:=hI.popH
    have hxV:V[q]∈V:=List.getElem_mem _
    obtain ⟨hxn,hxr⟩:=hI.reach _ hxV
    generalize hx:V[q]=x at hpop hxV hxn hxr
    have hxat:∀ W:List Nat,(nz (V++W)).getD q 0=(x:Int):=fun W=>by simp [nz,hq', List.getElem?_append_left,hx]
    refine RN ?_
    refine Aj (α:=Nat×List Nat) (S:=fun p=>([(0,Ae L),(5,.sl 0 1 0 (V++p.2).length),(7,.sl 1 1 0 (n+pt+1)),(8,i64 q),(9,i64 p.1)],[some (Aa (nz (V++p.2))),some (Ci (Ej (n+pt+1) (V++p.2)))])) (C:=fun p=>p.1≤L.length∧OrbI L n pt (V++p.2) (V.drop (q+1)++p.2) (some (x,p.1))∧(L=[]→p.2=[])) (μ:=fun p=>L.length - p.1) (0,[]) ⟨Nat.zero_le _,by simpa using hpop,fun _=>rfl⟩ (Ref.to (by simp) (by simp [sub,Ab])) ?_
    rintro ⟨k,W⟩ ⟨hk,hI2,hLe2⟩
    dsimp only at hk hI2 hLe2
    have hnzl2:=Ld (V++W)
    have hat1:=hxat W
    have hVn2:=H5 hI2.nd fun y hy=>(hI2.reach y hy).1
    have hsl:=eE (n+pt+1) (V++W)
    have hVW:(V++W).length=V.length+W.length:=List.length_append
    refine RN ?_
    refine ⟨fun hc3=>?_,fun hc3=>?_⟩
    ·have hrm:=Nk (L:=L) (k:=k) (by omega)
     obtain ⟨hrl,hrb⟩:=hL _ hrm
     obtain ⟨y1,y2⟩:=hrb x hxn
     have hyr:=hxr.step hrm
     have hym:((L.getD k []).getD x 0).toNat<n+pt+1:=by omega
     have hat3:=Abz (m:=n+pt+1) (V:=V++W) hym
     generalize hZ:V++W=Z at hnzl2 hat1 hVn2 hsl hI2 hat3 hVW ⊢
     have hxi:(((x:Nat):Int)).toNat=x:=by omega
     refine RN ?_
     simp only [hat1,hxi,go_sem,↓reduceIte,Nat.reduceEqDiff,Nat.reduceAdd,reduceCtorEq]
     refine RN ?_
     refine ⟨fun hc4=>?_,fun hc4=>?_⟩
     ·have hno : ((L.getD k []).getD x 0).toNat ∉ Z := by
        intro hm'
        rw [hat3,decide_eq_true hm'] at hc4
        cases hc4
      have hadd:=hI2.add hno (by omega) hyr
      have hst:=Uo (m:=n+pt+1) (V:=Z) (x:=((L.getD k []).getD x 0).toNat)
      have hy3:((((L.getD k []).getD x 0).toNat:Nat):Int)=(L.getD k []).getD x 0:=by omega
      refine RN ?_
      refine ⟨(k+1,W++[((L.getD k []).getD x 0).toNat]),⟨by dsimp only;omega,?_,fun h=>absurd h (by intro h;subst h;simp at hc3;omega)⟩,by dsimp only;omega,?_⟩
      ·dsimp only
       rw [← List.append_assoc,← List.append_assoc,hZ]
       exact hadd
      ·dsimp only
       rw [← List.append_assoc,hZ,← hst,uN,hy3]
       refine Ref.gc [3,1] rfl ?_ (by simp [sub,Ab,go_sem,↓reduceIte,Nat.reduceEqDiff,Nat.reduceAdd,reduceCtorEq,Nat.add_assoc])
       have hVW' : V.length+W.length=(nz Z).length:=by omega
       (try simp only [go_sem,↓reduceIte,Nat.reduceEqDiff,Nat.reduceAdd,reduceCtorEq,hVW', Adi,H7,Gg])
     ·have hin : ((L.getD k []).getD x 0).toNat ∈ Z := by
        rcases Classical.em (((L.getD k []).getD x 0).toNat∈Z) with h | h
        ·exact h
        ·rw [hat3,decide_eq_false h] at hc4;cases hc4
      refine RN ?_
      refine ⟨(k+1,W),⟨by dsimp only;omega,?_,hLe2⟩,by dsimp only;omega,?_⟩
      ·dsimp only
       rw [hZ]
       exact hI2.skip hin
      ·dsimp only
       rw [hZ]
       exact Ref.frame (by simp [sub,Ab])
    ·obtain rfl:k=L.length:=by omega
     refine RN ?_
     refine ⟨(q+1,V++W),⟨by dsimp only;omega,?_,fun h=>by rw [hLe h,hLe2 h];rfl⟩,by dsimp only;omega,by exact Ref.frame (by simp [sub,Ab])⟩
     dsimp only
     rw [List.drop_append_of_le_length (by omega)]
     exact hI2.fin
   ·obtain rfl:q=V.length:=by omega
    rw [List.drop_length] at hI
    refine RN ?_
    refine ⟨V,⟨hI.nd,fun j=>⟨fun h=>(hI.reach j h).2,X3 hI.start (fun y hy=>hI.done y hy (by simp) (fun q hq=>by cases hq)) j⟩⟩,?_,?_⟩
    ·simp only [go_sem,↓reduceIte,Nat.reduceEqDiff,Nat.reduceAdd,reduceCtorEq]
    ·simp only [go_sem,↓reduceIte,Nat.reduceEqDiff,Nat.reduceAdd,reduceCtorEq]
 ·have hLe:L=[]:=by cases L with | nil=>rfl | cons a b=>exact absurd hcl (by simp;try omega)
  have hL0:L.length=0:=by rw [hLe];rfl
  have hm:((0:Int)+(pt:Int)+1).toNat=pt+1:=by omega
  ·(refine RN ?_;try with_reducible exact trivial)
   simp only [hm,go_sem,↓reduceIte,Nat.reduceEqDiff,Nat.reduceAdd,reduceCtorEq]
   refine RN ?_
   rw [eF,Uo]
   simp only [List.nil_append]
   refine Aj (α:=Nat×List Nat) (S:=fun p=>([(0,Ae L),(5,.sl 0 1 0 p.2.length),(7,.sl 1 1 0 (pt+1)),(8,i64 p.1)],[some (Aa (nz p.2)),some (Ci (Ej (pt+1) p.2))])) (C:=fun p=>p.1≤p.2.length∧OrbI L n pt p.2 (p.2.drop p.1) none∧(L=[]→p.2=[pt])) (μ:=fun p=>n+1 - p.1) (0,[pt]) ⟨Nat.zero_le _,hI0,fun _=>rfl⟩ (Ref.to (by simp [nz,Aa]) (by simp [sub,Ab])) ?_
   rintro ⟨q,V⟩ ⟨hq,hI,hLe1⟩
   dsimp only at hq hI hLe1
   have hnzl:=Ld V
   have hVn:=H5 hI.nd fun y hy=>(hI.reach y hy).1
   refine RN ?_
   refine ⟨fun hc2=>?_,fun hc2=>?_⟩
   ·have hq' : q<V.length:=by omega
    have hdr:V.drop q=V[q] :: V.drop (q+1):=List.drop_eq_getElem_cons hq'
    rw [hdr] at hI
    have hpop:=hI.popH
    have hxV:V[q]∈V:=List.getElem_mem _
    obtain ⟨hxn,hxr⟩:=hI.reach _ hxV
    generalize hx:V[q]=x at hpop hxV hxn hxr
    have hxat:∀ W:List Nat,(nz (V++W)).getD q 0=(x:Int):=fun W=>by simp [nz,hq', List.getElem?_append_left,hx]
    refine RN ?_
    refine Aj (α:=Nat×List Nat) (S:=fun p=>([(0,Ae L),(5,.sl 0 1 0 (V++p.2).length),(7,.sl 1 1 0 (pt+1)),(8,i64 q),(9,i64 p.1)],[some (Aa (nz (V++p.2))),some (Ci (Ej (pt+1) (V++p.2)))])) (C:=fun p=>p.1≤L.length∧OrbI L n pt (V++p.2) (V.drop (q+1)++p.2) (some (x,p.1))∧(L=[]→p.2=[])) (μ:=fun p=>L.length - p.1) (0,[]) ⟨Nat.zero_le _,by simpa using hpop,fun _=>rfl⟩ (Ref.to (by simp) (by simp [sub,Ab])) ?_
    rintro ⟨k,W⟩ ⟨hk,hI2,hLe2⟩
    dsimp only at hk hI2 hLe2
    have hnzl2:=Ld (V++W)
    have hat1:=hxat W
    have hVn2:=H5 hI2.nd fun y hy=>(hI2.reach y hy).1
    have hsl:=eE (pt+1) (V++W)
    have hVW:(V++W).length=V.length+W.length:=List.length_append
    refine RN ?_
    intro hc3
    ·obtain rfl:k=L.length:=by omega
     refine RN ?_
     refine ⟨(q+1,V++W),⟨by dsimp only;omega,?_,fun h=>by rw [hLe1 h,hLe2 h];rfl⟩,by dsimp only;omega,by exact Ref.frame (by simp [sub,Ab])⟩
     dsimp only
     rw [List.drop_append_of_le_length (by omega)]
     exact hI2.fin
   ·obtain rfl:q=V.length:=by omega
    rw [List.drop_length] at hI
    refine RN ?_
    refine ⟨V,⟨hI.nd,fun j=>⟨fun h=>(hI.reach j h).2,X3 hI.start (fun y hy=>hI.done y hy (by simp) (fun q hq=>by cases hq)) j⟩⟩,?_,?_⟩
    ·simp only [go_sem,↓reduceIte,Nat.reduceEqDiff,Nat.reduceAdd,reduceCtorEq]
    ·simp only [go_sem,↓reduceIte,Nat.reduceEqDiff,Nat.reduceAdd,reduceCtorEq]
theorem oV (n:Nat)(L:List (List Int))(pt:Nat)(hL:MvOk n L)(hp:pt<n)(hn:n≤1048576)(hl:L.length≤1048576):B1 Tryz.prog 138 [Ae L,i64 pt] (fun V:List Nat=>V.Nodup∧∀ j,j∈V ↔ Rch L pt j) (fun V=>.sl 0 1 0 V.length) (fun V=>[some (Aa (nz V))]):=Tf n L pt hL.rg hp hn hl
end
section
open Go.Gov
open Classical
theorem uM {V:List Nat}{j:Nat}(h:j<V.length):(nz V).getD j 0=(V[j]:Int):=by simp [nz,h]
end
end Go.Proofs.YtcneanpkpmfaiaaGreat
