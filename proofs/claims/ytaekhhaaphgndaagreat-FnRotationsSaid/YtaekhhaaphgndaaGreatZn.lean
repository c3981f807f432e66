/- Texts that belong together. -/
import Derived.Test.YtaekhhaaphgndaaGreatZm
set_option maxHeartbeats 16000000
set_option linter.unusedSimpArgs false
set_option linter.unusedVariables false
set_option maxRecDepth 100000
namespace Go.Proofs.YtaekhhaaphgndaaGreat
section
open Classical
def Bip (n:Nat)(M:List (List Int))(c:Nat→Int):Prop:=c 0=0∧(∀ x,x<n→c x=0∨c x=1)∧∀ x,x<n→∀ p∈M,c (p.getD x 0).toNat≠c x
def BipE (n:Nat)(M:List (List Int)):Prop:=∃ c,Bip n M c
noncomputable def colV (n:Nat)(M:List (List Int)):List Int:=if h:BipE n M then (List.range n).map (Classical.choose h) else []
theorem Bip.uniq {n:Nat}{M:List (List Int)}(hM:MvOk n M)(h0:0<n){c c' : Nat→Int}(h:Bip n M c)(h' : Bip n M c'){x:Nat}(hx:Rch M 0 x):c x=c' x:=by
 induction hx with
 | refl=>rw [h.1,h'.1]
 | step hy hp ih=>
  rename_i y p
  have hlt:=hy.lt hM h0
  have hlt2:=(hy.step hp).lt hM h0
  have a1:=h.2.2 y hlt p hp
  have a2:=h'.2.2 y hlt p hp
  have b1:=h.2.1 _ hlt2
  have b2:=h'.2.1 _ hlt2
  have b3:=h.2.1 _ hlt
  omega
theorem colV_eq {n:Nat}{M:List (List Int)}(hM:MvOk n M)(h0:0<n)(hc:∀ x,x<n→Rch M 0 x){col:List Int}(hl:col.length=n)(h:Bip n M fun x=>col.getD x 0):col=colV n M:=by
 have hE:BipE n M:=⟨_,h⟩
 unfold colV
 rw [dif_pos hE]
 refine List.ext_getElem (by simp [hl]) fun j h1 h2=>?_
 have:=Bip.uniq hM h0 h (Classical.choose_spec hE) (hc j (by omega))
 simpa [h1] using this
theorem colV_spec {n:Nat}{M:List (List Int)}(hE:BipE n M)(h0:0<n):(colV n M).length=n∧(colV n M).getD 0 0=0∧(∀ x,x<n→(colV n M).getD x 0=0∨(colV n M).getD x 0=1)∧∀ x,x<n→∀ p∈M,(p.getD x 0).toNat<n→(colV n M).getD (p.getD x 0).toNat 0≠(colV n M).getD x 0:=by
 obtain ⟨a1,a2,a3⟩:=Classical.choose_spec hE
 have at' : ∀ x,x<n→(colV n M).getD x 0=Classical.choose hE x:=fun x hx=>by
  unfold colV
  rw [dif_pos hE]
  simp [hx]
 refine ⟨by unfold colV;rw [dif_pos hE];simp,by rw [at' 0 h0,a1],fun x hx=>by rw [at' x hx];exact a2 x hx,fun x hx p hp hlt=>?_⟩
 rw [at' x hx,at' _ hlt]
 exact a3 x hx p hp
theorem setD_self {l:List Int}{i:Nat}{v:Int}(h:i<l.length):(l.set i v).getD i 0=v:=by simp [h]
theorem setD_ne {l:List Int}{i j:Nat}{v:Int}(h:i≠j):(l.set i v).getD j 0=l.getD j 0:=by
 rw [List.getD_eq_getElem?_getD,List.getD_eq_getElem?_getD,List.getElem?_set_ne h]
def unc (l:List Int):Nat:=l.countP fun x=>decide (x<0)
theorem unc_set {l:List Int}{i:Nat}{v:Int}(h:i<l.length)(hn:l.getD i 0<0)(hv:0≤v):unc (l.set i v)+1=unc l:=by
 unfold unc
 rw [List.countP_set h]
 have e:l[i]<0:=by simpa [h] using hn
 have h2:0<l.countP fun x=>decide (x<0):=List.countP_pos_iff.2 ⟨l[i],List.getElem_mem _,by simpa using e⟩
 simp only [decide_eq_true_eq,e,if_true,show ¬ v<0 by omega,if_false]
 omega
theorem unc_le (l:List Int):unc l≤l.length:=List.countP_le_length
structure ColI (n:Nat) (M:List (List Int)) (col:List Int) (O:List Nat) (b:Bool) (x:Option (Nat×Nat)):Prop where
 len:col.length=n
 start:col.getD 0 0=0
 vals:∀ y,y<n→col.getD y 0 = -1∨col.getD y 0=0∨col.getD y 0=1
 forced:∀ c,Bip n M c→∀ y,y<n→0≤col.getD y 0→col.getD y 0=c y
 wait:∀ y∈O,y<n∧0≤col.getD y 0
 done:∀ y,y<n→0≤col.getD y 0→y∉O→(∀ q,x=some q→y≠q.1)→∀ p∈M,0≤col.getD (p.getD y 0).toNat 0∧(b=true→col.getD (p.getD y 0).toNat 0≠col.getD y 0)
 now:∀ q,x=some q→q.1<n∧0≤col.getD q.1 0∧∀ j,j<q.2→0≤col.getD ((M.getD j []).getD q.1 0).toNat 0∧(b=true→col.getD ((M.getD j []).getD q.1 0).toNat 0≠col.getD q.1 0)
 bad:b=false→¬ BipE n M
 few:O.length+unc col≤n
theorem ColI.init {n:Nat}{M:List (List Int)}(h0:0<n):ColI n M ((List.replicate n (-1)).set 0 0) [0] true none:=by
 have at' : ∀ y,y<n→y≠0→((List.replicate n (-1:Int)).set 0 0).getD y 0 = -1:=fun y hy hn=>by rw [setD_ne (by omega)];simp [hy]
 have at0:((List.replicate n (-1:Int)).set 0 0).getD 0 0=0:=setD_self (by simpa using h0)
 refine ⟨by simp,at0,fun y hy=>?_,fun c hc y hy h=>?_,fun y hy=>?_,fun y hy h hno=>?_,fun q hq=>(by cases hq),fun h=>(by cases h),?_⟩
 ·by_cases e:y=0
  ·subst e;exact .inr (.inl at0)
  ·exact .inl (at' y hy e)
 ·by_cases e:y=0
  ·subst e;rw [at0,hc.1]
  ·rw [at' y hy e] at h;omega
 ·obtain rfl:=List.mem_singleton.1 hy
  exact ⟨h0,by rw [at0];omega⟩
 ·by_cases e:y=0
  ·subst e;simp at hno
  ·rw [at' y hy e] at h;omega
 ·have h1:=unc_set (l:=List.replicate n (-1:Int)) (i:=0) (v:=0) (by simpa using h0) (by simp [h0]) (by omega)
  have h2:=unc_le (List.replicate n (-1:Int))
  simp only [List.length_replicate,List.length_singleton] at *
  omega
section
variable {n:Nat} {M:List (List Int)} {col:List Int} {O:List Nat} {b:Bool}
theorem ColI.pop {x:Nat}(h:ColI n M col (x :: O) b none):ColI n M col O b (some (x,0)):=
 ⟨h.len,h.start,h.vals,h.forced,fun y hy=>h.wait y (by simp [hy]),fun y hy h1 hno hx=>h.done y hy h1 (by simp [hno,hx (x,0) rfl]) fun q hq=>(by cases hq),fun q hq=>by
  cases hq
  exact ⟨(h.wait x (by simp)).1,(h.wait x (by simp)).2,fun j hj=>absurd hj (by omega)⟩,h.bad,by have:=h.few;simp at this;omega⟩
theorem ColI.fin {x:Nat}(h:ColI n M col O b (some (x,M.length))):ColI n M col O b none:=
 ⟨h.len,h.start,h.vals,h.forced,h.wait,fun y hy h1 hno _ p hp=>by
  by_cases e:y=x
  ·subst e
   obtain ⟨j,hj,rfl⟩:=List.mem_iff_getElem.1 hp
   have:=(h.now _ rfl).2.2 j hj
   simpa [hj] using this
  ·exact h.done y hy h1 hno (fun q hq=>by cases hq;exact e) p hp,fun q hq=>(by cases hq),h.bad,h.few⟩
theorem ColI.old {x k : Nat} (h : ColI n M col O b (some (x, k))) (hk : k < M.length) (hy : ((M.getD k []).getD x 0).toNat < n) (hc : 0 ≤ col.getD ((M.getD k []).getD x 0).toNat 0) :
    ColI n M col O (b&&decide (col.getD ((M.getD k []).getD x 0).toNat 0=1 - col.getD x 0)) (some (x,k+1)):=by
 obtain ⟨hx,hcx,hnow⟩:=h.now _ rfl
 dsimp only at hx hcx hnow
 have vx:=h.vals x hx
 refine ⟨h.len,h.start,h.vals,h.forced,h.wait,fun y hy h1 hno hx2 p hp=>?_,fun q hq=>?_,fun hb=>?_,h.few⟩
 ·obtain ⟨a1,a2⟩:=h.done y hy h1 hno (fun q hq=>by cases hq;exact hx2 (x,k+1) rfl) p hp
  exact ⟨a1,fun hb=>a2 (by simp at hb;exact hb.1)⟩
 ·cases hq
  refine ⟨hx,hcx,fun j hj=>?_⟩
  dsimp only at hj ⊢
  rcases Nat.lt_or_ge j k with h1 | h1
  ·obtain ⟨a1,a2⟩:=hnow j h1
   exact ⟨a1,fun hb=>a2 (by simp at hb;exact hb.1)⟩
  ·obtain rfl:j=k:=by omega
   refine ⟨hc,fun hb=>?_⟩
   simp only [Bool.and_eq_true,decide_eq_true_eq] at hb
   have:=hb.2
   omega
 ·cases hb2:b with
  | false=>exact h.bad hb2
  | true=>
   rintro ⟨c,hcB⟩
   rw [hb2] at hb
   simp only [Bool.true_and,decide_eq_false_iff_not] at hb
   have e1:=h.forced c hcB x hx hcx
   have e2:=h.forced c hcB _ hy hc
   have e3:=hcB.2.2 x hx (M.getD k []) (by rw [show M.getD k []=M[k] by simp [hk]];exact List.getElem_mem _)
   have v2:=h.vals _ hy
   omega
theorem ColI.new {x k : Nat} (h : ColI n M col O b (some (x, k))) (hM : MvOk n M) (hk : k < M.length) (hy : ((M.getD k []).getD x 0).toNat < n) (hc : col.getD ((M.getD k []).getD x 0).toNat 0 < 0) :
    ColI n M (col.set ((M.getD k []).getD x 0).toNat (1 - col.getD x 0)) (O++[((M.getD k []).getD x 0).toNat]) b (some (x,k+1)):=by
 obtain ⟨hx,hcx,hnow⟩:=h.now _ rfl
 dsimp only at hx hcx hnow
 have vx:=h.vals x hx
 have hp:M.getD k []∈M:=by rw [show M.getD k []=M[k] by simp [hk]];exact List.getElem_mem _
 have hxy:x≠((M.getD k []).getD x 0).toNat:=fun e=>by rw [← e] at hc;omega
 generalize hz:((M.getD k []).getD x 0).toNat=z at *
 have hzl:z<col.length:=by rw [h.len];exact hy
 have ase:(col.set z (1 - col.getD x 0)).getD z 0=1 - col.getD x 0:=setD_self hzl
 have an:∀ y,z≠y→(col.set z (1 - col.getD x 0)).getD y 0=col.getD y 0:=fun y hy=>setD_ne hy
 have keep:∀ y,0≤col.getD y 0→(col.set z (1 - col.getD x 0)).getD y 0=col.getD y 0:=fun y hy=>an y fun e=>by subst e;omega
 refine ⟨by rw [List.length_set];exact h.len,by rw [keep 0 (by rw [h.start];omega)];exact h.start,fun y hy2=>?_,fun c hcB y hy2 h1=>?_,fun y hy2=>?_,fun y hy2 h1 hno hx2 p hp2=>?_,fun q hq=>?_,h.bad,?_⟩
 ·by_cases e:z=y
  ·subst e;rw [ase];omega
  ·rw [an y e];exact h.vals y hy2
 ·by_cases e:z=y
  ·subst e
   have e1:=h.forced c hcB x hx hcx
   have e3:=hcB.2.2 x hx _ hp
   rw [hz] at e3
   have e4:=hcB.2.1 z hy2
   have e5:=hcB.2.1 x hx
   rw [ase];omega
  ·rw [an y e] at h1 ⊢;exact h.forced c hcB y hy2 h1
 ·rcases List.mem_append.1 hy2 with h2 | h2
  ·obtain ⟨a1,a2⟩:=h.wait y h2
   exact ⟨a1,by rw [keep y a2];exact a2⟩
  ·obtain rfl:=List.mem_singleton.1 h2
   exact ⟨hy,by rw [ase];omega⟩
 ·have hyO:y∉O:=fun hm=>hno (by simp [hm])
  have hyz:z≠y:=fun e=>hno (by simp [e])
  rw [an y hyz] at h1 ⊢
  obtain ⟨a1,a2⟩:=h.done y hy2 h1 hyO (fun q hq=>by cases hq;exact hx2 (x,k+1) rfl) p hp2
  rw [keep _ a1]
  exact ⟨a1,a2⟩
 ·cases hq
  dsimp only
  rw [keep x hcx]
  refine ⟨hx,hcx,fun j hj=>?_⟩
  rcases Nat.lt_or_ge j k with h1 | h1
  ·obtain ⟨a1,a2⟩:=hnow j h1
   rw [keep _ a1]
   exact ⟨a1,a2⟩
  ·obtain rfl:j=k:=by omega
   rw [hz,ase]
   exact ⟨by omega,fun _=>by omega⟩
 ·have:=unc_set (l:=col) (i:=z) (v:=1 - col.getD x 0) hzl hc (by omega)
  have:=h.few
  simp only [List.length_append,List.length_singleton]
  omega
theorem ColI.all (h:ColI n M col [] b none)(hM:MvOk n M)(h0:0<n)(hcon:∀ x,x<n→Rch M 0 x):b=decide (BipE n M)∧(BipE n M→col=colV n M):=by
 have hall:∀ x,Rch M 0 x→0≤col.getD x 0:=fun x hx=>by
  induction hx with
  | refl=>rw [h.start];omega
  | step hy hp ih=>exact (h.done _ (hy.lt hM h0) ih (by simp) (fun q hq=>by cases hq) _ hp).1
 have hgood:b=true→Bip n M fun x=>col.getD x 0:=fun hb=>⟨h.start,fun x hx=>by have:=h.vals x hx;have:=hall x (hcon x hx);dsimp only;omega,fun x hx p hp=>(h.done x hx (hall x (hcon x hx)) (by simp) (fun q hq=>by cases hq) p hp).2 hb⟩
 have hbb:b=decide (BipE n M):=by
  cases hb:b with
  | true=>rw [decide_eq_true ⟨_,hgood hb⟩]
  | false=>rw [decide_eq_false (h.bad hb)]
 refine ⟨hbb,fun hE=>colV_eq hM h0 hcon h.len (hgood (by rw [hbb];exact decide_eq_true hE))⟩
end
structure DisI (n:Nat) (M:List (List Int)) (d:List Int) (R:List Nat) (i k:Nat):Prop where
 len:d.length=n
 start:d.getD 0 0=0
 vals:∀ y,y<n → -1≤d.getD y 0∧d.getD y 0≤R.length
 forced:∀ c,Bip n M c→∀ y,y<n→0≤d.getD y 0→d.getD y 0%2=c y
 inR:∀ y∈R,y<n∧0≤d.getD y 0
 ofR:∀ y,y<n→0≤d.getD y 0→y∈R
 done:∀ j (h:j<R.length),j<i→∀ p∈M,0≤d.getD (p.getD R[j] 0).toNat 0
 now:∀ (h:i<R.length),∀ q,q<k→0≤d.getD ((M.getD q []).getD R[i] 0).toNat 0
 few:R.length+unc d=n
theorem DisI.init {n:Nat}{M:List (List Int)}(h0:0<n):DisI n M ((List.replicate n (-1)).set 0 0) [0] 0 0:=by
 have at' : ∀ y,y<n→y≠0→((List.replicate n (-1:Int)).set 0 0).getD y 0 = -1:=fun y hy hn=>by rw [setD_ne (by omega)];simp [hy]
 have at0:((List.replicate n (-1:Int)).set 0 0).getD 0 0=0:=setD_self (by simpa using h0)
 refine ⟨by simp,at0,fun y hy=>?_,fun c hc y hy h=>?_,fun y hy=>?_,fun y hy h=>?_,fun j hj hlt=>(by omega),fun h q hq=>(by omega),?_⟩
 ·by_cases e:y=0
  ·subst e;rw [at0];simp
  ·rw [at' y hy e];simp
 ·by_cases e:y=0
  ·subst e;rw [at0,hc.1];rfl
  ·rw [at' y hy e] at h;omega
 ·obtain rfl:=List.mem_singleton.1 hy
  exact ⟨h0,by rw [at0];omega⟩
 ·by_cases e:y=0
  ·subst e;simp
  ·rw [at' y hy e] at h;omega
 ·have h1:=unc_set (l:=List.replicate n (-1:Int)) (i:=0) (v:=0) (by simpa using h0) (by simp [h0]) (by omega)
  have h2:unc (List.replicate n (-1:Int))=n:=by unfold unc;rw [List.countP_replicate];simp
  simp only [List.length_singleton]
  omega
section
variable {n:Nat} {M:List (List Int)} {d:List Int} {R:List Nat} {i k:Nat}
theorem DisI.next (h:DisI n M d R i M.length)(hi:i<R.length):DisI n M d R (i+1) 0:=
 ⟨h.len,h.start,h.vals,h.forced,h.inR,h.ofR,fun j hj hlt p hp=>by
  rcases Nat.lt_or_ge j i with h1 | h1
  ·exact h.done j hj h1 p hp
  ·obtain rfl:j=i:=by omega
   obtain ⟨q,hq,rfl⟩:=List.mem_iff_getElem.1 hp
   have:=h.now hj q hq
   simpa [hq] using this,fun h q hq=>(by omega),h.few⟩
theorem DisI.old (h:DisI n M d R i k)(hi:i<R.length)(hc:0≤d.getD ((M.getD k []).getD R[i] 0).toNat 0):DisI n M d R i (k+1):=
 ⟨h.len,h.start,h.vals,h.forced,h.inR,h.ofR,h.done,fun hi q hq=>by
  rcases Nat.lt_or_ge q k with h1 | h1
  ·exact h.now hi q h1
  ·obtain rfl:q=k:=by omega
   exact hc,h.few⟩
theorem DisI.new (h : DisI n M d R i k) (hi : i < R.length) (hk : k < M.length) (hy : ((M.getD k []).getD R[i] 0).toNat < n) (hc : d.getD ((M.getD k []).getD R[i] 0).toNat 0 < 0) :
    DisI n M (d.set ((M.getD k []).getD R[i] 0).toNat (d.getD R[i] 0+1)) (R++[((M.getD k []).getD R[i] 0).toNat]) i (k+1):=by
 have hp:M.getD k []∈M:=by rw [show M.getD k []=M[k] by simp [hk]];exact List.getElem_mem _
 obtain ⟨hx,hcx⟩:=h.inR R[i] (List.getElem_mem _)
 have hvx:=h.vals R[i] hx
 generalize hz:((M.getD k []).getD R[i] 0).toNat=z at *
 have hzl:z<d.length:=by rw [h.len];exact hy
 generalize hv:d.getD R[i] 0+1=v
 have ase:(d.set z v).getD z 0=v:=setD_self hzl
 have an:∀ y,z≠y→(d.set z v).getD y 0=d.getD y 0:=fun y hy=>setD_ne hy
 have keep:∀ y,0≤d.getD y 0→(d.set z v).getD y 0=d.getD y 0:=fun y hy=>an y fun e=>by subst e;omega
 have hl:(R++[z]).length=R.length+1:=by simp
 have hRi:∀ j (hj:j<R.length) (hj2:j<(R++[z]).length),(R++[z])[j]=R[j]:=fun j hj hj2=>List.getElem_append_left hj
 refine ⟨by rw [List.length_set];exact h.len,by rw [keep 0 (by rw [h.start];omega)];exact h.start,fun y hy2=>?_,fun c hcB y hy2 h1=>?_,fun y hy2=>?_,fun y hy2 h1=>?_,fun j hj hlt p hp2=>?_,fun hi2 q hq=>?_,?_⟩
 ·rw [hl]
  by_cases e:z=y
  ·subst e;rw [ase];omega
  ·rw [an y e];have:=h.vals y hy2;omega
 ·by_cases e:z=y
  ·subst e
   have e1:=h.forced c hcB R[i] hx hcx
   have e3:=hcB.2.2 R[i] hx _ hp
   rw [hz] at e3
   have e4:=hcB.2.1 z hy2
   have e5:=hcB.2.1 R[i] hx
   rw [ase];omega
  ·rw [an y e] at h1 ⊢;exact h.forced c hcB y hy2 h1
 ·rcases List.mem_append.1 hy2 with h2 | h2
  ·obtain ⟨a1,a2⟩:=h.inR y h2
   exact ⟨a1,by rw [keep y a2];exact a2⟩
  ·obtain rfl:=List.mem_singleton.1 h2
   exact ⟨hy,by rw [ase];omega⟩
 ·by_cases e:z=y
  ·simp [e]
  ·rw [an y e] at h1
   exact List.mem_append_left _ (h.ofR y hy2 h1)
 ·have hj' : j<R.length:=by omega
  rw [hRi j hj' hj]
  have:=h.done j hj' hlt p hp2
  rw [keep _ this];exact this
 ·rw [hRi i hi hi2]
  rcases Nat.lt_or_ge q k with h1 | h1
  ·have:=h.now hi q h1
   rw [keep _ this];exact this
  ·obtain rfl:q=k:=by omega
   rw [hz,ase];omega
 ·have:=unc_set (l:=d) (i:=z) (v:=v) hzl hc (by omega)
  have:=h.few
  omega
theorem DisI.all (h:DisI n M d R R.length 0)(hM:MvOk n M)(h0:0<n)(hcon:∀ x,x<n→Rch M 0 x):d.length=n∧d.getD 0 0=0∧(∀ x,x<n→0≤d.getD x 0∧d.getD x 0≤n)∧∀ c,Bip n M c→∀ y,y<n→d.getD y 0%2=c y:=by
 have hall:∀ x,Rch M 0 x→0≤d.getD x 0:=fun x hx=>by
  induction hx with
  | refl=>rw [h.start];omega
  | step hy hp ih=>
   obtain ⟨j,hj,rfl⟩:=List.mem_iff_getElem.1 (h.ofR _ (hy.lt hM h0) ih)
   exact h.done j hj hj _ hp
 have hf:=h.few
 exact ⟨h.len,h.start,fun x hx=>⟨hall x (hcon x hx),by have:=(h.vals x hx).2;omega⟩,fun c hc y hy=>h.forced c hc y hy (hall y (hcon y hy))⟩
end
end
section
open Go.Gov
open Classical
theorem yes_c (i:Int):Pure Tryz.prog 51 [i64 i] (bl true) []:=by
 refine pureV ok51 rfl ?_;unfold c51
 (refine RN ?_;try with_reducible exact trivial)
theorem at_app (A:List Int)(x:Nat)(O:List Nat):(A++nz (x :: O)).getD A.length 0=(x:Int):=by simp [nz]
theorem at_app' (A:List Int)(x:Nat)(O:List Nat){k:Nat}(h:k=A.length):(A++nz (x :: O)).getD k 0=(x:Int):=by subst h;exact at_app A x O
theorem nz_cons (x:Nat)(O:List Nat):nz (x :: O)=(x:Int) :: nz O:=rfl
theorem drop_app (A B:List Int):(intsC (A++B)).drop A.length=intsC B:=by simp [intsC]
theorem take_nzc (x:Nat)(O:List Nat):(intsC ((x:Int) :: nz O)).take (O.length+1)=intsC ((x:Int) :: nz O):=List.take_of_length_le (by simp [intsC,nz])
theorem coloured_c (n : Nat) (M : List (List Int)) (hM : MvOk n M) (h0 : 0 < n) (hn : n ≤ 1048576) (h1 : 0 < M.length) (hl : M.length ≤ 1048576) (hr : (M.getD 0 []).length = n) (hcon : ∀ x, x < n → Rch M 0 x) :
    PureE Tryz.prog 50 [maniP M,.clo 51 [] []] (fun o:List Int=>o.length=n∧(BipE n M→o=colV n M)) (fun o=>.tup [.sl 0 1 0 n,bl (decide (BipE n M))]) (fun o=>[some (intsC o)]):=by
 have hk:callable Tryz.prog 51=true:=by kernel_rfl
 have tz:Int.toNat 0=0:=rfl
 refine pureEV [0] ok50 rfl ?_;unfold c50
 refine RN ?_
 refine pureC1 (flags_c M h1 hl (by omega)) ?_
 rw [hr]
 refine RN ?_
 refine pureC2 (repeat_c (-1) n (by omega)) (by (try simp only [go_sem,↓reduceIte,Nat.reduceEqDiff,Nat.reduceAdd,reduceCtorEq,Nat.reduceMul,List.take_succ_cons,List.take_zero,List.take_nil]);try rfl) ?_
 (refine RN ?_;try with_reducible exact trivial)
 (try simp only [tz,go_sem,↓reduceIte,Nat.reduceEqDiff,Nat.reduceAdd,reduceCtorEq])
 refine V_loop (α:=List Int×List Int×List Nat×Bool) (S:=fun p=>([(0,maniP M),(1,.clo 51 [] []),(6,.sl 0 1 0 n),(7,bl p.2.2.2),(8,.sl 1 1 p.2.1.length p.2.2.1.length)],[some (intsC p.1),some (intsC (p.2.1++nz p.2.2.1))])) (C:=fun p=>ColI n M p.1 p.2.2.1 p.2.2.2 none) (μ:=fun p=>2*unc p.1+p.2.2.1.length) ((List.replicate n (-1)).set 0 0,[],[0],true) (ColI.init h0) (Ref.gc [1,2] rfl (by simp only [go_sem,↓reduceIte,Nat.reduceEqDiff,Nat.reduceAdd,reduceCtorEq];rfl) (by simp [sub,fget,go_sem,↓reduceIte,Nat.reduceEqDiff,Nat.reduceAdd,reduceCtorEq])) ?_
 rintro ⟨col,A,O,b⟩ hI
 have hI:ColI n M col O b none:=hI
 dsimp only
 have hlen:=hI.len
 have hfew:=hI.few
 have hnzl:=nz_len O
 refine RN ?_
 refine ⟨fun hc=>?_,fun hc=>?_⟩
 ·obtain ⟨x,O,rfl⟩:∃ x O1,O=x :: O1:=by cases O with | nil=>simp at hc | cons x O1=>exact ⟨x,O1,rfl⟩
  have hx:=(hI.wait x (by simp)).1
  have hpop:=hI.pop
  have hxo:(x :: O).length=O.length+1:=rfl
  have hax:=at_app' A x O rfl
  have hxi:((x:Nat):Int).toNat=x:=by omega
  refine RN ?_
  simp only [tz,Nat.add_zero,hax,go_sem,↓reduceIte,Nat.reduceEqDiff,Nat.reduceAdd,reduceCtorEq]
  refine RN ?_
  refine V_loop (α:=Nat×List Int×List Int×List Nat×Bool) (S:=fun p=>([(0,maniP M),(1,.clo 51 [] []),(6,.sl 0 1 0 n),(7,bl p.2.2.2.2),(8,.sl 1 1 p.2.2.1.length (p.2.2.2.1.length+1)),(9,i64 x),(32,mat M),(33,i64 M.length),(34,i64 p.1)],[some (intsC p.2.1),some (intsC (p.2.2.1++nz (x :: p.2.2.2.1)))])) (C:=fun p=>p.1≤M.length∧ColI n M p.2.1 p.2.2.2.1 p.2.2.2.2 (some (x,p.1))∧2*unc p.2.1+p.2.2.2.1.length<2*unc col+(x :: O).length) (μ:=fun p=>M.length - p.1) (0,col,A,O,b) ⟨Nat.zero_le _,hpop,by simp⟩ (by exact Ref.frame (by simp [sub,fget])) ?_
  rintro ⟨k,col2,A2,O2,b2⟩ ⟨hk2,hI2,hμ⟩
  dsimp only at hk2 hI2 hμ ⊢
  have hlen2:=hI2.len
  have hfew2:=hI2.few
  refine RN ?_
  refine ⟨fun hc3=>?_,fun hc3=>?_⟩
  ·have hrm:=row_mem (L:=M) (k:=k) (by omega)
   obtain ⟨hrl,hrb⟩:=hM _ hrm
   obtain ⟨y1,y2,_⟩:=hrb x hx
   have vx:=hI2.vals x hx
   refine RN ?_
   refine pureC1 (yes_c k) ?_
   refine RN ?_
   refine ⟨fun hc4=>?_,fun hc4=>?_⟩
   ·have hnew:=hI2.new hM (by omega) (by omega) hc4
    have hs:=unc_set (l:=col2) (i:=((M.getD k []).getD x 0).toNat) (v:=1 - col2.getD x 0) (by omega) hc4 (by omega)
    have hy3:((((M.getD k []).getD x 0).toNat:Nat):Int)=(M.getD k []).getD x 0:=by omega
    refine RN ?_
    refine ⟨(k+1,_,[],O2++[((M.getD k []).getD x 0).toNat],b2),⟨by dsimp only;omega,hnew,by simp only [List.length_append,List.length_singleton];omega⟩,by dsimp only;omega,?_⟩
    dsimp only
    refine Ref.gc [0,3] rfl ?_ (by simp [sub,fget,go_sem,↓reduceIte,Nat.reduceEqDiff,Nat.reduceAdd,reduceCtorEq])
    simp only [go_sem,↓reduceIte,Nat.reduceEqDiff,Nat.reduceAdd,reduceCtorEq,drop_app,List.nil_append]
    rw [nz_cons,nz_cons,nz_snoc,hy3]
    rw [take_nzc,rnmL_ints,one_intsC,app_intsC]
    rfl
   ·have hold:=hI2.old (by omega) (by omega) hc4
    refine RN ?_
    refine ⟨fun hc5=>?_,fun hc5=>?_⟩
    ·rw [decide_eq_false hc5,Bool.and_false] at hold
     refine RN ?_
     exact ⟨(k+1,col2,A2,O2,false),⟨by dsimp only;omega,hold,hμ⟩,by dsimp only;omega,by exact Ref.frame (by simp [sub,fget])⟩
    ·rw [decide_eq_true hc5,Bool.and_true] at hold
     refine RN ?_
     exact ⟨(k+1,col2,A2,O2,b2),⟨by dsimp only;omega,hold,hμ⟩,by dsimp only;omega,by exact Ref.frame (by simp [sub,fget])⟩
  ·obtain rfl:k=M.length:=by omega
   refine RN ?_
   refine ⟨(col2,A2++[(x:Int)],O2,b2),hI2.fin,by dsimp only;omega,Ref.to (by simp [nz]) (by simp [sub,fget])⟩
 ·obtain rfl:O=[]:=List.eq_nil_of_length_eq_zero (by omega)
  obtain ⟨hb,hcol⟩:=hI.all hM h0 hcon
  refine RN ?_
  exact ⟨col,⟨hlen,hcol⟩,by rw [hb],rfl⟩
theorem colouring_c (n : Nat) (M : List (List Int)) (hM : MvOk n M) (h0 : 0 < n) (hn : n ≤ 1048576) (h1 : 0 < M.length) (hl : M.length ≤ 1048576) (hr : (M.getD 0 []).length = n) (hcon : ∀ x, x < n → Rch M 0 x) :
    PureE Tryz.prog 31 [maniP M] (fun o:List Int=>o.length=n∧(BipE n M→o=colV n M)) (fun o=>.tup [.sl 0 1 0 n,bl (decide (BipE n M))]) (fun o=>[some (intsC o)]):=by
 refine pureEV [0] ok31 rfl ?_;unfold c31
 refine RN ?_
 refine pureEC (coloured_c n M hM h0 hn h1 hl hr hcon) (by simp only [go_sem,↓reduceIte,Nat.reduceEqDiff,Nat.reduceAdd,reduceCtorEq]<;>rfl) (fun o=>by first | rfl | simp only [go_sem,↓reduceIte,Nat.reduceEqDiff,Nat.reduceAdd,reduceCtorEq]) fun o ho=>?_
 refine RN ?_
 exact ⟨o,ho,by first | rfl | exact ⟨rfl,rfl⟩⟩
end
section
open Go.Gov
open Classical
def DisQ (n:Nat)(M:List (List Int))(d:List Int):Prop:=d.length=n∧d.getD 0 0=0∧(∀ x,x<n→0≤d.getD x 0∧d.getD x 0≤n)∧∀ c,Bip n M c→∀ y,y<n→d.getD y 0%2=c y
theorem l02Distances_c (n : Nat) (M : List (List Int)) (hM : MvOk n M) (h0 : 0 < n) (hn : n ≤ 1048576) (h1 : 0 < M.length) (hl : M.length ≤ 1048576) (hr : (M.getD 0 []).length = n) (hcon : ∀ x, x < n → Rch M 0 x) :
    PureE Tryz.prog 53 [maniA M,i64 0] (DisQ n M) (fun _=>.sl 0 1 0 n) (fun o=>[some (intsC o)]):=by
 have tz:Int.toNat 0=0:=rfl
 have hfl:=l02Flags_c M h1 hl (by omega)
 rw [hr] at hfl
 refine pureEV [1] ok53 rfl ?_;unfold c53
 refine RN ?_
 refine V_loop (α:=Nat) (S:=fun k=>([(1,i64 0),(2,.ref 0 0),(5,.sl 1 1 0 k),(6,i64 k)],[some [mat M],some (intsC (List.replicate k (-1)))])) (C:=fun k=>k≤n) (μ:=fun k=>n - k) 0 (by omega) (Ref.to (by simp [intsC]) (by simp [sub,fget])) ?_
 intro k hk
 have hkl:(List.replicate k (-1:Int)).length=k:=by simp
 refine RN ?_
 refine pureC1 (hfl) ?_
 refine RN ?_
 refine ⟨fun hc=>?_,fun hc=>?_⟩
 ·(refine RN ?_;try with_reducible exact trivial)
  refine ⟨k+1,by omega,by omega,Ref.gc [0,3] rfl ?_ (by simp [sub,fget,go_sem,↓reduceIte,Nat.reduceEqDiff,Nat.reduceAdd,reduceCtorEq])⟩
  have e1:(intsC (List.replicate k (-1))).take k=intsC (List.replicate k (-1)):=List.take_of_length_le (by simp [intsC])
  simp only [go_sem,↓reduceIte,Nat.reduceEqDiff,Nat.reduceAdd,reduceCtorEq,e1,one_intsC,app_intsC,List.replicate_succ']
 ·obtain rfl:k=n:=by omega
  (refine RN ?_;try with_reducible exact trivial)
  (try simp only [tz,go_sem,↓reduceIte,Nat.reduceEqDiff,Nat.reduceAdd,reduceCtorEq])
  refine V_loop (α:=Nat×List Int×List Nat) (S:=fun p=>([(2,.ref 0 0),(5,.sl 1 1 0 k),(7,.sl 2 1 0 p.2.2.length),(8,i64 p.1)],[some [mat M],some (intsC p.2.1),some (intsC (nz p.2.2))])) (C:=fun p=>p.1≤p.2.2.length∧DisI k M p.2.1 p.2.2 p.1 0) (μ:=fun p=>k - p.1) (0,(List.replicate k (-1)).set 0 0,[0]) ⟨Nat.zero_le _,DisI.init h0⟩ (Ref.to (by simp [nz,intsC]) (by simp [sub,fget])) ?_
  rintro ⟨i,d,R⟩ ⟨hi,hI⟩
  dsimp only at hi hI ⊢
  have hlen:=hI.len
  have hfew:=hI.few
  have hnzl:=nz_len R
  refine RN ?_
  refine ⟨fun hc2=>?_,fun hc2=>?_⟩
  ·have hi' : i<R.length:=by omega
   obtain ⟨x,hx⟩:∃ x,x=R[i]:=⟨_,rfl⟩
   obtain ⟨hxn,hxd⟩:=hI.inR _ (List.getElem_mem hi')
   rw [← hx] at hxn hxd
   have hxi:((x:Nat):Int).toNat=x:=by omega
   have hat:∀ W:List Nat,(nz (R++W)).getD i 0=(x:Int):=fun W=>by simp [nz,hi', List.getElem?_append_left,hx]
   refine RN ?_
   refine V_loop (α:=Nat×List Int×List Nat) (S:=fun p=>([(2,.ref 0 0),(5,.sl 1 1 0 k),(7,.sl 2 1 0 (R++p.2.2).length),(8,i64 i),(9,i64 p.1)],[some [mat M],some (intsC p.2.1),some (intsC (nz (R++p.2.2)))])) (C:=fun p=>p.1≤M.length∧DisI k M p.2.1 (R++p.2.2) i p.1) (μ:=fun p=>M.length - p.1) (0,d,[]) ⟨Nat.zero_le _,by simpa using hI⟩ (Ref.to (by simp) (by simp [sub,fget])) ?_
   rintro ⟨q,d2,W⟩ ⟨hq,hI2⟩
   dsimp only at hq hI2 ⊢
   have hlen2:=hI2.len
   have hfew2:=hI2.few
   have hnzl2:=nz_len (R++W)
   have hat2:=hat W
   have hRW:(R++W).length=R.length+W.length:=List.length_append
   have hiW:i<(R++W).length:=by omega
   have hxW:(R++W)[i]=x:=by rw [List.getElem_append_left hi'];exact hx.symm
   refine RN ?_
   refine ⟨fun hc3=>?_,fun hc3=>?_⟩
   ·have hrm:=row_mem (L:=M) (k:=q) (by omega)
    obtain ⟨hrl,hrb⟩:=hM _ hrm
    obtain ⟨y1,y2,_⟩:=hrb x hxn
    have vx:=hI2.vals x hxn
    have hnew:=hI2.new hiW (by omega)
    have hold:=hI2.old hiW
    rw [hxW] at hnew hold
    generalize hZ:R++W=Z at hnzl2 hat2 hRW hI2 hnew hold hfew2 hiW ⊢
    refine RN ?_
    simp only [hat2,hxi,go_sem,↓reduceIte,Nat.reduceEqDiff,Nat.reduceAdd,reduceCtorEq]
    refine RN ?_
    refine ⟨fun hc4=>?_,fun hc4=>?_⟩
    ·have hnew:=hnew (by omega) hc4
     have hy3:((((M.getD q []).getD x 0).toNat:Nat):Int)=(M.getD q []).getD x 0:=by omega
     refine RN ?_
     refine ⟨(q+1,d2.set ((M.getD q []).getD x 0).toNat (d2.getD x 0+1),W++[((M.getD q []).getD x 0).toNat]),⟨by dsimp only;omega,?_⟩,by dsimp only;omega,?_⟩
     ·dsimp only
      rw [← List.append_assoc,hZ]
      exact hnew
     ·dsimp only
      rw [← List.append_assoc,hZ,nz_snoc,hy3]
      refine Ref.gc [0,1,4] rfl ?_ (by simp [sub,fget,go_sem,↓reduceIte,Nat.reduceEqDiff,Nat.reduceAdd,reduceCtorEq,Nat.add_assoc])
      have hRW' : R.length+W.length=(nz Z).length:=by omega
      (try simp only [go_sem,↓reduceIte,Nat.reduceEqDiff,Nat.reduceAdd,reduceCtorEq,hat2,hxi,hRW', take_ints_len,one_intsC,app_intsC])
    ·have hold:=hold hc4
     refine RN ?_
     refine ⟨(q+1,d2,W),⟨by dsimp only;omega,by dsimp only;rw [hZ];exact hold⟩,by dsimp only;omega,?_⟩
     dsimp only
     rw [hZ]
     exact Ref.frame (by simp [sub,fget])
   ·obtain rfl:q=M.length:=by omega
    refine RN ?_
    exact ⟨(i+1,d2,R++W),⟨by dsimp only;omega,hI2.next hiW⟩,by dsimp only;omega,by exact Ref.frame (by simp [sub,fget])⟩
  ·obtain rfl:i=R.length:=by omega
   refine RN ?_
   exact ⟨d,hI.all hM h0 hcon,rfl⟩
def prs (d:List Int)(k:Nat):List Int:=(d.take k).map (fun x=>x%2)++d.drop k
theorem prs_len (d:List Int)(k:Nat):(prs d k).length=d.length:=by simp [prs];omega
theorem prs_at {d:List Int}{k:Nat}(h:k<d.length):(prs d k).getD k 0=d.getD k 0:=by
 unfold prs
 rw [List.getD_eq_getElem?_getD,List.getElem?_append_right (by simp;omega)]
 simp [show min k d.length=k by omega]
theorem prs_step {d:List Int}{k:Nat}(h:k<d.length):(prs d k).set k (d.getD k 0%2)=prs d (k+1):=by
 unfold prs
 refine List.ext_getElem (by simp;omega) fun j h1 h2=>?_
 have hj:j<d.length:=by simp at h1;omega
 by_cases e:k=j
 ·subst e
  rw [List.getElem_set_self,List.getElem_append_left (by simp;omega)]
  simp [hj]
 ·rw [List.getElem_set_ne e]
  rcases Nat.lt_or_ge j k with h3 | h3
  ·rw [List.getElem_append_left (by simp;omega),List.getElem_append_left (by simp;omega)]
   simp
  ·rw [List.getElem_append_right (by simp;omega),List.getElem_append_right (by simp;omega)]
   simp only [List.length_map,List.length_take,List.getElem_drop]
   congr 1;omega
theorem prs_all {d:List Int}{y:Nat}(h:y<d.length):(prs d d.length).getD y 0=d.getD y 0%2:=by simp [prs,h]
theorem DisQ.par {n:Nat}{M:List (List Int)}{d:List Int}(h:DisQ n M d)(h0:0<n):(prs d n).length=n∧(prs d n).getD 0 0=0∧(∀ y,y<n→(prs d n).getD y 0=d.getD y 0%2)∧(∀ x,x<n→(prs d n).getD x 0=0∨(prs d n).getD x 0=1)∧∀ c,Bip n M c→∀ y,y<n→(prs d n).getD y 0=c y:=by
 obtain ⟨a1,a2,a3,a4⟩:=h
 have hat:∀ y,y<n→(prs d n).getD y 0=d.getD y 0%2:=fun y hy=>by
  have:=prs_all (d:=d) (y:=y) (by omega)
  rwa [a1] at this
 exact ⟨by rw [prs_len,a1],by rw [hat 0 h0,a2];rfl,hat,fun x hx=>by rw [hat x hx];omega,fun c hc y hy=>by rw [hat y hy];exact a4 c hc y hy⟩
theorem l02Colours_c (n : Nat) (M : List (List Int)) (hM : MvOk n M) (h0 : 0 < n) (hn : n ≤ 1048576) (h1 : 0 < M.length) (hl : M.length ≤ 1048576) (hr : (M.getD 0 []).length = n) (hcon : ∀ x, x < n → Rch M 0 x) :
    if BipE n M then Pure Tryz.prog 34 [maniA M] (.tup [.sl 0 1 0 n,bl true]) [some (intsC (colV n M))] else Pure Tryz.prog 34 [maniA M] (.tup [nilS,bl false]) []:=by
 have hD:=l02Distances_c n M hM h0 hn h1 hl hr hcon
 by_cases hE:BipE n M
 ·rw [if_pos hE]
  refine pureVg [1] ok34 rfl ?_;unfold c34
  refine RN ?_
  refine pureEC (hD) (by simp only [go_sem,↓reduceIte,Nat.reduceEqDiff,Nat.reduceAdd,reduceCtorEq]<;>rfl) (fun o=>by first | rfl | simp only [go_sem,↓reduceIte,Nat.reduceEqDiff,Nat.reduceAdd,reduceCtorEq]) fun o ho=>?_
  obtain ⟨p1,p2,p3,p4,p5⟩:=ho.par h0
  obtain ⟨a1,a2,a3,a4⟩:=ho
  have hcv:prs o n=colV n M:=by
   obtain ⟨c,hc⟩:=hE
   refine colV_eq hM h0 hcon p1 ⟨p2,p4,fun x hx p hp=>?_⟩
   have hb:=(hM p hp).2 x hx
   dsimp only
   rw [p5 c hc _ (by omega),p5 c hc x hx]
   exact hc.2.2 x hx p hp
  have hpr:∀ x,x<n→∀ k,k<M.length→(prs o n).getD ((M.getD k []).getD x 0).toNat 0≠(prs o n).getD x 0:=fun x hx k hk=>by
   obtain ⟨c,hc⟩:=hE
   have hp:=row_mem (L:=M) (k:=k) hk
   have hb:=(hM _ hp).2 x hx
   rw [p5 c hc _ (by omega),p5 c hc x hx]
   exact hc.2.2 x hx _ hp
  refine RN ?_
  refine V_loop (α:=Nat) (S:=fun k=>([(1,.ref 0 0),(4,.sl 1 1 0 n),(5,i64 k)],[some [mat M],some (intsC (prs o k))])) (C:=fun k=>k≤n) (μ:=fun k=>n - k) 0 (by omega) (Ref.to (by simp [prs]) (by simp [sub,fget])) ?_
  intro k hk
  have hpl:=prs_len o k
  refine RN ?_
  refine ⟨fun hc=>?_,fun hc=>?_⟩
  ·have hat:=prs_at (d:=o) (k:=k) (by omega)
   have hst:=prs_step (d:=o) (k:=k) (by omega)
   have h3:=a3 k (by omega)
   have htm:(o.getD k 0).tmod 2=o.getD k 0%2:=Int.tmod_eq_emod_of_nonneg h3.1
   refine RN ?_
   simp only [hat,htm,hst,go_sem,↓reduceIte,Nat.reduceEqDiff,Nat.reduceAdd,reduceCtorEq]
   refine RN ?_
   exact ⟨k+1,by omega,by omega,by exact Ref.frame (by simp [sub,fget])⟩
  ·obtain rfl:k=n:=by omega
   refine RN ?_
   refine V_loop (α:=Nat) (S:=fun x=>([(1,.ref 0 0),(4,.sl 1 1 0 k),(6,i64 x)],[some [mat M],some (intsC (prs o k))])) (C:=fun x=>x≤k) (μ:=fun x=>k - x) 0 (by omega) (by exact Ref.frame (by simp [sub,fget])) ?_
   intro x hx
   refine RN ?_
   refine ⟨fun hc2=>?_,fun hc2=>?_⟩
   ·(refine RN ?_;try with_reducible exact trivial)
    refine V_loop (α:=Nat) (S:=fun q=>([(1,.ref 0 0),(4,.sl 1 1 0 k),(6,i64 x),(7,i64 q)],[some [mat M],some (intsC (prs o k))])) (C:=fun q=>q≤M.length) (μ:=fun q=>M.length - q) 0 (by omega) (by exact Ref.frame (by simp [sub,fget])) ?_
    intro q hq
    refine RN ?_
    refine ⟨fun hc3=>?_,fun hc3=>?_⟩
    ·obtain ⟨hrl,hrb⟩:=hM _ (row_mem (L:=M) (k:=q) (by omega))
     obtain ⟨y1,y2,_⟩:=hrb x (by omega)
     have hne:=hpr x (by omega) q (by omega)
     (refine RN ?_;try with_reducible exact trivial)
     (try with_reducible refine fun _=>?_)
     refine RN ?_
     exact ⟨q+1,by omega,by omega,by exact Ref.frame (by simp [sub,fget])⟩
    ·(refine RN ?_;try with_reducible exact trivial)
     exact ⟨x+1,by omega,by omega,by exact Ref.frame (by simp [sub,fget])⟩
   ·(refine RN ?_;try with_reducible exact trivial)
    rw [hcv]
 ·rw [if_neg hE]
  refine pureV0 ok34 rfl rfl ?_;unfold c34
  refine RN ?_
  refine pureEC (hD) (by simp only [go_sem,↓reduceIte,Nat.reduceEqDiff,Nat.reduceAdd,reduceCtorEq]<;>rfl) (fun o=>by first | rfl | simp only [go_sem,↓reduceIte,Nat.reduceEqDiff,Nat.reduceAdd,reduceCtorEq]) fun o ho=>?_
  obtain ⟨p1,p2,p3,p4,p5⟩:=ho.par h0
  obtain ⟨a1,a2,a3,a4⟩:=ho
  obtain ⟨x0,q0,hx0,hq0,hbad⟩:∃ x q,x<n∧q<M.length∧(prs o n).getD ((M.getD q []).getD x 0).toNat 0=(prs o n).getD x 0:=by
   refine Classical.byContradiction fun hno=>hE ⟨fun x=>(prs o n).getD x 0,p2,p4,fun x hx p hp he=>hno ?_⟩
   obtain ⟨q,hq,rfl⟩:=List.mem_iff_getElem.1 hp
   exact ⟨x,q,hx,hq,by simpa [hq] using he⟩
  refine RN ?_
  refine V_loop (α:=Nat) (S:=fun k=>([(1,.ref 0 0),(4,.sl 1 1 0 n),(5,i64 k)],[some [mat M],some (intsC (prs o k))])) (C:=fun k=>k≤n) (μ:=fun k=>n - k) 0 (by omega) (Ref.to (by simp [prs]) (by simp [sub,fget])) ?_
  intro k hk
  have hpl:=prs_len o k
  refine RN ?_
  refine ⟨fun hc=>?_,fun hc=>?_⟩
  ·have hat:=prs_at (d:=o) (k:=k) (by omega)
   have hst:=prs_step (d:=o) (k:=k) (by omega)
   have h3:=a3 k (by omega)
   have htm:(o.getD k 0).tmod 2=o.getD k 0%2:=Int.tmod_eq_emod_of_nonneg h3.1
   refine RN ?_
   simp only [hat,htm,hst,go_sem,↓reduceIte,Nat.reduceEqDiff,Nat.reduceAdd,reduceCtorEq]
   refine RN ?_
   exact ⟨k+1,by omega,by omega,by exact Ref.frame (by simp [sub,fget])⟩
  ·obtain rfl:k=n:=by omega
   refine RN ?_
   refine V_loop (α:=Nat) (S:=fun x=>([(1,.ref 0 0),(4,.sl 1 1 0 k),(6,i64 x)],[some [mat M],some (intsC (prs o k))])) (C:=fun x=>x≤x0) (μ:=fun x=>k - x) 0 (by omega) (by exact Ref.frame (by simp [sub,fget])) ?_
   intro x hx
   refine RN ?_
   refine ⟨fun hc2=>?_,fun hc2=>by omega⟩
   ·(refine RN ?_;try with_reducible exact trivial)
    refine V_loop (α:=Nat) (S:=fun q=>([(1,.ref 0 0),(4,.sl 1 1 0 k),(6,i64 x),(7,i64 q)],[some [mat M],some (intsC (prs o k))])) (C:=fun q=>q≤M.length∧(x=x0→q≤q0)) (μ:=fun q=>M.length - q) 0 ⟨by omega,by omega⟩ (by exact Ref.frame (by simp [sub,fget])) ?_
    rintro q ⟨hq,hq2⟩
    refine RN ?_
    refine ⟨fun hc3=>?_,fun hc3=>?_⟩
    ·obtain ⟨hrl,hrb⟩:=hM _ (row_mem (L:=M) (k:=q) (by omega))
     obtain ⟨y1,y2,_⟩:=hrb x (by omega)
     refine RN ?_
     refine ⟨fun hc4=>?_,fun hc4=>?_⟩
     ·(refine RN ?_;try with_reducible exact trivial)
     ·(refine RN ?_;try with_reducible exact trivial)
      refine ⟨q+1,⟨by omega,fun e=>?_⟩,by omega,by exact Ref.frame (by simp [sub,fget])⟩
      subst e
      have:=hq2 rfl
      rcases Nat.lt_or_ge q q0 with h | h
      ·omega
      ·obtain rfl:q=q0:=by omega
       exact absurd hbad hc4
    ·have hne:x≠x0:=fun e=>by have:=hq2 e;omega
     refine RN ?_
     exact ⟨x+1,by omega,by omega,by exact Ref.frame (by simp [sub,fget])⟩
end
section
open Go.Gov
def altN (xs:List Int):Nat→Int
 | 0=>0
 | i+1=>if i%2=0 then altN xs i+xs.getD i 0 else altN xs i - xs.getD i 0
theorem altN_bound {xs:List Int}(hb:∀ i,0≤xs.getD i 0∧xs.getD i 0≤1048576):∀ i:Nat, -(1048576*i:Int)≤altN xs i∧altN xs i≤1048576*i
 | 0=>by simp [altN]
 | i+1=>by
  have:=altN_bound hb i
  have:=hb i
  simp only [altN]
  split<;>omega
theorem eulerOf_c (xs:List Int)(hl:xs.length≤1048576)(hb:∀ i,0≤xs.getD i 0∧xs.getD i 0≤1048576):Pure Tryz.prog 29 [ints xs] (i64 (altN xs xs.length)) []:=by
 refine pureV ok29 rfl ?_;unfold c29
 refine RN ?_
 refine V_loop (α:=Nat) (S:=fun x=>([(3,i64 (altN xs x)),(6,ints xs),(7,i64 xs.length),(8,i64 x)],[])) (C:=fun x=>x≤xs.length) (μ:=fun x=>xs.length - x) 0 (by omega) (by simp only [altN];exact Ref.frame (by simp [sub,fget])) ?_
 intro x hx
 have h1:=altN_bound hb x
 have h2:=hb x
 refine RN ?_
 refine ⟨fun hc1=>?_,fun hc1=>?_⟩
 ·(refine RN ?_;try with_reducible exact trivial)
  refine ⟨fun hc2=>?_,fun hc2=>?_⟩
  ·(refine RN ?_;try with_reducible exact trivial)
   refine ⟨x+1,by omega,by omega,?_⟩
   have e:x%2=0:=by
    rw [Int.tmod_eq_emod_of_nonneg (by omega)] at hc2
    omega
   simp only [altN,e,if_true]
   exact Ref.frame (by simp [sub,fget])
  ·(refine RN ?_;try with_reducible exact trivial)
   refine ⟨x+1,by omega,by omega,?_⟩
   have e:¬ x%2=0:=by
    rw [Int.tmod_eq_emod_of_nonneg (by omega)] at hc2
    omega
   simp only [altN,if_neg e]
   exact Ref.frame (by simp [sub,fget])
 ·(refine RN ?_;try with_reducible exact trivial)
  rw [show x=xs.length by omega]
end
section
open Go.Gov
open Classical
noncomputable def fcV (n:Nat)(M:List (List Int))(k:Nat):List Int:=(List.range k).map fun i=>((ncnt (oth M i M.length) n:Nat):Int)
theorem fcV_len (n:Nat)(M:List (List Int))(k:Nat):(fcV n M k).length=k:=by simp [fcV]
theorem fcV_succ (n:Nat)(M:List (List Int))(k:Nat):fcV n M (k+1)=fcV n M k++[((ncnt (oth M k M.length) n:Nat):Int)]:=by simp [fcV,List.range_succ]
theorem fcV_b {n:Nat}{M:List (List Int)}{k:Nat}(hn:n≤1048576)(i:Nat):0≤(fcV n M k).getD i 0∧(fcV n M k).getD i 0≤1048576:=by
 by_cases h:i<k
 ·have:=ncnt_le (oth M i M.length) n
  simp [fcV,h];omega
 ·rw [List.getD_eq_getElem?_getD,List.getElem?_eq_none (by rw [fcV_len];omega)]
  simp
theorem take_fc (n:Nat)(M:List (List Int))(k:Nat):(intsC (fcV n M k)).take k=intsC (fcV n M k):=List.take_of_length_le (by simp [intsC,fcV])
theorem faceCounts_c (n:Nat)(M:List (List Int))(hM:MvOk n M)(hr:(M.getD 0 []).length=n)(hn:n≤1048576)(hl:M.length≤1048576):Pure Tryz.prog 30 [maniP M] (.sl 0 1 0 M.length) [some (intsC (fcV n M M.length))]:=by
 refine pureVg [0] ok30 rfl ?_;unfold c30
 refine RN ?_
 refine pureC1 (rank_c M hl) ?_
 refine RN ?_
 refine V_loop (α:=Nat) (S:=fun k=>([(0,maniP M),(3,.sl 0 1 0 k),(8,i64 M.length),(9,i64 k)],[some (intsC (fcV n M k))])) (C:=fun k=>k≤M.length) (μ:=fun k=>M.length - k) 0 (by omega) ((Ref.nil 3 1 (by simp [fget])).trans (Ref.to (by simp [fcV,intsC]) (by simp [sub,fget]))) ?_
 intro k hk
 have hfl:=fcV_len n M k
 refine RN ?_
 refine ⟨fun hc=>?_,fun hc=>?_⟩
 ·(refine RN ?_;try with_reducible exact trivial)
  refine pureC1 (faces_c n M k hM (by omega) hr hn hl) ?_
  refine RN ?_
  refine ⟨k+1,by omega,by omega,Ref.gc [3] rfl ?_ (by simp [sub,fget,go_sem,↓reduceIte,Nat.reduceEqDiff,Nat.reduceAdd,reduceCtorEq])⟩
  simp only [go_sem,↓reduceIte,Nat.reduceEqDiff,Nat.reduceAdd,reduceCtorEq,take_fc,one_intsC,app_intsC,fcV_succ]
 ·obtain rfl:k=M.length:=by omega
  (refine RN ?_;try with_reducible exact trivial)
theorem tdiv2_b {x B:Int}(h : -B≤x∧x≤B) : -B≤x.tdiv 2∧x.tdiv 2≤B:=by
 rcases Int.le_total 0 x with h0 | h0
 ·rw [Int.tdiv_eq_ediv_of_nonneg h0];omega
 ·have e:x.tdiv 2 = -((-x).tdiv 2):=by rw [Int.neg_tdiv];omega
  rw [e,Int.tdiv_eq_ediv_of_nonneg (by omega)];omega
noncomputable def sfB (M:List (List Int)):Bool:=decide (IsMap M∧BipE (fl M) M)
noncomputable def sfG (M:List (List Int)):Int:=if IsMap M then (if BipE (fl M) M then (2 - altN (fcV (fl M) M M.length) M.length).tdiv 2 else 2 - altN (fcV (fl M) M M.length) M.length) else 0
theorem implSf_c (M:List (List Int))(hl:M.length≤1048576)(hr:∀ p∈M,p.length≤1048576):Pure Tryz.prog 11 [maniA M] (.tup [bl (sfB M),i64 (sfG M),i64 (vdC M)]) []:=by
 unfold sfB sfG vdC
 by_cases hp:IsMap M
 ·have hf:=hp.1.f4
  have hf2:=hp.1.f2
  have h3:=hp.2
  have hfc:=faceCounts_c (fl M) M hp.1.mv rfl (by omega) hl
  have hb:=fun i=>fcV_b (n:=fl M) (M:=M) (k:=M.length) (by omega) i
  have he:=eulerOf_c (fcV (fl M) M M.length) (by rw [fcV_len];exact hl) hb
  have hab:=altN_bound hb M.length
  rw [fcV_len] at he
  have hco:=colouring_c (fl M) M hp.1.mv (by omega) (by omega) (by omega) hl rfl hp.1.con
  simp only [hp,if_true,true_and]
  have htk:=take_fc (fl M) M M.length
  refine pureV0 ok11 rfl rfl ?_;unfold c11
  refine RN ?_
  refine pureC1 (isMap_c M hl hr) ?_
  simp only [hp,go_sem,↓reduceIte,Nat.reduceEqDiff,Nat.reduceAdd,reduceCtorEq]
  refine RN ?_
  refine pureC1 (hfc) ?_
  refine RN ?_
  refine pureC he (by simp only [go_sem,↓reduceIte,Nat.reduceEqDiff,Nat.reduceAdd,reduceCtorEq,ints,fcV_len,htk]) (by simp only [go_sem,↓reduceIte,Nat.reduceEqDiff,Nat.reduceAdd,reduceCtorEq]) ?_
  generalize altN (fcV (fl M) M M.length) M.length=E at *
  have htd:=tdiv2_b (x:=2 - E) (B:=4000000) (by omega)
  refine RN ?_
  refine pureEC (hco) (by simp only [go_sem,↓reduceIte,Nat.reduceEqDiff,Nat.reduceAdd,reduceCtorEq]<;>rfl) (fun o=>by first | rfl | simp only [go_sem,↓reduceIte,Nat.reduceEqDiff,Nat.reduceAdd,reduceCtorEq]) fun o ho=>?_
  refine RN ?_
  by_cases hE:BipE (fl M) M
  ·simp only [hE,go_sem,↓reduceIte,Nat.reduceEqDiff,Nat.reduceAdd,reduceCtorEq]
   (refine RN ?_;try with_reducible exact trivial)
   try omega
  ·simp only [hE,go_sem,↓reduceIte,Nat.reduceEqDiff,Nat.reduceAdd,reduceCtorEq]
   (refine RN ?_;try with_reducible exact trivial)
 ·simp only [hp,if_false,false_and]
  refine pureV0 ok11 rfl rfl ?_;unfold c11
  refine RN ?_
  refine pureC1 (isMap_c M hl hr) ?_
  simp only [hp,go_sem,↓reduceIte,Nat.reduceEqDiff,Nat.reduceAdd,reduceCtorEq]
  (refine RN ?_;try with_reducible exact trivial)
end
end Go.Proofs.YtaekhhaaphgndaaGreat
