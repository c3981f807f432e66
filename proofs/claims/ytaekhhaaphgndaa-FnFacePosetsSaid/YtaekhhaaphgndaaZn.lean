/- Texts that belong together. -/
import Derived.Test.YtaekhhaaphgndaaZm
set_option linter.unusedSimpArgs false
set_option linter.unusedVariables false
set_option maxRecDepth 100000
namespace Go.Proofs.Ytaekhhaaphgndaa
section
open Classical
def Bip (n:Nat)(M:List (List Int))(c:Nat→Int):Prop:=c 0=0∧(∀ x,x<n→c x=0∨c x=1)∧∀ x,x<n→∀ p∈M,c (p.getD x 0).toNat≠c x
def BipE (n:Nat)(M:List (List Int)):Prop:=∃ c,Bip n M c
noncomputable def colV (n:Nat)(M:List (List Int)):List Int:=if h:BipE n M then (List.range n).map (Classical.choose h) else []
theorem Bip.uniq {n:Nat}{M:List (List Int)}(hM:MvOk n M)(h0:0<n){c c' : Nat→Int}(h:Bip n M c)(h' : Bip n M c'){x:Nat}(hx:Rch M 0 x):c x=c' x:=by
 induction hx with
 | refl=>rw [h.1,h'.1]
 | step hy hp ih=>
  rename_i y p
  have hlt:=hy.lt hM h0
  have hlt2:=(hy.step hp).lt hM h0
  have a1:=h.2.2 y hlt p hp
  have a2:=h'.2.2 y hlt p hp
  have b1:=h.2.1 _ hlt2
  have b2:=h'.2.1 _ hlt2
  have b3:=h.2.1 _ hlt
  omega
theorem colV_eq {n:Nat}{M:List (List Int)}(hM:MvOk n M)(h0:0<n)(hc:∀ x,x<n→Rch M 0 x){col:List Int}(hl:col.length=n)(h:Bip n M fun x=>col.getD x 0):col=colV n M:=by
 have hE:BipE n M:=⟨_,h⟩
 unfold colV
 rw [dif_pos hE]
 refine List.ext_getElem (by simp [hl]) fun j h1 h2=>?_
 have:=Bip.uniq hM h0 h (Classical.choose_spec hE) (hc j (by omega))
 simpa [h1] using this
theorem setD_self {l:List Int}{i:Nat}{v:Int}(h:i<l.length):(l.set i v).getD i 0=v:=by simp [h]
theorem setD_ne {l:List Int}{i j:Nat}{v:Int}(h:i≠j):(l.set i v).getD j 0=l.getD j 0:=by
 rw [List.getD_eq_getElem?_getD,List.getD_eq_getElem?_getD,List.getElem?_set_ne h]
def unc (l:List Int):Nat:=l.countP fun x=>decide (x<0)
theorem unc_set {l:List Int}{i:Nat}{v:Int}(h:i<l.length)(hn:l.getD i 0<0)(hv:0≤v):unc (l.set i v)+1=unc l:=by
 unfold unc
 rw [List.countP_set h]
 have e:l[i]<0:=by simpa [h] using hn
 have h2:0<l.countP fun x=>decide (x<0):=List.countP_pos_iff.2 ⟨l[i],List.getElem_mem _,by simpa using e⟩
 simp only [decide_eq_true_eq,e,if_true,show ¬ v<0 by omega,if_false]
 omega
structure ColI (n:Nat) (M:List (List Int)) (col:List Int) (O:List Nat) (b:Bool) (x:Option (Nat×Nat)):Prop where
 len:col.length=n
 start:col.getD 0 0=0
 vals:∀ y,y<n→col.getD y 0 = -1∨col.getD y 0=0∨col.getD y 0=1
 forced:∀ c,Bip n M c→∀ y,y<n→0≤col.getD y 0→col.getD y 0=c y
 wait:∀ y∈O,y<n∧0≤col.getD y 0
 done:∀ y,y<n→0≤col.getD y 0→y∉O→(∀ q,x=some q→y≠q.1)→∀ p∈M,0≤col.getD (p.getD y 0).toNat 0∧(b=true→col.getD (p.getD y 0).toNat 0≠col.getD y 0)
 now:∀ q,x=some q→q.1<n∧0≤col.getD q.1 0∧∀ j,j<q.2→0≤col.getD ((M.getD j []).getD q.1 0).toNat 0∧(b=true→col.getD ((M.getD j []).getD q.1 0).toNat 0≠col.getD q.1 0)
 bad:b=false→¬ BipE n M
 few:O.length+unc col≤n
section
variable {n:Nat} {M:List (List Int)} {col:List Int} {O:List Nat} {b:Bool}
theorem ColI.pop {x:Nat}(h:ColI n M col (x :: O) b none):ColI n M col O b (some (x,0)):=
 ⟨h.len,h.start,h.vals,h.forced,fun y hy=>h.wait y (by simp [hy]),fun y hy h1 hno hx=>h.done y hy h1 (by simp [hno,hx (x,0) rfl]) fun q hq=>(by cases hq),fun q hq=>by
  cases hq
  exact ⟨(h.wait x (by simp)).1,(h.wait x (by simp)).2,fun j hj=>absurd hj (by omega)⟩,h.bad,by have:=h.few;simp at this;omega⟩
theorem ColI.fin {x:Nat}(h:ColI n M col O b (some (x,M.length))):ColI n M col O b none:=
 ⟨h.len,h.start,h.vals,h.forced,h.wait,fun y hy h1 hno _ p hp=>by
  by_cases e:y=x
  ·subst e
   obtain ⟨j,hj,rfl⟩:=List.mem_iff_getElem.1 hp
   have:=(h.now _ rfl).2.2 j hj
   simpa [hj] using this
  ·exact h.done y hy h1 hno (fun q hq=>by cases hq;exact e) p hp,fun q hq=>(by cases hq),h.bad,h.few⟩
theorem ColI.old {x k : Nat} (h : ColI n M col O b (some (x, k))) (hk : k < M.length) (hy : ((M.getD k []).getD x 0).toNat < n) (hc : 0 ≤ col.getD ((M.getD k []).getD x 0).toNat 0) :
    ColI n M col O (b&&decide (col.getD ((M.getD k []).getD x 0).toNat 0=1 - col.getD x 0)) (some (x,k+1)):=by
 obtain ⟨hx,hcx,hnow⟩:=h.now _ rfl
 dsimp only at hx hcx hnow
 have vx:=h.vals x hx
 refine ⟨h.len,h.start,h.vals,h.forced,h.wait,fun y hy h1 hno hx2 p hp=>?_,fun q hq=>?_,fun hb=>?_,h.few⟩
 ·obtain ⟨a1,a2⟩:=h.done y hy h1 hno (fun q hq=>by cases hq;exact hx2 (x,k+1) rfl) p hp
  exact ⟨a1,fun hb=>a2 (by simp at hb;exact hb.1)⟩
 ·cases hq
  refine ⟨hx,hcx,fun j hj=>?_⟩
  dsimp only at hj ⊢
  rcases Nat.lt_or_ge j k with h1 | h1
  ·obtain ⟨a1,a2⟩:=hnow j h1
   exact ⟨a1,fun hb=>a2 (by simp at hb;exact hb.1)⟩
  ·obtain rfl:j=k:=by omega
   refine ⟨hc,fun hb=>?_⟩
   simp only [Bool.and_eq_true,decide_eq_true_eq] at hb
   have:=hb.2
   omega
 ·cases hb2:b with
  | false=>exact h.bad hb2
  | true=>
   rintro ⟨c,hcB⟩
   rw [hb2] at hb
   simp only [Bool.true_and,decide_eq_false_iff_not] at hb
   have e1:=h.forced c hcB x hx hcx
   have e2:=h.forced c hcB _ hy hc
   have e3:=hcB.2.2 x hx (M.getD k []) (by rw [show M.getD k []=M[k] by simp [hk]];exact List.getElem_mem _)
   have v2:=h.vals _ hy
   omega
theorem ColI.new {x k : Nat} (h : ColI n M col O b (some (x, k))) (hM : MvOk n M) (hk : k < M.length) (hy : ((M.getD k []).getD x 0).toNat < n) (hc : col.getD ((M.getD k []).getD x 0).toNat 0 < 0) :
    ColI n M (col.set ((M.getD k []).getD x 0).toNat (1 - col.getD x 0)) (O++[((M.getD k []).getD x 0).toNat]) b (some (x,k+1)):=by
 obtain ⟨hx,hcx,hnow⟩:=h.now _ rfl
 dsimp only at hx hcx hnow
 have vx:=h.vals x hx
 have hp:M.getD k []∈M:=by rw [show M.getD k []=M[k] by simp [hk]];exact List.getElem_mem _
 have hxy:x≠((M.getD k []).getD x 0).toNat:=fun e=>by rw [← e] at hc;omega
 generalize hz:((M.getD k []).getD x 0).toNat=z at *
 have hzl:z<col.length:=by rw [h.len];exact hy
 have ase:(col.set z (1 - col.getD x 0)).getD z 0=1 - col.getD x 0:=setD_self hzl
 have an:∀ y,z≠y→(col.set z (1 - col.getD x 0)).getD y 0=col.getD y 0:=fun y hy=>setD_ne hy
 have keep:∀ y,0≤col.getD y 0→(col.set z (1 - col.getD x 0)).getD y 0=col.getD y 0:=fun y hy=>an y fun e=>by subst e;omega
 refine ⟨by rw [List.length_set];exact h.len,by rw [keep 0 (by rw [h.start];omega)];exact h.start,fun y hy2=>?_,fun c hcB y hy2 h1=>?_,fun y hy2=>?_,fun y hy2 h1 hno hx2 p hp2=>?_,fun q hq=>?_,h.bad,?_⟩
 ·by_cases e:z=y
  ·subst e;rw [ase];omega
  ·rw [an y e];exact h.vals y hy2
 ·by_cases e:z=y
  ·subst e
   have e1:=h.forced c hcB x hx hcx
   have e3:=hcB.2.2 x hx _ hp
   rw [hz] at e3
   have e4:=hcB.2.1 z hy2
   have e5:=hcB.2.1 x hx
   rw [ase];omega
  ·rw [an y e] at h1 ⊢;exact h.forced c hcB y hy2 h1
 ·rcases List.mem_append.1 hy2 with h2 | h2
  ·obtain ⟨a1,a2⟩:=h.wait y h2
   exact ⟨a1,by rw [keep y a2];exact a2⟩
  ·obtain rfl:=List.mem_singleton.1 h2
   exact ⟨hy,by rw [ase];omega⟩
 ·have hyO:y∉O:=fun hm=>hno (by simp [hm])
  have hyz:z≠y:=fun e=>hno (by simp [e])
  rw [an y hyz] at h1 ⊢
  obtain ⟨a1,a2⟩:=h.done y hy2 h1 hyO (fun q hq=>by cases hq;exact hx2 (x,k+1) rfl) p hp2
  rw [keep _ a1]
  exact ⟨a1,a2⟩
 ·cases hq
  dsimp only
  rw [keep x hcx]
  refine ⟨hx,hcx,fun j hj=>?_⟩
  rcases Nat.lt_or_ge j k with h1 | h1
  ·obtain ⟨a1,a2⟩:=hnow j h1
   rw [keep _ a1]
   exact ⟨a1,a2⟩
  ·obtain rfl:j=k:=by omega
   rw [hz,ase]
   exact ⟨by omega,fun _=>by omega⟩
 ·have:=unc_set (l:=col) (i:=z) (v:=1 - col.getD x 0) hzl hc (by omega)
  have:=h.few
  simp only [List.length_append,List.length_singleton]
  omega
theorem ColI.all (h:ColI n M col [] b none)(hM:MvOk n M)(h0:0<n)(hcon:∀ x,x<n→Rch M 0 x):b=decide (BipE n M)∧(BipE n M→col=colV n M):=by
 have hall:∀ x,Rch M 0 x→0≤col.getD x 0:=fun x hx=>by
  induction hx with
  | refl=>rw [h.start];omega
  | step hy hp ih=>exact (h.done _ (hy.lt hM h0) ih (by simp) (fun q hq=>by cases hq) _ hp).1
 have hgood:b=true→Bip n M fun x=>col.getD x 0:=fun hb=>⟨h.start,fun x hx=>by have:=h.vals x hx;have:=hall x (hcon x hx);dsimp only;omega,fun x hx p hp=>(h.done x hx (hall x (hcon x hx)) (by simp) (fun q hq=>by cases hq) p hp).2 hb⟩
 have hbb:b=decide (BipE n M):=by
  cases hb:b with
  | true=>rw [decide_eq_true ⟨_,hgood hb⟩]
  | false=>rw [decide_eq_false (h.bad hb)]
 refine ⟨hbb,fun hE=>colV_eq hM h0 hcon h.len (hgood (by rw [hbb];exact decide_eq_true hE))⟩
end
structure DisI (n:Nat) (M:List (List Int)) (d:List Int) (R:List Nat) (i k:Nat):Prop where
 len:d.length=n
 start:d.getD 0 0=0
 vals:∀ y,y<n → -1≤d.getD y 0∧d.getD y 0≤R.length
 forced:∀ c,Bip n M c→∀ y,y<n→0≤d.getD y 0→d.getD y 0%2=c y
 inR:∀ y∈R,y<n∧0≤d.getD y 0
 ofR:∀ y,y<n→0≤d.getD y 0→y∈R
 done:∀ j (h:j<R.length),j<i→∀ p∈M,0≤d.getD (p.getD R[j] 0).toNat 0
 now:∀ (h:i<R.length),∀ q,q<k→0≤d.getD ((M.getD q []).getD R[i] 0).toNat 0
 few:R.length+unc d=n
section
variable {n:Nat} {M:List (List Int)} {d:List Int} {R:List Nat} {i k:Nat}
theorem DisI.next (h:DisI n M d R i M.length)(hi:i<R.length):DisI n M d R (i+1) 0:=
 ⟨h.len,h.start,h.vals,h.forced,h.inR,h.ofR,fun j hj hlt p hp=>by
  rcases Nat.lt_or_ge j i with h1 | h1
  ·exact h.done j hj h1 p hp
  ·obtain rfl:j=i:=by omega
   obtain ⟨q,hq,rfl⟩:=List.mem_iff_getElem.1 hp
   have:=h.now hj q hq
   simpa [hq] using this,fun h q hq=>(by omega),h.few⟩
theorem DisI.old (h:DisI n M d R i k)(hi:i<R.length)(hc:0≤d.getD ((M.getD k []).getD R[i] 0).toNat 0):DisI n M d R i (k+1):=
 ⟨h.len,h.start,h.vals,h.forced,h.inR,h.ofR,h.done,fun hi q hq=>by
  rcases Nat.lt_or_ge q k with h1 | h1
  ·exact h.now hi q h1
  ·obtain rfl:q=k:=by omega
   exact hc,h.few⟩
theorem DisI.new (h : DisI n M d R i k) (hi : i < R.length) (hk : k < M.length) (hy : ((M.getD k []).getD R[i] 0).toNat < n) (hc : d.getD ((M.getD k []).getD R[i] 0).toNat 0 < 0) :
    DisI n M (d.set ((M.getD k []).getD R[i] 0).toNat (d.getD R[i] 0+1)) (R++[((M.getD k []).getD R[i] 0).toNat]) i (k+1):=by
 have hp:M.getD k []∈M:=by rw [show M.getD k []=M[k] by simp [hk]];exact List.getElem_mem _
 obtain ⟨hx,hcx⟩:=h.inR R[i] (List.getElem_mem _)
 have hvx:=h.vals R[i] hx
 generalize hz:((M.getD k []).getD R[i] 0).toNat=z at *
 have hzl:z<d.length:=by rw [h.len];exact hy
 generalize hv:d.getD R[i] 0+1=v
 have ase:(d.set z v).getD z 0=v:=setD_self hzl
 have an:∀ y,z≠y→(d.set z v).getD y 0=d.getD y 0:=fun y hy=>setD_ne hy
 have keep:∀ y,0≤d.getD y 0→(d.set z v).getD y 0=d.getD y 0:=fun y hy=>an y fun e=>by subst e;omega
 have hl:(R++[z]).length=R.length+1:=by simp
 have hRi:∀ j (hj:j<R.length) (hj2:j<(R++[z]).length),(R++[z])[j]=R[j]:=fun j hj hj2=>List.getElem_append_left hj
 refine ⟨by rw [List.length_set];exact h.len,by rw [keep 0 (by rw [h.start];omega)];exact h.start,fun y hy2=>?_,fun c hcB y hy2 h1=>?_,fun y hy2=>?_,fun y hy2 h1=>?_,fun j hj hlt p hp2=>?_,fun hi2 q hq=>?_,?_⟩
 ·rw [hl]
  by_cases e:z=y
  ·subst e;rw [ase];omega
  ·rw [an y e];have:=h.vals y hy2;omega
 ·by_cases e:z=y
  ·subst e
   have e1:=h.forced c hcB R[i] hx hcx
   have e3:=hcB.2.2 R[i] hx _ hp
   rw [hz] at e3
   have e4:=hcB.2.1 z hy2
   have e5:=hcB.2.1 R[i] hx
   rw [ase];omega
  ·rw [an y e] at h1 ⊢;exact h.forced c hcB y hy2 h1
 ·rcases List.mem_append.1 hy2 with h2 | h2
  ·obtain ⟨a1,a2⟩:=h.inR y h2
   exact ⟨a1,by rw [keep y a2];exact a2⟩
  ·obtain rfl:=List.mem_singleton.1 h2
   exact ⟨hy,by rw [ase];omega⟩
 ·by_cases e:z=y
  ·simp [e]
  ·rw [an y e] at h1
   exact List.mem_append_left _ (h.ofR y hy2 h1)
 ·have hj' : j<R.length:=by omega
  rw [hRi j hj' hj]
  have:=h.done j hj' hlt p hp2
  rw [keep _ this];exact this
 ·rw [hRi i hi hi2]
  rcases Nat.lt_or_ge q k with h1 | h1
  ·have:=h.now hi q h1
   rw [keep _ this];exact this
  ·obtain rfl:q=k:=by omega
   rw [hz,ase];omega
 ·have:=unc_set (l:=d) (i:=z) (v:=v) hzl hc (by omega)
  have:=h.few
  omega
theorem DisI.all (h:DisI n M d R R.length 0)(hM:MvOk n M)(h0:0<n)(hcon:∀ x,x<n→Rch M 0 x):d.length=n∧d.getD 0 0=0∧(∀ x,x<n→0≤d.getD x 0∧d.getD x 0≤n)∧∀ c,Bip n M c→∀ y,y<n→d.getD y 0%2=c y:=by
 have hall:∀ x,Rch M 0 x→0≤d.getD x 0:=fun x hx=>by
  induction hx with
  | refl=>rw [h.start];omega
  | step hy hp ih=>
   obtain ⟨j,hj,rfl⟩:=List.mem_iff_getElem.1 (h.ofR _ (hy.lt hM h0) ih)
   exact h.done j hj hj _ hp
 have hf:=h.few
 exact ⟨h.len,h.start,fun x hx=>⟨hall x (hcon x hx),by have:=(h.vals x hx).2;omega⟩,fun c hc y hy=>h.forced c hc y hy (hall y (hcon y hy))⟩
end
end
section
open Go.Gov
open Classical
def DisQ (n:Nat)(M:List (List Int))(d:List Int):Prop:=d.length=n∧d.getD 0 0=0∧(∀ x,x<n→0≤d.getD x 0∧d.getD x 0≤n)∧∀ c,Bip n M c→∀ y,y<n→d.getD y 0%2=c y
def prs (d:List Int)(k:Nat):List Int:=(d.take k).map (fun x=>x%2)++d.drop k
theorem prs_len (d:List Int)(k:Nat):(prs d k).length=d.length:=by simp [prs];omega
theorem prs_all {d:List Int}{y:Nat}(h:y<d.length):(prs d d.length).getD y 0=d.getD y 0%2:=by simp [prs,h]
theorem DisQ.par {n:Nat}{M:List (List Int)}{d:List Int}(h:DisQ n M d)(h0:0<n):(prs d n).length=n∧(prs d n).getD 0 0=0∧(∀ y,y<n→(prs d n).getD y 0=d.getD y 0%2)∧(∀ x,x<n→(prs d n).getD x 0=0∨(prs d n).getD x 0=1)∧∀ c,Bip n M c→∀ y,y<n→(prs d n).getD y 0=c y:=by
 obtain ⟨a1,a2,a3,a4⟩:=h
 have hat:∀ y,y<n→(prs d n).getD y 0=d.getD y 0%2:=fun y hy=>by
  have:=prs_all (d:=d) (y:=y) (by omega)
  rwa [a1] at this
 exact ⟨by rw [prs_len,a1],by rw [hat 0 h0,a2];rfl,hat,fun x hx=>by rw [hat x hx];omega,fun c hc y hy=>by rw [hat y hy];exact a4 c hc y hy⟩
end
section
open Go.Gov
open Classical
noncomputable def fcV (n:Nat)(M:List (List Int))(k:Nat):List Int:=(List.range k).map fun i=>((ncnt (oth M i M.length) n:Nat):Int)
theorem fcV_len (n:Nat)(M:List (List Int))(k:Nat):(fcV n M k).length=k:=by simp [fcV]
theorem fcV_succ (n:Nat)(M:List (List Int))(k:Nat):fcV n M (k+1)=fcV n M k++[((ncnt (oth M k M.length) n:Nat):Int)]:=by simp [fcV,List.range_succ]
theorem fcV_b {n:Nat}{M:List (List Int)}{k:Nat}(hn:n≤1048576)(i:Nat):0≤(fcV n M k).getD i 0∧(fcV n M k).getD i 0≤1048576:=by
 by_cases h:i<k
 ·have:=ncnt_le (oth M i M.length) n
  simp [fcV,h];omega
 ·rw [List.getD_eq_getElem?_getD,List.getElem?_eq_none (by rw [fcV_len];omega)]
  simp
theorem take_fc (n:Nat)(M:List (List Int))(k:Nat):(intsC (fcV n M k)).take k=intsC (fcV n M k):=List.take_of_length_le (by simp [intsC,fcV])
theorem faceCounts_c (n:Nat)(M:List (List Int))(hM:MvOk n M)(hr:(M.getD 0 []).length=n)(hn:n≤1048576)(hl:M.length≤1048576):Pure Try.prog 25 [maniP M] (.sl 0 1 0 M.length) [some (intsC (fcV n M M.length))]:=by
 refine pureVg [0] ok25 rfl ?_;unfold c25
 refine RN ?_
 refine pureC1 (rank_c M hl) ?_
 refine RN ?_
 refine V_loop (α:=Nat) (S:=fun k=>([(0,maniP M),(3,.sl 0 1 0 k),(8,i64 M.length),(9,i64 k)],[some (intsC (fcV n M k))])) (C:=fun k=>k≤M.length) (μ:=fun k=>M.length - k) 0 (by omega) ((Ref.nil 3 1 (by simp [fget])).trans (Ref.to (by simp [fcV,intsC]) (by simp [sub,fget]))) ?_
 intro k hk
 have hfl:=fcV_len n M k
 refine RN ?_
 refine ⟨fun hc=>?_,fun hc=>?_⟩
 ·(refine RN ?_;try with_reducible exact trivial)
  refine pureC1 (faces_c n M k hM (by omega) hr hn hl) ?_
  refine RN ?_
  refine ⟨k+1,by omega,by omega,Ref.gc [3] rfl ?_ (by simp [sub,fget,go_sem,↓reduceIte,Nat.reduceEqDiff,Nat.reduceAdd,reduceCtorEq])⟩
  simp only [go_sem,↓reduceIte,Nat.reduceEqDiff,Nat.reduceAdd,reduceCtorEq,take_fc,one_intsC,app_intsC,fcV_succ]
 ·obtain rfl:k=M.length:=by omega
  (refine RN ?_;try with_reducible exact trivial)
end
end Go.Proofs.Ytaekhhaaphgndaa
