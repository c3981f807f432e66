/- Texts that belong together. -/
import Derived.Test.YtfofabbkigonpaaDoorW5
set_option linter.unusedSimpArgs false
set_option linter.unusedVariables false
set_option maxRecDepth 100000
namespace Go.Proofs.YtfofabbkigonpaaDoor
section
open Go.Gov
open Classical
def A0 (r:Int)(R:List Int):List Int:=(List.range R.length).map fun e=>r - 1 - R.getD (R.length - 1 - e) 0
noncomputable def Gv (B:List (List Int))(n e:Nat):List Int:=((List.range n).filter fun f=>decide (Ab B (n - 1 - e) (n - 1 - f))).map fun f:Nat=>(f:Int)
noncomputable def Aw (B:List (List Int))(n:Nat):List (List Int):=(List.range n).map (Gv B n)
section
variable {r:Int} {R:List Int} {B:List (List Int)}
theorem Bq:(A0 r R).length=R.length:=by simp [A0]
theorem E7 {e:Nat}(h:e<R.length):(A0 r R).getD e 0=r - 1 - R.getD (R.length - 1 - e) 0:=by simp [A0,h]
theorem I6 {n:Nat}:(Aw B n).length=n:=by simp [Aw]
theorem On {n e:Nat}(h:e<n):(Aw B n).getD e []=Gv B n e:=by simp [Aw,h]
theorem opW_mem {n e:Nat}{x:Int}:x∈Gv B n e ↔ ∃ f:Nat,f<n∧Ab B (n - 1 - e) (n - 1 - f)∧x=f:=by
 unfold Gv
 rw [List.mem_map]
 constructor
 ·rintro ⟨f,hf,rfl⟩
  obtain ⟨h1,h2⟩:=List.mem_filter.1 hf
  exact ⟨f,List.mem_range.1 h1,of_decide_eq_true h2,rfl⟩
 ·rintro ⟨f,h1,h2,rfl⟩
  exact ⟨f,List.mem_filter.2 ⟨List.mem_range.2 h1,decide_eq_true h2⟩,rfl⟩
theorem Y9 {n e:Nat}:Gz (Gv B n e):=by
 unfold Gv Gz
 rw [List.pairwise_map]
 exact (List.pairwise_lt_range.sublist List.filter_sublist).imp fun h=>by omega
theorem Kk {n e f:Nat}(h:e<n):Ab (Aw B n) f e ↔ f<n∧Ab B (n - 1 - e) (n - 1 - f):=by
 unfold Ab
 rw [On h,opW_mem]
 constructor
 ·rintro ⟨g,h1,h2,h3⟩
  obtain rfl:f=g:=by omega
  exact ⟨h1,h2⟩
 ·rintro ⟨h1,h2⟩
  exact ⟨f,h1,h2,rfl⟩
theorem sK (hs:Mt r R B)(hk:∀ x,x<R.length→K3 r R x)(ht:∀ x,x<R.length→Gz (B.getD x [])∧∀ y∈B.getD x [],0≤y∧y≤(x:Int) - 1∧R.getD y.toNat 0<R.getD x 0∧∀ z∈B.getD y.toNat [],z∈B.getD x []):IsPos r R B:=by
 refine ⟨hs,fun x hx=>⟨hk x hx,fun k hkl=>?_⟩⟩
 obtain ⟨h1,h2⟩:=ht x hx
 have hm:(B.getD x []).getD k 0∈B.getD x []:=by
  rw [B6 _ k hkl]
  exact List.getElem_mem hkl
 obtain ⟨a1,a2,a3,a4⟩:=h2 _ hm
 refine ⟨⟨a1,a2,a3,fun h0=>?_⟩,fun j hj=>?_⟩
 ·rw [B6 _ k hkl,B6 _ (k - 1) (by omega)]
  exact List.pairwise_iff_getElem.1 h1 (k - 1) k (by omega) hkl (by omega)
 ·refine a4 _ ?_
  rw [B6 _ j hj]
  exact List.getElem_mem hj
theorem Ko (hp:IsPos r R B){x y:Nat}(hy:y<R.length)(h:Ab B x y):x<y∧R.getD x 0<R.getD y 0:=by
 obtain ⟨k,hk,he⟩:=List.mem_iff_getElem.1 h
 have:=((hp.2 y hy).2 k hk).1
 unfold Ep at this
 rw [B6 _ k hk,he] at this
 obtain ⟨a1,a2,a3,_⟩:=this
 exact ⟨by omega,by simpa using a3⟩
theorem Ot (hp:IsPos r R B){y:Nat}(hy:y<R.length){e:Int}(h:e∈B.getD y []):∃ x:Nat,e=x∧Ab B x y:=by
 obtain ⟨k,hk,he⟩:=List.mem_iff_getElem.1 h
 have:=((hp.2 y hy).2 k hk).1
 unfold Ep at this
 rw [B6 _ k hk,he] at this
 refine ⟨e.toNat,by omega,?_⟩
 unfold Ab
 rwa [show ((e.toNat:Nat):Int)=e by omega]
theorem Ib (hp:IsPos r R B):IsPos r (A0 r R) (Aw B R.length):=by
 obtain ⟨⟨a1,a2,a3,a4⟩,a5⟩:=hp
 have hp:IsPos r R B:=⟨⟨a1,a2,a3,a4⟩,a5⟩
 have ho:=hp.ord
 refine sK ⟨a1,a2,by rw [Bq];exact a3,by rw [Bq,I6]⟩ (fun x hx=>?_) fun x hx=>?_
 ·rw [Bq] at hx
  have h1:=(a5 (R.length - 1 - x) (by omega)).1
  refine ⟨?_,?_,fun h0=>?_⟩
  ·rw [E7 hx];have:=h1.2.1;omega
  ·rw [E7 hx];have:=h1.1;omega
  ·rw [E7 hx,E7 (by omega)]
   have h2:=(a5 (R.length - 1 - (x - 1)) (by omega)).1.2.2 (by omega)
   rw [show R.length - 1 - (x - 1) - 1=R.length - 1 - x by omega] at h2
   omega
 ·rw [Bq] at hx
  rw [On hx]
  refine ⟨Y9,fun y hy=>?_⟩
  obtain ⟨f,h1,h2,rfl⟩:=opW_mem.1 hy
  obtain ⟨h3,h4⟩:=Ko hp (by omega) h2
  refine ⟨by omega,by omega,?_,fun z hz=>?_⟩
  ·rw [Int.toNat_natCast,E7 h1,E7 hx];omega
  ·rw [Int.toNat_natCast,On h1] at hz
   obtain ⟨g,g1,g2,rfl⟩:=opW_mem.1 hz
   exact opW_mem.2 ⟨g,g1,ho.trn (by omega) h2 g2,rfl⟩
theorem Kl (hp:IsPos r R B):A0 r (A0 r R)=R:=by
 refine List.ext_getElem (by rw [Bq,Bq]) fun e h1 h2=>?_
 have:=E7 (r:=r) (R:=A0 r R) (e:=e) (by rw [Bq];exact h2)
 rw [B6 _ e h1,Bq,E7 (by omega),show R.length - 1 - (R.length - 1 - e)=e by omega,B6 _ e h2] at this
 omega
theorem I7 (hp:IsPos r R B):Aw (Aw B R.length) R.length=B:=by
 have hlen:=hp.1.2.2.2
 refine List.ext_getElem (by rw [I6,hlen]) fun e h1 h2=>?_
 have he:e<R.length:=by omega
 have e1:(Aw (Aw B R.length) R.length)[e]=Gv (Aw B R.length) R.length e:=by
  rw [← On he]
  simp [h1]
 have e2:B[e]=B.getD e []:=by simp [h2]
 rw [e1,e2]
 refine aD Y9 (hp.rows.2 e) fun x=>?_
 rw [opW_mem]
 constructor
 ·rintro ⟨f,h3,h4,rfl⟩
  have:=(Kk (by omega)).1 h4
  rw [show R.length - 1 - (R.length - 1 - f)=f by omega,show R.length - 1 - (R.length - 1 - e)=e by omega] at this
  exact this.2
 ·intro hx
  obtain ⟨f,rfl,hf⟩:=Ot hp he hx
  have hlt:=(Ko hp he hf).1
  refine ⟨f,by omega,(Kk (by omega)).2 ⟨by omega,?_⟩,rfl⟩
  rw [show R.length - 1 - (R.length - 1 - f)=f by omega,show R.length - 1 - (R.length - 1 - e)=e by omega]
  exact hf
end
end
section
open Go.Gov Go.Fl
open Classical
def Fx (n:Nat)(f:List Int):List Int:=(f.map fun e=>(n:Int) - 1 - e).reverse
def Bx (n:Nat)(e:Int):Int:=if e<0 then -1 else (n:Int) - 1 - e
section
variable {r:Int} {R:List Int} {B:List (List Int)}
theorem Rs (n:Nat)(f:List Int):Fx n (Fx n f)=f:=by
 unfold Fx
 rw [List.map_reverse,List.reverse_reverse,List.map_map]
 refine Eq.trans (List.map_congr_left fun e _=>?_) (List.map_id f)
 simp only [Function.comp_apply,id_eq]
 omega
theorem Y6 (n:Nat)(f:List Int){k:Nat}(h:k<f.length):(Fx n f).getD k 0=(n:Int) - 1 - f.getD (f.length - 1 - k) 0:=by
 unfold Fx
 rw [B6 _ k (by simp [h]),List.getElem_reverse,List.getElem_map,B6 _ _ (by omega)]
 simp
theorem R1 (g:Nat→Nat)(t:List Nat){k:Nat}(h:k<t.length):((t.map g).reverse).getD k 0=g (t.getD (t.length - 1 - k) 0):=by
 have e1:((t.map g).reverse).getD k 0=((t.map g).reverse)[k]'(by simp [h]):=by simp [h]
 have e2:t.getD (t.length - 1 - k) 0=t[t.length - 1 - k]'(by omega):=by simp [show t.length - 1 - k<t.length by omega]
 rw [e1,List.getElem_reverse,List.getElem_map,e2]
 simp
theorem fE (hp:IsPos r R B){t:List Nat}(h:Pt r R B t):Pt r (A0 r R) (Aw B R.length) ((t.map fun e=>R.length - 1 - e).reverse):=by
 have hl:=h.len
 have hr:=hp.1.1
 refine ⟨by simpa using hl,fun k hk=>?_,fun k hk=>?_⟩
 ·have hk:k<t.length:=by simpa using hk
  have h1:=h.rk (t.length - 1 - k) (by omega)
  rw [R1 _ t hk,Bq]
  refine ⟨by omega,?_⟩
  rw [E7 (by omega),show R.length - 1 - (R.length - 1 - t.getD (t.length - 1 - k) 0)=t.getD (t.length - 1 - k) 0 by omega,h1.2]
  omega
 ·have hk:k+1<t.length:=by simpa using hk
  have h1:=h.rk (t.length - 1 - k) (by omega)
  have h2:=h.rk (t.length - 1 - (k+1)) (by omega)
  have h3:=h.up (t.length - 1 - (k+1)) (by omega)
  rw [show t.length - 1 - (k+1)+1=t.length - 1 - k by omega] at h3
  rw [R1 _ t hk,R1 _ t (show k<t.length by omega)]
  refine (Kk (by omega)).2 ⟨by omega,?_⟩
  rw [show R.length - 1 - (R.length - 1 - t.getD (t.length - 1 - (k+1)) 0)=t.getD (t.length - 1 - (k+1)) 0 by omega,show R.length - 1 - (R.length - 1 - t.getD (t.length - 1 - k) 0)=t.getD (t.length - 1 - k) 0 by omega]
  exact h3
theorem Oo (hp:IsPos r R B){f:List Int}(hf:f∈Ax r R B):Fx R.length f∈Ax r (A0 r R) (Aw B R.length):=by
 obtain ⟨t,rfl,h⟩:=(N7 hp.1.1).1 hf
 refine (N7 hp.1.1).2 ⟨_,?_,fE hp h⟩
 unfold Fx D4
 rw [List.map_reverse,List.map_map,List.map_map]
 congr 1
 refine List.map_congr_left fun e he=>?_
 obtain ⟨k,hk,rfl⟩:=List.mem_iff_getElem.1 he
 have:=(h.rk k hk).1
 rw [show t.getD k 0=t[k] by simp [hk]] at this
 simp only [Function.comp_apply]
 omega
theorem rM (hp:IsPos r R B){f:List Int}(hf:f∈Ax r (A0 r R) (Aw B R.length)):Fx R.length f∈Ax r R B:=by
 have h:=Oo (Ib hp) hf
 rwa [Kl hp,Bq,I7 hp] at h
theorem S6 (hp:IsPos r R B):(Ax r R B).length≤(Ax r (A0 r R) (Aw B R.length)).length:=by
 have hn:((Ax r R B).map (Fx R.length)).Nodup:=List.pairwise_map.2 (allF_nodup.imp fun {a b} hab e=>hab (by rw [← Rs R.length a,e,Rs]))
 have:=hn.length_le_of_subset fun x hx=>by
  obtain ⟨f,hf,rfl⟩:=List.mem_map.1 hx
  exact Oo hp hf
 simpa using this
theorem S8 (hp:IsPos r R B):(Ax r (A0 r R) (Aw B R.length)).length=(Ax r R B).length:=by
 have h1:=S6 hp
 have h2:=S6 (Ib hp)
 rw [Kl hp,Bq,I7 hp] at h2
 omega
theorem fZ (hp:IsPos r R B)(h:Jn R (Ax r R B)):Jn (A0 r R) (Ax r (A0 r R) (Aw B R.length)):=fun e he=>by
 rw [Bq] at he
 obtain ⟨f,hf,hm⟩:=h (R.length - 1 - e) (by omega)
 refine ⟨Fx R.length f,Oo hp hf,?_⟩
 unfold Fx
 rw [List.mem_reverse,List.mem_map]
 exact ⟨_,hm,by omega⟩
theorem eJ (hp:IsPos r R B){i e f:Int}(he:e<R.length)(hf:f<R.length){x:Nat}(hx:x<R.length):Mn (A0 r R) (Aw B R.length) i e f x ↔ Mn R B (r - 1 - i) (Bx R.length f) (Bx R.length e) (R.length - 1 - x):=by
 unfold Mn
 rw [E7 hx]
 have k1:(e<0∨e∈(Aw B R.length).getD x []) ↔ (Bx R.length e<0∨((R.length - 1 - x:Nat):Int)∈B.getD (Bx R.length e).toNat []):=by
  unfold Bx
  by_cases h:e<0
  ·simp [h]
  ·obtain ⟨y,rfl⟩:=Int.eq_ofNat_of_zero_le (by omega:0≤e)
   have:=Kk (B:=B) (f:=y) hx
   unfold Ab at this
   rw [if_neg h,show ((R.length:Int) - 1 - (y:Int)).toNat=R.length - 1 - y by omega]
   constructor
   ·rintro (h1 | h1)
    ·omega
    ·exact .inr (this.1 h1).2
   ·rintro (h1 | h1)
    ·omega
    ·exact .inr (this.2 ⟨by omega,h1⟩)
 have k2:(f<0∨(x:Int)∈(Aw B R.length).getD f.toNat []) ↔ (Bx R.length f<0∨Bx R.length f∈B.getD (R.length - 1 - x) []):=by
  unfold Bx
  by_cases h:f<0
  ·simp [h]
  ·obtain ⟨y,rfl⟩:=Int.eq_ofNat_of_zero_le (by omega:0≤f)
   have:=Kk (B:=B) (n:=R.length) (e:=y) (f:=x) (by omega)
   unfold Ab at this
   rw [if_neg h,Int.toNat_natCast,show ((R.length:Int) - 1 - (y:Int))=((R.length - 1 - y:Nat):Int) by omega]
   constructor
   ·rintro (h1 | h1)
    ·omega
    ·exact .inr (this.1 h1).2
   ·rintro (h1 | h1)
    ·omega
    ·exact .inr (this.2 ⟨hx,h1⟩)
 rw [k1,k2]
 constructor
 ·rintro ⟨h1,h2,h3⟩;exact ⟨by omega,h3,h2⟩
 ·rintro ⟨h1,h2,h3⟩;exact ⟨by omega,h3,h2⟩
theorem eI (i e f:Int)(n:Nat):(Fj R B i e f n).Nodup:=List.nodup_range.filter _
theorem Tn (hp:IsPos r R B){i e f:Int}(he:e<R.length)(hf:f<R.length):(Fj (A0 r R) (Aw B R.length) i e f R.length).length≤(Fj R B (r - 1 - i) (Bx R.length f) (Bx R.length e) R.length).length:=by
 have hm:∀ x∈Fj (A0 r R) (Aw B R.length) i e f R.length,x<R.length:=fun x hx=>List.mem_range.1 (List.mem_filter.1 hx).1
 have hn:((Fj (A0 r R) (Aw B R.length) i e f R.length).map fun x=>R.length - 1 - x).Nodup:=by
  refine List.pairwise_map.2 ((List.Pairwise.and_mem.1 (eI i e f R.length)).imp fun {a b} h e=>h.2.2 ?_)
  have:=hm a h.1
  have:=hm b h.2.1
  omega
 have:=hn.length_le_of_subset (l₂:=Fj R B (r - 1 - i) (Bx R.length f) (Bx R.length e) R.length) fun y hy=>by
  obtain ⟨x,hx,rfl⟩:=List.mem_map.1 hy
  obtain ⟨h1,h2⟩:=List.mem_filter.1 hx
  have h1:=List.mem_range.1 h1
  exact List.mem_filter.2 ⟨List.mem_range.2 (by omega),decide_eq_true ((eJ hp he hf h1).1 (of_decide_eq_true h2))⟩
 simpa using this
theorem Za {n:Nat}{e:Int}(h : -1≤e∧e<n):Bx n (Bx n e)=e:=by
 unfold Bx
 split<;>split<;>omega
theorem eH (hp:IsPos r R B){i e f:Int}(he : -1≤e∧e<R.length)(hf : -1≤f∧f<R.length):(Fj (A0 r R) (Aw B R.length) i e f R.length).length=(Fj R B (r - 1 - i) (Bx R.length f) (Bx R.length e) R.length).length:=by
 have h1:=Tn (i:=i) hp he.2 hf.2
 have z1:Bx R.length f<R.length:=by unfold Bx;split<;>omega
 have z2:Bx R.length e<R.length:=by unfold Bx;split<;>omega
 have h2:=Tn (i:=r - 1 - i) (e:=Bx R.length f) (f:=Bx R.length e) (Ib hp) (by rw [Bq];exact z1) (by rw [Bq];exact z2)
 rw [Kl hp,Bq,I7 hp,Za he,Za hf,show r - 1 - (r - 1 - i)=i by omega] at h2
 omega
theorem Qj (hp:IsPos r R B)(h:Fc r R B):Fc r (A0 r R) (Aw B R.length):=fun i h0 hi e f hE hF hc=>by
 have hr:=hp.1.1
 have he : -1≤e∧e<R.length:=by
  unfold Jq at hE
  rw [Bq] at hE
  split at hE<;>omega
 have hf : -1≤f∧f<R.length:=by
  unfold Jr at hF
  rw [Bq] at hF
  split at hF<;>omega
 rw [Bq,eH hp he hf]
 refine h (r - 1 - i) (by omega) (by omega) _ _ ?_ ?_ ?_
 ·unfold Jr at hF
  unfold Jq Bx
  rw [Bq] at hF
  by_cases q:i=r - 1
  ·rw [if_pos q] at hF
   rw [if_pos (by omega),if_pos (by omega)]
  ·rw [if_neg q] at hF
   obtain ⟨g1,g2,g3⟩:=hF
   rw [E7 (by omega),show R.length - 1 - f.toNat=((R.length:Int) - 1 - f).toNat by omega] at g3
   rw [if_neg (by omega),if_neg (by omega)]
   exact ⟨by omega,by omega,by omega⟩
 ·unfold Jq at hE
  unfold Jr Bx
  rw [Bq] at hE
  by_cases q:i=0
  ·rw [if_pos q] at hE
   rw [if_pos (by omega),if_pos (by omega)]
  ·rw [if_neg q] at hE
   obtain ⟨g1,g2,g3⟩:=hE
   rw [E7 (by omega),show R.length - 1 - e.toNat=((R.length:Int) - 1 - e).toNat by omega] at g3
   rw [if_neg (by omega),if_neg (by omega)]
   exact ⟨by omega,by omega,by omega⟩
 ·unfold Bx
  by_cases q1:e<0
  ·exact .inr (.inl (by rw [if_pos q1];omega))
  ·by_cases q2:f<0
   ·exact .inl (by rw [if_pos q2];omega)
   ·rw [if_neg q1,if_neg q2]
    rcases hc with hc | hc | hc
    ·omega
    ·omega
    ·obtain ⟨x,rfl⟩:=Int.eq_ofNat_of_zero_le (by omega:0≤e)
     obtain ⟨y,rfl⟩:=Int.eq_ofNat_of_zero_le (by omega:0≤f)
     have:=((Kk (B:=B) (n:=R.length) (e:=y) (f:=x) (by omega)).1 hc).2
     unfold Ab at this
     right;right
     rwa [show ((R.length:Int) - 1 - (y:Int))=((R.length - 1 - y:Nat):Int) by omega,show ((R.length:Int) - 1 - (x:Int)).toNat=R.length - 1 - x by omega]
theorem mA {m:Nat}{X X' : List (List Int)}(h:Fs m X)(h' : Fs m X')(P:List Int→List Int)(h1:∀ x∈X,P x∈X')(h2:∀ y∈X', ∃ x∈X,P x=y)(h3:∀ x∈X,∀ y∈X,∀ i,i<m→((P x).getD i 0=(P y).getD i 0 ↔ x.getD (m - 1 - i) 0=y.getD (m - 1 - i) 0))(hl:Il X):Il X' := by
 have hex:∀ u,u<X.length→∃ u', u' < X'.length∧Ah X' u' = P (Ah X u):=fun u hu=>by
  obtain ⟨k,hk,he⟩:=List.mem_iff_getElem.1 (h1 _ (Fz hu))
  exact ⟨k,hk,by unfold Ah at he ⊢;rw [← he];simp [hk]⟩
 have hba:∀ a', a' < X'.length→∃ a,a<X.length∧Ah X' a' = P (Ah X a):=fun a' ha=>by
  obtain ⟨x,hx,he⟩:=h2 _ (Fz ha)
  obtain ⟨k,hk,rfl⟩:=List.mem_iff_getElem.1 hx
  exact ⟨k,hk,by rw [← he];unfold Ah;simp [hk]⟩
 have hrt:∀ a b,a<X.length→b<X.length→Rt (Em X (Dr X a b)) a b:=fun a b ha hb=>by
  rcases Nat.lt_trichotomy a b with q | q | q
  ·exact hl a b q hb
  ·rw [q];exact .refl _
  ·have:=(hl b a q ha).symm fun x y e=>e.symm h
   rwa [show Dr X b a=Dr X a b from funext fun i=>by unfold Dr;exact decide_eq_decide.2 eq_comm] at this
 intro a' b' hlt hb'
 obtain ⟨a,ha,ea⟩:=hba a' (by omega)
 obtain ⟨b,hb,eb⟩:=hba b' hb'
 have key:∀ {u v:Nat},Rt (Em X (Dr X a b)) u v→u<X.length→∀ u', u' < X'.length→Ah X' u' = P (Ah X u)→∃ v', v<X.length∧v' < X'.length∧Ah X' v' = P (Ah X v)∧Rt (Em X' (Dr X' a' b')) u' v' := fun {u v} k=>by
  induction k with
  | refl=>exact fun hu u' hu' eu=>⟨u', hu,hu', eu,.refl _⟩
  | step _ e ih=>
   rename_i v w _
   intro hu u' hu' eu
   obtain ⟨v', hv,hv', ev,hr⟩:=ih hu u' hu' eu
   obtain ⟨_,hw,i,e1,e2,e3,e4⟩:=e
   obtain ⟨w', hw', ew⟩:=hex w hw
   have hvl:=h.at_len hv
   rw [hvl] at e2
   refine ⟨w', hw,hw', ew,.step hr ⟨hv', hw', m - 1 - i,?_,?_,?_,?_⟩⟩
   ·have q:=h3 _ (Fz ha) _ (Fz hb) (m - 1 - i) (by omega)
    rw [show m - 1 - (m - 1 - i)=i by omega] at q
    unfold Dr at e1 ⊢
    rw [ea,eb]
    exact decide_eq_false fun z=>(of_decide_eq_false e1) (q.1 z)
   ·rw [h'.at_len hv'];omega
   ·have q:=h3 _ (Fz hv) _ (Fz hw) (m - 1 - i) (by omega)
    rw [show m - 1 - (m - 1 - i)=i by omega] at q
    rw [ev,ew]
    exact fun z=>e3 (q.1 z)
   ·intro j hj hn
    rw [h'.at_len hv'] at hj
    rw [ev,ew]
    exact (h3 _ (Fz hv) _ (Fz hw) j hj).2 (e4 (m - 1 - j) (by rw [hvl];omega) (by omega))
 obtain ⟨v', _,hv', ev,hr⟩:=key (hrt a b ha hb) ha a' (by omega) ea
 have hvb:=h'.inj hv' hb' (by rw [ev,eb])
 rw [hvb] at hr
 exact hr
theorem mB (hp:IsPos r R B)(h:Il (Ax r R B)):Il (Ax r (A0 r R) (Aw B R.length)):=by
 have hr:=hp.1.1
 have hF:=Pz (r:=r) (R:=R) (B:=B) hr
 refine mA hF (Pz hr) (Fx R.length) (fun x hx=>Oo hp hx) (fun y hy=>⟨_,rM hp hy,Rs _ _⟩) (fun x hx y hy i hi=>?_) h
 have hx:=hF.len x hx
 have hy:=hF.len y hy
 rw [Y6 _ x (by omega),Y6 _ y (by omega),hx,hy]
 omega
end
end
end Go.Proofs.YtfofabbkigonpaaDoor
