/- Texts that belong together. -/
import Derived.KernelRfl
import Derived.Lib.ItoaNum
import Derived.Lib.ItoaMem
set_option linter.unusedSimpArgs false
set_option linter.unusedVariables false
set_option maxRecDepth 100000
namespace Go.Fl
section
open Classical
inductive Rt (E:Nat→Nat→Prop):Nat→Nat→Prop
 | refl (x:Nat):Rt E x x
 | step {x y z:Nat} (h:Rt E x y) (e:E y z):Rt E x z
theorem Rt.one {E:Nat→Nat→Prop}{x y:Nat}(e:E x y):Rt E x y:=.step (.refl x) e
theorem Rt.trans {E:Nat→Nat→Prop}{x y z:Nat}(h:Rt E x y)(k:Rt E y z):Rt E x z:=by
 induction k with
 | refl=>exact h
 | step _ e ih=>exact .step ih e
theorem Rt.symm {E:Nat→Nat→Prop}(hE:∀ x y,E x y→E y x){x y:Nat}(h:Rt E x y):Rt E y x:=by
 induction h with
 | refl=>exact .refl _
 | step _ e ih=>exact (Rt.one (hE _ _ e)).trans ih
theorem Rt.keep {E E' : Nat→Nat→Prop}{Q:Nat→Prop}(h:∀ x y,Q x→E x y→Q y∧(x=y∨E' x y)){x y:Nat}(hx:Q x)(k:Rt E x y):Q y∧Rt E' x y:=by
 induction k with
 | refl=>exact ⟨hx,.refl _⟩
 | step _ e ih=>
  obtain ⟨h1,h2⟩:=ih
  obtain ⟨h3,h4⟩:=h _ _ h1 e
  refine ⟨h3,?_⟩
  rcases h4 with rfl | h4
  ·exact h2
  ·exact .step h2 h4
noncomputable def A9 (E:Nat→Nat→Prop)(x:Nat):Nat:=((List.range (x+1)).find? fun y=>decide (Rt E y x)).getD x
theorem Gs (E:Nat→Nat→Prop)(x:Nat):A9 E x≤x∧Rt E (A9 E x) x∧∀ z,z<A9 E x→¬ Rt E z x:=by
 unfold A9
 cases h:(List.range (x+1)).find? fun y=>decide (Rt E y x) with
 | none=>
  have:=List.find?_eq_none.1 h x (List.mem_range.2 (by omega))
  exact absurd (Rt.refl x) (by simpa using this)
 | some y=>
  rw [Option.getD_some]
  have h1:=List.find?_some h
  have h2:=List.mem_range.1 (List.mem_of_find?_eq_some h)
  refine ⟨by omega,by simpa using h1,fun z hz hr=>?_⟩
  obtain ⟨_,i,hi,h3,h4⟩:=List.find?_eq_some_iff_getElem.1 h
  rw [List.getElem_range] at h3
  subst h3
  have:=h4 z hz
  rw [List.getElem_range] at this
  simp [hr] at this
variable {E:Nat→Nat→Prop}
theorem Kb (hE:∀ x y,E x y→E y x){x y:Nat}(h:Rt E x y):A9 E x=A9 E y:=by
 obtain ⟨_,a2,a3⟩:=Gs E x
 obtain ⟨_,b2,b3⟩:=Gs E y
 rcases Nat.lt_trichotomy (A9 E x) (A9 E y) with h1 | h1 | h1
 ·exact absurd (a2.trans h) (b3 _ h1)
 ·exact h1
 ·exact absurd (b2.trans (h.symm hE)) (a3 _ h1)
theorem mE (hE:∀ x y,E x y→E y x){x y:Nat}:A9 E x=A9 E y ↔ Rt E x y:=by
 refine ⟨fun h=>?_,Kb hE⟩
 obtain ⟨_,a2,_⟩:=Gs E x
 obtain ⟨_,b2,_⟩:=Gs E y
 exact (a2.symm hE).trans (h ▸ b2)
theorem mF (hE:∀ x y,E x y→E y x)(x:Nat):A9 E (A9 E x)=A9 E x:=Kb hE (Gs E x).2.1
noncomputable def Bl (E:Nat→Nat→Prop)(D:Nat→Prop)(n i:Nat)(V:List Nat):List Int:=(List.range n).map fun j=>if D j∧A9 E j<i then ((A9 E j:Nat):Int) else if j∈V then (i:Int) else -1
theorem Xu (D:Nat→Prop)(n i:Nat)(V:List Nat):(Bl E D n i V).length=n:=by simp [Bl]
theorem Xs {D:Nat→Prop}{n i:Nat}{V:List Nat}{j:Nat}(hj:j<n):(Bl E D n i V).getD j 0=if D j∧A9 E j<i then ((A9 E j:Nat):Int) else if j∈V then (i:Int) else -1:=by
 simp [Bl,hj]
theorem lQ (D:Nat→Prop)(n:Nat):Bl E D n 0 []=List.replicate n (-1):=by
 refine List.ext_getElem (by simp [Bl]) fun j h1 h2=>?_
 simp [Bl]
theorem Xw {D:Nat→Prop}{n i:Nat}{V:List Nat}{j:Nat}(hf:¬ (D j∧A9 E j<i)):(Bl E D n i V).set j (i:Int)=Bl E D n i (V++[j]):=by
 refine List.ext_getElem (by simp [Bl]) fun k h1 h2=>?_
 rw [List.getElem_set]
 simp only [Bl,List.getElem_map,List.getElem_range,List.mem_append,List.mem_singleton]
 by_cases e:j=k
 ·subst e
  rw [if_pos rfl,if_neg hf,if_pos (.inr rfl)]
 ·rw [if_neg e]
  have e2:¬ k=j:=fun h=>e h.symm
  simp [e2]
theorem Xx {D:Nat→Prop}{n i:Nat}(hE:∀ x y,E x y→E y x)(h:¬ D i∨A9 E i<i)(hD:∀ x y,D x→E x y→D y):Bl E D n i []=Bl E D n (i+1) []:=by
 refine List.ext_getElem (by simp [Bl]) fun k h1 h2=>?_
 simp only [Bl,List.getElem_map,List.getElem_range,List.not_mem_nil,if_false]
 by_cases hk:D k∧A9 E k<i
 ·rw [if_pos hk,if_pos ⟨hk.1,by omega⟩]
 ·rw [if_neg hk,if_neg]
  rintro ⟨hd,hlt⟩
  have e:A9 E k=i:=by
   have:¬ A9 E k<i:=fun h=>hk ⟨hd,h⟩
   omega
  have h3:=(Gs E k).2.1
  rw [e] at h3
  have hdi:D i:=((h3.symm hE).keep (Q:=D) (E' := E) (fun x y hx he=>⟨hD x y hx he,.inr he⟩) hd).1
  rcases h with h | h
  ·exact h hdi
  ·have:=mF hE k
   rw [e] at this
   omega
theorem lO {D:Nat→Prop}{n i:Nat}{V:List Nat}(hE:∀ x y,E x y→E y x)(h:A9 E i=i)(hdi:D i)(hD:∀ x y,D x→E x y→D y)(hV:∀ j,j∈V ↔ Rt E i j):Bl E D n i V=Bl E D n (i+1) []:=by
 refine List.ext_getElem (by simp [Bl]) fun k h1 h2=>?_
 simp only [Bl,List.getElem_map,List.getElem_range,List.not_mem_nil,if_false]
 by_cases hk:D k∧A9 E k<i
 ·rw [if_pos hk,if_pos ⟨hk.1,by omega⟩]
 ·rw [if_neg hk]
  by_cases hv:k∈V
  ·have hr:=(hV k).1 hv
   have e:=Kb hE hr
   rw [h] at e
   have hdk:D k:=(hr.keep (Q:=D) (E' := E) (fun x y hx he=>⟨hD x y hx he,.inr he⟩) hdi).1
   rw [if_pos hv,if_pos ⟨hdk,by omega⟩,← e]
  ·rw [if_neg hv,if_neg]
   rintro ⟨hd,hlt⟩
   refine hv ((hV k).2 ?_)
   have e:A9 E k=i:=by
    have:¬ A9 E k<i:=fun h=>hk ⟨hd,h⟩
    omega
   exact e ▸ (Gs E k).2.1
theorem Xv {D:Nat→Prop}{n i:Nat}{V:List Nat}{j:Nat}(hj:j<n):(Bl E D n i V).getD j 0<0 ↔ ¬ (D j∧A9 E j<i)∧j∉V:=by
 rw [Xs hj]
 by_cases h1:D j∧A9 E j<i
 ·rw [if_pos h1];simp [h1]
 ·rw [if_neg h1]
  by_cases h2:j∈V
  ·rw [if_pos h2];simp [h2]
  ·rw [if_neg h2];simp [h1,h2]
theorem lP {D:Nat→Prop}{n i:Nat}(hi:i<n)(hd:D i):(Bl E D n i []).getD i 0<0 ↔ A9 E i=i:=by
 rw [Xv hi]
 have:=(Gs E i).1
 simp [hd]
 omega
theorem Xt {D:Nat→Prop}(n:Nat){j:Nat}(hj:j<n)(hd:D j):(Bl E D n n []).getD j 0=(A9 E j:Nat):=by
 rw [Xs hj,if_pos ⟨hd,by have:=(Gs E j).1;omega⟩]
structure FI (E:Nat→Nat→Prop) (n i:Nat) (V:List Nat) (Pd:Nat→Nat→Prop):Prop where
 nd:V.Nodup
 has:i∈V
 ok:∀ x∈V,x<n∧Rt E i x
 cl:∀ z∈V,∀ y,E z y→y∈V∨Pd z y
theorem FI.start {n i:Nat}(hi:i<n){Pd:Nat→Nat→Prop}(h:∀ y,E i y→Pd i y):FI E n i [i] Pd:=
 ⟨by simp,by simp,fun x hx=>by rw [List.mem_singleton.1 hx];exact ⟨hi,.refl _⟩,fun z hz y he=>by obtain rfl:=List.mem_singleton.1 hz;exact .inr (h y he)⟩
theorem FI.mono {n i:Nat}{V:List Nat}{Pd Pd' : Nat→Nat→Prop}(h:FI E n i V Pd)(hp:∀ z∈V,∀ y,E z y→Pd z y→y∈V∨Pd' z y):FI E n i V Pd' :=
 ⟨h.nd,h.has,h.ok,fun z hz y he=>(h.cl z hz y he).elim .inl (hp z hz y he)⟩
theorem FI.add {n i : Nat} {V : List Nat} {Pd Pd' : Nat → Nat → Prop} (h : FI E n i V Pd) {x y : Nat} (hx : x ∈ V) (he : E x y) (hy : y < n) (hn : y ∉ V)
    (hp:∀ z∈V,∀ u,E z u→Pd z u→u∈V++[y]∨Pd' z u) (hq:∀ u,E y u→u∈V++[y]∨Pd' y u):FI E n i (V++[y]) Pd' :=
 ⟨List.nodup_append.2 ⟨h.nd,by simp,fun a ha b hb e=>by obtain rfl:=List.mem_singleton.1 hb;exact hn (e ▸ ha)⟩,by simp [h.has],
  fun z hz=>(List.mem_append.1 hz).elim (h.ok z) fun hz=>by obtain rfl:=List.mem_singleton.1 hz;exact ⟨hy,.step (h.ok x hx).2 he⟩,
  fun z hz u hu=>(List.mem_append.1 hz).elim (fun hz=>(h.cl z hz u hu).elim (fun hm=>.inl (by simp [hm])) (hp z hz u hu)) fun hz=>by obtain rfl:=List.mem_singleton.1 hz;exact hq u hu⟩
theorem FI.done {n i:Nat}{V:List Nat}{Pd:Nat→Nat→Prop}(h:FI E n i V Pd)(hp:∀ z∈V,∀ y,E z y→Pd z y→y∈V):∀ j,j∈V ↔ Rt E i j:=fun j=>by
 refine ⟨fun hj=>(h.ok j hj).2,fun hr=>?_⟩
 induction hr with
 | refl=>exact h.has
 | step _ e ih=>exact (h.cl _ ih _ e).elim id (hp _ ih _ e)
theorem Gu:∀ {n:Nat} {V:List Nat},V.Nodup→(∀ x∈V,x<n)→V.length≤n
 | 0,V,_,hV=>by
  cases V with
  | nil=>simp
  | cons x V=>have:=hV x (by simp);omega
 | n+1,V,hn,hV=>by
  have h1:=Gu (n:=n) (V:=V.erase n) (hn.erase n) fun x hx=>by
   have:=(hn.mem_erase_iff).1 hx
   have:=hV x this.2
   omega
  rw [List.length_erase] at h1
  split at h1<;>omega
theorem FI.len {n i:Nat}{V:List Nat}{Pd:Nat→Nat→Prop}(h:FI E n i V Pd):V.length≤n:=Gu h.nd fun x hx=>(h.ok x hx).1
end
section
open Classical
def Adj (a b:List Int)(i:Nat):Prop:=i<a.length∧a.getD i 0≠b.getD i 0∧∀ j,j<a.length→j≠i→a.getD j 0=b.getD j 0
theorem Adj.symm {a b:List Int}{i:Nat}(hl:a.length=b.length)(h:Adj a b i):Adj b a i:=
 ⟨by have:=h.1;omega,fun e=>h.2.1 e.symm,fun j hj hn=>(h.2.2 j (by omega) hn).symm⟩
structure Fs (r:Nat) (X:List (List Int)):Prop where
 len:∀ x∈X,x.length=r
 nd:X.Nodup
 nn:∀ x∈X,∀ e∈x,0≤e
abbrev Ah (X:List (List Int))(a:Nat):List Int:=X.getD a []
theorem Fz {X:List (List Int)}{a:Nat}(h:a<X.length):Ah X a∈X:=by
 unfold Ah
 rw [List.getD_eq_getElem?_getD,List.getElem?_eq_getElem h]
 exact List.getElem_mem h
theorem J3 {r:Nat}{a b:List Int}(ha:a.length=r)(hb:b.length=r)(h:∀ j,j<r→a.getD j 0=b.getD j 0):a=b:=by
 refine List.ext_getElem (by omega) fun j h1 h2=>?_
 have:=h j (by omega)
 simpa [h1,h2] using this
theorem Fs.inj {r:Nat}{X:List (List Int)}(h:Fs r X){a b:Nat}(ha:a<X.length)(hb:b<X.length)(e:Ah X a=Ah X b):a=b:=by
 unfold Ah at e
 rw [List.getD_eq_getElem?_getD,List.getD_eq_getElem?_getD,List.getElem?_eq_getElem ha,List.getElem?_eq_getElem hb] at e
 exact (List.getElem_inj h.nd).1 e
theorem Fs.at_len {r:Nat}{X:List (List Int)}(h:Fs r X){a:Nat}(ha:a<X.length):(Ah X a).length=r:=h.len _ (Fz ha)
theorem Fs.at_nn {r:Nat}{X:List (List Int)}(h:Fs r X){a:Nat}(ha:a<X.length)(j:Nat)(hj:j<r):0≤(Ah X a).getD j 0:=by
 have h1:=h.at_len ha
 have:(Ah X a).getD j 0∈Ah X a:=by
  rw [List.getD_eq_getElem?_getD,List.getElem?_eq_getElem (by omega)]
  exact List.getElem_mem _
 exact h.nn _ (Fz ha) _ this
def Em (X:List (List Int))(m:Nat→Bool)(a b:Nat):Prop:=a<X.length∧b<X.length∧∃ i,m i=false∧Adj (Ah X a) (Ah X b) i
theorem Em.symm {r:Nat}{X:List (List Int)}(h:Fs r X){m:Nat→Bool}(a b:Nat)(e:Em X m a b):Em X m b a:=by
 obtain ⟨h1,h2,i,h3,h4⟩:=e
 exact ⟨h2,h1,i,h3,h4.symm (by rw [h.at_len h1,h.at_len h2])⟩
def Dr (X:List (List Int))(a b:Nat)(i:Nat):Bool:=decide ((Ah X a).getD i 0=(Ah X b).getD i 0)
def Il (X:List (List Int)):Prop:=∀ a b,a<b→b<X.length→Rt (Em X (Dr X a b)) a b
def Bm (c x:List Int):Prop:=∀ i,i<c.length→c.getD i 0 = -1∨c.getD i 0=x.getD i 0
def Ec (X:List (List Int))(c:List Int)(a b:Nat):Prop:=a<X.length∧b<X.length∧Bm c (Ah X a)∧Bm c (Ah X b)∧∃ i,i<c.length∧∀ j,j<c.length→j≠i→(Ah X a).getD j 0=(Ah X b).getD j 0
theorem Ec.symm {X:List (List Int)}{c:List Int}(a b:Nat)(e:Ec X c a b):Ec X c b a:=by
 obtain ⟨h1,h2,h3,h4,i,h5,h6⟩:=e
 exact ⟨h2,h1,h4,h3,i,h5,fun j hj hn=>(h6 j hj hn).symm⟩
def Be (a b:List Int):List Int:=(List.range a.length).map fun i=>if a.getD i 0=b.getD i 0 then a.getD i 0 else -1
theorem G7 (a b:List Int):(Be a b).length=a.length:=by simp [Be]
theorem Is {a b:List Int}{i:Nat}(h:i<a.length):(Be a b).getD i 0=if a.getD i 0=b.getD i 0 then a.getD i 0 else -1:=by simp [Be,h]
theorem has_eq {c x:List Int}:Be c x=c ↔ Bm c x:=by
 constructor
 ·intro h i hi
  have:=congrArg (fun l=>l.getD i 0) h
  rw [Is hi] at this
  split at this
  ·rename_i e;exact .inr e
  ·exact .inl this.symm
 ·intro h
  refine List.ext_getElem (G7 _ _) fun i h1 h2=>?_
  have h3:=Is (b:=x) h2
  rw [List.getD_eq_getElem?_getD,List.getElem?_eq_getElem h1] at h3
  rw [Option.getD_some] at h3
  rw [h3]
  have h4:=h i h2
  rw [List.getD_eq_getElem?_getD,List.getElem?_eq_getElem h2,Option.getD_some] at h4 ⊢
  split
  ·rfl
  ·rename_i hne
   rcases h4 with h4 | h4
   ·exact h4.symm
   ·exact absurd h4 hne
theorem lZ {r : Nat} {X : List (List Int)} (h : Fs r X) {a b : Nat} (ha : a < X.length) (hb : b < X.length) :
    Rt (Ec X (Be (Ah X a) (Ah X b))) a b ↔ Rt (Em X (Dr X a b)) a b:=by
 have hla:=h.at_len ha
 have hlb:=h.at_len hb
 have hc:(Be (Ah X a) (Ah X b)).length=r:=by rw [G7,hla]
 have hcat:∀ i,i<r→(Be (Ah X a) (Ah X b)).getD i 0=if Dr X a b i=true then (Ah X a).getD i 0 else -1:=fun i hi=>by
  rw [Is (by omega)]
  simp [Dr]
 have hHa:Bm (Be (Ah X a) (Ah X b)) (Ah X a):=fun i hi=>by
  rw [hcat i (by omega)]
  split
  ·exact .inr rfl
  ·exact .inl rfl
 have hfix:∀ {u:Nat},u<X.length→Bm (Be (Ah X a) (Ah X b)) (Ah X u)→∀ i,i<r→Dr X a b i=true→(Ah X u).getD i 0=(Ah X a).getD i 0:=fun {u} hu hh i hi hm=>by
  have h1:=hh i (by omega)
  have h2:=h.at_nn ha i hi
  rw [hcat i hi,if_pos hm] at h1
  rcases h1 with h1 | h1
  ·omega
  ·exact h1.symm
 constructor
 ·intro k
  refine (k.keep (Q:=fun u=>u<X.length∧Bm (Be (Ah X a) (Ah X b)) (Ah X u)) (fun u w hu e=>?_) ⟨ha,hHa⟩).2
  obtain ⟨h1,h2,h3,h4,i,h5,h6⟩:=e
  refine ⟨⟨h2,h4⟩,?_⟩
  by_cases e:(Ah X u).getD i 0=(Ah X w).getD i 0
  ·exact .inl (h.inj h1 h2 (J3 (h.at_len h1) (h.at_len h2) fun j hj => by
     by_cases e2:j=i
     ·rw [e2,e]
     ·exact h6 j (by omega) e2))
  ·refine .inr ⟨h1,h2,i,?_,by rw [h.at_len h1];omega,e,fun j hj hn=>h6 j (by rw [h.at_len h1] at hj;omega) hn⟩
   cases hm:Dr X a b i with
   | false=>rfl
   | true=>
    have e1:=hfix h1 h3 i (by omega) hm
    have e2:=hfix h2 h4 i (by omega) hm
    exact absurd (e1.trans e2.symm) e
 ·intro k
  refine (k.keep (Q:=fun u=>u<X.length∧Bm (Be (Ah X a) (Ah X b)) (Ah X u)) (fun u w hu e=>?_) ⟨ha,hHa⟩).2
  obtain ⟨h1,h2,i,h3,h4⟩:=e
  have hw:Bm (Be (Ah X a) (Ah X b)) (Ah X w):=fun j hj=>by
   by_cases e:j=i
   ·subst e
    rw [hcat j (by omega),h3]
    simp
   ·have h5:=hu.2 j hj
    rw [h4.2.2 j (by rw [h.at_len h1];omega) e] at h5
    exact h5
  exact ⟨⟨h2,hw⟩,.inr ⟨h1,h2,hu.2,hw,i,by have:=h4.1;rw [h.at_len h1] at this;omega,fun j hj hn=>h4.2.2 j (by rw [h.at_len h1];omega) hn⟩⟩
end
end Go.Fl
namespace Go.Kz
open Go.Lib
def Lo (l:List UInt8):Nat:=l.foldl (fun a b=>a*10+(b.toNat - 48)) 0
theorem Pc {k:Nat}(h:k<10):(UInt8.ofNat (48+k)).toNat=48+k:=by
 show (48+k)%256=48+k
 omega
theorem Lp:∀ u:Nat,Lo (decDigits u)=u:=fun u=>by
 rw [decDigits]
 by_cases h:u<10
 ·rw [dif_pos h]
  simp only [Lo,List.foldl_cons,List.foldl_nil]
  rw [Pc h]
  omega
 ·rw [dif_neg h]
  have ih:=Lp (u / 10)
  unfold Lo at ih ⊢
  rw [List.foldl_append,ih]
  simp only [List.foldl_cons,List.foldl_nil]
  rw [Pc (by omega)]
  omega
termination_by u=>u
decreasing_by omega
theorem Lj:∀ u:Nat,∀ b∈decDigits u,48≤b.toNat∧b.toNat≤57:=fun u=>by
 rw [decDigits]
 by_cases h:u<10
 ·rw [dif_pos h]
  intro b hb
  rw [List.mem_singleton.1 hb,Pc h]
  omega
 ·rw [dif_neg h]
  intro b hb
  rcases List.mem_append.1 hb with hb | hb
  ·exact Lj (u / 10) b hb
  ·rw [List.mem_singleton.1 hb,Pc (by omega)]
   omega
termination_by u=>u
decreasing_by omega
theorem jY {m n:Int}(h:itoa m=itoa n):m=n:=by
 by_cases h1:m<0<;>by_cases h2:n<0
 ·obtain ⟨a,rfl⟩:∃ a:Nat,m = -(a:Int):=⟨m.natAbs,by omega⟩
  obtain ⟨b,rfl⟩:∃ b:Nat,n = -(b:Int):=⟨n.natAbs,by omega⟩
  rw [itoa_neg a (by omega),itoa_neg b (by omega)] at h
  have:=congrArg Lo (List.cons.inj h).2
  rw [Lp,Lp] at this
  omega
 ·obtain ⟨a,rfl⟩:∃ a:Nat,m = -(a:Int):=⟨m.natAbs,by omega⟩
  obtain ⟨b,rfl⟩:∃ b:Nat,n=(b:Int):=⟨n.natAbs,by omega⟩
  rw [itoa_neg a (by omega),itoa_nonneg b] at h
  have:=Lj b 45 (by rw [← h];simp)
  exact absurd this (by decide)
 ·obtain ⟨a,rfl⟩:∃ a:Nat,m=(a:Int):=⟨m.natAbs,by omega⟩
  obtain ⟨b,rfl⟩:∃ b:Nat,n = -(b:Int):=⟨n.natAbs,by omega⟩
  rw [itoa_neg b (by omega),itoa_nonneg a] at h
  have:=Lj a 45 (by rw [h];simp)
  exact absurd this (by decide)
 ·obtain ⟨a,rfl⟩:∃ a:Nat,m=(a:Int):=⟨m.natAbs,by omega⟩
  obtain ⟨b,rfl⟩:∃ b:Nat,n=(b:Int):=⟨n.natAbs,by omega⟩
  rw [itoa_nonneg a,itoa_nonneg b] at h
  have:=congrArg Lo h
  rw [Lp,Lp] at this
  omega
theorem W5 (n:Int):(32:UInt8)∉itoa n:=by
 by_cases h1:n<0
 ·obtain ⟨a,rfl⟩:∃ a:Nat,n = -(a:Int):=⟨n.natAbs,by omega⟩
  rw [itoa_neg a (by omega)]
  intro hm
  rcases List.mem_cons.1 hm with h | h
  ·exact absurd h (by decide)
  ·exact absurd (Lj a 32 h) (by decide)
 ·obtain ⟨a,rfl⟩:∃ a:Nat,n=(a:Int):=⟨n.natAbs,by omega⟩
  rw [itoa_nonneg a]
  exact fun hm=>absurd (Lj a 32 hm) (by decide)
theorem cut {A A' B B' : List UInt8}(hA:(32:UInt8)∉A)(hA' : (32:UInt8)∉A')(h:A++32 :: B=A' ++ 32 :: B'):A=A' ∧ B=B' := by
 induction A generalizing A' with
 | nil=>
  cases A' with
  | nil=>exact ⟨rfl,by simpa using h⟩
  | cons a A' =>
   rw [List.nil_append,List.cons_append,List.cons.injEq] at h
   exact absurd (by rw [h.1];exact List.mem_cons_self) hA'
 | cons a A ih=>
  cases A' with
  | nil=>
   rw [List.nil_append,List.cons_append,List.cons.injEq] at h
   exact absurd (by rw [← h.1];exact List.mem_cons_self) hA
  | cons a' A' =>
   rw [List.cons_append,List.cons_append,List.cons.injEq] at h
   obtain ⟨h1,h2⟩:=ih (fun hm=>hA (List.mem_cons_of_mem _ hm)) (fun hm=>hA' (List.mem_cons_of_mem _ hm)) h.2
   exact ⟨by rw [h.1,h1],h2⟩
def B9 (xs:List Int):List UInt8:=xs.flatMap fun n=>itoa n++[32]
theorem Nz (x:Int)(xs:List Int):B9 (x :: xs)=itoa x++32 :: B9 xs:=by simp [B9]
theorem W8:∀ {p q:List Int},B9 p=B9 q→p=q
 | [],[],_=>rfl
 | [],y :: q,h=>by rw [Nz] at h;simp [B9] at h
 | x :: p,[],h=>by rw [Nz] at h;simp [B9] at h
 | x :: p,y :: q,h=>by
  rw [Nz,Nz] at h
  obtain ⟨h1,h2⟩:=cut (W5 x) (W5 y) h
  rw [jY h1,W8 h2]
theorem W9 (xs:List Int)(i:Nat)(h:i<xs.length):B9 (xs.take (i+1))=B9 (xs.take i)++itoa (xs.getD i 0)++[32]:=by
 unfold B9
 rw [List.take_succ_eq_append_getElem h,List.flatMap_append]
 simp [h]
def kZ (p:List Int):ByteArray:=⟨(B9 p).toArray⟩
theorem W6 {p q:List Int}(h:kZ p=kZ q):p=q:=by
 refine W8 ?_
 have:(B9 p).toArray=(B9 q).toArray:=congrArg ByteArray.data h
 simpa using congrArg Array.toList this
end Go.Kz
