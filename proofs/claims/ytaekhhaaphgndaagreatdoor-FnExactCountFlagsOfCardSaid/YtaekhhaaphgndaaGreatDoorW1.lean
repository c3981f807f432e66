/- Texts that belong together. -/
import Derived.KernelRfl
import Derived.Lib.ItoaNum
import Derived.Lib.ItoaMem
set_option linter.unusedSimpArgs false
set_option linter.unusedVariables false
set_option maxRecDepth 100000
namespace Go.Fl
section
open Classical
inductive Rt (E:Nat→Nat→Prop):Nat→Nat→Prop
 | refl (x:Nat):Rt E x x
 | step {x y z:Nat} (h:Rt E x y) (e:E y z):Rt E x z
theorem Rt.one {E:Nat→Nat→Prop}{x y:Nat}(e:E x y):Rt E x y:=.step (.refl x) e
theorem Rt.trans {E:Nat→Nat→Prop}{x y z:Nat}(h:Rt E x y)(k:Rt E y z):Rt E x z:=by
 induction k with
 | refl=>exact h
 | step _ e ih=>exact .step ih e
theorem Rt.symm {E:Nat→Nat→Prop}(hE:∀ x y,E x y→E y x){x y:Nat}(h:Rt E x y):Rt E y x:=by
 induction h with
 | refl=>exact .refl _
 | step _ e ih=>exact (Rt.one (hE _ _ e)).trans ih
theorem Rt.mono {E E' : Nat→Nat→Prop}(h:∀ x y,E x y→E' x y){x y:Nat}(k:Rt E x y):Rt E' x y:=by
 induction k with
 | refl=>exact .refl _
 | step _ e ih=>exact .step ih (h _ _ e)
theorem Rt.keep {E E' : Nat→Nat→Prop}{Q:Nat→Prop}(h:∀ x y,Q x→E x y→Q y∧(x=y∨E' x y)){x y:Nat}(hx:Q x)(k:Rt E x y):Q y∧Rt E' x y:=by
 induction k with
 | refl=>exact ⟨hx,.refl _⟩
 | step _ e ih=>
  obtain ⟨h1,h2⟩:=ih
  obtain ⟨h3,h4⟩:=h _ _ h1 e
  refine ⟨h3,?_⟩
  rcases h4 with rfl | h4
  ·exact h2
  ·exact .step h2 h4
noncomputable def lst (E:Nat→Nat→Prop)(x:Nat):Nat:=((List.range (x+1)).find? fun y=>decide (Rt E y x)).getD x
theorem lst_spec (E:Nat→Nat→Prop)(x:Nat):lst E x≤x∧Rt E (lst E x) x∧∀ z,z<lst E x→¬ Rt E z x:=by
 unfold lst
 cases h:(List.range (x+1)).find? fun y=>decide (Rt E y x) with
 | none=>
  have:=List.find?_eq_none.1 h x (List.mem_range.2 (by omega))
  exact absurd (Rt.refl x) (by simpa using this)
 | some y=>
  rw [Option.getD_some]
  have h1:=List.find?_some h
  have h2:=List.mem_range.1 (List.mem_of_find?_eq_some h)
  refine ⟨by omega,by simpa using h1,fun z hz hr=>?_⟩
  obtain ⟨_,i,hi,h3,h4⟩:=List.find?_eq_some_iff_getElem.1 h
  rw [List.getElem_range] at h3
  subst h3
  have:=h4 z hz
  rw [List.getElem_range] at this
  simp [hr] at this
variable {E:Nat→Nat→Prop}
theorem lst_eq (hE:∀ x y,E x y→E y x){x y:Nat}(h:Rt E x y):lst E x=lst E y:=by
 obtain ⟨_,a2,a3⟩:=lst_spec E x
 obtain ⟨_,b2,b3⟩:=lst_spec E y
 rcases Nat.lt_trichotomy (lst E x) (lst E y) with h1 | h1 | h1
 ·exact absurd (a2.trans h) (b3 _ h1)
 ·exact h1
 ·exact absurd (b2.trans (h.symm hE)) (a3 _ h1)
theorem lst_iff (hE:∀ x y,E x y→E y x){x y:Nat}:lst E x=lst E y ↔ Rt E x y:=by
 refine ⟨fun h=>?_,lst_eq hE⟩
 obtain ⟨_,a2,_⟩:=lst_spec E x
 obtain ⟨_,b2,_⟩:=lst_spec E y
 exact (a2.symm hE).trans (h ▸ b2)
theorem lst_lst (hE:∀ x y,E x y→E y x)(x:Nat):lst E (lst E x)=lst E x:=lst_eq hE (lst_spec E x).2.1
noncomputable def lbl (E:Nat→Nat→Prop)(D:Nat→Prop)(n i:Nat)(V:List Nat):List Int:=(List.range n).map fun j=>if D j∧lst E j<i then ((lst E j:Nat):Int) else if j∈V then (i:Int) else -1
theorem lbl_len (D:Nat→Prop)(n i:Nat)(V:List Nat):(lbl E D n i V).length=n:=by simp [lbl]
theorem lbl_at {D:Nat→Prop}{n i:Nat}{V:List Nat}{j:Nat}(hj:j<n):(lbl E D n i V).getD j 0=if D j∧lst E j<i then ((lst E j:Nat):Int) else if j∈V then (i:Int) else -1:=by
 simp [lbl,hj]
theorem lbl_start (D:Nat→Prop)(n:Nat):lbl E D n 0 []=List.replicate n (-1):=by
 refine List.ext_getElem (by simp [lbl]) fun j h1 h2=>?_
 simp [lbl]
theorem lbl_set {D:Nat→Prop}{n i:Nat}{V:List Nat}{j:Nat}(hf:¬ (D j∧lst E j<i)):(lbl E D n i V).set j (i:Int)=lbl E D n i (V++[j]):=by
 refine List.ext_getElem (by simp [lbl]) fun k h1 h2=>?_
 rw [List.getElem_set]
 simp only [lbl,List.getElem_map,List.getElem_range,List.mem_append,List.mem_singleton]
 by_cases e:j=k
 ·subst e
  rw [if_pos rfl,if_neg hf,if_pos (.inr rfl)]
 ·rw [if_neg e]
  have e2:¬ k=j:=fun h=>e h.symm
  simp [e2]
theorem lbl_skip {D:Nat→Prop}{n i:Nat}(hE:∀ x y,E x y→E y x)(h:¬ D i∨lst E i<i)(hD:∀ x y,D x→E x y→D y):lbl E D n i []=lbl E D n (i+1) []:=by
 refine List.ext_getElem (by simp [lbl]) fun k h1 h2=>?_
 simp only [lbl,List.getElem_map,List.getElem_range,List.not_mem_nil,if_false]
 by_cases hk:D k∧lst E k<i
 ·rw [if_pos hk,if_pos ⟨hk.1,by omega⟩]
 ·rw [if_neg hk,if_neg]
  rintro ⟨hd,hlt⟩
  have e:lst E k=i:=by
   have:¬ lst E k<i:=fun h=>hk ⟨hd,h⟩
   omega
  have h3:=(lst_spec E k).2.1
  rw [e] at h3
  have hdi:D i:=((h3.symm hE).keep (Q:=D) (E' := E) (fun x y hx he=>⟨hD x y hx he,.inr he⟩) hd).1
  rcases h with h | h
  ·exact h hdi
  ·have:=lst_lst hE k
   rw [e] at this
   omega
theorem lbl_fill {D:Nat→Prop}{n i:Nat}{V:List Nat}(hE:∀ x y,E x y→E y x)(h:lst E i=i)(hdi:D i)(hD:∀ x y,D x→E x y→D y)(hV:∀ j,j∈V ↔ Rt E i j):lbl E D n i V=lbl E D n (i+1) []:=by
 refine List.ext_getElem (by simp [lbl]) fun k h1 h2=>?_
 simp only [lbl,List.getElem_map,List.getElem_range,List.not_mem_nil,if_false]
 by_cases hk:D k∧lst E k<i
 ·rw [if_pos hk,if_pos ⟨hk.1,by omega⟩]
 ·rw [if_neg hk]
  by_cases hv:k∈V
  ·have hr:=(hV k).1 hv
   have e:=lst_eq hE hr
   rw [h] at e
   have hdk:D k:=(hr.keep (Q:=D) (E' := E) (fun x y hx he=>⟨hD x y hx he,.inr he⟩) hdi).1
   rw [if_pos hv,if_pos ⟨hdk,by omega⟩,← e]
  ·rw [if_neg hv,if_neg]
   rintro ⟨hd,hlt⟩
   refine hv ((hV k).2 ?_)
   have e:lst E k=i:=by
    have:¬ lst E k<i:=fun h=>hk ⟨hd,h⟩
    omega
   exact e ▸ (lst_spec E k).2.1
theorem lbl_neg {D:Nat→Prop}{n i:Nat}{V:List Nat}{j:Nat}(hj:j<n):(lbl E D n i V).getD j 0<0 ↔ ¬ (D j∧lst E j<i)∧j∉V:=by
 rw [lbl_at hj]
 by_cases h1:D j∧lst E j<i
 ·rw [if_pos h1];simp [h1]
 ·rw [if_neg h1]
  by_cases h2:j∈V
  ·rw [if_pos h2];simp [h2]
  ·rw [if_neg h2];simp [h1,h2]
theorem lbl_free {D:Nat→Prop}{n i:Nat}(hi:i<n)(hd:D i):(lbl E D n i []).getD i 0<0 ↔ lst E i=i:=by
 rw [lbl_neg hi]
 have:=(lst_spec E i).1
 simp [hd]
 omega
theorem lbl_end {D:Nat→Prop}(n:Nat){j:Nat}(hj:j<n)(hd:D j):(lbl E D n n []).getD j 0=(lst E j:Nat):=by
 rw [lbl_at hj,if_pos ⟨hd,by have:=(lst_spec E j).1;omega⟩]
structure FI (E:Nat→Nat→Prop) (n i:Nat) (V:List Nat) (Pd:Nat→Nat→Prop):Prop where
 nd:V.Nodup
 has:i∈V
 ok:∀ x∈V,x<n∧Rt E i x
 cl:∀ z∈V,∀ y,E z y→y∈V∨Pd z y
theorem FI.start {n i:Nat}(hi:i<n){Pd:Nat→Nat→Prop}(h:∀ y,E i y→Pd i y):FI E n i [i] Pd:=
 ⟨by simp,by simp,fun x hx=>by rw [List.mem_singleton.1 hx];exact ⟨hi,.refl _⟩,fun z hz y he=>by obtain rfl:=List.mem_singleton.1 hz;exact .inr (h y he)⟩
theorem FI.mono {n i:Nat}{V:List Nat}{Pd Pd' : Nat→Nat→Prop}(h:FI E n i V Pd)(hp:∀ z∈V,∀ y,E z y→Pd z y→y∈V∨Pd' z y):FI E n i V Pd' :=
 ⟨h.nd,h.has,h.ok,fun z hz y he=>(h.cl z hz y he).elim .inl (hp z hz y he)⟩
theorem FI.add {n i : Nat} {V : List Nat} {Pd Pd' : Nat → Nat → Prop} (h : FI E n i V Pd) {x y : Nat} (hx : x ∈ V) (he : E x y) (hy : y < n) (hn : y ∉ V)
    (hp:∀ z∈V,∀ u,E z u→Pd z u→u∈V++[y]∨Pd' z u) (hq:∀ u,E y u→u∈V++[y]∨Pd' y u):FI E n i (V++[y]) Pd' :=
 ⟨List.nodup_append.2 ⟨h.nd,by simp,fun a ha b hb e=>by obtain rfl:=List.mem_singleton.1 hb;exact hn (e ▸ ha)⟩,by simp [h.has],
  fun z hz=>(List.mem_append.1 hz).elim (h.ok z) fun hz=>by obtain rfl:=List.mem_singleton.1 hz;exact ⟨hy,.step (h.ok x hx).2 he⟩,
  fun z hz u hu=>(List.mem_append.1 hz).elim (fun hz=>(h.cl z hz u hu).elim (fun hm=>.inl (by simp [hm])) (hp z hz u hu)) fun hz=>by obtain rfl:=List.mem_singleton.1 hz;exact hq u hu⟩
theorem FI.done {n i:Nat}{V:List Nat}{Pd:Nat→Nat→Prop}(h:FI E n i V Pd)(hp:∀ z∈V,∀ y,E z y→Pd z y→y∈V):∀ j,j∈V ↔ Rt E i j:=fun j=>by
 refine ⟨fun hj=>(h.ok j hj).2,fun hr=>?_⟩
 induction hr with
 | refl=>exact h.has
 | step _ e ih=>exact (h.cl _ ih _ e).elim id (hp _ ih _ e)
theorem nodup_len:∀ {n:Nat} {V:List Nat},V.Nodup→(∀ x∈V,x<n)→V.length≤n
 | 0,V,_,hV=>by
  cases V with
  | nil=>simp
  | cons x V=>have:=hV x (by simp);omega
 | n+1,V,hn,hV=>by
  have h1:=nodup_len (n:=n) (V:=V.erase n) (hn.erase n) fun x hx=>by
   have:=(hn.mem_erase_iff).1 hx
   have:=hV x this.2
   omega
  rw [List.length_erase] at h1
  split at h1<;>omega
theorem FI.len {n i:Nat}{V:List Nat}{Pd:Nat→Nat→Prop}(h:FI E n i V Pd):V.length≤n:=nodup_len h.nd fun x hx=>(h.ok x hx).1
end
section
open Classical
def difK (a b:List Int):Nat→Nat
 | 0=>0
 | k+1=>difK a b k+if a.getD k 0≠b.getD k 0 then 1 else 0
def Adj (a b:List Int)(i:Nat):Prop:=i<a.length∧a.getD i 0≠b.getD i 0∧∀ j,j<a.length→j≠i→a.getD j 0=b.getD j 0
theorem Adj.symm {a b:List Int}{i:Nat}(hl:a.length=b.length)(h:Adj a b i):Adj b a i:=
 ⟨by have:=h.1;omega,fun e=>h.2.1 e.symm,fun j hj hn=>(h.2.2 j (by omega) hn).symm⟩
theorem difK_zero {a b:List Int}:∀ k:Nat,difK a b k=0 ↔ ∀ j,j<k→a.getD j 0=b.getD j 0
 | 0=>⟨fun _ j hj=>by omega,fun _=>rfl⟩
 | k+1=>by
  unfold difK
  have ih:=difK_zero (a:=a) (b:=b) k
  by_cases h:a.getD k 0=b.getD k 0
  ·rw [if_neg (fun hn=>hn h)]
   rw [Nat.add_zero,ih]
   exact ⟨fun h2 j hj=>by
    by_cases e:j=k
    ·rw [e,h]
    ·exact h2 j (by omega),fun h2 j hj=>h2 j (by omega)⟩
  ·rw [if_pos h]
   exact ⟨fun h2=>by omega,fun h2=>absurd (h2 k (by omega)) h⟩
theorem difK_one {a b:List Int}:∀ k:Nat,difK a b k=1 ↔ ∃ i,i<k∧a.getD i 0≠b.getD i 0∧∀ j,j<k→j≠i→a.getD j 0=b.getD j 0
 | 0=>⟨fun h=>(by cases h),fun h=>(by obtain ⟨i,hi,_⟩:=h;omega)⟩
 | k+1=>by
  unfold difK
  by_cases h:a.getD k 0=b.getD k 0
  ·rw [if_neg (fun hn=>hn h),Nat.add_zero,difK_one k]
   constructor
   ·rintro ⟨i,hi,h1,h2⟩
    refine ⟨i,by omega,h1,fun j hj hn=>?_⟩
    by_cases e:j=k
    ·rw [e,h]
    ·exact h2 j (by omega) hn
   ·rintro ⟨i,hi,h1,h2⟩
    have:i≠k:=fun e=>h1 (e ▸ h)
    exact ⟨i,by omega,h1,fun j hj hn=>h2 j (by omega) hn⟩
  ·rw [if_pos h]
   have hz:=difK_zero (a:=a) (b:=b) k
   constructor
   ·intro h1
    exact ⟨k,by omega,h,fun j hj hn=>hz.1 (by omega) j (by omega)⟩
   ·rintro ⟨i,hi,h1,h2⟩
    have e:i=k:=Classical.byContradiction fun hne=>h (h2 k (by omega) fun e=>hne e.symm)
    subst e
    have:=hz.2 fun j hj=>h2 j (by omega) (by omega)
    omega
theorem dif_adj {a b:List Int}{i:Nat}(hi:i<a.length)(hn:a.getD i 0≠b.getD i 0):difK a b a.length=1 ↔ Adj a b i:=by
 rw [difK_one]
 constructor
 ·rintro ⟨k,hk,h1,h2⟩
  have e:i=k:=Classical.byContradiction fun hne=>hn (h2 i hi hne)
  subst e
  exact ⟨hi,h1,h2⟩
 ·rintro ⟨h1,h2,h3⟩
  exact ⟨i,h1,h2,h3⟩
theorem difK_le (a b:List Int):∀ k:Nat,difK a b k≤k
 | 0=>Nat.le_refl _
 | k+1=>by
  unfold difK
  have:=difK_le a b k
  split<;>omega
structure Fs (r:Nat) (X:List (List Int)):Prop where
 len:∀ x∈X,x.length=r
 nd:X.Nodup
 nn:∀ x∈X,∀ e∈x,0≤e
abbrev rowD (X:List (List Int))(a:Nat):List Int:=X.getD a []
theorem row_in {X:List (List Int)}{a:Nat}(h:a<X.length):rowD X a∈X:=by
 unfold rowD
 rw [List.getD_eq_getElem?_getD,List.getElem?_eq_getElem h]
 exact List.getElem_mem h
theorem ext_of {r:Nat}{a b:List Int}(ha:a.length=r)(hb:b.length=r)(h:∀ j,j<r→a.getD j 0=b.getD j 0):a=b:=by
 refine List.ext_getElem (by omega) fun j h1 h2=>?_
 have:=h j (by omega)
 simpa [h1,h2] using this
theorem Fs.inj {r:Nat}{X:List (List Int)}(h:Fs r X){a b:Nat}(ha:a<X.length)(hb:b<X.length)(e:rowD X a=rowD X b):a=b:=by
 unfold rowD at e
 rw [List.getD_eq_getElem?_getD,List.getD_eq_getElem?_getD,List.getElem?_eq_getElem ha,List.getElem?_eq_getElem hb] at e
 exact (List.getElem_inj h.nd).1 e
theorem Fs.at_len {r:Nat}{X:List (List Int)}(h:Fs r X){a:Nat}(ha:a<X.length):(rowD X a).length=r:=h.len _ (row_in ha)
theorem Fs.at_nn {r:Nat}{X:List (List Int)}(h:Fs r X){a:Nat}(ha:a<X.length)(j:Nat)(hj:j<r):0≤(rowD X a).getD j 0:=by
 have h1:=h.at_len ha
 have:(rowD X a).getD j 0∈rowD X a:=by
  rw [List.getD_eq_getElem?_getD,List.getElem?_eq_getElem (by omega)]
  exact List.getElem_mem _
 exact h.nn _ (row_in ha) _ this
def Em (X:List (List Int))(m:Nat→Bool)(a b:Nat):Prop:=a<X.length∧b<X.length∧∃ i,m i=false∧Adj (rowD X a) (rowD X b) i
theorem Em.symm {r:Nat}{X:List (List Int)}(h:Fs r X){m:Nat→Bool}(a b:Nat)(e:Em X m a b):Em X m b a:=by
 obtain ⟨h1,h2,i,h3,h4⟩:=e
 exact ⟨h2,h1,i,h3,h4.symm (by rw [h.at_len h1,h.at_len h2])⟩
def agr (X:List (List Int))(a b:Nat)(i:Nat):Bool:=decide ((rowD X a).getD i 0=(rowD X b).getD i 0)
def Lnk (X:List (List Int)):Prop:=∀ a b,a<b→b<X.length→Rt (Em X (agr X a b)) a b
def Has (c x:List Int):Prop:=∀ i,i<c.length→c.getD i 0 = -1∨c.getD i 0=x.getD i 0
def Ec (X:List (List Int))(c:List Int)(a b:Nat):Prop:=a<X.length∧b<X.length∧Has c (rowD X a)∧Has c (rowD X b)∧∃ i,i<c.length∧∀ j,j<c.length→j≠i→(rowD X a).getD j 0=(rowD X b).getD j 0
theorem Ec.symm {X:List (List Int)}{c:List Int}(a b:Nat)(e:Ec X c a b):Ec X c b a:=by
 obtain ⟨h1,h2,h3,h4,i,h5,h6⟩:=e
 exact ⟨h2,h1,h4,h3,i,h5,fun j hj hn=>(h6 j hj hn).symm⟩
def comL (a b:List Int):List Int:=(List.range a.length).map fun i=>if a.getD i 0=b.getD i 0 then a.getD i 0 else -1
theorem comL_len (a b:List Int):(comL a b).length=a.length:=by simp [comL]
theorem comL_at {a b:List Int}{i:Nat}(h:i<a.length):(comL a b).getD i 0=if a.getD i 0=b.getD i 0 then a.getD i 0 else -1:=by simp [comL,h]
theorem has_eq {c x:List Int}:comL c x=c ↔ Has c x:=by
 constructor
 ·intro h i hi
  have:=congrArg (fun l=>l.getD i 0) h
  rw [comL_at hi] at this
  split at this
  ·rename_i e;exact .inr e
  ·exact .inl this.symm
 ·intro h
  refine List.ext_getElem (comL_len _ _) fun i h1 h2=>?_
  have h3:=comL_at (b:=x) h2
  rw [List.getD_eq_getElem?_getD,List.getElem?_eq_getElem h1] at h3
  rw [Option.getD_some] at h3
  rw [h3]
  have h4:=h i h2
  rw [List.getD_eq_getElem?_getD,List.getElem?_eq_getElem h2,Option.getD_some] at h4 ⊢
  split
  ·rfl
  ·rename_i hne
   rcases h4 with h4 | h4
   ·exact h4.symm
   ·exact absurd h4 hne
theorem link_same {r : Nat} {X : List (List Int)} (h : Fs r X) {a b : Nat} (ha : a < X.length) (hb : b < X.length) :
    Rt (Ec X (comL (rowD X a) (rowD X b))) a b ↔ Rt (Em X (agr X a b)) a b:=by
 have hla:=h.at_len ha
 have hlb:=h.at_len hb
 have hc:(comL (rowD X a) (rowD X b)).length=r:=by rw [comL_len,hla]
 have hcat:∀ i,i<r→(comL (rowD X a) (rowD X b)).getD i 0=if agr X a b i=true then (rowD X a).getD i 0 else -1:=fun i hi=>by
  rw [comL_at (by omega)]
  simp [agr]
 have hHa:Has (comL (rowD X a) (rowD X b)) (rowD X a):=fun i hi=>by
  rw [hcat i (by omega)]
  split
  ·exact .inr rfl
  ·exact .inl rfl
 have hfix:∀ {u:Nat},u<X.length→Has (comL (rowD X a) (rowD X b)) (rowD X u)→∀ i,i<r→agr X a b i=true→(rowD X u).getD i 0=(rowD X a).getD i 0:=fun {u} hu hh i hi hm=>by
  have h1:=hh i (by omega)
  have h2:=h.at_nn ha i hi
  rw [hcat i hi,if_pos hm] at h1
  rcases h1 with h1 | h1
  ·omega
  ·exact h1.symm
 constructor
 ·intro k
  refine (k.keep (Q:=fun u=>u<X.length∧Has (comL (rowD X a) (rowD X b)) (rowD X u)) (fun u w hu e=>?_) ⟨ha,hHa⟩).2
  obtain ⟨h1,h2,h3,h4,i,h5,h6⟩:=e
  refine ⟨⟨h2,h4⟩,?_⟩
  by_cases e:(rowD X u).getD i 0=(rowD X w).getD i 0
  ·exact .inl (h.inj h1 h2 (ext_of (h.at_len h1) (h.at_len h2) fun j hj => by
     by_cases e2:j=i
     ·rw [e2,e]
     ·exact h6 j (by omega) e2))
  ·refine .inr ⟨h1,h2,i,?_,by rw [h.at_len h1];omega,e,fun j hj hn=>h6 j (by rw [h.at_len h1] at hj;omega) hn⟩
   cases hm:agr X a b i with
   | false=>rfl
   | true=>
    have e1:=hfix h1 h3 i (by omega) hm
    have e2:=hfix h2 h4 i (by omega) hm
    exact absurd (e1.trans e2.symm) e
 ·intro k
  refine (k.keep (Q:=fun u=>u<X.length∧Has (comL (rowD X a) (rowD X b)) (rowD X u)) (fun u w hu e=>?_) ⟨ha,hHa⟩).2
  obtain ⟨h1,h2,i,h3,h4⟩:=e
  have hw:Has (comL (rowD X a) (rowD X b)) (rowD X w):=fun j hj=>by
   by_cases e:j=i
   ·subst e
    rw [hcat j (by omega),h3]
    simp
   ·have h5:=hu.2 j hj
    rw [h4.2.2 j (by rw [h.at_len h1];omega) e] at h5
    exact h5
  exact ⟨⟨h2,hw⟩,.inr ⟨h1,h2,hu.2,hw,i,by have:=h4.1;rw [h.at_len h1] at this;omega,fun j hj hn=>h4.2.2 j (by rw [h.at_len h1];omega) hn⟩⟩
end
end Go.Fl
namespace Go.Kz
open Go.Lib
def dval (l:List UInt8):Nat:=l.foldl (fun a b=>a*10+(b.toNat - 48)) 0
theorem u8_48 {k:Nat}(h:k<10):(UInt8.ofNat (48+k)).toNat=48+k:=by
 show (48+k)%256=48+k
 omega
theorem dval_dec:∀ u:Nat,dval (decDigits u)=u:=fun u=>by
 rw [decDigits]
 by_cases h:u<10
 ·rw [dif_pos h]
  simp only [dval,List.foldl_cons,List.foldl_nil]
  rw [u8_48 h]
  omega
 ·rw [dif_neg h]
  have ih:=dval_dec (u / 10)
  unfold dval at ih ⊢
  rw [List.foldl_append,ih]
  simp only [List.foldl_cons,List.foldl_nil]
  rw [u8_48 (by omega)]
  omega
termination_by u=>u
decreasing_by omega
theorem dig_dec:∀ u:Nat,∀ b∈decDigits u,48≤b.toNat∧b.toNat≤57:=fun u=>by
 rw [decDigits]
 by_cases h:u<10
 ·rw [dif_pos h]
  intro b hb
  rw [List.mem_singleton.1 hb,u8_48 h]
  omega
 ·rw [dif_neg h]
  intro b hb
  rcases List.mem_append.1 hb with hb | hb
  ·exact dig_dec (u / 10) b hb
  ·rw [List.mem_singleton.1 hb,u8_48 (by omega)]
   omega
termination_by u=>u
decreasing_by omega
theorem itoa_inj {m n:Int}(h:itoa m=itoa n):m=n:=by
 by_cases h1:m<0<;>by_cases h2:n<0
 ·obtain ⟨a,rfl⟩:∃ a:Nat,m = -(a:Int):=⟨m.natAbs,by omega⟩
  obtain ⟨b,rfl⟩:∃ b:Nat,n = -(b:Int):=⟨n.natAbs,by omega⟩
  rw [itoa_neg a (by omega),itoa_neg b (by omega)] at h
  have:=congrArg dval (List.cons.inj h).2
  rw [dval_dec,dval_dec] at this
  omega
 ·obtain ⟨a,rfl⟩:∃ a:Nat,m = -(a:Int):=⟨m.natAbs,by omega⟩
  obtain ⟨b,rfl⟩:∃ b:Nat,n=(b:Int):=⟨n.natAbs,by omega⟩
  rw [itoa_neg a (by omega),itoa_nonneg b] at h
  have:=dig_dec b 45 (by rw [← h];simp)
  exact absurd this (by decide)
 ·obtain ⟨a,rfl⟩:∃ a:Nat,m=(a:Int):=⟨m.natAbs,by omega⟩
  obtain ⟨b,rfl⟩:∃ b:Nat,n = -(b:Int):=⟨n.natAbs,by omega⟩
  rw [itoa_neg b (by omega),itoa_nonneg a] at h
  have:=dig_dec a 45 (by rw [h];simp)
  exact absurd this (by decide)
 ·obtain ⟨a,rfl⟩:∃ a:Nat,m=(a:Int):=⟨m.natAbs,by omega⟩
  obtain ⟨b,rfl⟩:∃ b:Nat,n=(b:Int):=⟨n.natAbs,by omega⟩
  rw [itoa_nonneg a,itoa_nonneg b] at h
  have:=congrArg dval h
  rw [dval_dec,dval_dec] at this
  omega
theorem itoa_no (n:Int):(32:UInt8)∉itoa n:=by
 by_cases h1:n<0
 ·obtain ⟨a,rfl⟩:∃ a:Nat,n = -(a:Int):=⟨n.natAbs,by omega⟩
  rw [itoa_neg a (by omega)]
  intro hm
  rcases List.mem_cons.1 hm with h | h
  ·exact absurd h (by decide)
  ·exact absurd (dig_dec a 32 h) (by decide)
 ·obtain ⟨a,rfl⟩:∃ a:Nat,n=(a:Int):=⟨n.natAbs,by omega⟩
  rw [itoa_nonneg a]
  exact fun hm=>absurd (dig_dec a 32 hm) (by decide)
theorem cut {A A' B B' : List UInt8}(hA:(32:UInt8)∉A)(hA' : (32:UInt8)∉A')(h:A++32 :: B=A' ++ 32 :: B'):A=A' ∧ B=B' := by
 induction A generalizing A' with
 | nil=>
  cases A' with
  | nil=>exact ⟨rfl,by simpa using h⟩
  | cons a A' =>
   rw [List.nil_append,List.cons_append,List.cons.injEq] at h
   exact absurd (by rw [h.1];exact List.mem_cons_self) hA'
 | cons a A ih=>
  cases A' with
  | nil=>
   rw [List.nil_append,List.cons_append,List.cons.injEq] at h
   exact absurd (by rw [← h.1];exact List.mem_cons_self) hA
  | cons a' A' =>
   rw [List.cons_append,List.cons_append,List.cons.injEq] at h
   obtain ⟨h1,h2⟩:=ih (fun hm=>hA (List.mem_cons_of_mem _ hm)) (fun hm=>hA' (List.mem_cons_of_mem _ hm)) h.2
   exact ⟨by rw [h.1,h1],h2⟩
def keyZ (xs:List Int):List UInt8:=xs.flatMap fun n=>itoa n++[32]
theorem keyZ_cons (x:Int)(xs:List Int):keyZ (x :: xs)=itoa x++32 :: keyZ xs:=by simp [keyZ]
theorem keyZ_inj:∀ {p q:List Int},keyZ p=keyZ q→p=q
 | [],[],_=>rfl
 | [],y :: q,h=>by rw [keyZ_cons] at h;simp [keyZ] at h
 | x :: p,[],h=>by rw [keyZ_cons] at h;simp [keyZ] at h
 | x :: p,y :: q,h=>by
  rw [keyZ_cons,keyZ_cons] at h
  obtain ⟨h1,h2⟩:=cut (itoa_no x) (itoa_no y) h
  rw [itoa_inj h1,keyZ_inj h2]
theorem keyZ_take (xs:List Int)(i:Nat)(h:i<xs.length):keyZ (xs.take (i+1))=keyZ (xs.take i)++itoa (xs.getD i 0)++[32]:=by
 unfold keyZ
 rw [List.take_succ_eq_append_getElem h,List.flatMap_append]
 simp [h]
def kZ (p:List Int):ByteArray:=⟨(keyZ p).toArray⟩
theorem kZ_inj {p q:List Int}(h:kZ p=kZ q):p=q:=by
 refine keyZ_inj ?_
 have:(keyZ p).toArray=(keyZ q).toArray:=congrArg ByteArray.data h
 simpa using congrArg Array.toList this
end Go.Kz
