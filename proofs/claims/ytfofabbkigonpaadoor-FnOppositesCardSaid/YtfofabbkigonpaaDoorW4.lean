/- Texts that belong together. -/
import Derived.Test.YtfofabbkigonpaaDoorZk
import Derived.Test.YtfofabbkigonpaaDoorW2
import Derived.Test.YtfofabbkigonpaaDoorW3
set_option linter.unusedSimpArgs false
set_option linter.unusedVariables false
set_option maxRecDepth 100000
namespace Go.Proofs.YtfofabbkigonpaaDoor
open Go.Gov Go.Fl Go.Kz
open Classical
def Dh (X:List (List Int))(m i:Nat):List Int:=(Ah X m).set i (-1)
def Sm (X:List (List Int)):Prop:=∀ x∈X,∀ e∈x,0≤e∧e<1000
theorem Jh {r:Nat}{X:List (List Int)}(hX:Fs r X){m i j:Nat}(hm:m<X.length)(hj:j<r):(Dh X m i).getD j 0=if j=i then -1 else (Ah X m).getD j 0:=by
 have hl:=hX.at_len hm
 unfold Dh
 by_cases e:j=i
 ·subst e
  rw [if_pos rfl,List.getD_eq_getElem?_getD,List.getElem?_set_self (by omega)]
  rfl
 ·rw [if_neg e,List.getD_eq_getElem?_getD,List.getElem?_set_ne (fun h=>e h.symm),← List.getD_eq_getElem?_getD]
theorem Pj {r:Nat}{X:List (List Int)}(hX:Fs r X){m i:Nat}(hm:m<X.length):(Dh X m i).length=r:=by
 unfold Dh
 rw [List.length_set,hX.at_len hm]
theorem zJ {r : Nat} {X : List (List Int)} (hX : Fs r X) {m m' i i' : Nat} (hm : m < X.length) (hm' : m' < X.length) (hi : i < r) (hi' : i' < r) :
    Dh X m i=Dh X m' i' ↔ i=i' ∧ ∀ j,j<r→j≠i→(Ah X m).getD j 0=(Ah X m').getD j 0:=by
 constructor
 ·intro h
  have hat:∀ j,(Dh X m i).getD j 0=(Dh X m' i').getD j 0:=fun j=>by rw [h]
  have e:i=i' := Classical.byContradiction fun hne=>by
   have h1:=hat i
   rw [Jh hX hm hi,Jh hX hm' hi,if_pos rfl,if_neg hne] at h1
   have:=hX.at_nn hm' i hi
   omega
  refine ⟨e,fun j hj hn=>?_⟩
  have h1:=hat j
  rw [Jh hX hm hj,Jh hX hm' hj,if_neg hn,if_neg (by omega)] at h1
  exact h1
 ·rintro ⟨rfl,h⟩
  refine J3 (Pj hX hm) (Pj hX hm') fun j hj=>?_
  rw [Jh hX hm hj,Jh hX hm' hj]
  by_cases e:j=i
  ·rw [if_pos e,if_pos e]
  ·rw [if_neg e,if_neg e];exact h j hj e
theorem zK {r:Nat}{X:List (List Int)}(hX:Fs r X)(hS:Sm X){m i:Nat}(hm:m<X.length):∀ j,j<(Dh X m i).length → -1≤(Dh X m i).getD j 0∧(Dh X m i).getD j 0<1000:=fun j hj=>by
 rw [Pj hX hm] at hj
 rw [Jh hX hm hj]
 split
 ·omega
 ·have hl:=hX.at_len hm
  have h1:(Ah X m).getD j 0∈Ah X m:=by
   rw [List.getD_eq_getElem?_getD,List.getElem?_eq_getElem (by omega)]
   exact List.getElem_mem _
  have:=hS _ (Fz hm) _ h1
  omega
theorem Zu (X:List (List Int))(r m i:Nat)(hX:Fs r X)(hS:Sm X)(hr:r≤5)(hm:m<X.length)(hi:i<r):D9 Tryd.prog Bh 110 [i64 (m:Int),i64 (i:Int),.pto [Ae X] 0] (.val (.string (kZ (Dh X m i)))) []:=by
 have hl:=hX.at_len hm
 have hwl:=Pj hX (i:=i) hm
 have hcl:=M6 (Ah X m) (by omega) (by omega)
 have hky:=W7 (Dh X m i) (zK hX hS hm) (by omega)
 have hlw:(Ah X m).length=(Dh X m i).length:=by rw [hwl,hl]
 have hst:(Ah X m).set i (-1)=Dh X m i:=rfl
 refine Kp oL rfl ?_;unfold T1
 refine RN ?_
 refine An (hcl) ?_
 refine RN ?_
 rw [hst]
 simp only [hlw]
 refine Gw (hky) ?_
 refine RN ?_
 exact Ref.gc1 []
end Go.Proofs.YtfofabbkigonpaaDoor
namespace Go.Fl
open Go.Gov Go.Kz Go.Proofs.YtfofabbkigonpaaDoor
open Classical
def kk (X:List (List Int))(m i:Nat):ByteArray:=kZ (Dh X m i)
theorem Q7 {r : Nat} {X : List (List Int)} (hX : Fs r X) {m m' i i' : Nat} (hm : m < X.length) (hm' : m' < X.length) (hi : i < r) (hi' : i' < r) :
    kk X m i=kk X m' i' ↔ i=i' ∧ ∀ j,j<r→j≠i→(Ah X m).getD j 0=(Ah X m').getD j 0:=by
 rw [← zJ hX hm hm' hi hi']
 exact ⟨W6,fun h=>congrArg kZ h⟩
def Pm (X:List (List Int))(c:List Int)(r:Nat)(q:ByteArray)(m:Nat):Prop:=m<X.length∧Bm c (Ah X m)∧∃ s,s<r∧kk X m s=q
def Pk (X:List (List Int))(c:List Int)(r k i:Nat)(q:ByteArray)(m:Nat):Prop:=m<X.length∧Bm c (Ah X m)∧((m<k∧∃ s,s<r∧kk X m s=q)∨(m=k∧∃ s,s<i∧kk X m s=q))
theorem iput_mem {κ α:Type}[BEq κ]{n:κ}{x:α}{l:List (κ×α)}{e:κ×α}(h:e∈Bg n x l):e=(n,x)∨e∈l:=by
 unfold Bg at h
 split at h
 ·exact (List.mem_or_eq_of_mem_set h).symm
 ·rcases List.mem_append.1 h with h | h
  ·exact .inr h
  ·exact .inl (List.mem_singleton.1 h)
theorem iput_len {κ α:Type}[BEq κ](n:κ)(x:α)(l:List (κ×α)):(Bg n x l).length≤l.length+1:=by
 unfold Bg
 split
 ·rw [List.length_set];omega
 ·simp
structure MI (X:List (List Int)) (c:List Int) (r k i:Nat) (l:List (ByteArray×List Int)):Prop where
 so:∀ e∈l,∀ z∈e.2,∃ m:Nat,z=m∧Pm X c r e.1 m
 co:∀ q m,Pk X c r k i q m→∃ L,A7 q l=some L∧(m:Int)∈L
 ln:∀ e∈l,e.2.length≤k*r+i
 ll:l.length≤k*r+i
section
variable {X:List (List Int)} {c:List Int} {r k i:Nat} {l:List (ByteArray×List Int)}
theorem MI.start:MI X c r 0 0 []:=
 ⟨fun e h => (by cases h), fun q m h => (by obtain ⟨_, _, h | h⟩ := h; · omega
                                            ·obtain ⟨_,s,h,_⟩:=h;omega),fun e h=>(by cases h),by simp⟩
theorem MI.put (h:MI X c r k i l)(hk:k<X.length)(hh:Bm c (Ah X k))(hi:i<r):MI X c r k (i+1) (Bg (kk X k i) ((A7 (kk X k i) l).getD []++[(k:Int)]) l):=by
 have hP:Pm X c r (kk X k i) k:=⟨hk,hh,i,hi,rfl⟩
 refine ⟨fun e he z hz=>?_,fun q m hp=>?_,fun e he=>?_,?_⟩
 ·rcases iput_mem he with rfl | he
  ·rcases List.mem_append.1 hz with hz | hz
   ·cases hl:A7 (kk X k i) l with
    | none=>rw [hl] at hz;cases hz
    | some L=>rw [hl] at hz;exact h.so _ (J8 hl) z hz
   ·exact ⟨k,List.mem_singleton.1 hz,hP⟩
  ·exact h.so e he z hz
 ·rw [Nw]
  by_cases e:q=kk X k i
  ·subst e
   rw [if_pos (by simp)]
   refine ⟨_,rfl,?_⟩
   obtain ⟨h1,h2,h3⟩:=hp
   by_cases em:m=k
   ·subst em;simp
   ·obtain ⟨L,hL,hm⟩:=h.co _ m ⟨h1,h2,h3.elim .inl fun h=>absurd h.1 em⟩
    rw [hL]
    simp [hm]
  ·rw [if_neg (by simpa using e)]
   obtain ⟨h1,h2,h3⟩:=hp
   refine h.co q m ⟨h1,h2,?_⟩
   rcases h3 with h3 | ⟨rfl,s,h4,h5⟩
   ·exact .inl h3
   ·refine .inr ⟨rfl,s,?_,h5⟩
    have:s≠i:=fun e2=>by subst e2;exact e h5.symm
    omega
 ·rcases iput_mem he with rfl | he
  ·cases hl:A7 (kk X k i) l with
   | none=>simp;omega
   | some L=>
    have:=h.ln _ (J8 hl)
    dsimp only at this
    simp only [Option.getD_some,List.length_append,List.length_singleton]
    omega
  ·have:=h.ln e he;omega
 ·have:=iput_len (kk X k i) ((A7 (kk X k i) l).getD []++[(k:Int)]) l
  have:=h.ll
  omega
theorem MI.next (h:MI X c r k r l):MI X c r (k+1) 0 l:=by
 have e:(k+1)*r+0=k*r+r:=by rw [Nat.add_mul,Nat.one_mul];omega
 refine ⟨h.so,fun q m hp=>h.co q m ⟨hp.1,hp.2.1,?_⟩,by rw [e];exact h.ln,by rw [e];exact h.ll⟩
 rcases hp.2.2 with ⟨h1,h2⟩ | ⟨_,s,h2,_⟩
 ·by_cases em:m=k
  ·exact .inr ⟨em,h2⟩
  ·exact .inl ⟨by omega,h2⟩
 ·omega
theorem MI.skip (h:MI X c r k 0 l)(hh:¬ Bm c (Ah X k)):MI X c r (k+1) 0 l:=by
 have e:k*r+0≤(k+1)*r+0:=by rw [Nat.add_mul];omega
 refine ⟨h.so,fun q m hp=>h.co q m ⟨hp.1,hp.2.1,?_⟩,fun e2 he=>Nat.le_trans (h.ln e2 he) e,Nat.le_trans h.ll e⟩
 rcases hp.2.2 with ⟨h1,h2⟩ | ⟨_,s,h2,_⟩
 ·by_cases em:m=k
  ·subst em;exact absurd hp.2.1 hh
  ·exact .inl ⟨by omega,h2⟩
 ·omega
end
/-! ### Maps of which something was taken -/
abbrev Es:=List (Nat×ByteArray×AV)
def Bz (q:ByteArray):Es→Option (Nat×Nat×AV)
 | []=>none
 | e :: es=>if q == e.2.1 then some (0,e.1,e.2.2) else (Bz q es).map fun p=>(p.1+1,p.2)
def Bb (c:Int)(es:Es):List AV:=i64 c :: es.map fun e=>.ent e.1 (.string e.2.1) e.2.2
theorem Yd (q:ByteArray)(es:Es):E5 (.string q) (es.map fun e=>.ent e.1 (.string e.2.1) e.2.2)=Bz q es:=by
 induction es with
 | nil=>rfl
 | cons e es ih=>
  simp only [List.map_cons,E5,Bz,E3,ih]
theorem Yf (q:ByteArray)(c:Int)(es:Es):Gb (.string q) (Bb c es)=(Bz q es).map (·.2.2):=by
 unfold Gb Bb
 rw [List.drop_succ_cons,List.drop_zero,Yd]
theorem V3 {α β:Type}(f:α→β):∀ (l:List α) (i:Nat),(l.map f).eraseIdx i=(l.eraseIdx i).map f
 | [],_=>rfl
 | _ :: _,0=>rfl
 | _ :: l,i+1=>by simp [V3 f l i]
theorem Yc (q : ByteArray) (c : Int) (es : Es) : Kg (.string q) (Bb c es) = match Bz q es with
    | some p=>Bb c (es.eraseIdx p.1)
    | none=>Bb c es:=by
 unfold Kg
 rw [show (Bb c es).drop 1=es.map (fun e=>.ent e.1 (.string e.2.1) e.2.2) from rfl,Yd]
 cases Bz q es with
 | none=>rfl
 | some p=>
  obtain ⟨i,b,x⟩:=p
  simp only [Bb,List.eraseIdx_cons_succ,V3]
theorem Ql {q:ByteArray}:∀ {es:Es} {i b:Nat} {x:AV},Bz q es=some (i,b,x)→es[i]? = some (b,q,x)
 | [],i,b,x,h=>by cases h
 | e :: es,i,b,x,h=>by
  simp only [Bz] at h
  split at h
  ·rename_i hq
   cases h
   have:=eq_of_beq hq
   simp [this]
  ·cases hl:Bz q es with
   | none=>rw [hl] at h;cases h
   | some p=>
    rw [hl] at h
    simp only [Option.map_some,Option.some.injEq,Prod.mk.injEq] at h
    obtain ⟨rfl,h2⟩:=h
    have:=Ql (i:=p.1) (b:=b) (x:=x) (by rw [hl,← h2])
    simpa using this
theorem Vu {q q' : ByteArray}:∀ {es:Es} {i b:Nat} {x:AV},es[i]? = some (b,q,x)→q' ≠ q→(Bz q' (es.eraseIdx i)).map (·.2.2)=(Bz q' es).map (·.2.2)
 | [],i,b,x,h,_=>by simp at h
 | e :: es,0,b,x,h,hn=>by
  simp only [List.getElem?_cons_zero,Option.some.injEq] at h
  subst h
  simp only [List.eraseIdx_cons_zero,Bz]
  rw [if_neg (by simpa using hn),Option.map_map]
  rfl
 | e :: es,i+1,b,x,h,hn=>by
  have ih:=Vu (es:=es) (i:=i) (b:=b) (x:=x) (by simpa using h) hn
  simp only [List.eraseIdx_cons_succ,Bz]
  split
  ·rfl
  ·simp only [Option.map_map] at ih ⊢
   exact ih
def Hb:Nat→List (ByteArray×List Int)→Es
 | _,[]=>[]
 | n,p :: l=>(n,p.1,Af p.2) :: Hb (n+1) l
theorem Vw:∀ (n:Nat) (l:List (ByteArray×List Int)),B0 n (l.map fun p=>(.string p.1,Af p.2))=(Hb n l).map fun e=>.ent e.1 (.string e.2.1) e.2.2
 | _,[]=>rfl
 | n,p :: l=>by simp [B0,Hb,Vw (n+1) l]
theorem wN (l:List (ByteArray×List Int)):Ar Af l=Bb l.length (Hb 0 l):=by
 unfold Ar Ci Bb
 rw [Vw,List.length_map]
theorem Vx (q:ByteArray):∀ (n:Nat) (l:List (ByteArray×List Int)),(Bz q (Hb n l)).map (·.2.2)=(A7 q l).map Af
 | _,[]=>rfl
 | n,p :: l=>by
  have ih:=Vx q (n+1) l
  unfold A7 at ih ⊢
  simp only [Hb,Bz,Ba]
  split
  ·rfl
  ·simp only [Option.map_map] at ih ⊢
   exact ih
theorem Vy:∀ {n:Nat} {l:List (ByteArray×List Int)} {e:Nat×ByteArray×AV},e∈Hb n l→∃ L,(e.2.1,L)∈l∧e.2.2=Af L
 | _,[],_,h=>by cases h
 | n,p :: l,e,h=>by
  rcases List.mem_cons.1 h with rfl | h
  ·exact ⟨p.2,by simp,rfl⟩
  ·obtain ⟨L,h1,h2⟩:=Vy h
   exact ⟨L,List.mem_cons_of_mem _ h1,h2⟩
structure MJ (X:List (List Int)) (c:List Int) (r:Nat) (Lab:Nat→Prop) (es:Es):Prop where
 so:∀ e∈es,∃ L:List Int,e.2.2=Af L∧L.length≤4000∧∀ z∈L,∃ m:Nat,z=m∧Pm X c r e.2.1 m
 co:∀ q,(∀ m,Pm X c r q m→Lab m)∨∀ m,Pm X c r q m→∃ L,(Bz q es).map (·.2.2)=some (Af L)∧(m:Int)∈L
section
variable {X:List (List Int)} {c:List Int} {r:Nat} {Lab Lab' : Nat→Prop} {es:Es}
theorem MI.to {l:List (ByteArray×List Int)}(h:MI X c r X.length 0 l)(hs:X.length*r≤4000):MJ X c r Lab (Hb 0 l):=by
 refine ⟨fun e he=>?_,fun q=>.inr fun m hm=>?_⟩
 ·obtain ⟨L,h1,h2⟩:=Vy he
  exact ⟨L,h2,by have:=h.ln _ h1;dsimp only at this;omega,h.so _ h1⟩
 ·obtain ⟨L,h1,h2⟩:=h.co q m ⟨hm.1,hm.2.1,.inl ⟨hm.1,hm.2.2⟩⟩
  exact ⟨L,by rw [Vx,h1];rfl,h2⟩
theorem MJ.mono (h:MJ X c r Lab es)(hl:∀ m,Lab m→Lab' m):MJ X c r Lab' es:=
 ⟨h.so,fun q=>(h.co q).elim (fun k=>.inl fun m hm=>hl m (k m hm)) .inr⟩
theorem MJ.del (h:MJ X c r Lab es){q:ByteArray}{i b:Nat}{x:AV}(hi:Bz q es=some (i,b,x))(hq:∀ m,Pm X c r q m→Lab m):MJ X c r Lab (es.eraseIdx i):=by
 refine ⟨fun e he=>h.so e (List.mem_of_mem_eraseIdx he),fun q' => ?_⟩
 by_cases e:q' = q
 ·subst e;exact .inl hq
 ·rw [Vu (Ql hi) e];exact h.co q'
/-! ### The flood over them -/
def K1 (X:List (List Int))(r:Nat)(V:List Nat)(x t:Nat)(z y:Nat):Prop:=(∃ k,x<k∧V[k]? = some z)∨(V[x]? = some z∧∃ s,t≤s∧s<r∧kk X z s=kk X y s)
def Im (X:List (List Int))(r:Nat)(V:List Nat)(x t:Nat)(L:List Int)(j:Nat)(z y:Nat):Prop:=(∃ k,x<k∧V[k]? = some z)∨(V[x]? = some z∧((∃ s,t<s∧s<r∧kk X z s=kk X y s)∨∃ d,j≤d∧L[d]? = some (y:Int)))
theorem Su {r:Nat}(hX:Fs r X)(hc:c.length=r){z y:Nat}:Ec X c z y ↔ z<X.length∧y<X.length∧Bm c (Ah X z)∧Bm c (Ah X y)∧∃ s,s<r∧kk X z s=kk X y s:=by
 unfold Ec
 constructor
 ·rintro ⟨h1,h2,h3,h4,i,h5,h6⟩
  exact ⟨h1,h2,h3,h4,i,by omega,(Q7 hX h1 h2 (by omega) (by omega)).2 ⟨rfl,fun j hj hn=>h6 j (by omega) hn⟩⟩
 ·rintro ⟨h1,h2,h3,h4,i,h5,h6⟩
  exact ⟨h1,h2,h3,h4,i,by omega,fun j hj hn=>((Q7 hX h1 h2 h5 h5).1 h6).2 j (by omega) hn⟩
variable {i:Nat} {V:List Nat}
theorem FJ.a0 (hi:i<X.length):FI (Ec X c) X.length i [i] (G3 [i] 0):=FI.start hi fun y _=>⟨0,Nat.le_refl _,rfl⟩
theorem FJ.ab {r:Nat}(hX:Fs r X)(hc:c.length=r){x:Nat}(h:FI (Ec X c) X.length i V (G3 V x)):FI (Ec X c) X.length i V (K1 X r V x 0):=h.mono fun z _ y he hp=>by
 obtain ⟨k,hk,hz⟩:=hp
 obtain ⟨_,_,_,_,s,h1,h2⟩:=(Su hX hc).1 he
 by_cases e:k=x
 ·subst e;exact .inr (.inr ⟨hz,s,Nat.zero_le _,h1,h2⟩)
 ·exact .inr (.inl ⟨k,by omega,hz⟩)
theorem FJ.bc {x t z:Nat}{L:List Int}(h:FI (Ec X c) X.length i V (K1 X r V x t))(hz:V[x]? = some z)(hL:∀ y,Ec X c z y→kk X z t=kk X y t→y∈V∨(y:Int)∈L):FI (Ec X c) X.length i V (Im X r V x t L 0):=h.mono fun u _ y he hp=>by
 rcases hp with hp | ⟨hu,s,h1,h2,h3⟩
 ·exact .inr (.inl hp)
 ·by_cases e:s=t
  ·subst e
   rw [hz] at hu
   cases hu
   rcases hL y he h3 with hm | hm
   ·exact .inl hm
   ·obtain ⟨d,hd⟩:=List.mem_iff_getElem?.1 hm
    exact .inr (.inr ⟨hz,.inr ⟨d,Nat.zero_le _,hd⟩⟩)
  ·exact .inr (.inr ⟨hu,.inl ⟨s,by omega,h2,h3⟩⟩)
theorem FJ.chave {x t:Nat}{L:List Int}{j y:Nat}(h:FI (Ec X c) X.length i V (Im X r V x t L j))(hj:L[j]? = some (y:Int))(hy:y∈V):FI (Ec X c) X.length i V (Im X r V x t L (j+1)):=h.mono fun z _ u _ hp=>by
 rcases hp with hp | ⟨hz,hp | ⟨d,h1,h2⟩⟩
 ·exact .inr (.inl hp)
 ·exact .inr (.inr ⟨hz,.inl hp⟩)
 ·by_cases e:d=j
  ·subst e
   rw [hj] at h2
   have:y=u:=by have:=Option.some.inj h2;omega
   exact .inl (this ▸ hy)
  ·exact .inr (.inr ⟨hz,.inr ⟨d,by omega,h2⟩⟩)
theorem FJ.cadd {x t z:Nat}{L:List Int}{j y:Nat}(h:FI (Ec X c) X.length i V (Im X r V x t L j))(hx:V[x]? = some z)(hj:L[j]? = some (y:Int))(he:Ec X c z y)(hn:y∉V):FI (Ec X c) X.length i (V++[y]) (Im X r (V++[y]) x t L (j+1)):=by
 have hxl:=(List.getElem?_eq_some_iff.1 hx).1
 have up:∀ {k w:Nat},V[k]? = some w→(V++[y])[k]? = some w:=fun {k w} hk=>by
  rw [List.getElem?_append_left (List.getElem?_eq_some_iff.1 hk).1];exact hk
 refine h.add (List.mem_iff_getElem?.2 ⟨x,hx⟩) he he.2.1 hn (fun u _ w _ hp=>?_) fun w _=>.inr (.inl ⟨V.length,hxl,by simp⟩)
 rcases hp with ⟨k,hk,hz⟩ | ⟨hz,hp | ⟨d,h1,h2⟩⟩
 ·exact .inr (.inl ⟨k,hk,up hz⟩)
 ·exact .inr (.inr ⟨up hz,.inl hp⟩)
 ·by_cases e:d=j
  ·subst e
   rw [hj] at h2
   have:y=w:=by have:=Option.some.inj h2;omega
   exact .inl (by rw [← this];simp)
  ·exact .inr (.inr ⟨up hz,.inr ⟨d,by omega,h2⟩⟩)
theorem FJ.cb {x t:Nat}{L:List Int}(h:FI (Ec X c) X.length i V (Im X r V x t L L.length)):FI (Ec X c) X.length i V (K1 X r V x (t+1)):=h.mono fun z _ y _ hp=>by
 rcases hp with hp | ⟨hz,⟨s,h1,h2,h3⟩ | ⟨d,h1,h2⟩⟩
 ·exact .inr (.inl hp)
 ·exact .inr (.inr ⟨hz,s,by omega,h2,h3⟩)
 ·have:=(List.getElem?_eq_some_iff.1 h2).1
  omega
theorem FJ.ba {x:Nat}(h:FI (Ec X c) X.length i V (K1 X r V x r)):FI (Ec X c) X.length i V (G3 V (x+1)):=h.mono fun z _ y he hp=>by
 rcases hp with ⟨k,hk,hz⟩ | ⟨hz,s,h1,h2,h3⟩
 ·exact .inr ⟨k,by omega,hz⟩
 ·omega
theorem FJ.ad (h:FI (Ec X c) X.length i V (G3 V V.length)):∀ j,j∈V ↔ Rt (Ec X c) i j:=h.done fun z _ y _ hp=>by
 obtain ⟨k,hk,hz⟩:=hp
 have:=(List.getElem?_eq_some_iff.1 hz).1
 omega
end
end Go.Fl
namespace Go.Proofs.YtfofabbkigonpaaDoor
section
open Go.Gov Go.Fl Go.Kz
open Classical
theorem Z9 (M:List (List Int))(hl:M.length≤1048576):Ao Tryd.prog 83 [Ae M] (i64 M.length) []:=by
 refine Cm qI rfl ?_;unfold U8
 (refine RN ?_;try with_reducible exact trivial)
theorem Vl (a b:List Int)(hl:b.length=a.length)(h0:0<a.length)(hs:a.length≤1048576):Ao Tryd.prog 84 [Ad a,Ad b] (.sl 0 1 0 (Be a b).length) [some (Aa (Be a b))]:=by
 have h:=fS a b hl h0 hs
 have e:(AV.sl 0 1 0 a.length) = .sl 0 1 0 (Be a b).length:=by rw [G7]
 rw [e] at h
 exact h
noncomputable def Au (X:List (List Int))(c:List Int)(k:Nat):List Nat:=(List.range k).filter fun m=>decide (Bm c (Ah X m))
theorem Ra (X:List (List Int))(c:List Int)(k:Nat):(Au X c k).length≤k:=by
 have:=List.length_filter_le (fun m=>decide (Bm c (Ah X m))) (List.range k)
 rwa [List.length_range] at this
theorem Ke {X:List (List Int)}{c:List Int}{k:Nat}(h:Bm c (Ah X k)):Au X c (k+1)=Au X c k++[k]:=by
 unfold Au
 rw [List.range_succ,List.filter_append,List.filter_cons_of_pos (by simpa using h)]
 rfl
theorem N6 {X:List (List Int)}{c:List Int}{k:Nat}(h:¬ Bm c (Ah X k)):Au X c (k+1)=Au X c k:=by
 unfold Au
 rw [List.range_succ,List.filter_append,List.filter_cons_of_neg (by simpa using h)]
 simp
theorem Rb (X:List (List Int))(c:List Int):∀ (d k:Nat),(Au X c k).length≤(Au X c (k+d)).length
 | 0,_=>Nat.le_refl _
 | d+1,k=>by
  have ih:=Rb X c d k
  rw [show k+(d+1)=k+d+1 by omega]
  by_cases h:Bm c (Ah X (k+d))
  ·rw [Ke h,List.length_append];omega
  ·rw [N6 h];exact ih
theorem Yb {X:List (List Int)}{c:List Int}{i:Nat}(h:Bm c (Ah X i)):∀ d,(Au X c (i+1+d))[(Au X c i).length]? = some i
 | 0=>by rw [Nat.add_zero,Ke h];simp
 | d+1=>by
  have ih:=Yb h d
  rw [show i+1+(d+1)=i+1+d+1 by omega]
  by_cases h2:Bm c (Ah X (i+1+d))
  ·rw [Ke h2,List.getElem?_append_left (List.getElem?_eq_some_iff.1 ih).1];exact ih
  ·rw [N6 h2];exact ih
theorem mX {X : List (List Int)} {c : List Int} : ∀ {i0 : Nat}, i0 ≤ X.length → (Au X c i0).length < (Au X c X.length).length →
    ∃ i,i0≤i∧i<X.length∧Bm c (Ah X i)∧(Au X c i).length=(Au X c i0).length∧∀ j,i0≤j→j<i→¬ Bm c (Ah X j):=by
 intro i0 h1 h2
 generalize hd:X.length - i0=d
 induction d generalizing i0 with
 | zero=>
  have:i0=X.length:=by omega
  subst this
  omega
 | succ d ih=>
  by_cases h:Bm c (Ah X i0)
  ·exact ⟨i0,Nat.le_refl _,by omega,h,rfl,fun j a b=>by omega⟩
  ·have e:=N6 h
   obtain ⟨i,a1,a2,a3,a4,a5⟩:=ih (i0:=i0+1) (by omega) (by rw [e];exact h2) (by omega)
   refine ⟨i,by omega,a2,a3,by rw [a4,e],fun j b1 b2=>?_⟩
   by_cases e2:j=i0
   ·subst e2;exact h
   ·exact a5 j (by omega) b2
theorem mW {X:List (List Int)}{c:List Int}{i0:Nat}(h:(Au X c X.length).length≤(Au X c i0).length):∀ j,i0≤j→j<X.length→¬ Bm c (Ah X j):=fun j h1 h2 hh=>by
 have a1:=Rb X c (j - i0) i0
 rw [show i0+(j - i0)=j by omega] at a1
 have a2:=congrArg List.length (Ke hh)
 rw [List.length_append,List.length_singleton] at a2
 have a3:=Rb X c (X.length - (j+1)) (j+1)
 rw [show j+1+(X.length - (j+1))=X.length by omega] at a3
 omega
def CQ (V:List Nat)(x off:Nat)(G:List Int):Prop:=x≤V.length∧G.length=off+(V.length - x)∧G.drop off=nI (V.drop x)
theorem CQ.one (i:Nat):CQ [i] 0 0 [(i:Int)]:=⟨by simp,by simp,by simp [nI]⟩
theorem CQ.head {V:List Nat}{x off z:Nat}{G:List Int}(h:CQ V x off G)(hz:V[x]? = some z):G.getD off 0=(z:Int):=by
 have h1:(G.drop off)[0]? = some (z:Int):=by
  rw [h.2.2]
  unfold nI
  rw [List.getElem?_map,List.getElem?_drop,Nat.add_zero,hz]
  rfl
 rw [List.getElem?_drop,Nat.add_zero] at h1
 rw [List.getD_eq_getElem?_getD,h1]
 rfl
theorem CQ.next {V:List Nat}{x off:Nat}{G:List Int}(h:CQ V x off G)(hx:x<V.length):CQ V (x+1) (off+1) G:=by
 refine ⟨hx,by have:=h.2.1;omega,?_⟩
 have:=congrArg (List.drop 1) h.2.2
 rw [List.drop_drop] at this
 rw [this]
 unfold nI
 rw [← List.map_drop,List.drop_drop]
theorem CQ.app {V:List Nat}{x off:Nat}{G:List Int}(h:CQ V x off G)(y:Nat):CQ (V++[y]) x 0 (nI (V.drop x)++[(y:Int)]):=by
 have hx:=h.1
 refine ⟨by simp;omega,by simp [nI];omega,?_⟩
 rw [List.drop_zero,List.drop_append_of_le_length hx,Yk]
theorem Wm (τ:Nat→Option Nat)(cl:Int)(es:Es)(h:∀ e∈es,Al τ e.2.2=e.2.2):Av τ (Bb cl es)=Bb cl es:=by
 rw [A8]
 unfold Bb
 rw [List.map_cons,List.map_map]
 congr 1
 refine List.map_congr_left fun e he=>?_
 simp only [Function.comp,Al,h e he]
theorem Yg {X:List (List Int)}{c:List Int}{r:Nat}{Lab:Nat→Prop}{es:Es}(h:MJ X c r Lab es)(τ:Nat→Option Nat)(cl:Int):Av τ (Bb cl es)=Bb cl es:=Wm τ cl es fun e he=>by
 obtain ⟨L,h1,_⟩:=h.so e he
 rw [h1]
 exact Rn τ L
theorem Xa (cl:Int)(es:Es):He none (Bb cl es)=true:=by
 unfold He Bb
 rw [List.drop_succ_cons,List.drop_zero]
 refine List.all_eq_true.2 fun x hx=>?_
 obtain ⟨e,_,rfl⟩:=List.mem_map.1 hx
 rfl
theorem Yp {L L' : List Int}(h:Af L=Af L'):L=L' := by
 have h1:Aa L=Aa L' := by
  injection h
 have h2:∀ l:List Int,(Aa l).map (fun x=>match x with
  | AV.val (.int _ n)=>n
  | _=>0)=l:=fun l=>by
  unfold Aa
  rw [List.map_map]
  exact List.map_id l
 rw [← h2 L,h1,h2]
theorem iV (cl:Int)(es:Es)(n b:Nat)(q:ByteArray)(x:AV):(Bb cl es).set (n+1) (.ent b (.string q) x)=Bb cl (es.set n (b,q,x)):=by
 unfold Bb
 rw [List.set_cons_succ,List.map_set]
theorem iU {cl:Int}{es:Es}{n b:Nat}{q:ByteArray}{x:AV}(h:es[n]? = some (b,q,x)):(Bb cl es)[n+1]? = some (.ent b (.string q) x):=by
 unfold Bb
 rw [List.getElem?_cons_succ,List.getElem?_map,h]
 rfl
theorem Vv {q:ByteArray}{x' : AV}:∀ {es:Es} {n b:Nat} {x:AV},Bz q es=some (n,b,x)→Bz q (es.set n (b,q,x'))=some (n,b,x')
 | [],n,b,x,h=>by cases h
 | e :: es,n,b,x,h=>by
  simp only [Bz] at h
  split at h
  ·cases h
   simp [Bz]
  ·rename_i hq
   cases hl:Bz q es with
   | none=>rw [hl] at h;cases h
   | some w=>
    rw [hl] at h
    simp only [Option.map_some,Option.some.injEq,Prod.mk.injEq] at h
    obtain ⟨rfl,h2⟩:=h
    have ih:=Vv (x' := x') (n:=w.1) (b:=b) (x:=x) (by rw [hl,← h2])
    simp only [List.set_cons_succ,Bz]
    rw [if_neg hq,ih]
    rfl
theorem V4 {α:Type}(x:α):∀ (l:List α) (n:Nat),(l.set n x).eraseIdx n=l.eraseIdx n
 | [],_=>by simp
 | _ :: _,0=>rfl
 | a :: l,n+1=>by simp [V4 x l n]
theorem Xy {E:Nat→Nat→Prop}{D:Nat→Prop}{n:Nat}(hE:∀ x y,E x y→E y x)(hD:∀ x y,D x→E x y→D y){i0 i:Nat}(hi:i0≤i)(h:∀ j,i0≤j→j<i→¬ D j):Bl E D n i0 []=Bl E D n i []:=by
 generalize hd:i - i0=d
 induction d generalizing i0 with
 | zero=>
  have:i0=i:=by omega
  rw [this]
 | succ d ih=>rw [Xx hE (.inl (h i0 (Nat.le_refl _) (by omega))) hD,ih (by omega) (fun j a b=>h j (by omega) b) (by omega)]
def aL (l:List (ByteArray×List Int)):List (ByteArray×AV):=l.map fun p=>(p.1,Af p.2)
theorem S2 (l:List (ByteArray×List Int)):Ar id (aL l)=Ar Af l:=by
 unfold Ar aL
 rw [List.map_map]
 rfl
theorem dD (l:List (ByteArray×List Int)):(aL l).length=l.length:=by simp [aL]
theorem Jv (q:ByteArray):∀ l:List (ByteArray×List Int),Ba q (aL l)=(Ba q l).map fun p=>(p.1,Af p.2)
 | []=>rfl
 | p :: l=>by
  have ih:=Jv q l
  unfold aL at ih ⊢
  simp only [List.map_cons,Ba]
  split
  ·rfl
  ·rw [ih,Option.map_map,Option.map_map];rfl
theorem dE (q:ByteArray)(L:List Int)(l:List (ByteArray×List Int)):Bg q (Af L) (aL l)=aL (Bg q L l):=by
 unfold Bg
 rw [Jv]
 cases Ba q l with
 | none=>simp [aL]
 | some p=>simp [aL,List.map_set]
theorem K8 (τ:Nat→Option Nat)(l:List (ByteArray×List Int)):Av τ (Ar id (aL l))=Ar id (aL l):=by
 rw [S2,R5]
 congr 1
 funext x
 exact Rn τ x
theorem Wv {q:ByteArray}{x:AV}:∀ {l:List (ByteArray×AV)} {n:Nat} {y:AV},Ba q l=some (n,y)→Ba q (l.set n (q,x))=some (n,x)
 | [],n,y,h=>by cases h
 | p :: l,n,y,h=>by
  simp only [Ba] at h
  split at h
  ·cases h
   simp [Ba]
  ·rename_i hq
   cases hl:Ba q l with
   | none=>rw [hl] at h;cases h
   | some w=>
    rw [hl] at h
    simp only [Option.map_some,Option.some.injEq,Prod.mk.injEq] at h
    obtain ⟨rfl,h2⟩:=h
    have ih:=Wv (x:=x) (n:=w.1) (y:=w.2) hl
    simp only [List.set_cons_succ,Ba]
    rw [if_neg hq,ih]
    rfl
theorem Sa {l:List (ByteArray×AV)}{n:Nat}{q:ByteArray}{x:AV}(h:l[n]? = some (q,x)):(Ar id l)[n+1]? = some (.ent n (.string q) x):=by
 have aux:∀ (m:Nat) (l:List (Value×AV)) (n:Nat) (p:Value×AV),l[n]? = some p→(B0 m l)[n]? = some (.ent (m+n) p.1 p.2):=by
  intro m l
  induction l generalizing m with
  | nil=>intro n p h;simp at h
  | cons p0 l ih=>
   intro n p h
   cases n with
   | zero=>simp only [List.getElem?_cons_zero,Option.some.injEq] at h;subst h;simp [B0]
   | succ n=>
    have:=ih (m+1) n p (by simpa using h)
    rw [show m+1+n=m+(n+1) by omega] at this
    simpa [B0] using this
 have:=aux 0 (l.map fun p=>(.string p.1,id p.2)) n (.string q,x) (by rw [List.getElem?_map,h];rfl)
 rw [Nat.zero_add] at this
 show (Ci _)[n+1]? = _
 unfold Ci
 rw [List.getElem?_cons_succ]
 exact this
theorem dC {q:ByteArray}{n:Nat}{L:List Int}{l:List (ByteArray×List Int)}(h:Ba q l=some (n,L))(M:List Int):(aL l).set n (q,Af M)=aL (Bg q M l):=by
 rw [← dE]
 unfold Bg
 rw [Jv,h]
 rfl
theorem yY (ks:List Nat)(H:Heap)(L:List (Nat×List Value)):(Ay L).map (Cd ks H)=Ay L:=by
 rw [Ay,List.map_map]
 rfl
theorem yZ (ks:List Nat)(H:Heap)(L:List Int):(Aa L).map (Cd ks H)=Aa L:=by
 rw [Aa,List.map_map]
 rfl
section
variable (X:List (List Int)) (c:List Int) (r:Nat)
abbrev B4:Nat→Prop:=fun m=>m<X.length∧Bm c (Ah X m)
theorem rV (hX:Fs r X)(hS:Sm X)(hr0:0<r)(hr:r≤5)(hN:X.length≤400)(hc:c.length=r):D9 Tryd.prog Bh 86 [Ae X,Ad c] (.sl 0 1 0 X.length) [some (Aa (Bl (Ec X c) (B4 X c) X.length X.length []))]:=by
 have hsz:=Z9 X (by omega)
 have hrp:=uX (-1) X.length (by omega)
 have hrow:∀ a:Nat,a<X.length→(X.getD a []).length=r:=fun a ha=>hX.at_len ha
 refine Kp qL rfl ?_;unfold Vb
 refine RN ?_
 refine An (hrp) ?_
 refine RN ?_
 refine An (hsz) ?_
 refine RN ?_
 refine Ak (α:=Nat×List (ByteArray×List Int)) (S:=fun p=>([(1,Ad c),(2,.pto [Ae X] 0),(5,.sl 1 1 0 X.length),(6,.mp 2),(7,.clo 110 [] [.pto [Ae X] 0]),(8,.sl 3 1 0 (Au X c p.1).length),(26,i64 (X.length:Int)),(27,i64 (p.1:Int))],[some (Ay Bh),some (Aa (List.replicate X.length (-1))),some [.mpc (Ar id (aL p.2))],some (Aa (nI (Au X c p.1)))])) (C:=fun p=>p.1≤X.length∧MI X c r p.1 0 p.2) (μ:=fun p=>X.length - p.1) (0,[]) ⟨Nat.zero_le _,MI.start⟩ ?_ ?_
 ·refine (Ref.sel [0,3,4] (F' := [(1,Ad c),(2,.pto [Ae X] 0),(5,.sl 1 1 0 X.length),(6,.mp 2),(7,.clo 110 [] [.pto [Ae X] 0]),(8,Ag),(26,i64 (X.length:Int)),(27,i64 0)]) (H' := [some (Ay Bh),some (Aa (List.replicate X.length (-1))),some [.mpc (Ar id (aL []))]]) rfl ?_ ?_).trans ((Ref.nil 8 1 rfl).trans (Ref.to rfl (by simp [sub,Ac,Au])))
  ·simp only [En,Cd,vw,List.map_cons,List.map_nil,List.getD_cons_zero,List.getD_cons_succ,Option.map_some,yY,yZ,go_sem,↓reduceIte,Nat.reduceEqDiff,Nat.reduceAdd,reduceCtorEq]
   rfl
  ·simp [sub,Ac,Jf,vw,Ai,go_sem,↓reduceIte,Nat.reduceEqDiff,Nat.reduceAdd,reduceCtorEq]
 rintro ⟨k,l⟩ ⟨hk,hM⟩
 dsimp only at hk hM ⊢
 have hml:=Ra X c k
 have hnl:=Rj (Au X c k)
 refine RN ?_
 refine ⟨fun hc1=>?_,fun hc1=>?_⟩
 ·have hrk:=hrow k (by omega)
  have hcm:=Vl c (X.getD k []) (by omega) (by omega) (by omega)
  have hcl:=G7 c (X.getD k [])
  have heq:=gZ (Be c (X.getD k [])) c (by omega) (by omega)
  refine RN ?_
  refine An (hcm) ?_
  refine RN ?_
  refine An (heq) ?_
  refine RN ?_
  refine ⟨fun hc2=>?_,fun hc2=>?_⟩
  ·have hno:¬ Bm c (Ah X k):=fun h=>hc2 (has_eq.2 h)
   have hmn:=N6 hno
   refine RN ?_
   exact ⟨(k+1,l),⟨by dsimp only;omega,hM.skip hno⟩,by dsimp only;omega,Ref.gc [0,1,2,3] rfl (by rw [hmn];simp only [Aq,K8,go_sem,↓reduceIte,Nat.reduceEqDiff,Nat.reduceAdd,reduceCtorEq]) (by simp [sub,Ac,hmn,go_sem,↓reduceIte,Nat.reduceEqDiff,Nat.reduceAdd,reduceCtorEq])⟩
  ·have hye:Bm c (Ah X k):=has_eq.1 hc2
   have hmy:=Ke hye
   have happ:List.take (Au X c k).length (Aa (nI (Au X c k)))++[i64 (k:Int)]=Aa (nI (Au X c (k+1))):=by
    rw [hmy,Yk,List.take_of_length_le (by simp [Aa,hnl])];simp [Aa]
   have hml2:=Ra X c (k+1)
   refine RN ?_
   refine Ak (α:=Nat×List (ByteArray×List Int)) (S:=fun p=>([(1,Ad c),(2,.pto [Ae X] 0),(5,.sl 1 1 0 X.length),(6,.mp 2),(7,.clo 110 [] [.pto [Ae X] 0]),(8,.sl 3 1 0 (Au X c (k+1)).length),(9,i64 (k:Int)),(26,i64 (X.length:Int)),(27,i64 (k:Int)),(44,i64 (c.length:Int)),(45,i64 (p.1:Int))],[some (Ay Bh),some (Aa (List.replicate X.length (-1))),some [.mpc (Ar id (aL p.2))],some (Aa (nI (Au X c (k+1))))])) (C:=fun p=>p.1≤c.length∧MI X c r k p.1 p.2) (μ:=fun p=>c.length - p.1) (0,l) ⟨Nat.zero_le _,hM⟩ (Ref.gc [0,1,2,6] rfl (by rw [happ];simp only [Aq,K8,go_sem,↓reduceIte,Nat.reduceEqDiff,Nat.reduceAdd,reduceCtorEq]) (by simp [sub,Ac,hmy,go_sem,↓reduceIte,Nat.reduceEqDiff,Nat.reduceAdd,reduceCtorEq])) ?_
   clear hM happ hcm heq hml hnl
   rintro ⟨i,l⟩ ⟨hi,hM⟩
   dsimp only at hi hM ⊢
   have hnl:=Rj (Au X c (k+1))
   have hll:=hM.ll
   have hkr:k*r≤2000:=Nat.le_trans (Nat.mul_le_mul (show k≤400 by omega) hr) (by decide)
   have hal:=dD l
   refine RN ?_
   refine ⟨fun hc3=>?_,fun hc3=>?_⟩
   ·have hre:=Zu X r k i hX hS hr (by omega) (by omega)
    have hput:=hM.put (by omega) hye (show i<r by omega)
    rw [show kZ (Dh X k i)=kk X k i from rfl] at hre
    generalize kk X k i=q at hre hput
    cases hfi:Ba q l with
    | none=>
     have hlk:A7 q (aL l)=none:=by unfold A7;rw [Jv,hfi];rfl
     have hlk2:A7 q l=none:=by unfold A7;rw [hfi];rfl
     have hmp:∀ o m:Nat,I5 (.string q) (AV.sl o 1 0 m) (Ar id (aL l))=Ar id (aL l++[(q,.sl o 1 0 m)]):=fun o m=>by
      have:=Oe id (aL l) q (AV.sl o 1 0 m)
      rw [show Bg q (AV.sl o 1 0 m) (aL l)=aL l++[(q,.sl o 1 0 m)] by unfold Bg;rw [Jv,hfi];rfl] at this
      exact this
     have hat:∀ o m:Nat,(Ar id (aL l++[(q,AV.sl o 1 0 m)]))[l.length+1]? = some (.ent l.length (.string q) (.sl o 1 0 m)):=fun o m=>Sa (by rw [List.getElem?_append_right (by omega),hal,Nat.sub_self];rfl)
     rw [hlk2] at hput
     refine RN ?_
     refine Gw (hre) ?_
     refine RN ?_
     simp only [hlk,Option.map_none,go_sem,↓reduceIte,Nat.reduceEqDiff,Nat.reduceAdd,reduceCtorEq]
     refine RN ?_
     simp only [hmp]
     have hse:(Ar id (aL l++[(q,AV.sl 5 1 0 1)])).set (l.length+1) (.ent l.length (.string q) (.osl 1 1 [i64 (k:Int)]))=Ar id (aL (Bg q ([]++[(k:Int)]) l)):=by
      have h1:=R7 id (aL l++[(q,AV.sl 5 1 0 1)]) l.length q (.osl 1 1 [i64 (k:Int)])
      have h2:Bg q ([]++[(k:Int)]) l=l++[(q,[(k:Int)])]:=by unfold Bg;rw [hfi];rfl
      refine h1.trans ?_
      rw [h2,List.set_append_right _ _ (by omega),hal,Nat.sub_self]
      simp [aL]
      rfl
     refine ⟨(i+1,Bg q ([]++[(k:Int)]) l),⟨by dsimp only;omega,hput⟩,by dsimp only;omega,(Ref.closeE 2 (l.length+1) 5 (k:=1) (n:=1) (cs2:=[i64 (k:Int)]) rfl (hat 5 1) rfl (by decide) rfl).trans ?_⟩
     rw [hse]
     exact Ref.gc [0,1,2,3] rfl (by simp only [Aq,K8,go_sem,↓reduceIte,Nat.reduceEqDiff,Nat.reduceAdd,reduceCtorEq]) (by simp [sub,Ac,go_sem,↓reduceIte,Nat.reduceEqDiff,Nat.reduceAdd,reduceCtorEq])
    | some w=>
     obtain ⟨n,L⟩:=w
     have hlk2:A7 q l=some L:=by unfold A7;rw [hfi];rfl
     have hLl:=hM.ln _ (J8 hlk2)
     dsimp only at hLl
     have hfa:Ba q (aL l)=some (n,Af L):=by rw [Jv,hfi];rfl
     have hga:(aL l)[n]? = some (q,Af L):=Lu hfa
     obtain ⟨A1,hA1⟩:∃ A1:Nat→Nat→List (ByteArray×AV),A1=fun o m=>(aL l).set n (q,.sl o 1 0 m):=⟨_,rfl⟩
     have hnl2:n<(aL l).length:=(List.getElem?_eq_some_iff.1 hga).1
     have hf1:∀ o m,Ba q (A1 o m)=some (n,.sl o 1 0 m):=fun o m=>by rw [hA1];exact Wv hfa
     have hlk:∀ o m,A7 q (A1 o m)=some (.sl o 1 0 m):=fun o m=>by unfold A7;rw [hf1];rfl
     have hln1:∀ o m,(A1 o m).length=l.length:=fun o m=>by rw [hA1];simp [hal]
     have hmp:∀ o m o' m' : Nat,I5 (.string q) (AV.sl o' 1 0 m') (Ar id (A1 o m))=Ar id (A1 o' m'):=fun o m o' m' => by
      refine (Oe id (A1 o m) q (AV.sl o' 1 0 m')).trans ?_
      unfold Bg
      rw [hf1]
      rw [hA1]
      simp only [List.set_set]
     have hat:∀ o m:Nat,(Ar id (A1 o m))[n+1]? = some (.ent n (.string q) (.sl o 1 0 m)):=fun o m=>Sa (Lu (hf1 o m))
     have hop:(Ar id (aL l)).set (n+1) (.ent n (.string q) (.sl 4 1 0 L.length))=Ar id (A1 4 L.length):=by
      rw [hA1];exact R7 id (aL l) n q (.sl 4 1 0 L.length)
     have hcl2:∀ o m,(Ar id (A1 o m)).set (n+1) (.ent n (.string q) (.osl 1 (L.length+1) (Aa L++[i64 (k:Int)])))=Ar id (aL (Bg q (L++[(k:Int)]) l)):=fun o m=>by
      refine (R7 id (A1 o m) n q (.osl 1 (L.length+1) (Aa L++[i64 (k:Int)]))).trans ?_
      rw [hA1,← dC hfi]
      simp only [List.set_set]
      simp [Af,Aa]
     rw [hlk2,Option.getD_some] at hput
     refine Hs ((Ref.openE 2 (n+1) (cs:=Ar id (aL l)) (k:=1) (n:=L.length) rfl (Sa hga)).trans (Ref.to (F' := [(1,Ad c),(2,.pto [Ae X] 0),(5,.sl 1 1 0 X.length),(6,.mp 2),(7,.clo 110 [] [.pto [Ae X] 0]),(8,.sl 3 1 0 (Au X c (k+1)).length),(9,i64 (k:Int)),(26,i64 (X.length:Int)),(27,i64 (k:Int)),(44,i64 (c.length:Int)),(45,i64 (i:Int))]) (H' := [some (Ay Bh),some (Aa (List.replicate X.length (-1))),some [.mpc (Ar id (A1 4 L.length))],some (Aa (nI (Au X c (k+1)))),some (Aa L)]) (by rw [← hop];rfl) (by simp [sub,Ac]))) ?_
     refine RN ?_
     refine Gw (hre) ?_
     refine RN ?_
     simp only [hlk,Option.map_some,id,go_sem,↓reduceIte,Nat.reduceEqDiff,Nat.reduceAdd,reduceCtorEq]
     refine RN ?_
     simp only [hmp]
     refine ⟨(i+1,Bg q (L++[(k:Int)]) l),⟨by dsimp only;omega,hput⟩,by dsimp only;omega,(Ref.closeE 2 (n+1) 6 (k:=1) (n:=L.length+1) (cs2:=Aa L++[i64 (k:Int)]) rfl (hat 6 (L.length+1)) rfl (by decide) (by simp [Aa])).trans ?_⟩
     rw [hcl2]
     exact Ref.gc [0,1,2,3] rfl (by simp only [Aq,K8,go_sem,↓reduceIte,Nat.reduceEqDiff,Nat.reduceAdd,reduceCtorEq]) (by simp [sub,Ac,go_sem,↓reduceIte,Nat.reduceEqDiff,Nat.reduceAdd,reduceCtorEq])
   ·obtain rfl:i=c.length:=by omega
    refine RN ?_
    exact ⟨(k+1,l),⟨by dsimp only;omega,by rw [hc] at hM;exact hM.next⟩,by dsimp only;omega,Ref.gc [0,1,2,3] rfl (by simp only [Aq,K8,go_sem,↓reduceIte,Nat.reduceEqDiff,Nat.reduceAdd,reduceCtorEq]) (by simp [sub,Ac,go_sem,↓reduceIte,Nat.reduceEqDiff,Nat.reduceAdd,reduceCtorEq])⟩
 ·obtain rfl:k=X.length:=by omega
  have hM2:=fun Lab=>hM.to (Lab:=Lab) (Nat.le_trans (Nat.mul_le_mul hN hr) (by decide))
  have hsg:=(S2 l).trans (wN l)
  have hE:∀ x y,Ec X c x y→Ec X c y x:=fun x y=>Ec.symm x y
  have hDE:∀ x y,B4 X c x→Ec X c x y→B4 X c y:=fun x y _ e=>⟨e.2.1,e.2.2.2.1⟩
  have hll2:=fun i V=>Xu (E:=Ec X c) (B4 X c) X.length i V
  rw [hsg]
  generalize Hb 0 l=es at hM2
  generalize (l.length:Int)=cl
  refine RN ?_
  refine Ak (α:=Nat×Es) (S:=fun p=>([(1,Ad c),(2,.pto [Ae X] 0),(5,.sl 1 1 0 X.length),(6,.mp 2),(7,.clo 110 [] [.pto [Ae X] 0]),(62,.sl 3 1 0 (Au X c X.length).length),(63,i64 ((Au X c X.length).length:Nat)),(64,i64 ((Au X c p.1).length:Nat))],[some (Ay Bh),some (Aa (Bl (Ec X c) (B4 X c) X.length p.1 [])),some [.mpc (Bb cl p.2)],some (Aa (nI (Au X c X.length)))])) (C:=fun p=>p.1≤X.length∧MJ X c r (fun m=>A9 (Ec X c) m<p.1) p.2) (μ:=fun p=>X.length - p.1) (0,es) ⟨Nat.zero_le _,hM2 _⟩ (Ref.to (by rw [lQ]) (by simp [sub,Ac,Au])) ?_
  clear hM2 hsg hM
  rintro ⟨i0,es⟩ ⟨hi0,hM⟩
  dsimp only at hi0 hM ⊢
  have hl0:=hll2 i0 []
  refine RN ?_
  refine ⟨fun hc1=>?_,fun hc1=>?_⟩
  ·obtain ⟨i,hi1,hi2,hih,him,hib⟩:=mX (X:=X) (c:=c) hi0 (by omega)
   have hlt:=Xy (E:=Ec X c) (D:=B4 X c) (n:=X.length) hE hDE hi1 fun j a b h=>hib j a b h.2
   have hMi:MJ X c r (fun m=>A9 (Ec X c) m<i) es:=hM.mono fun m h=>Nat.lt_of_lt_of_le h hi1
   have hia:(nI (Au X c X.length)).getD (Au X c i0).length 0=(i:Int):=by
    have:=Yb hih (X.length - (i+1))
    rw [show i+1+(X.length - (i+1))=X.length by omega,him] at this
    rw [nM (by omega),List.getD_eq_getElem?_getD,this];rfl
   have hDi:B4 X c i:=⟨hi2,hih⟩
   have hmy:=congrArg List.length (Ke hih)
   rw [List.length_append,List.length_singleton,him] at hmy
   have hl0:=hll2 i []
   have hfr:=lP (E:=Ec X c) (D:=B4 X c) (n:=X.length) (i:=i) hi2 hDi
   have hnl:=Rj (Au X c X.length)
   have hml:=Ra X c X.length
   rw [hlt]
   clear hM hlt
   refine RN ?_
   simp only [hia,go_sem,↓reduceIte,Nat.reduceEqDiff,Nat.reduceAdd,reduceCtorEq]
   refine RN ?_
   refine ⟨fun hc2=>?_,fun hc2=>?_⟩
   ·have hls : A9 (Ec X c) i < i := by
      have h1:=(Gs (Ec X c) i).1
      have h2:A9 (Ec X c) i≠i:=fun e=>by have:=hfr.2 e;omega
      omega
    have hsk:=Xx (E:=Ec X c) (D:=B4 X c) (n:=X.length) (i:=i) hE (.inr hls) hDE
    refine RN ?_
    exact ⟨(i+1,es),⟨by dsimp only;omega,hMi.mono fun m h=>Nat.lt_succ_of_lt h⟩,by dsimp only;omega,Ref.to (by rw [hsk]) (by simp [sub,Ac,hmy])⟩
   ·have hls:A9 (Ec X c) i=i:=hfr.1 (by omega)
    have hst:=Xw (E:=Ec X c) (D:=B4 X c) (n:=X.length) (i:=i) (V:=[]) (j:=i) (by omega)
    have hfi:=FJ.a0 (X:=X) (c:=c) hi2
    refine RN ?_
    refine Ak (α:=List Nat×Nat×Es×Nat×List Int) (S:=fun p=>([(1,Ad c),(2,.pto [Ae X] 0),(5,.sl 1 1 0 X.length),(6,.mp 2),(7,.clo 110 [] [.pto [Ae X] 0]),(13,i64 (i:Int)),(14,.sl 4 1 p.2.2.2.1 (p.1.length - p.2.1)),(62,.sl 3 1 0 (Au X c X.length).length),(63,i64 ((Au X c X.length).length:Nat)),(64,i64 ((Au X c i0).length:Nat))],[some (Ay Bh),some (Aa (Bl (Ec X c) (B4 X c) X.length i p.1)),some [.mpc (Bb cl p.2.2.1)],some (Aa (nI (Au X c X.length))),some (Aa p.2.2.2.2)])) (C:=fun p=>CQ p.1 p.2.1 p.2.2.2.1 p.2.2.2.2∧FI (Ec X c) X.length i p.1 (G3 p.1 p.2.1)∧MJ X c r (fun m=>A9 (Ec X c) m<i∨m∈p.1) p.2.2.1) (μ:=fun p=>X.length - p.2.1) ([i],0,es,0,[(i:Int)]) ⟨CQ.one i,hfi,hMi.mono fun m h=>.inl h⟩ (Ref.to (by rw [hst];rfl) (by simp [sub,Ac])) ?_
    clear hMi hst hfi
    rintro ⟨V,x,es,off,G⟩ ⟨hq,hf,hM⟩
    dsimp only at hq hf hM ⊢
    have hVn:=hf.len
    have hG:=hq.2.1
    refine RN ?_
    refine ⟨fun hc3=>?_,fun hc3=>?_⟩
    ·have hxV:x<V.length:=by omega
     obtain ⟨z,hz⟩:∃ z,V[x]? = some z:=⟨_,List.getElem?_eq_getElem hxV⟩
     have hzR:=hf.ok z (List.mem_iff_getElem?.2 ⟨x,hz⟩)
     have hzN:=hzR.1
     have hzH0:Bm c (Ah X z):=by
      have h1:B4 X c z:=(hzR.2.keep (E' := fun _ _=>True) (Q:=B4 X c) (fun a b ha hab=>⟨hDE a b ha hab,.inr trivial⟩) hDi).1
      exact h1.2
     refine RN ?_
     refine Ak (α:=List Nat×Nat×Es×Nat×List Int) (S:=fun p=>([(1,Ad c),(2,.pto [Ae X] 0),(5,.sl 1 1 0 X.length),(6,.mp 2),(7,.clo 110 [] [.pto [Ae X] 0]),(13,i64 (i:Int)),(14,.sl 4 1 p.2.2.2.1 (p.1.length - x)),(62,.sl 3 1 0 (Au X c X.length).length),(63,i64 ((Au X c X.length).length:Nat)),(64,i64 ((Au X c i0).length:Nat)),(85,i64 (c.length:Int)),(86,i64 (p.2.1:Int))],[some (Ay Bh),some (Aa (Bl (Ec X c) (B4 X c) X.length i p.1)),some [.mpc (Bb cl p.2.2.1)],some (Aa (nI (Au X c X.length))),some (Aa p.2.2.2.2)])) (C:=fun p=>p.2.1≤c.length∧p.1[x]? = some z∧CQ p.1 x p.2.2.2.1 p.2.2.2.2∧FI (Ec X c) X.length i p.1 (K1 X r p.1 x p.2.1)∧MJ X c r (fun m=>A9 (Ec X c) m<i∨m∈p.1) p.2.2.1) (μ:=fun p=>c.length - p.2.1) (V,0,es,off,G) ⟨Nat.zero_le _,hz,hq,FJ.ab hX hc hf,hM⟩ (Ref.to1) ?_
     clear hq hf hM hVn hG hc3 hz hxV
     rintro ⟨V,t,es,off,G⟩ ⟨ht,hz,hq,hf,hM⟩
     dsimp only at ht hz hq hf hM ⊢
     have hxV:=(List.getElem?_eq_some_iff.1 hz).1
     have hVn:=hf.len
     have hG:=hq.2.1
     have hhd:=hq.head hz
     refine RN ?_
     refine ⟨fun hc4=>?_,fun hc4=>?_⟩
     ·have hre:=Zu X r z t hX hS hr hzN (by omega)
      rw [show kZ (Dh X z t)=kk X z t from rfl] at hre
      obtain ⟨q,hqk⟩:∃ q,q=kk X z t:=⟨_,rfl⟩
      rw [← hqk] at hre
      have hPq:∀ y,Ec X c z y→kk X z t=kk X y t→Pm X c r q y:=fun y he hk=>⟨he.2.1,he.2.2.2.1,t,by omega,by rw [hqk,hk]⟩
      have hin:∀ y,Ec X c z y→(A9 (Ec X c) y<i∨y∈V)→y∈V:=fun y he hor=>hor.elim (fun h=>absurd h (by
       have h1:Rt (Ec X c) i y:=.step hzR.2 he
       have:=Kb hE h1
       rw [hls] at this
       omega)) id
      cases hlo:Bz q es with
      | none=>
       have hlk:Gb (.string q) (Bb cl es)=none:=by rw [Yf,hlo];rfl
       have hmd:Kg (.string q) (Bb cl es)=Bb cl es:=by rw [Yc,hlo]
       have hbc:=FJ.bc (L:=[]) hf hz fun y he hk=>.inl (hin y he ((hM.co q).elim (fun h=>h y (hPq y he hk)) fun h=>by
        obtain ⟨L,h1,_⟩:=h y (hPq y he hk)
        rw [hlo] at h1
        cases h1))
       have hcb:=FJ.cb hbc
       have hko:=Xa cl es
       refine RN ?_
       simp only [hhd]
       refine Gw (hre) ?_
       refine RN ?_
       simp only [hlk,hko,go_sem,↓reduceIte,Nat.reduceEqDiff,Nat.reduceAdd,reduceCtorEq]
       refine RN ?_
       refine Ak (α:=Unit) (S:=fun _=>([(1,Ad c),(2,.pto [Ae X] 0),(5,.sl 1 1 0 X.length),(6,.mp 2),(7,.clo 110 [] [.pto [Ae X] 0]),(13,i64 (i:Int)),(14,.sl 4 1 off (V.length - x)),(62,.sl 3 1 0 (Au X c X.length).length),(63,i64 ((Au X c X.length).length:Nat)),(64,i64 ((Au X c i0).length:Nat)),(85,i64 (c.length:Int)),(86,i64 (t:Int)),(16,.val (.string q)),(97,Ag),(98,i64 0),(99,i64 0)],[some (Ay Bh),some (Aa (Bl (Ec X c) (B4 X c) X.length i V)),some [.mpc (Bb cl es)],some (Aa (nI (Au X c X.length))),some (Aa G)])) (C:=fun _=>True) (μ:=fun _=>0) () trivial (Ref.to1) ?_
       rintro _ _
       dsimp only
       refine RN ?_
       refine fun _=>?_
       refine RN ?_
       simp only [hko,hmd,go_sem,↓reduceIte,Nat.reduceEqDiff,Nat.reduceAdd,reduceCtorEq]
       refine RN ?_
       exact ⟨(V,t+1,es,off,G),⟨by dsimp only;omega,hz,hq,hcb,hM⟩,by dsimp only;omega,Ref.to1⟩
      | some w=>
       obtain ⟨n,b,x0⟩:=w
       have hes:=Ql hlo
       obtain ⟨L,rfl,hLl,hLm⟩:∃ L:List Int,x0=Af L∧L.length≤4000∧∀ z∈L,∃ m:Nat,z=m∧Pm X c r q m:=hM.so _ (List.mem_of_getElem? hes)
       obtain ⟨es1,hes1⟩:∃ es1,es1=es.set n (b,q,AV.sl 5 1 0 L.length):=⟨_,rfl⟩
       have hl1:Bz q es1=some (n,b,.sl 5 1 0 L.length):=by rw [hes1];exact Vv hlo
       have hlk:Gb (.string q) (Bb cl es1)=some (.sl 5 1 0 L.length):=by rw [Yf,hl1];rfl
       have hmd:Kg (.string q) (Bb cl es1)=Bb cl (es.eraseIdx n):=by
        rw [Yc,hl1]
        dsimp only
        rw [hes1,V4]
       have hop:(Bb cl es).set (n+1) (.ent b (.string q) (.sl 5 1 0 L.length))=Bb cl es1:=by rw [hes1];exact iV cl es n b q _
       have hko:=Xa cl es1
       have hrn:∀ τ:Nat→Option Nat,τ 5=some 5→Av τ (Bb cl es1)=Bb cl es1:=fun τ hτ=>Wm τ cl es1 fun e he=>by
        rw [hes1] at he
        rcases List.mem_or_eq_of_mem_set he with he | rfl
        ·obtain ⟨L,h1,_⟩:=hM.so e he
         rw [h1]
         exact Rn τ L
        ·simp [Al,hτ]
       have hbc:=FJ.bc (L:=L) hf hz fun y he hk=>(hM.co q).elim (fun h=>.inl (hin y he (h y (hPq y he hk)))) fun h=>by
        obtain ⟨L2,h1,h2⟩:=h y (hPq y he hk)
        rw [hlo] at h1
        exact .inr (Yp (Option.some.inj h1) ▸ h2)
       refine Hs ((Ref.openE 2 (n+1) (cs:=Bb cl es) (cs2:=Aa L) (k:=1) (n:=L.length) rfl (iU hes)).trans (Ref.to (F' := [(1,Ad c),(2,.pto [Ae X] 0),(5,.sl 1 1 0 X.length),(6,.mp 2),(7,.clo 110 [] [.pto [Ae X] 0]),(13,i64 (i:Int)),(14,.sl 4 1 off (V.length - x)),(62,.sl 3 1 0 (Au X c X.length).length),(63,i64 ((Au X c X.length).length:Nat)),(64,i64 ((Au X c i0).length:Nat)),(85,i64 (c.length:Int)),(86,i64 (t:Int))]) (H' := [some (Ay Bh),some (Aa (Bl (Ec X c) (B4 X c) X.length i V)),some [.mpc (Bb cl es1)],some (Aa (nI (Au X c X.length))),some (Aa G),some (Aa L)]) (by rw [← hop];rfl) (by simp [sub,Ac]))) ?_
       refine RN ?_
       simp only [hhd]
       refine Gw (hre) ?_
       refine RN ?_
       simp only [hlk,hko,go_sem,↓reduceIte,Nat.reduceEqDiff,Nat.reduceAdd,reduceCtorEq]
       refine RN ?_
       refine Ak (α:=List Nat×Nat×Nat×List Int) (S:=fun p=>([(1,Ad c),(2,.pto [Ae X] 0),(5,.sl 1 1 0 X.length),(6,.mp 2),(7,.clo 110 [] [.pto [Ae X] 0]),(13,i64 (i:Int)),(14,.sl 4 1 p.2.2.1 (p.1.length - x)),(62,.sl 3 1 0 (Au X c X.length).length),(63,i64 ((Au X c X.length).length:Nat)),(64,i64 ((Au X c i0).length:Nat)),(85,i64 (c.length:Int)),(86,i64 (t:Int)),(16,.val (.string q)),(97,.sl 5 1 0 L.length),(98,i64 (L.length:Int)),(99,i64 (p.2.1:Int))],[some (Ay Bh),some (Aa (Bl (Ec X c) (B4 X c) X.length i p.1)),some [.mpc (Bb cl es1)],some (Aa (nI (Au X c X.length))),some (Aa p.2.2.2),some (Aa L)])) (C:=fun p=>p.2.1≤L.length∧p.1[x]? = some z∧CQ p.1 x p.2.2.1 p.2.2.2∧FI (Ec X c) X.length i p.1 (Im X r p.1 x t L p.2.1)∧(∀ d,d<p.2.1→∀ y:Nat,L[d]? = some (y:Int)→y∈p.1)∧∀ m,m∈V→m∈p.1) (μ:=fun p=>L.length - p.2.1) (V,0,off,G) ⟨Nat.zero_le _,hz,hq,hbc,fun d h=>absurd h (Nat.not_lt_zero _),fun m h=>h⟩ (Ref.to1) ?_
       clear hz hq hf hbc hhd hxV hVn hG
       rintro ⟨V2,j,off,G⟩ ⟨hj,hz,hq,hf,hdn,hsub⟩
       dsimp only at hj hz hq hf hdn hsub ⊢
       have hxV:=(List.getElem?_eq_some_iff.1 hz).1
       have hVn:=hf.len
       have hG:=hq.2.1
       have hlv:=hll2 i V2
       refine RN ?_
       refine ⟨fun hc5=>?_,fun hc5=>?_⟩
       ·obtain ⟨y,hyv,hPy⟩:=hLm L[j] (List.getElem_mem (show j<L.length by omega))
        have hy1:L[j]? = some (y:Int):=by rw [List.getElem?_eq_getElem (show j<L.length by omega),hyv]
        have hy2:L.getD j 0=(y:Int):=by rw [List.getD_eq_getElem?_getD,hy1];rfl
        have hyN:=hPy.1
        have hzH:Bm c (Ah X z):=hzH0
        have hyE:Ec X c z y:=by
         obtain ⟨_,h2,s,h3,h4⟩:=hPy
         have h5:=(Q7 hX hyN hzN h3 (show t<r by omega)).1 (by rw [h4,hqk])
         refine (Su hX hc).2 ⟨hzN,hyN,hzH,h2,s,h3,?_⟩
         rw [h4,hqk,h5.1]
        have hly:=Xv (E:=Ec X c) (D:=B4 X c) (n:=X.length) (i:=i) (V:=V2) hyN
        have hls2:¬ (B4 X c y∧A9 (Ec X c) y<i):=fun h=>by
         have h1:Rt (Ec X c) i y:=.step hzR.2 hyE
         have:=Kb hE h1
         rw [hls] at this
         omega
        refine RN ?_
        simp only [hy2,go_sem,↓reduceIte,Nat.reduceEqDiff,Nat.reduceAdd,reduceCtorEq]
        refine RN ?_
        refine ⟨fun hc6=>?_,fun hc6=>?_⟩
        ·have hnV:y∉V2:=(hly.1 hc6).2
         have hst:=Xw (E:=Ec X c) (D:=B4 X c) (n:=X.length) (i:=i) (V:=V2) (j:=y) hls2
         have hadd:=FJ.cadd hf hz hy1 hyE hnV
         have hqa:=hq.app y
         have hap:List.take (V2.length - x) (List.drop off (Aa G))++[i64 (y:Int)]=Aa (nI (V2.drop x)++[(y:Int)]):=by
          have h1:List.drop off (Aa G)=Aa (nI (V2.drop x)):=by
           rw [← hq.2.2];unfold Aa;rw [List.map_drop]
          rw [h1,List.take_of_length_le (by simp [Aa,nI])]
          simp [Aa]
         have hup:(V2++[y])[x]? = some z:=by
          rw [List.getElem?_append_left hxV];exact hz
         have hle2:V2.length - x+1=V2.length+1 - x:=by omega
         refine RN ?_
         exact ⟨(V2++[y],j+1,0,nI (V2.drop x)++[(y:Int)]),⟨by dsimp only;omega,hup,hqa,hadd,fun d hd u hu=>by
          by_cases e:d=j
          ·subst e
           rw [hy1] at hu
           have:y=u:=by have:=Option.some.inj hu;omega
           subst this
           simp
          ·exact List.mem_append_left _ (hdn d (by dsimp only at hd;omega) u hu),fun m hm=>List.mem_append_left _ (hsub m hm)⟩,by dsimp only;omega,Ref.gc [0,1,2,3,7,5] rfl (by rw [hst,hap];simp only [Aq,go_sem,↓reduceIte,Nat.reduceEqDiff,Nat.reduceAdd,reduceCtorEq];rw [hrn _ (by simp)]) (by simp [sub,Ac,hle2,go_sem,↓reduceIte,Nat.reduceEqDiff,Nat.reduceAdd,reduceCtorEq])⟩
        ·have hyV:y∈V2:=Classical.byContradiction fun h=>by have:=hly.2 ⟨hls2,h⟩;omega
         refine RN ?_
         exact ⟨(V2,j+1,off,G),⟨by dsimp only;omega,hz,hq,FJ.chave hf hy1 hyV,fun d hd u hu=>by
          by_cases e:d=j
          ·subst e
           rw [hy1] at hu
           have:y=u:=by have:=Option.some.inj hu;omega
           exact this ▸ hyV
          ·exact hdn d (by dsimp only at hd;omega) u hu,hsub⟩,by dsimp only;omega,Ref.to1⟩
       ·obtain rfl:j=L.length:=by omega
        have hcb:=FJ.cb hf
        have hM2:=(hM.mono (Lab' := fun m=>A9 (Ec X c) m<i∨m∈V2) fun m h=>h.elim .inl fun h=>.inr (hsub m h))
        have hdel:=hM2.del hlo fun m hm=>(hM.co q).elim (fun h=>(h m hm).elim .inl fun h=>.inr (hsub m h)) fun h=>by
         obtain ⟨L2,h1,h2⟩:=h m hm
         rw [hlo] at h1
         have h3:(m:Int)∈L:=Yp (Option.some.inj h1) ▸ h2
         obtain ⟨d,hd⟩:=List.mem_iff_getElem?.1 h3
         exact .inr (hdn d (List.getElem?_eq_some_iff.1 hd).1 m hd)
        refine RN ?_
        simp only [hko,hmd,go_sem,↓reduceIte,Nat.reduceEqDiff,Nat.reduceAdd,reduceCtorEq]
        refine RN ?_
        exact ⟨(V2,t+1,es.eraseIdx n,off,G),⟨by dsimp only;omega,hz,hq,hcb,hdel⟩,by dsimp only;omega,Ref.gc [0,1,2,3,4] rfl (by simp only [Aq,Yg hdel,go_sem,↓reduceIte,Nat.reduceEqDiff,Nat.reduceAdd,reduceCtorEq]) (by simp [sub,Ac,go_sem,↓reduceIte,Nat.reduceEqDiff,Nat.reduceAdd,reduceCtorEq])⟩
     ·obtain rfl:t=c.length:=by omega
      rw [hc] at hf
      have hba:=FJ.ba hf
      have hqn:=hq.next hxV
      have hsb:V.length - x - 1=V.length - (x+1):=by omega
      refine RN ?_
      exact ⟨(V,x+1,es,off+1,G),⟨hqn,hba,hM⟩,by dsimp only;omega,Ref.to rfl (by simp [sub,Ac,hsb])⟩
    ·obtain rfl:x=V.length:=by have:=hq.1;omega
     have had:=FJ.ad hf
     have hfill:=lO (E:=Ec X c) (D:=B4 X c) (n:=X.length) (i:=i) (V:=V) hE hls hDi hDE had
     refine RN ?_
     exact ⟨(i+1,es),⟨by dsimp only;omega,hM.mono fun m h=>h.elim (fun h=>Nat.lt_succ_of_lt h) fun h=>by
      have:=Kb hE ((had m).1 h)
      rw [hls] at this
      omega⟩,by dsimp only;omega,Ref.gc [0,1,2,3] rfl (by rw [hfill];simp only [Aq,Yg hM,go_sem,↓reduceIte,Nat.reduceEqDiff,Nat.reduceAdd,reduceCtorEq]) (by simp [sub,Ac,hmy,go_sem,↓reduceIte,Nat.reduceEqDiff,Nat.reduceAdd,reduceCtorEq])⟩
  ·have hno:=mW (X:=X) (c:=c) (i0:=i0) (by omega)
   have hlt:=Xy (E:=Ec X c) (D:=B4 X c) (n:=X.length) hE hDE hi0 fun j a b h=>hno j a b h.2
   rw [hlt]
   refine RN ?_
   exact Ref.gc [1] rfl (by simp only [Aq,go_sem,↓reduceIte,Nat.reduceEqDiff,Nat.reduceAdd,reduceCtorEq]) (by simp [sub,Ac,go_sem,↓reduceIte,Nat.reduceEqDiff,Nat.reduceAdd,reduceCtorEq])
end
end
section
open Go.Gov Go.Fl Go.Kz
open Classical
noncomputable def pL (X:List (List Int))(c:List Int):List Int:=Bl (Ec X c) (B4 X c) X.length X.length []
theorem rT (X:List (List Int))(c:List Int):(pL X c).length=X.length:=Xu _ _ _ _
theorem fQ {r:Nat}{X:List (List Int)}(hX:Fs r X){a b:Nat}(ha:a<X.length):(Be (Ah X a) (Ah X b)).length=r:=by rw [G7,hX.at_len ha]
theorem fR {r:Nat}{X:List (List Int)}(hX:Fs r X)(hS:Sm X){a b:Nat}(ha:a<X.length):∀ j,j<(Be (Ah X a) (Ah X b)).length → -1≤(Be (Ah X a) (Ah X b)).getD j 0∧(Be (Ah X a) (Ah X b)).getD j 0<1000:=fun j hj=>by
 rw [G7] at hj
 rw [Is hj]
 split
 ·have h1 : (Ah X a).getD j 0 ∈ Ah X a := by
    rw [List.getD_eq_getElem?_getD,List.getElem?_eq_getElem hj]
    exact List.getElem_mem _
  have:=hS _ (Fz ha) _ h1
  omega
 ·omega
theorem fP {r:Nat}{X:List (List Int)}(hX:Fs r X){a b:Nat}(ha:a<X.length)(hb:b<X.length):Bm (Be (Ah X a) (Ah X b)) (Ah X a)∧Bm (Be (Ah X a) (Ah X b)) (Ah X b):=by
 constructor
 ·intro i hi
  rw [G7] at hi
  rw [Is hi]
  split
  ·exact .inr rfl
  ·exact .inl rfl
 ·intro i hi
  rw [G7] at hi
  rw [Is hi]
  split
  ·rename_i e;exact .inr e
  ·exact .inl rfl
theorem rU {r : Nat} {X : List (List Int)} (hX : Fs r X) {a b : Nat} (ha : a < X.length) (hb : b < X.length) :
    ((pL X (Be (Ah X a) (Ah X b))).getD a 0=(pL X (Be (Ah X a) (Ah X b))).getD b 0) ↔ Rt (Em X (Dr X a b)) a b:=by
 have hh:=fP hX ha hb
 unfold pL
 rw [Xt X.length ha ⟨ha,hh.1⟩,Xt X.length hb ⟨hb,hh.2⟩,Int.natCast_inj,mE (fun x y=>Ec.symm x y)]
 exact lZ hX ha hb
def Kpt (X:List (List Int))(l:List (ByteArray×List Int)):Prop:=∀ e∈l,∃ c,e.1=kZ c∧e.2=pL X c
theorem Kpt.look {X:List (List Int)}{l:List (ByteArray×List Int)}(h:Kpt X l){c P:List Int}(hl:A7 (kZ c) l=some P):P=pL X c:=by
 obtain ⟨c2,h1,h2⟩:=h _ (J8 hl)
 have:=W6 h1
 dsimp only at h2
 rw [h2,this]
theorem Kpt.put {X:List (List Int)}{l:List (ByteArray×List Int)}(h:Kpt X l)(c:List Int):Kpt X (Bg (kZ c) (pL X c) l):=fun e he=>by
 rcases Go.Fl.iput_mem he with rfl | he
 ·exact ⟨c,rfl,rfl⟩
 ·exact h e he
theorem Q3 (τ:Nat→Option Nat)(l:List (ByteArray×List Int)):Av τ (Ar Ad l)=Ar Ad l:=by
 rw [R5]
 congr 1
 funext x
 exact jQ τ x
theorem fV (X:List (List Int))(r:Nat)(hX:Fs r X)(hS:Sm X)(hr0:0<r)(hr:r≤5)(hN:X.length≤400):Jt Tryd.prog Bh 56 [Ae X] (fun L:List Int=>L.length≤2∧(L=[] ↔ Il X)) (fun L=>if L=[] then Ag else .sl 0 1 0 L.length) (fun L=>if L=[] then [] else [some (Aa L)]):=by
 have hsz:=Z9 X (by omega)
 have hrow:∀ a:Nat,a<X.length→(X.getD a []).length=r:=fun a ha=>hX.at_len ha
 refine sP pU rfl ?_;unfold Uv
 refine RN ?_
 refine An (hsz) ?_
 refine RN ?_
 refine Ak (α:=Nat×List (ByteArray×List Int)) (S:=fun p=>([(0,Ae X),(3,.mp 1),(12,i64 (X.length:Int)),(13,i64 (p.1:Int))],[some (Ay Bh),some [.mpc (Ar Ad p.2)]])) (C:=fun p=>p.1≤X.length∧Kpt X p.2∧p.2.length≤p.1*X.length∧∀ a,a<p.1→∀ b,a<b→b<X.length→Rt (Em X (Dr X a b)) a b) (μ:=fun p=>X.length - p.1) (0,[]) ⟨Nat.zero_le _,fun e h=>(by cases h),Nat.zero_le _,fun a h=>absurd h (Nat.not_lt_zero _)⟩ (Ref.to1) ?_
 rintro ⟨a,l⟩ ⟨ha,hK,hln,hdn⟩
 dsimp only at ha hK hln hdn ⊢
 refine RN ?_
 refine ⟨fun hc1=>?_,fun hc1=>?_⟩
 ·have hmu:(a+1)*X.length=a*X.length+X.length:=by rw [Nat.add_mul,Nat.one_mul]
  have hmb:a*X.length≤160000:=Nat.le_trans (Nat.mul_le_mul (show a≤400 by omega) hN) (by decide)
  generalize a*X.length=aN at hmu hmb hln
  refine RN ?_
  refine Ak (α:=Nat×List (ByteArray×List Int)) (S:=fun p=>([(0,Ae X),(3,.mp 1),(4,i64 (a:Int)),(5,i64 (p.1:Int)),(12,i64 (X.length:Int)),(13,i64 (a:Int))],[some (Ay Bh),some [.mpc (Ar Ad p.2)]])) (C:=fun p=>a<p.1∧p.1≤X.length∧Kpt X p.2∧p.2.length≤aN+p.1∧∀ b,a<b→b<p.1→Rt (Em X (Dr X a b)) a b) (μ:=fun p=>X.length - p.1) (a+1,l) ⟨Nat.lt_succ_self _,by omega,hK,by dsimp only;omega,fun b h1 h2=>(by dsimp only at h2;omega)⟩ (Ref.to1) ?_
  clear hK hln
  rintro ⟨b,l⟩ ⟨hab,hb,hK,hln,hdb⟩
  dsimp only at hab hb hK hln hdb ⊢
  refine RN ?_
  refine An (hsz) ?_
  refine RN ?_
  refine ⟨fun hc2=>?_,fun hc2=>?_⟩
  ·have hra:=hrow a (by omega)
   have hrb:=hrow b (by omega)
   have hcm:=Vl (X.getD a []) (X.getD b []) (by omega) (by omega) (by omega)
   have hcl:=fQ hX (a:=a) (b:=b) (by omega)
   have hky:=W7 (Be (X.getD a []) (X.getD b [])) (fR hX hS (by omega)) (by unfold Ah at hcl;omega)
   have hpw:=rV X (Be (X.getD a []) (X.getD b [])) r hX hS hr0 hr hN hcl
   have hsm:=rU hX (a:=a) (b:=b) (by omega) (by omega)
   have hput:=hK.put (Be (X.getD a []) (X.getD b []))
   have hget:=fun P=>hK.look (c:=Be (X.getD a []) (X.getD b [])) (P:=P)
   rw [show Bl (Ec X (Be (X.getD a []) (X.getD b []))) (B4 X (Be (X.getD a []) (X.getD b []))) X.length X.length []=pL X (Be (X.getD a []) (X.getD b [])) from rfl] at hpw
   unfold Ah at hsm hcl
   have hpl:=rT X (Be (X.getD a []) (X.getD b []))
   generalize Be (X.getD a []) (X.getD b [])=c at *
   generalize pL X c=P at *
   refine RN ?_
   refine An (hcm) ?_
   refine RN ?_
   refine Gw (hky) ?_
   cases hlk:A7 (kZ c) l with
   | none=>
    refine RN ?_
    simp only [hlk,Option.map_none,go_sem,↓reduceIte,Nat.reduceEqDiff,Nat.reduceAdd,reduceCtorEq]
    refine RN ?_
    refine Gw (hpw) ?_
    have hmp:I5 (.string (kZ c)) (Ad P) (Ar Ad l)=Ar Ad (Bg (kZ c) P l):=Oe Ad l (kZ c) P
    have hil:(Bg (kZ c) P l).length≤l.length+1:=Go.Fl.iput_len _ _ _
    have hPt:List.take X.length (Aa P)=Aa P:=List.take_of_length_le (by simp [Aa,hpl])
    simp only [go_sem,↓reduceIte,Nat.reduceEqDiff,Nat.reduceAdd,reduceCtorEq]
    refine Hs ((Ref.ice 3 (F' := [(0,Ae X),(3,.mp 1),(4,i64 (a:Int)),(5,i64 (b:Int)),(7,.val (.string (kZ c))),(8,Ad P),(12,i64 (X.length:Int)),(13,i64 (a:Int))]) (H' := [some (Ay Bh),some [.mpc (Ar Ad l)],some (Aa c),none]) rfl (by simp [sub,Ac,J7,ice,Ai,aB,hpl,hPt,go_sem,↓reduceIte,Nat.reduceEqDiff,Nat.reduceAdd,reduceCtorEq])).trans (Ref.gc [0,1] (F' := [(0,Ae X),(3,.mp 1),(4,i64 (a:Int)),(5,i64 (b:Int)),(7,.val (.string (kZ c))),(8,Ad P),(12,i64 (X.length:Int)),(13,i64 (a:Int))]) (H' := [some (Ay Bh),some [.mpc (Ar Ad l)]]) rfl (by simp only [Aq,Q3,go_sem,↓reduceIte,Nat.reduceEqDiff,Nat.reduceAdd,reduceCtorEq]) (by simp [sub,Ac,go_sem,↓reduceIte,Nat.reduceEqDiff,Nat.reduceAdd,reduceCtorEq]))) ?_
    (refine RN ?_;try with_reducible exact trivial)
    try simp only [hmp,go_sem,↓reduceIte,Nat.reduceEqDiff,Nat.reduceAdd,reduceCtorEq]
    refine RN ?_
    refine ⟨fun hc3=>?_,fun hc3=>?_⟩
    ·(refine RN ?_;try with_reducible exact trivial)
     refine ⟨[(a:Int),(b:Int)],⟨by simp,fun h=>(by cases h),fun h=>absurd (hsm.2 (h a b hab (by omega))) hc3⟩,?_⟩
     exact Ref.gc2 [2]
    ·(refine RN ?_;try with_reducible exact trivial)
     exact ⟨(b+1,Bg (kZ c) P l),⟨by dsimp only;omega,by dsimp only;omega,hput,by dsimp only;omega,fun b2 h1 h2=>by
      by_cases e:b2=b
      ·subst e;exact hsm.1 hc3
      ·exact hdb b2 h1 (by dsimp only at h2;omega)⟩,by dsimp only;omega,Ref.gc [0,1] rfl (by simp only [Aq,Q3,go_sem,↓reduceIte,Nat.reduceEqDiff,Nat.reduceAdd,reduceCtorEq]) (by simp [sub,Ac,go_sem,↓reduceIte,Nat.reduceEqDiff,Nat.reduceAdd,reduceCtorEq])⟩
   | some P2=>
    obtain rfl:=hget P2 hlk
    refine RN ?_
    simp only [hlk,Option.map_some,go_sem,↓reduceIte,Nat.reduceEqDiff,Nat.reduceAdd,reduceCtorEq]
    refine RN ?_
    refine ⟨fun hc3=>?_,fun hc3=>?_⟩
    ·(refine RN ?_;try with_reducible exact trivial)
     refine ⟨[(a:Int),(b:Int)],⟨by simp,fun h=>(by cases h),fun h=>absurd (hsm.2 (h a b hab (by omega))) hc3⟩,?_⟩
     exact Ref.gc2 [3]
    ·(refine RN ?_;try with_reducible exact trivial)
     exact ⟨(b+1,l),⟨by dsimp only;omega,by dsimp only;omega,hK,by dsimp only;omega,fun b2 h1 h2=>by
      by_cases e:b2=b
      ·subst e;exact hsm.1 hc3
      ·exact hdb b2 h1 (by dsimp only at h2;omega)⟩,by dsimp only;omega,Ref.gc [0,1] rfl (by simp only [Aq,Q3,go_sem,↓reduceIte,Nat.reduceEqDiff,Nat.reduceAdd,reduceCtorEq]) (by simp [sub,Ac,go_sem,↓reduceIte,Nat.reduceEqDiff,Nat.reduceAdd,reduceCtorEq])⟩
  ·obtain rfl:b=X.length:=by omega
   refine RN ?_
   exact ⟨(a+1,l),⟨by dsimp only;omega,hK,by dsimp only;omega,fun a2 h1 b h2 h3=>by
    by_cases e:a2=a
    ·subst e;exact hdb b h2 h3
    ·exact hdn a2 (by dsimp only at h1;omega) b h2 h3⟩,by dsimp only;omega,Ref.to1⟩
 ·obtain rfl:a=X.length:=by omega
  refine RN ?_
  refine ⟨[],⟨by simp,fun _ a b h1 h2=>hdn a (by omega) b h1 h2,fun _=>rfl⟩,?_⟩
  exact Ref.gc2 []
end
end Go.Proofs.YtfofabbkigonpaaDoor
