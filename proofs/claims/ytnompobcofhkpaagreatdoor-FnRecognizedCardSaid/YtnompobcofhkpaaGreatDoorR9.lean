/- Texts that belong together. -/
import Derived.Test.YtnompobcofhkpaaGreatDoorZn
import Derived.Test.YtnompobcofhkpaaGreatDoorZw
set_option linter.unusedSimpArgs false
set_option linter.unusedVariables false
set_option maxRecDepth 100000
namespace Go.Cl
open Classical
structure Eqv (n:Nat) (R:Nat→Nat→Prop):Prop where
 refl:∀ x,x<n→R x x
 symm:∀ x y,x<n→y<n→R x y→R y x
 trans:∀ x y z,x<n→y<n→z<n→R x y→R y z→R x z
structure Sys (n:Nat) (R:Nat→Nat→Prop) (V:List Nat):Prop where
 nd:V.Nodup
 lt:∀ v∈V,v<n
 ne:∀ v∈V,∀ u∈V,R v u→v=u
 all:∀ x,x<n→∃ v∈V,R v x
noncomputable def lst (n:Nat)(R:Nat→Nat→Prop):List Nat:=(List.range n).filter fun x=>decide (∀ y,y<x→¬ R y x)
noncomputable def num (n:Nat)(R:Nat→Nat→Prop):Nat:=(lst n R).length
end Go.Cl
namespace Go.Proofs.YtnompobcofhkpaaGreatDoor
section
open Go.Cl
open Classical
def mv (M:List (List Int))(i x:Nat):Nat:=((M.getD i []).getD x 0).toNat
structure Gg (n:Nat) (M:List (List Int)):Prop where
 len:M.length=3
 row:∀ i,i<3→(M.getD i []).length=n
 val:∀ i x,i<3→x<n→(M.getD i []).getD x 0=(mv M i x:Nat)
 lt:∀ i x,i<3→x<n→mv M i x<n
 inv:∀ i x,i<3→x<n→mv M i (mv M i x)=x
 fre:∀ i x,i<3→x<n→mv M i x≠x
 com:∀ x,x<n→mv M 2 (mv M 0 x)=mv M 0 (mv M 2 x)
 dif:∀ x,x<n→mv M 0 x≠mv M 2 x
theorem IsMap.mvi {M:List (List Int)}(h:IsMap M):Gg (fl M) M:=by
 obtain ⟨h1,h2⟩:=h
 have hr:∀ i,i<3→I6 (fl M) (M.getD i []):=fun i hi=>h1.rows i (by omega)
 have hv:∀ i x,i<3→x<fl M→(M.getD i []).getD x 0=(mv M i x:Nat)∧mv M i x<fl M:=fun i x hi hx=>by
  obtain ⟨a,b,c⟩:=hr i hi
  have:=b.at (k:=x) (by omega)
  unfold mv
  omega
 refine ⟨h2,fun i hi=>(hr i hi).1,fun i x hi hx=>(hv i x hi hx).1,fun i x hi hx=>(hv i x hi hx).2,fun i x hi hx=>?_,fun i x hi hx=>?_,fun x hx=>?_,fun x hx=>?_⟩
 ·obtain ⟨a,b,c⟩:=hr i hi
  have:=(c x (by omega)).2
  have h3:mv M i (mv M i x)=((M.getD i []).getD ((M.getD i []).getD x 0).toNat 0).toNat:=rfl
  rw [h3,this]
  omega
 ·obtain ⟨a,b,c⟩:=hr i hi
  have:=(c x (by omega)).1
  rw [(hv i x hi hx).1] at this
  omega
 ·have:=(h1.com 0 2 x (by omega) (by omega) hx).2
  unfold mv
  rw [this]
 ·have:=(h1.com 0 2 x (by omega) (by omega) hx).1
  rw [(hv 0 x (by omega) hx).1,(hv 2 x (by omega) hx).1] at this
  omega
theorem IsMap.of {n:Nat}{M:List (List Int)}(h:Gg n M)(h2:2≤n)(h4:n≤400)(hc:∀ x,x<n→Rch M 0 x):IsMap M:=by
 have hn:fl M=n:=h.row 0 (by omega)
 have hl:=h.len
 refine ⟨⟨by omega,by omega,by omega,by omega,fun i hi=>?_,fun i k f hik hk hf=>?_,fun x hx=>hc x (by omega)⟩,h.len⟩
 ·have hi3:i<3:=by omega
  have hr:=h.row i hi3
  have hinj:∀ x y,x<n→y<n→mv M i x=mv M i y→x=y:=fun x y hx hy e=>by
   rw [← h.inv i x hi3 hx,e,h.inv i y hi3 hy]
  refine ⟨by rw [hr,hn],⟨by omega,fun j hj=>⟨?_,fun k hk e=>?_⟩⟩,fun k hk=>⟨?_,?_⟩⟩
  ·have:=h.lt i j hi3 (by omega)
   rw [h.val i j hi3 (by omega)]
   omega
  ·rw [h.val i j hi3 (by omega),h.val i k hi3 (by omega)] at e
   have:=hinj k j (by omega) (by omega) (by omega)
   omega
  ·rw [h.val i k hi3 (by omega)]
   have:=h.fre i k hi3 (by omega)
   omega
  ·have h1:=h.lt i k hi3 (by omega)
   rw [h.val i k hi3 (by omega),Int.toNat_natCast,h.val i _ hi3 (by omega),h.inv i k hi3 (by omega)]
 ·obtain ⟨rfl,rfl⟩:i=0∧k=2:=by omega
  have a0:=h.lt 0 f (by omega) (by omega)
  have a2:=h.lt 2 f (by omega) (by omega)
  have:=h.dif f (by omega)
  refine ⟨?_,?_⟩
  ·rw [h.val 0 f (by omega) (by omega),h.val 2 f (by omega) (by omega)]
   omega
  ·rw [h.val 0 f (by omega) (by omega),h.val 2 f (by omega) (by omega),Int.toNat_natCast,Int.toNat_natCast,h.val 2 _ (by omega) a0,h.val 0 _ (by omega) a2,h.com f (by omega)]
theorem lS {p f j:Nat}(hj:j<p):(f*p+j) / p=f∧(f*p+j)%p=j:=by
 rw [Nat.mul_comm f p]
 exact ⟨by rw [Nat.mul_add_div (by omega),Nat.div_eq_of_lt hj];omega,by rw [Nat.mul_add_mod,Nat.mod_eq_of_lt hj]⟩
theorem Iw {n p x:Nat}(hp:0<p)(hx:x<n*p):∃ f j,f<n∧j<p∧x=f*p+j:=
 ⟨x / p,x%p,(Nat.div_lt_iff_lt_mul hp).2 hx,Nat.mod_lt _ hp,by have:=Nat.div_add_mod x p;rw [Nat.mul_comm] at this;exact this.symm⟩
theorem Ld {n p f j:Nat}(hf:f<n)(hj:j<p):f*p+j<n*p:=by
 have:(f+1)*p≤n*p:=Nat.mul_le_mul_right p hf
 rw [Nat.add_mul] at this
 omega
theorem Pd {p f g j k:Nat}(hj:j<p)(hk:k<p)(e:f*p+j=g*p+k):f=g∧j=k:=by
 have h1:=lS (f:=f) hj
 have h2:=lS (f:=g) hk
 rw [e] at h1
 exact ⟨h1.1.symm.trans h2.1,h1.2.symm.trans h2.2⟩
theorem Nw (M:List (List Int))(T:List (List Tg))(i:Nat):∀ (k f j:Nat),f<k→j<T.length→(B9 M T i k).getD (f*T.length+j) 0=Hq M T i f j
 | 0,f,j,hf,_=>by omega
 | k+1,f,j,hf,hj=>by
  rw [P6,List.getD_eq_getElem?_getD]
  by_cases e:f<k
  ·rw [List.getElem?_append_left (by rw [G1];exact Ld e hj),← List.getD_eq_getElem?_getD]
   exact Nw M T i k f j e hj
  ·obtain rfl:f=k:=by omega
   rw [List.getElem?_append_right (by rw [G1];omega),G1,show f*T.length+j - f*T.length=j by omega]
   simp [Dt,hj]
def D9 (M:List (List Int))(T:List (List Tg))(i f j:Nat):Nat:=if 0≤(tg T j i).2 then mv M (tg T j i).2.toNat f else f
def A1 (T:List (List Tg))(i j:Nat):Nat:=(tg T j i).1.toNat
theorem T5 {n:Nat}{M:List (List Int)}{T:List (List Tg)}(hn:fl M=n){i:Nat}(hi:i<3):(Bc M T 3).getD i []=B9 M T i n:=by
 subst hn
 simp [Bc,hi]
theorem Ie {n : Nat} {M : List (List Int)} {T : List (List Tg)} (hM : Gg n M) (hT : Bs T) {i f j : Nat} (hi : i < 3) (hf : f < n) (hj : j < T.length) :
    ((Bc M T 3).getD i []).getD (f*T.length+j) 0=(D9 M T i f j*T.length+A1 T i j:Nat)∧D9 M T i f j<n∧A1 T i j<T.length:=by
 obtain ⟨o1,o2,o3,o4,_⟩:=hT.ok j i hj hi
 rw [T5 (hM.row 0 (by omega)) hi,Nw M T i n f j hf hj]
 unfold Hq D9 A1
 split
 ·rename_i h
  rw [hM.val _ f (by omega) hf]
  have:=hM.lt (tg T j i).2.toNat f (by omega) hf
  refine ⟨?_,this,by omega⟩
  rw [show (tg T j i).1=((tg T j i).1.toNat:Nat) by omega]
  simp
 ·refine ⟨?_,hf,by omega⟩
  rw [show (tg T j i).1=((tg T j i).1.toNat:Nat) by omega]
  simp
theorem Fy {n:Nat}{M:List (List Int)}{T:List (List Tg)}(hM:Gg n M)(hT:Bs T){i f j:Nat}(hi:i<3)(hf:f<n)(hj:j<T.length):mv (Bc M T 3) i (f*T.length+j)=D9 M T i f j*T.length+A1 T i j:=by
 unfold mv
 rw [(Ie hM hT hi hf hj).1,Int.toNat_natCast]
theorem Ala {n:Nat}{M:List (List Int)}{T:List (List Tg)}(hM:Gg n M)(hT:Bs T){i f j:Nat}(hi:i<3)(hf:f<n)(hj:j<T.length):A1 T i (A1 T i j)=j∧D9 M T i (D9 M T i f j) (A1 T i j)=f:=by
 have h:=hT.inv j i hj hi
 obtain ⟨o1,o2,o3,o4,_⟩:=hT.ok j i hj hi
 unfold Lz at h
 unfold D9 A1
 rw [h]
 refine ⟨Int.toNat_natCast _,?_⟩
 dsimp only
 split
 ·exact hM.inv _ f (by omega) hf
 ·rfl
theorem T7 {n:Nat}{M:List (List Int)}{T:List (List Tg)}(hM:Gg n M)(hT:Bs T):Gg (n*T.length) (Bc M T 3):=by
 have hp:=hT.p1
 have hlt:∀ i f j,i<3→f<n→j<T.length→mv (Bc M T 3) i (f*T.length+j)<n*T.length:=fun i f j hi hf hj=>by
  rw [Fy hM hT hi hf hj]
  obtain ⟨_,h2,h3⟩:=Ie hM hT hi hf hj
  exact Ld h2 h3
 refine ⟨by simp [Bc],fun i hi=>by rw [T5 (hM.row 0 (by omega)) hi,G1],fun i x hi hx=>?_,fun i x hi hx=>?_,fun i x hi hx=>?_,fun i x hi hx=>?_,fun x hx=>?_,fun x hx=>?_⟩
 ·obtain ⟨f,j,hf,hj,rfl⟩:=Iw (by omega) hx
  rw [Fy hM hT hi hf hj]
  exact (Ie hM hT hi hf hj).1
 ·obtain ⟨f,j,hf,hj,rfl⟩:=Iw (by omega) hx
  exact hlt i f j hi hf hj
 ·obtain ⟨f,j,hf,hj,rfl⟩:=Iw (by omega) hx
  obtain ⟨_,h2,h3⟩:=Ie hM hT hi hf hj
  obtain ⟨h4,h5⟩:=Ala hM hT hi hf hj
  rw [Fy hM hT hi hf hj,Fy hM hT hi h2 h3,h4,h5]
 ·obtain ⟨f,j,hf,hj,rfl⟩:=Iw (by omega) hx
  obtain ⟨_,h2,h3⟩:=Ie hM hT hi hf hj
  obtain ⟨o1,o2,o3,o4,o5⟩:=hT.ok j i hj hi
  rw [Fy hM hT hi hf hj]
  intro e
  obtain ⟨e1,e2⟩:=Pd h3 hj e
  unfold D9 at e1
  unfold A1 at e2
  split at e1
  ·exact hM.fre _ f (by omega) hf e1
  ·exact o5 ⟨by omega,by omega⟩
 ·obtain ⟨f,j,hf,hj,rfl⟩:=Iw (by omega) hx
  obtain ⟨_,a2,a3⟩:=Ie hM hT (i:=0) (by omega) hf hj
  obtain ⟨_,b2,b3⟩:=Ie hM hT (i:=2) (by omega) hf hj
  obtain ⟨c1,c2,c3,c4,_⟩:=hT.com j hj
  obtain ⟨o1,o2,o3,o4,o5⟩:=hT.ok j 0 hj (by omega)
  obtain ⟨q1,q2,q3,q4,q5⟩:=hT.ok j 2 hj (by omega)
  rw [Fy hM hT (by omega) hf hj,Fy hM hT (by omega) a2 a3,Fy hM hT (by omega) hf hj,Fy hM hT (by omega) b2 b3]
  have e1:A1 T 2 (A1 T 0 j)=A1 T 0 (A1 T 2 j):=by unfold A1;rw [c1]
  have e2:D9 M T 2 (D9 M T 0 f j) (A1 T 0 j)=D9 M T 0 (D9 M T 2 f j) (A1 T 2 j):=by
   unfold D9 A1
   rw [c2,c3]
   unfold Lu at c4
   by_cases g0:0≤(tg T j 0).2<;>by_cases g2:0≤(tg T j 2).2<;>simp only [g0,g2,if_true,if_false]
   rcases c4 with c4 | c4 | c4 | c4
   ·rw [c4]
   ·omega
   ·omega
   ·have:((tg T j 0).2.toNat=0∧(tg T j 2).2.toNat=2)∨((tg T j 0).2.toNat=2∧(tg T j 2).2.toNat=0):=by omega
    rcases this with ⟨z1,z2⟩ | ⟨z1,z2⟩
    ·rw [z1,z2];exact hM.com f hf
    ·rw [z1,z2];exact (hM.com f hf).symm
  rw [e1,e2]
 ·obtain ⟨f,j,hf,hj,rfl⟩:=Iw (by omega) hx
  obtain ⟨_,a2,a3⟩:=Ie hM hT (i:=0) (by omega) hf hj
  obtain ⟨_,b2,b3⟩:=Ie hM hT (i:=2) (by omega) hf hj
  obtain ⟨c1,c2,c3,c4,c5⟩:=hT.com j hj
  obtain ⟨o1,o2,o3,o4,o5⟩:=hT.ok j 0 hj (by omega)
  obtain ⟨q1,q2,q3,q4,q5⟩:=hT.ok j 2 hj (by omega)
  have hi2:=hT.inv j 2 hj (by omega)
  rw [Fy hM hT (by omega) hf hj,Fy hM hT (by omega) hf hj]
  intro e
  obtain ⟨e1,e2⟩:=Pd a3 b3 e
  have e3:(tg T (tg T j 0).1.toNat 2).1=j:=by
   unfold A1 at e2
   unfold Lz at hi2
   rw [e2,hi2]
  refine c5 ⟨?_,e3⟩
  unfold D9 at e1
  by_cases g0:0≤(tg T j 0).2<;>by_cases g2:0≤(tg T j 2).2
  ·rw [if_pos g0,if_pos g2] at e1
   unfold Lu at c4
   rcases c4 with c4 | c4 | c4 | c4
   ·exact c4
   ·omega
   ·omega
   ·have:((tg T j 0).2.toNat=0∧(tg T j 2).2.toNat=2)∨((tg T j 0).2.toNat=2∧(tg T j 2).2.toNat=0):=by omega
    rcases this with ⟨z1,z2⟩ | ⟨z1,z2⟩
    ·rw [z1,z2] at e1;exact absurd e1 (hM.dif f hf)
    ·rw [z1,z2] at e1;exact absurd e1.symm (hM.dif f hf)
  ·rw [if_pos g0,if_neg g2] at e1
   exact absurd e1 (hM.fre _ f (by omega) hf)
  ·rw [if_neg g0,if_pos g2] at e1
   exact absurd e1.symm (hM.fre _ f (by omega) hf)
  ·omega
end
section
open Go.Cl
open Classical
inductive Lk (M:List (List Int)) (S:List Nat) (x:Nat):Nat→Prop
 | refl:Lk M S x x
 | step {y i:Nat}:Lk M S x y→i∈S→Lk M S x (mv M i y)
variable {n:Nat} {M:List (List Int)} {T:List (List Tg)} {S:List Nat}
theorem mD {L:List (List Int)}(hL:L=S.map fun i=>M.getD i []){x y:Nat}:Rch L x y ↔ Lk M S x y:=by
 subst hL
 constructor
 ·intro h
  induction h with
  | refl=>exact .refl
  | step _ hp ih=>
   obtain ⟨i,hi,rfl⟩:=List.mem_map.1 hp
   exact ih.step hi
 ·intro h
  induction h with
  | refl=>exact .refl
  | step _ hi ih=>exact ih.step (List.mem_map.2 ⟨_,hi,rfl⟩)
theorem Lk.trans {x y z:Nat}(h:Lk M S x y)(k:Lk M S y z):Lk M S x z:=by
 induction k with
 | refl=>exact h
 | step _ hi ih=>exact ih.step hi
theorem Lk.lt (hM:Gg n M)(hS:∀ i∈S,i<3){x y:Nat}(h:Lk M S x y)(hx:x<n):y<n:=by
 induction h with
 | refl=>exact hx
 | step _ hi ih=>exact hM.lt _ _ (hS _ hi) ih
theorem Lk.symm (hM:Gg n M)(hS:∀ i∈S,i<3){x y:Nat}(h:Lk M S x y)(hx:x<n):Lk M S y x:=by
 induction h with
 | refl=>exact .refl
 | step h1 hi ih=>
  rename_i y i
  have hy:=h1.lt hM hS hx
  have hb:Lk M S (mv M i y) (mv M i (mv M i y)):=Lk.refl.step hi
  rw [hM.inv i y (hS i hi) hy] at hb
  exact hb.trans ih
def two (i:Nat):List Nat:=if i=0 then [1,2] else if i=1 then [0,2] else [0,1]
theorem X5 (h:M.length=3):M=[0,1,2].map fun k=>M.getD k []:=by
 match M,h with
 | [a,b,c],_=>rfl
inductive Pl (T:List (List Tg)) (S:List Nat) (j:Nat):Nat→Prop
 | refl:Pl T S j j
 | step {k i:Nat}:Pl T S j k→i∈S→(tg T k i).2<0→Pl T S j (A1 T i k)
def Wy (T:List (List Tg))(S:List Nat):Nat→List Nat→List Nat
 | 0,V=>V
 | k+1,V=>Wy T S k (V++V.flatMap fun j=>(S.filter fun i=>decide ((tg T j i).2<0)).map fun i=>A1 T i j)
theorem mB {j:Nat}:∀ (k:Nat) (V:List Nat),(∀ v∈V,Pl T S j v)→∀ v∈Wy T S k V,Pl T S j v
 | 0,_,h=>h
 | k+1,V,h=>mB k _ fun v hv=>by
  rcases List.mem_append.1 hv with hv | hv
  ·exact h v hv
  ·obtain ⟨u,hu,hv⟩:=List.mem_flatMap.1 hv
   obtain ⟨i,hi,rfl⟩:=List.mem_map.1 hv
   obtain ⟨hi,h2⟩:=List.mem_filter.1 hi
   exact (h u hu).step hi (by simpa using h2)
structure Kd (T:List (List Tg)) (S:List Nat) (C:Nat→Nat) (Q:Nat→List Nat):Prop where
 c:∀ j,j<T.length→C j<T.length∧C (C j)=C j
 to:∀ j,j<T.length→∀ i∈S,if (tg T j i).2<0 then C (A1 T i j)=C j else A1 T i j=j∧(tg T j i).2.toNat∈Q (C j)
 pl:∀ j,j<T.length→Pl T S j (C j)
 re:∀ j,j<T.length→∀ m∈Q (C j),∃ k,k<T.length∧C k=C j∧∃ i∈S,tg T k i=((k:Int),(m:Int))
def fO (T:List (List Tg))(S:List Nat)(C:Nat→Nat)(Q:Nat→List Nat):Bool:=
 (List.range T.length).all fun j=>decide (C j<T.length)&&decide (C (C j)=C j)&&(S.all fun i=>if (tg T j i).2<0 then decide (C (A1 T i j)=C j) else decide (A1 T i j=j)&&(Q (C j)).contains (tg T j i).2.toNat) &&
  (Wy T S 3 [j]).contains (C j)&&(Q (C j)).all fun m=>(List.range T.length).any fun k=>decide (C k=C j)&&S.any fun i=>decide (tg T k i=((k:Int),(m:Int)))
theorem Rm {C:Nat→Nat}{Q:Nat→List Nat}(h:fO T S C Q=true):Kd T S C Q:=by
 unfold fO at h
 rw [List.all_eq_true] at h
 have h1:∀ j,j<T.length→_:=fun j hj=>h j (List.mem_range.2 hj)
 simp only [Bool.and_eq_true,decide_eq_true_eq] at h1
 refine ⟨fun j hj=>⟨(h1 j hj).1.1.1.1,(h1 j hj).1.1.1.2⟩,fun j hj i hi=>?_,fun j hj=>?_,fun j hj m hm=>?_⟩
 ·have:=List.all_eq_true.1 (h1 j hj).1.1.2 i hi
  split at this
  ·rename_i h2;rw [if_pos h2];simpa using this
  ·rename_i h2;rw [if_neg h2];simpa using this
 ·exact mB 3 [j] (fun v hv=>by obtain rfl:=List.mem_singleton.1 hv;exact .refl) _ (by simpa using (h1 j hj).1.2)
 ·have:=List.all_eq_true.1 (h1 j hj).2 m hm
  obtain ⟨k,hk,h2⟩:=List.any_eq_true.1 this
  simp only [Bool.and_eq_true,decide_eq_true_eq,List.any_eq_true] at h2
  obtain ⟨h3,i,hi,h4⟩:=h2
  exact ⟨k,List.mem_range.1 hk,h3,i,hi,h4⟩
theorem Pl.lt (hT:Bs T)(hS:∀ i∈S,i<3){j k:Nat}(h:Pl T S j k)(hj:j<T.length):k<T.length:=by
 induction h with
 | refl=>exact hj
 | step _ hi _ ih=>
  obtain ⟨o1,o2,_⟩:=hT.ok _ _ ih (hS _ hi)
  unfold A1
  omega
theorem Agh (hM:Gg n M)(hT:Bs T)(hS:∀ i∈S,i<3){j k f:Nat}(hf:f<n)(hj:j<T.length)(h:Pl T S j k):Lk (Bc M T 3) S (f*T.length+j) (f*T.length+k):=by
 induction h with
 | refl=>exact .refl
 | step h1 hi hn ih=>
  rename_i k i
  have:=ih.step hi
  rw [Fy hM hT (hS i hi) hf (h1.lt hT hS hj)] at this
  have e:D9 M T i f k=f:=by unfold D9;rw [if_neg (by omega)]
  rwa [e] at this
theorem wY {C : Nat → Nat} {Q : Nat → List Nat} (hM : Gg n M) (hT : Bs T) (hS : ∀ i ∈ S, i < 3) (hK : Kd T S C Q) {f g j k : Nat} (hf : f < n) (hg : g < n) (hj : j < T.length) (hk : k < T.length) :
    Lk (Bc M T 3) S (f*T.length+j) (g*T.length+k) ↔ C j=C k∧Lk M (Q (C j)) f g:=by
 have hA:=T7 hM hT
 constructor
 ·intro h
  have:∀ y,Lk (Bc M T 3) S (f*T.length+j) y→∃ g k,g<n∧k<T.length∧y=g*T.length+k∧C j=C k∧Lk M (Q (C j)) f g:=by
   intro y h
   induction h with
   | refl=>exact ⟨f,j,hf,hj,rfl,rfl,.refl⟩
   | step h1 hi ih=>
    rename_i y i
    obtain ⟨g,k,hg,hk,rfl,e1,e2⟩:=ih
    have hi3:=hS i hi
    obtain ⟨_,b2,b3⟩:=Ie hM hT hi3 hg hk
    have ht:=hK.to k hk i hi
    refine ⟨_,_,b2,b3,Fy hM hT hi3 hg hk,?_,?_⟩
    ·split at ht
     ·rw [ht,e1]
     ·rw [ht.1,e1]
    ·unfold D9
     split at ht
     ·rename_i hn
      rw [if_neg (by omega)]
      exact e2
     ·rename_i hn
      rw [if_pos (by omega)]
      exact e2.step (e1 ▸ ht.2)
  obtain ⟨g', k', _,hk', e,e1,e2⟩:=this _ h
  obtain ⟨rfl,rfl⟩:=Pd hk hk' e
  exact ⟨e1,e2⟩
 ·rintro ⟨e1,e2⟩
  have base:∀ g k,g<n→k<T.length→Lk (Bc M T 3) S (g*T.length+k) (g*T.length+C k):=fun g k hg hk=>Agh hM hT hS hg hk (hK.pl k hk)
  have main:∀ g,Lk M (Q (C j)) f g→g<n∧Lk (Bc M T 3) S (f*T.length+j) (g*T.length+C j):=by
   intro g h
   induction h with
   | refl=>exact ⟨hf,base f j hf hj⟩
   | step h1 hm ih=>
    rename_i g m
    obtain ⟨i1,i2⟩:=ih
    obtain ⟨k,hk,hc,i,hi,ht⟩:=hK.re j hj m hm
    have hi3:=hS i hi
    have hm3:m<3:=by
     obtain ⟨_,_,_,o4,_⟩:=hT.ok k i hk hi3
     rw [ht] at o4
     dsimp only at o4
     omega
    have h2:=(base g k i1 hk).symm hA hS (Ld i1 hk)
    rw [hc] at h2
    have h3:=(i2.trans h2).step hi
    rw [Fy hM hT hi3 i1 hk] at h3
    have e3:D9 M T i g k=mv M m g:=by unfold D9;rw [ht];simp
    have e4:A1 T i k=k:=by unfold A1;rw [ht];simp
    rw [e3,e4] at h3
    have hlt:=hM.lt m g hm3 i1
    have h4:=base (mv M m g) k hlt hk
    rw [hc] at h4
    exact ⟨hlt,h3.trans h4⟩
  have h5:=(main g e2).2
  have h6:=(base g k hg hk).symm hA hS (Ld hg hk)
  rw [← e1] at h6
  exact h5.trans h6
end
section
open Go.Cl
open Classical
variable {n:Nat} {M:List (List Int)} {T U:List (List Tg)} {S:List Nat}
def tD:List (List Tg):=[[(0,2),(0,1),(0,0)]]
def tA:List (List Tg):=[[(0,1),(0,0),(1, -1)],[(1,1),(1,2),(0, -1)]]
def tT:List (List Tg):=[[(0,0),(1, -1),(0,2)],[(1,1),(0, -1),(2, -1)],[(2,1),(2,2),(1, -1)]]
def tC:List (List Tg):=[[(1, -1),(0,2),(0,1)],[(0, -1),(2, -1),(1,1)],[(2,0),(1, -1),(3, -1)],[(3,0),(3,1),(2, -1)]]
def oM (T:List (List Tg)):Bool:=decide (1≤T.length)&&decide (T.length≤12)&&(List.range T.length).all fun j=>decide ((T.getD j []).length=3) &&
 ((List.range 3).all fun i=>decide (0≤(tg T j i).1)&&decide ((tg T j i).1≤(T.length:Int) - 1)&&decide (-1≤(tg T j i).2)&&decide ((tg T j i).2≤2) && !(decide ((tg T j i).1=j)&&decide ((tg T j i).2<0))&&decide (tg T (tg T j i).1.toNat i=((j:Int),(tg T j i).2))) &&
 (decide ((tg T (tg T j 0).1.toNat 2).1=(tg T (tg T j 2).1.toNat 0).1)&&decide ((tg T (tg T j 0).1.toNat 2).2=(tg T j 2).2)&&decide ((tg T (tg T j 2).1.toNat 0).2=(tg T j 0).2) &&
  (decide ((tg T j 0).2=(tg T j 2).2) || decide ((tg T j 0).2<0) || decide ((tg T j 2).2<0) || (decide ((tg T j 0).2+(tg T j 2).2=2) && !decide ((tg T j 0).2=1))) &&
  !(decide ((tg T j 0).2=(tg T j 2).2)&&decide ((tg T (tg T j 0).1.toNat 2).1=j)))
theorem Tk (h:oM T=true):Bs T:=by
 unfold oM at h
 simp only [Bool.and_eq_true,decide_eq_true_eq,List.all_eq_true,List.mem_range,Bool.not_eq_true', Bool.and_eq_false_iff,decide_eq_false_iff_not,Bool.or_eq_true] at h
 obtain ⟨⟨h1,h2⟩,h3⟩:=h
 refine ⟨h1,h2,fun j hj=>(h3 j hj).1.1,fun j i hj hi=>?_,fun j i hj hi=>((h3 j hj).1.2 i hi).2,fun j hj=>?_⟩
 ·obtain ⟨⟨⟨⟨⟨a1,a2⟩,a3⟩,a4⟩,a5⟩,_⟩:=(h3 j hj).1.2 i hi
  exact ⟨a1,a2,a3,a4,fun ⟨b1,b2⟩=>by rcases a5 with a5 | a5<;>contradiction⟩
 ·obtain ⟨⟨⟨⟨a1,a2⟩,a3⟩,a4⟩,a5⟩:=(h3 j hj).2
  refine ⟨a1,a2,a3,?_,fun ⟨b1,b2⟩=>by rcases a5 with a5 | a5<;>contradiction⟩
  unfold Lu
  rcases a4 with ((a4 | a4) | a4) | a4
  ·exact .inl a4
  ·exact .inr (.inl a4)
  ·exact .inr (.inr (.inl a4))
  ·exact .inr (.inr (.inr ⟨a4.1,a4.2⟩))
theorem nZ:Bs tD:=Tk (by decide)
theorem nX:Bs tA:=Tk (by decide)
theorem oA:Bs tT:=Tk (by decide)
theorem nY:Bs tC:=Tk (by decide)
structure Lx (T:List (List Tg)) (d:Nat→Nat):Prop where
 ok:Bs T
 all:Kd T [0,1,2] (fun _=>0) fun _=>[0,1,2]
 d0:d 0=0
 d1:∀ j,j<T.length→d j<2
 par:∀ j i,j<T.length→i<3→(tg T j i).2<0→d (A1 T i j)≠d j
theorem Su {d:Nat→Nat}(h:((List.range T.length).all fun j=>(List.range 3).all fun i=>!decide ((tg T j i).2<0) || decide (d (A1 T i j)≠d j))=true):∀ j i,j<T.length→i<3→(tg T j i).2<0→d (A1 T i j)≠d j:=fun j i hj hi hn=>by
 have:=List.all_eq_true.1 (List.all_eq_true.1 h j (List.mem_range.2 hj)) i (List.mem_range.2 hi)
 simpa [hn] using this
theorem Aku:Lx tD fun _=>0:=⟨nZ,Rm (by decide),rfl,fun _ _=>by decide,Su (T:=tD) (d:=fun _=>0) (by decide)⟩
theorem Aks:Lx tA fun j=>j%2:=⟨nX,Rm (by decide),rfl,fun _ _=>Nat.mod_lt _ (by omega),Su (T:=tA) (d:=fun j=>j%2) (by decide)⟩
theorem Akv:Lx tT fun j=>j%2:=⟨oA,Rm (by decide),rfl,fun _ _=>Nat.mod_lt _ (by omega),Su (T:=tT) (d:=fun j=>j%2) (by decide)⟩
theorem Akt:Lx tC fun j=>j%2:=⟨nY,Rm (by decide),rfl,fun _ _=>Nat.mod_lt _ (by omega),Su (T:=tC) (d:=fun j=>j%2) (by decide)⟩
theorem Ak7:∀ i∈[0,1,2],i<3:=by decide
theorem qS {d:Nat→Nat}(hM:IsMap M)(hT:Lx T d)(h4:fl M*T.length≤400):IsMap (Bc M T 3)∧fl (Bc M T 3)=fl M*T.length:=by
 have hA:=T7 hM.mvi hT.ok
 have h1:=hM.1.f2
 have hp:=hT.ok.p1
 have h2:2≤fl M*T.length:=Nat.le_trans h1 (Nat.le_mul_of_pos_right _ (by omega))
 refine ⟨IsMap.of hA h2 h4 fun x hx=>?_,hA.row 0 (by omega)⟩
 rw [mD (X5 hA.len)]
 obtain ⟨f,j,hf,hj,rfl⟩:=Iw (by omega) hx
 have h3:=(wY hM.mvi hT.ok Ak7 hT.all (f:=0) (g:=f) (j:=0) (k:=j) (by omega) hf (by omega) hj).2 ⟨rfl,(mD (X5 hM.2)).1 (hM.1.con f hf)⟩
 simpa using h3
end
section
open Go.Cl
open Classical
variable {n:Nat} {M:List (List Int)} {T U:List (List Tg)}
def Gj (T U:List (List Tg))(j k i:Nat):Tg:=((if 0≤(tg U k i).2 then (tg T j (tg U k i).2.toNat).1 else (j:Int))*U.length+(tg U k i).1,if 0≤(tg U k i).2 then (tg T j (tg U k i).2.toNat).2 else -1)
def B8 (T U:List (List Tg))(j k i:Nat):List Tg:=(List.range i).map fun i=>Gj T U j k i
def Di (T U:List (List Tg))(j k:Nat):List (List Tg):=(List.range k).map fun k=>B8 T U j k 3
def Dj (T U:List (List Tg))(j:Nat):List (List Tg):=(List.range j).flatMap fun j=>Di T U j U.length
def D5 (T U:List (List Tg)):List (List Tg):=Dj T U T.length
theorem cO (T U:List (List Tg))(j k i:Nat):B8 T U j k (i+1)=B8 T U j k i++[Gj T U j k i]:=by simp [B8,List.range_succ]
theorem cM (T U:List (List Tg))(j k:Nat):Di T U j (k+1)=Di T U j k++[B8 T U j k 3]:=by simp [Di,List.range_succ]
theorem Qn (T U:List (List Tg))(j:Nat):Dj T U (j+1)=Dj T U j++Di T U j U.length:=by simp [Dj,List.range_succ]
theorem Kr (T U:List (List Tg)):∀ j:Nat,(Dj T U j).length=j*U.length
 | 0=>by simp [Dj]
 | j+1=>by rw [Qn,List.length_append,Kr T U j,Nat.add_mul];simp [Di]
theorem Fg (T U:List (List Tg)):(D5 T U).length=T.length*U.length:=Kr T U _
theorem Ux (T U:List (List Tg)):∀ (m j k:Nat),j<m→k<U.length→(Dj T U m).getD (j*U.length+k) []=B8 T U j k 3
 | 0,j,k,hj,_=>by omega
 | m+1,j,k,hj,hk=>by
  rw [Qn,List.getD_eq_getElem?_getD]
  by_cases e:j<m
  ·rw [List.getElem?_append_left (by rw [Kr];exact Ld e hk),← List.getD_eq_getElem?_getD]
   exact Ux T U m j k e hk
  ·obtain rfl:j=m:=by omega
   rw [List.getElem?_append_right (by rw [Kr];omega),Kr,show j*U.length+k - j*U.length=k by omega]
   simp [Di,hk]
theorem Jx {j k i:Nat}(hj:j<T.length)(hk:k<U.length)(hi:i<3):tg (D5 T U) (j*U.length+k) i=Gj T U j k i:=by
 unfold tg D5
 rw [Ux T U _ j k hj hk]
 simp [B8,hi]
theorem Qo (hT : Bs T) (hU : Bs U) {j k i : Nat} (hj : j < T.length) (hk : k < U.length) (hi : i < 3) :
    (Gj T U j k i).1=((if 0≤(tg U k i).2 then A1 T (tg U k i).2.toNat j else j)*U.length+A1 U i k:Nat)∧(if 0≤(tg U k i).2 then A1 T (tg U k i).2.toNat j else j)<T.length∧A1 U i k<U.length ∧ -1≤(Gj T U j k i).2∧(Gj T U j k i).2≤2:=by
 obtain ⟨o1,o2,o3,o4,_⟩:=hU.ok k i hk hi
 unfold Gj
 dsimp only
 split
 ·rename_i h
  obtain ⟨q1,q2,q3,q4,_⟩:=hT.ok j (tg U k i).2.toNat hj (by omega)
  unfold A1
  refine ⟨?_,by omega,by omega,q3,q4⟩
  rw [show (tg U k i).1=((tg U k i).1.toNat:Nat) by omega,show (tg T j (tg U k i).2.toNat).1=((tg T j (tg U k i).2.toNat).1.toNat:Nat) by omega]
  simp
 ·unfold A1
  refine ⟨?_,by omega,by omega,by omega,by omega⟩
  rw [show (tg U k i).1=((tg U k i).1.toNat:Nat) by omega]
  simp
theorem qR (hM:Gg n M)(hT:Bs T)(hU:Bs U):Bc (Bc M T 3) U 3=Bc M (D5 T U) 3:=by
 have hA:=T7 hM hT
 have hn:=hM.row 0 (by omega)
 have hfa:fl (Bc M T 3)=n*T.length:=hA.row 0 (by omega)
 have hn' : fl M=n:=hn
 show (List.range 3).map (fun i=>B9 (Bc M T 3) U i (fl (Bc M T 3)))=(List.range 3).map fun i=>B9 M (D5 T U) i (fl M)
 refine List.map_congr_left fun i hi=>?_
 have hi:=List.mem_range.1 hi
 rw [hfa,hn']
 refine List.ext_getElem (by rw [G1,G1,Fg,Nat.mul_assoc]) fun x x1 x2=>?_
 have hq:=hU.p1
 have hp:=hT.p1
 have hx:x<n*T.length*U.length:=by rwa [G1] at x1
 obtain ⟨y,k,hy,hk,rfl⟩:=Iw (by omega) hx
 obtain ⟨f,j,hf,hj,rfl⟩:=Iw (by omega) hy
 have d1:=Nw (Bc M T 3) U i (n*T.length) (f*T.length+j) k hy hk
 have hjk:j*U.length+k<(D5 T U).length:=by rw [Fg];exact Ld hj hk
 have d2:=Nw M (D5 T U) i n f (j*U.length+k) hf hjk
 have hix:f*(D5 T U).length+(j*U.length+k)=(f*T.length+j)*U.length+k:=by rw [Fg,← Nat.mul_assoc,Nat.add_mul];omega
 rw [hix] at d2
 have g1:∀ (l:List Int) (m:Nat) (h:m<l.length),l[m]=l.getD m 0:=fun l m h=>by simp [h]
 rw [g1,g1,d1,d2]
 unfold Hq
 rw [Jx hj hk hi,Fg]
 obtain ⟨o1,o2,o3,o4,_⟩:=hU.ok k i hk hi
 unfold Gj
 dsimp only
 by_cases h:0≤(tg U k i).2
 ·simp only [h,if_true]
  have h3:(tg U k i).2.toNat<3:=by omega
  rw [T5 hn h3,Nw M T _ n f j hf hj]
  unfold Hq
  rw [Int.add_mul,Int.mul_assoc,Int.add_assoc,Int.natCast_mul]
 ·simp only [h,if_false,show ¬ (0:Int) ≤ -1 by omega]
  rw [Int.natCast_add,Int.natCast_mul,Int.natCast_mul,Int.add_mul,Int.mul_assoc,Int.add_assoc]
theorem Mf {q j k:Nat}{A u:Int}(hA:0≤A)(hu:0≤u)(hu2:u≤(q:Int) - 1)(hk:k<q)(h:A*q+u=(j*q+k:Nat)):A=j∧u=k:=by
 obtain ⟨a,rfl⟩:=Int.eq_ofNat_of_zero_le hA
 obtain ⟨b,rfl⟩:=Int.eq_ofNat_of_zero_le hu
 have h' : a*q+b=j*q+k:=by exact_mod_cast h
 obtain ⟨rfl,rfl⟩:=Pd (by omega) hk h'
 exact ⟨rfl,rfl⟩
theorem sX (hT:Bs T)(hU:Bs U){j k:Nat}(hj:j<T.length)(hk:k<U.length):Tu (D5 T U) (j*U.length+k):=by
 have c0:=Qo hT hU hj hk (i:=0) (by omega)
 have c2:=Qo hT hU hj hk (i:=2) (by omega)
 have u0:=hU.ok k 0 hk (by omega)
 have u2:=hU.ok k 2 hk (by omega)
 obtain ⟨m1,m2,m3,m4,m5⟩:=hU.com k hk
 have hi2:=hU.inv k 2 hk (by omega)
 unfold Lz at hi2
 unfold Tu
 rw [Jx hj hk (by omega),Jx hj hk (by omega),c0.1,c2.1,Int.toNat_natCast,Int.toNat_natCast,Jx c0.2.1 c0.2.2.1 (by omega),Jx c2.2.1 c2.2.2.1 (by omega)]
 have k0:tg U (A1 U 0 k) 2=((tg U (A1 U 2 k) 0).1,(tg U k 2).2):=Prod.ext m1 m2
 have k2:(tg U (A1 U 2 k) 0).2=(tg U k 0).2:=m3
 unfold Lu at m4
 have tcom:=hT.com j hj
 obtain ⟨t1,t2,t3,t4,t5⟩:=tcom
 have tinv:∀ i,i<3→tg T (A1 T i j) i=((j:Int),(tg T j i).2):=fun i hi=>hT.inv j i hj hi
 have tok:∀ i,i<3→Kn T j i:=fun i hi=>hT.ok j i hj hi
 unfold Gj
 rw [k0,k2]
 dsimp only
 have hut:0≤(tg U (A1 U 2 k) 0).1:=(hU.ok _ 0 c2.2.2.1 (by omega)).1
 have hut2:(tg U (A1 U 2 k) 0).1≤(U.length:Int) - 1:=(hU.ok _ 0 c2.2.2.1 (by omega)).2.1
 by_cases g0:0≤(tg U k 0).2<;>by_cases g2:0≤(tg U k 2).2<;>simp only [g0,g2,if_true,if_false]
 ·-- both move
  have hcase:(tg U k 0).2=(tg U k 2).2∨((tg U k 0).2.toNat=0∧(tg U k 2).2.toNat=2)∨((tg U k 0).2.toNat=2∧(tg U k 2).2.toNat=0):=by omega
  rcases hcase with e | ⟨e0,e2⟩ | ⟨e0,e2⟩
  ·rw [e]
   have hm:=tinv (tg U k 2).2.toNat (by have:=u2.2.2.2.1;omega)
   rw [hm]
   exact ⟨rfl,rfl,rfl,.inl rfl,fun ⟨_,h⟩=>m5 ⟨e,by rw [m1];exact (Mf (by omega) hut hut2 hk h).2⟩⟩
  ·rw [e0,e2]
   refine ⟨by unfold A1;rw [t1],t2,t3,t4,fun ⟨h7,h⟩=>t5 ⟨h7,?_⟩⟩
   have o:=hT.ok (A1 T 0 j) 2 (by have:=(tok 0 (by omega));unfold Kn at this;unfold A1;omega) (by omega)
   exact (Mf o.1 hut hut2 hk h).1
  ·rw [e0,e2]
   refine ⟨by unfold A1;rw [t1],t3,t2,?_,fun ⟨h7,h⟩=>t5 ⟨h7.symm,?_⟩⟩
   ·unfold Lu at t4 ⊢
    omega
   ·have o:=hT.ok (A1 T 2 j) 0 (by have:=(tok 2 (by omega));unfold Kn at this;unfold A1;omega) (by omega)
    have:=(Mf o.1 hut hut2 hk h).1
    unfold A1 at this
    rw [t1]
    exact this
 ·have o:=tok (tg U k 0).2.toNat (by have:=u0.2.2.2.1;omega)
  refine ⟨?_,trivial,trivial,.inr (.inr (.inl (by omega))),fun ⟨h7,h⟩=>o.2.2.2.2 ⟨?_,by omega⟩⟩
  ·have:=o.1
   unfold A1
   rw [Int.toNat_of_nonneg this]
  ·have:=(Mf (by omega) hut hut2 hk h).1
   have h1:=o.1
   unfold A1 at this
   omega
 ·have o:=tok (tg U k 2).2.toNat (by have:=u2.2.2.2.1;omega)
  refine ⟨?_,trivial,trivial,.inr (.inl (by omega)),fun ⟨h7,h⟩=>o.2.2.2.2 ⟨?_,by omega⟩⟩
  ·have:=o.1
   unfold A1
   rw [Int.toNat_of_nonneg this]
  ·exact (Mf o.1 hut hut2 hk h).1
 ·refine ⟨trivial,trivial,trivial,.inl rfl,fun ⟨_,h⟩=>m5 ⟨?_,by rw [m1];exact (Mf (by omega) hut hut2 hk h).2⟩⟩
  have:=u0.2.2.1
  have:=u2.2.2.1
  omega
theorem Uy (hT:Bs T)(hU:Bs U)(h12:T.length*U.length≤12):Bs (D5 T U):=by
 have hp:=hT.p1
 have hq:=hU.p1
 refine ⟨by rw [Fg];exact Nat.mul_pos hp hq,by rw [Fg];exact h12,fun x hx=>?_,fun x i hx hi=>?_,fun x i hx hi=>?_,fun x hx=>?_⟩<;>(rw [Fg] at hx;obtain ⟨j,k,hj,hk,rfl⟩:=Iw (by omega) hx)
 ·unfold D5
  rw [Ux T U _ j k hj hk]
  simp [B8]
 ·obtain ⟨c1,c2,c3,c4,c5⟩:=Qo hT hU hj hk hi
  unfold Kn
  rw [Jx hj hk hi,c1,Fg]
  have:=Ld c2 c3
  refine ⟨by omega,by omega,c4,c5,fun ⟨h1,h2⟩=>?_⟩
  obtain ⟨e1,e2⟩:=Pd (f:=if 0≤(tg U k i).2 then A1 T (tg U k i).2.toNat j else j) (g:=j) c3 hk (by omega)
  obtain ⟨o1,o2,o3,o4,o5⟩:=hU.ok k i hk hi
  unfold Gj at h2
  dsimp only at h2
  split at e1
  ·rename_i h
   rw [if_pos h] at h2
   obtain ⟨q1,q2,q3,q4,q5⟩:=hT.ok j (tg U k i).2.toNat hj (by omega)
   exact q5 ⟨by unfold A1 at e1;omega,h2⟩
  ·exact o5 ⟨by unfold A1 at e2;omega,by omega⟩
 ·obtain ⟨c1,c2,c3,c4,c5⟩:=Qo hT hU hj hk hi
  unfold Lz
  rw [Jx hj hk hi,c1,Int.toNat_natCast,Jx c2 c3 hi]
  have h1:=hU.inv k i hk hi
  unfold Lz at h1
  have h1' : tg U (A1 U i k) i=((k:Int),(tg U k i).2):=h1
  unfold Gj
  rw [h1']
  dsimp only
  by_cases h:0≤(tg U k i).2
  ·simp only [h,if_true]
   obtain ⟨o1,o2,o3,o4,o5⟩:=hU.ok k i hk hi
   have h2:=hT.inv j (tg U k i).2.toNat hj (by omega)
   have h2' : tg T (A1 T (tg U k i).2.toNat j) (tg U k i).2.toNat=((j:Int),(tg T j (tg U k i).2.toNat).2):=h2
   rw [h2']
   simp
  ·simp only [h,if_false]
   simp
 ·exact sX hT hU hj hk
end
end Go.Proofs.YtnompobcofhkpaaGreatDoor
