/- Texts that belong together. -/
import Derived.Test.YtaekhhaaphgndaaGreatZn
import Derived.Test.YtaekhhaaphgndaaGreatZw
set_option linter.unusedSimpArgs false
set_option linter.unusedVariables false
set_option maxRecDepth 100000
namespace Go.Cl
open Classical
structure Eqv (n:Nat) (R:Nat→Nat→Prop):Prop where
 refl:∀ x,x<n→R x x
 symm:∀ x y,x<n→y<n→R x y→R y x
 trans:∀ x y z,x<n→y<n→z<n→R x y→R y z→R x z
structure Sys (n:Nat) (R:Nat→Nat→Prop) (V:List Nat):Prop where
 nd:V.Nodup
 lt:∀ v∈V,v<n
 ne:∀ v∈V,∀ u∈V,R v u→v=u
 all:∀ x,x<n→∃ v∈V,R v x
end Go.Cl
namespace Go.Proofs.YtaekhhaaphgndaaGreat
section
open Go.Cl
open Classical
def mv (M:List (List Int))(i x:Nat):Nat:=((M.getD i []).getD x 0).toNat
structure MvI (n:Nat) (M:List (List Int)):Prop where
 len:M.length=3
 row:∀ i,i<3→(M.getD i []).length=n
 val:∀ i x,i<3→x<n→(M.getD i []).getD x 0=(mv M i x:Nat)
 lt:∀ i x,i<3→x<n→mv M i x<n
 inv:∀ i x,i<3→x<n→mv M i (mv M i x)=x
 fre:∀ i x,i<3→x<n→mv M i x≠x
 com:∀ x,x<n→mv M 2 (mv M 0 x)=mv M 0 (mv M 2 x)
 dif:∀ x,x<n→mv M 0 x≠mv M 2 x
theorem IsMap.mvi {M:List (List Int)}(h:IsMap M):MvI (fl M) M:=by
 obtain ⟨h1,h2⟩:=h
 have hr:∀ i,i<3→RowOk (fl M) (M.getD i []):=fun i hi=>h1.rows i (by omega)
 have hv:∀ i x,i<3→x<fl M→(M.getD i []).getD x 0=(mv M i x:Nat)∧mv M i x<fl M:=fun i x hi hx=>by
  obtain ⟨a,b,c⟩:=hr i hi
  have:=b.at (k:=x) (by omega)
  unfold mv
  omega
 refine ⟨h2,fun i hi=>(hr i hi).1,fun i x hi hx=>(hv i x hi hx).1,fun i x hi hx=>(hv i x hi hx).2,fun i x hi hx=>?_,fun i x hi hx=>?_,fun x hx=>?_,fun x hx=>?_⟩
 ·obtain ⟨a,b,c⟩:=hr i hi
  have:=(c x (by omega)).2
  have h3:mv M i (mv M i x)=((M.getD i []).getD ((M.getD i []).getD x 0).toNat 0).toNat:=rfl
  rw [h3,this]
  omega
 ·obtain ⟨a,b,c⟩:=hr i hi
  have:=(c x (by omega)).1
  rw [(hv i x hi hx).1] at this
  omega
 ·have:=(h1.com 0 2 x (by omega) (by omega) hx).2
  unfold mv
  rw [this]
 ·have:=(h1.com 0 2 x (by omega) (by omega) hx).1
  rw [(hv 0 x (by omega) hx).1,(hv 2 x (by omega) hx).1] at this
  omega
theorem IsMap.of {n:Nat}{M:List (List Int)}(h:MvI n M)(h2:2≤n)(h4:n≤400)(hc:∀ x,x<n→Rch M 0 x):IsMap M:=by
 have hn:fl M=n:=h.row 0 (by omega)
 have hl:=h.len
 refine ⟨⟨by omega,by omega,by omega,by omega,fun i hi=>?_,fun i k f hik hk hf=>?_,fun x hx=>hc x (by omega)⟩,h.len⟩
 ·have hi3:i<3:=by omega
  have hr:=h.row i hi3
  have hinj:∀ x y,x<n→y<n→mv M i x=mv M i y→x=y:=fun x y hx hy e=>by
   rw [← h.inv i x hi3 hx,e,h.inv i y hi3 hy]
  refine ⟨by rw [hr,hn],⟨by omega,fun j hj=>⟨?_,fun k hk e=>?_⟩⟩,fun k hk=>⟨?_,?_⟩⟩
  ·have:=h.lt i j hi3 (by omega)
   rw [h.val i j hi3 (by omega)]
   omega
  ·rw [h.val i j hi3 (by omega),h.val i k hi3 (by omega)] at e
   have:=hinj k j (by omega) (by omega) (by omega)
   omega
  ·rw [h.val i k hi3 (by omega)]
   have:=h.fre i k hi3 (by omega)
   omega
  ·have h1:=h.lt i k hi3 (by omega)
   rw [h.val i k hi3 (by omega),Int.toNat_natCast,h.val i _ hi3 (by omega),h.inv i k hi3 (by omega)]
 ·obtain ⟨rfl,rfl⟩:i=0∧k=2:=by omega
  have a0:=h.lt 0 f (by omega) (by omega)
  have a2:=h.lt 2 f (by omega) (by omega)
  have:=h.dif f (by omega)
  refine ⟨?_,?_⟩
  ·rw [h.val 0 f (by omega) (by omega),h.val 2 f (by omega) (by omega)]
   omega
  ·rw [h.val 0 f (by omega) (by omega),h.val 2 f (by omega) (by omega),Int.toNat_natCast,Int.toNat_natCast,h.val 2 _ (by omega) a0,h.val 0 _ (by omega) a2,h.com f (by omega)]
def tpP (T:List (List Tg))(i j:Nat):Nat:=(tg T j i).1.toNat
end
section
open Go.Cl
open Classical
inductive Lk (M:List (List Int)) (S:List Nat) (x:Nat):Nat→Prop
 | refl:Lk M S x x
 | step {y i:Nat}:Lk M S x y→i∈S→Lk M S x (mv M i y)
variable {n:Nat} {M:List (List Int)} {T:List (List Tg)} {S:List Nat}
theorem Lk.trans {x y z:Nat}(h:Lk M S x y)(k:Lk M S y z):Lk M S x z:=by
 induction k with
 | refl=>exact h
 | step _ hi ih=>exact ih.step hi
theorem Lk.lt (hM:MvI n M)(hS:∀ i∈S,i<3){x y:Nat}(h:Lk M S x y)(hx:x<n):y<n:=by
 induction h with
 | refl=>exact hx
 | step _ hi ih=>exact hM.lt _ _ (hS _ hi) ih
theorem Lk.symm (hM:MvI n M)(hS:∀ i∈S,i<3){x y:Nat}(h:Lk M S x y)(hx:x<n):Lk M S y x:=by
 induction h with
 | refl=>exact .refl
 | step h1 hi ih=>
  rename_i y i
  have hy:=h1.lt hM hS hx
  have hb:Lk M S (mv M i y) (mv M i (mv M i y)):=Lk.refl.step hi
  rw [hM.inv i y (hS i hi) hy] at hb
  exact hb.trans ih
theorem Lk.sub {S' : List Nat}(hs:∀ i∈S,i∈S'){x y:Nat}(h:Lk M S x y):Lk M S' x y:=by
 induction h with
 | refl=>exact .refl
 | step _ hi ih=>exact ih.step (hs _ hi)
def two (i:Nat):List Nat:=if i=0 then [1,2] else if i=1 then [0,2] else [0,1]
inductive Pl (T:List (List Tg)) (S:List Nat) (j:Nat):Nat→Prop
 | refl:Pl T S j j
 | step {k i:Nat}:Pl T S j k→i∈S→(tg T k i).2<0→Pl T S j (tpP T i k)
structure Kd (T:List (List Tg)) (S:List Nat) (C:Nat→Nat) (Q:Nat→List Nat):Prop where
 c:∀ j,j<T.length→C j<T.length∧C (C j)=C j
 to:∀ j,j<T.length→∀ i∈S,if (tg T j i).2<0 then C (tpP T i j)=C j else tpP T i j=j∧(tg T j i).2.toNat∈Q (C j)
 pl:∀ j,j<T.length→Pl T S j (C j)
 re:∀ j,j<T.length→∀ m∈Q (C j),∃ k,k<T.length∧C k=C j∧∃ i∈S,tg T k i=((k:Int),(m:Int))
theorem Pl.lt (hT:IsTpl T)(hS:∀ i∈S,i<3){j k:Nat}(h:Pl T S j k)(hj:j<T.length):k<T.length:=by
 induction h with
 | refl=>exact hj
 | step _ hi _ ih=>
  obtain ⟨o1,o2,_⟩:=hT.ok _ _ ih (hS _ hi)
  unfold tpP
  omega
end
section
open Go.Cl
open Classical
variable {n:Nat} {M:List (List Int)} {T U:List (List Tg)} {S:List Nat}
def tA:List (List Tg):=[[(0,1),(0,0),(1, -1)],[(1,1),(1,2),(0, -1)]]
def tC:List (List Tg):=[[(1, -1),(0,2),(0,1)],[(0, -1),(2, -1),(1,1)],[(2,0),(1, -1),(3, -1)],[(3,0),(3,1),(2, -1)]]
structure Nice (T:List (List Tg)) (d:Nat→Nat):Prop where
 ok:IsTpl T
 all:Kd T [0,1,2] (fun _=>0) fun _=>[0,1,2]
 d0:d 0=0
 d1:∀ j,j<T.length→d j<2
 par:∀ j i,j<T.length→i<3→(tg T j i).2<0→d (tpP T i j)≠d j
end
end Go.Proofs.YtaekhhaaphgndaaGreat
