/- Texts that belong together. -/
import Derived.Test.YtcneanpkpmfaiaaGreatZn
import Derived.Test.YtcneanpkpmfaiaaGreatZw
set_option linter.unusedSimpArgs false
set_option linter.unusedVariables false
set_option maxRecDepth 100000
namespace Go.Cl
open Classical
structure Eqv (n:Nat) (R:Nat→Nat→Prop):Prop where
 refl:∀ x,x<n→R x x
 symm:∀ x y,x<n→y<n→R x y→R y x
 trans:∀ x y z,x<n→y<n→z<n→R x y→R y z→R x z
structure Sys (n:Nat) (R:Nat→Nat→Prop) (V:List Nat):Prop where
 nd:V.Nodup
 lt:∀ v∈V,v<n
 ne:∀ v∈V,∀ u∈V,R v u→v=u
 all:∀ x,x<n→∃ v∈V,R v x
end Go.Cl
namespace Go.Proofs.YtcneanpkpmfaiaaGreat
section
open Go.Cl
open Classical
def mv (M:List (List Int))(i x:Nat):Nat:=((M.getD i []).getD x 0).toNat
structure MvI (n:Nat) (M:List (List Int)):Prop where
 len:M.length=3
 row:∀ i,i<3→(M.getD i []).length=n
 val:∀ i x,i<3→x<n→(M.getD i []).getD x 0=(mv M i x:Nat)
 lt:∀ i x,i<3→x<n→mv M i x<n
 inv:∀ i x,i<3→x<n→mv M i (mv M i x)=x
 fre:∀ i x,i<3→x<n→mv M i x≠x
 com:∀ x,x<n→mv M 2 (mv M 0 x)=mv M 0 (mv M 2 x)
 dif:∀ x,x<n→mv M 0 x≠mv M 2 x
def Qu (T:List (List Tg))(i j:Nat):Nat:=(tg T j i).1.toNat
end
section
open Go.Cl
open Classical
inductive Lk (M:List (List Int)) (S:List Nat) (x:Nat):Nat→Prop
 | refl:Lk M S x x
 | step {y i:Nat}:Lk M S x y→i∈S→Lk M S x (mv M i y)
variable {n:Nat} {M:List (List Int)} {T:List (List Tg)} {S:List Nat}
def two (i:Nat):List Nat:=if i=0 then [1,2] else if i=1 then [0,2] else [0,1]
inductive Pl (T:List (List Tg)) (S:List Nat) (j:Nat):Nat→Prop
 | refl:Pl T S j j
 | step {k i:Nat}:Pl T S j k→i∈S→(tg T k i).2<0→Pl T S j (Qu T i k)
structure Kd (T:List (List Tg)) (S:List Nat) (C:Nat→Nat) (Q:Nat→List Nat):Prop where
 c:∀ j,j<T.length→C j<T.length∧C (C j)=C j
 to:∀ j,j<T.length→∀ i∈S,if (tg T j i).2<0 then C (Qu T i j)=C j else Qu T i j=j∧(tg T j i).2.toNat∈Q (C j)
 pl:∀ j,j<T.length→Pl T S j (C j)
 re:∀ j,j<T.length→∀ m∈Q (C j),∃ k,k<T.length∧C k=C j∧∃ i∈S,tg T k i=((k:Int),(m:Int))
end
section
open Go.Cl
open Classical
variable {n:Nat} {M:List (List Int)} {T U:List (List Tg)} {S:List Nat}
def tA:List (List Tg):=[[(0,1),(0,0),(1, -1)],[(1,1),(1,2),(0, -1)]]
def tC:List (List Tg):=[[(1, -1),(0,2),(0,1)],[(0, -1),(2, -1),(1,1)],[(2,0),(1, -1),(3, -1)],[(3,0),(3,1),(2, -1)]]
structure Aeo (T:List (List Tg)) (d:Nat→Nat):Prop where
 ok:gG T
 all:Kd T [0,1,2] (fun _=>0) fun _=>[0,1,2]
 d0:d 0=0
 d1:∀ j,j<T.length→d j<2
 par:∀ j i,j<T.length→i<3→(tg T j i).2<0→d (Qu T i j)≠d j
end
end Go.Proofs.YtcneanpkpmfaiaaGreat
