/- Texts that belong together. -/
import Derived.Deep.SlicePairs
import Derived.Test.YtcneanpkpmfaiaaGreatZm
import Derived.Test.YtcneanpkpmfaiaaGreatZp
import Derived.Test.YtcneanpkpmfaiaaGreatZt
set_option linter.unusedSimpArgs false
set_option linter.unusedVariables false
set_option maxRecDepth 100000
namespace Go.Proofs.YtcneanpkpmfaiaaGreat
section
open Go.Gov
abbrev Tg:=Int×Int
abbrev T0:Tg:=(0,0)
end
section
open Go.Gov
open Classical
def fX (m n:Int):Prop:=m=n∨m<0∨n<0∨(m+n=2∧m≠1)
def tg (T:List (List Tg))(j i:Nat):Tg:=(T.getD j []).getD i T0
def gZ (T:List (List Tg))(j i:Nat):Prop:=0≤(tg T j i).1∧(tg T j i).1≤(T.length:Int) - 1 ∧ -1≤(tg T j i).2∧(tg T j i).2≤2∧¬ ((tg T j i).1=j∧(tg T j i).2<0)
def gY (T:List (List Tg))(j i:Nat):Prop:=tg T (tg T j i).1.toNat i=((j:Int),(tg T j i).2)
def gW (T:List (List Tg))(j:Nat):Prop:=
 (tg T (tg T j 0).1.toNat 2).1=(tg T (tg T j 2).1.toNat 0).1∧(tg T (tg T j 0).1.toNat 2).2=(tg T j 2).2∧(tg T (tg T j 2).1.toNat 0).2=(tg T j 0).2∧fX (tg T j 0).2 (tg T j 2).2 ∧
 ¬ ((tg T j 0).2=(tg T j 2).2∧(tg T (tg T j 0).1.toNat 2).1=j)
structure gG (T:List (List Tg)):Prop where
 p1:1≤T.length
 p2:T.length≤12
 len:∀ j,j<T.length→(T.getD j []).length=3
 ok:∀ j i,j<T.length→i<3→gZ T j i
 inv:∀ j i,j<T.length→i<3→gY T j i
 com:∀ j,j<T.length→gW T j
end
end Go.Proofs.YtcneanpkpmfaiaaGreat
