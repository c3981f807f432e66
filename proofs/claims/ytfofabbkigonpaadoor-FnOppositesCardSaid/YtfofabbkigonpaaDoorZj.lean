/- Texts that belong together. -/
import Derived.Shelf.SlGeneric
import Derived.Shelf.SlSortCmp.NoneTotal
import Derived.Ground.SlsfProg
import Derived.Shelf.Bits.Mul64
import Derived.Ground.NamesProg
import Derived.Shelf.Strconv.Itoa4
import Derived.Test.YtfofabbkigonpaaDoorZe
import Derived.Test.YtfofabbkigonpaaDoorZf
set_option linter.unusedSimpArgs false
set_option linter.unusedVariables false
set_option maxRecDepth 100000
namespace Go.Proofs.YtfofabbkigonpaaDoor
section
open Go.Gov
theorem Q9 (n lo hi:Int):Ao Tryd.prog 49 [i64 n,i64 lo,i64 hi] (bl (decide (lo≤n)&&decide (n≤hi))) []:=by
 refine Cm pO rfl ?_;unfold Uq
 (refine RN ?_;try with_reducible exact trivial)
theorem Ph (n lo hi:Int):Ao Tryd.prog 45 [i64 n,i64 lo,i64 hi] (bl (decide (lo≤n)&&decide (n≤hi))) []:=by
 refine Cm pJ rfl ?_;unfold Um
 (refine RN ?_;try with_reducible exact trivial)
theorem I9 (xs:List Int)(hl:xs.length≤1099511627776):Ao Tryd.prog 44 [Ad xs] (i64 xs.length) []:=by
 refine Cm pI rfl ?_;unfold Ul
 (refine RN ?_;try with_reducible exact trivial)
def idx (xs:List Int)(n:Int):Int:=if n∈xs then xs.idxOf n else -1
theorem jI {xs:List Int}{n:Int}{i:Nat}(h:∀ j,j<i→xs.getD j 0≠n)(hi:i<xs.length)(he:xs.getD i 0=n):idx xs n=i:=by
 have hm:n∈xs:=by rw [← he];simp [hi]
 unfold idx
 rw [if_pos hm]
 congr 1
 induction xs generalizing i with
 | nil=>cases hi
 | cons x xs ih=>
  cases i with
  | zero=>
   have hx:x=n:=by simpa using he
   simp [hx]
  | succ i=>
   have hx:x≠n:=by have:=h 0 (by omega);simpa using this
   have hm' : n∈xs:=by rcases List.mem_cons.1 hm with h' | h'; exact absurd h'.symm hx;exact h'
   have hb:(x == n)=false:=by simpa using hx
   rw [List.idxOf_cons,hb,cond_false]
   rw [ih (i:=i) (fun j hj=>by have:=h (j+1) (by omega);simpa using this) (by simpa using hi) (by simpa using he) hm']
theorem jK {xs:List Int}{n:Int}(h:∀ j,j<xs.length→xs.getD j 0≠n):idx xs n = -1:=by
 unfold idx
 rw [if_neg]
 intro hm
 obtain ⟨j,hj,he⟩:=List.mem_iff_getElem.1 hm
 exact h j hj (by simp [hj,he])
theorem jJ (xs:List Int)(n:Int):decide (0≤idx xs n)=decide (n∈xs):=by
 unfold idx
 by_cases h:n∈xs<;>simp [h]
theorem kF (xs:List Int)(n:Int)(hl:xs.length≤1099511627776):Ao Tryd.prog 50 [Ad xs,i64 n] (i64 (idx xs n)) []:=by
 refine Cm pQ rfl ?_;unfold Ur
 refine RN ?_
 refine Ak (α:=Nat) (S:=fun i=>([(0,Ad xs),(1,i64 n),(5,i64 i)],[])) (C:=fun i=>i≤xs.length∧∀ j,j<i→xs.getD j 0≠n) (μ:=fun i=>xs.length - i) 0 ⟨by omega,by omega⟩ (by exact Ref.frame (by simp [sub,Ac])) ?_
 rintro i ⟨hi,hall⟩
 refine RN ?_
 refine ⟨fun hc=>?_,fun hc=>?_⟩
 ·(refine RN ?_;try with_reducible exact trivial)
  refine ⟨fun hc=>?_,fun hc=>?_⟩
  ·(refine RN ?_;try with_reducible exact trivial)
   rw [jI hall (by omega) (by assumption)]
  ·(refine RN ?_;try with_reducible exact trivial)
   refine ⟨i+1,⟨by omega,fun j hj=>?_⟩,by omega,by exact Ref.frame (by simp [sub,Ac])⟩
   rcases Nat.lt_or_ge j i with h | h
   ·exact hall j h
   ·obtain rfl:j=i:=by omega
    simpa using hc
 ·(refine RN ?_;try with_reducible exact trivial)
  rw [jK (fun j hj=>hall j (by omega))]
theorem Q8 (xs:List Int)(n:Int)(hl:xs.length≤1099511627776):Ao Tryd.prog 23 [Ad xs,i64 n] (bl (decide (n∈xs))) []:=by
 refine Cm oW rfl ?_;unfold Uc
 refine RN ?_
 refine An (kF xs n hl) ?_
 (refine RN ?_;try with_reducible exact trivial)
 try rw [jJ]
theorem jT (n:Int):Ao Tryd.prog 82 [i64 n] (bl false) []:=by
 refine Cm qH rfl ?_;unfold U7
 (refine RN ?_;try with_reducible exact trivial)
 try rw [show (n != n)=false by simp]
theorem jU (n:Int):Ao Tryd.prog 107 [i64 n] (bl false) []:=by
 refine Cm oH rfl ?_;unfold Tw
 (refine RN ?_;try with_reducible exact trivial)
 try rw [show (n != n)=false by simp]
theorem Sx (x y:Int):Ao Tryd.prog 81 [i64 x,i64 y] (bl (decide (x<y))) []:=by
 refine Cm qG rfl ?_;unfold U6
 refine RN ?_
 refine An (jU x) ?_
 refine Dz (bl false) rfl ?_
 (refine RN ?_;try with_reducible exact trivial)
end
section
open Go.Gov
def left (b:Int)(n:Nat):Int:=if (n:Int)≤b then b - n else -1
abbrev A6 (r:Int)(ranks:List Int)(below:List (List Int)):AV:=.agg [i64 r,Ad ranks,Ae below]
end
section
open Go.Gov
def up (k:Int)(n:Nat):List Int:=(List.range n).map fun (i:Nat)=>k+(i:Int)
theorem Eb {α:Type}(l:List α)(i:Nat)(x d:α)(h:i<l.length):(l.set i x).getD i d=x:=by simp [h]
end
section
open Classical
def Gz (xs:List Int):Prop:=xs.Pairwise (· < ·)
theorem aD:∀ {a b:List Int},Gz a→Gz b→(∀ e,e∈a ↔ e∈b)→a=b
 | [],[],_,_,_=>rfl
 | [],y :: b,_,_,h=>by have:=(h y).2 (by simp);simp at this
 | x :: a,[],_,_,h=>by have:=(h x).1 (by simp);simp at this
 | x :: a,y :: b,ha,hb,h=>by
  obtain ⟨ha1,ha2⟩:=List.pairwise_cons.1 ha
  obtain ⟨hb1,hb2⟩:=List.pairwise_cons.1 hb
  have hxy:x=y:=by
   have h1:=(h x).1 (by simp)
   have h2:=(h y).2 (by simp)
   rcases List.mem_cons.1 h1 with h1 | h1
   ·exact h1
   ·rcases List.mem_cons.1 h2 with h2 | h2
    ·exact h2.symm
    ·have:=hb1 x h1;have:=ha1 y h2;omega
  subst hxy
  rw [aD ha2 hb2 fun e=>?_]
  constructor
  ·intro he
   have:=(h e).1 (List.mem_cons_of_mem _ he)
   rcases List.mem_cons.1 this with h1 | h1
   ·subst h1;have:=ha1 e he;omega
   ·exact h1
  ·intro he
   have:=(h e).2 (List.mem_cons_of_mem _ he)
   rcases List.mem_cons.1 this with h1 | h1
   ·subst h1;have:=hb1 e he;omega
   ·exact h1
def Mc:List Int→List Int→List Int
 | [],b=>b
 | x :: a,[]=>x :: a
 | x :: a,y :: b=>if x<y then x :: Mc a (y :: b) else if y<x then y :: Mc (x :: a) b else Mc a b
theorem Aav (a:List Int):Mc a []=a:=by cases a<;>simp [Mc]
theorem xC {xs:List Int}(h:∀ j,j+1<xs.length→xs.getD j 0<xs.getD (j+1) 0):Gz xs:=by
 unfold Gz
 rw [List.pairwise_iff_getElem]
 intro i j hi hj hij
 induction j with
 | zero=>omega
 | succ j ih=>
  have h1:=h j (by omega)
  simp only [List.getD_eq_getElem?_getD,List.getElem?_eq_getElem hj,List.getElem?_eq_getElem (show j<xs.length by omega),Option.getD_some] at h1
  rcases Nat.lt_or_ge i j with h2 | h2
  ·have:=ih (by omega) h2;omega
  ·obtain rfl:i=j:=by omega
   exact h1
theorem X6 {xs:List Int}(h:Gz xs):∀ j,j+1<xs.length→xs.getD j 0<xs.getD (j+1) 0:=fun j hj=>by
 have:=List.pairwise_iff_getElem.1 h j (j+1) (by omega) hj (by omega)
 simpa [hj,show j<xs.length by omega] using this
end
end Go.Proofs.YtfofabbkigonpaaDoor
namespace Go.Proofs
open Go.Shelf
def Tryd.mulL_ren:Go.Shelf.Ren:=⟨fun | 212=>120 | 263=>133 | 264=>134 | n=>n,fun | 46=>106 | 51=>150 | 146=>152 | 53=>72 | 148=>154 | n=>n,fun | n=>n⟩
theorem Tryd.mulL:Go.Proofs.Lays.n212 Tryd.prog Tryd.mulL_ren:={
 mixed:=by kernel_rfl
 f212:=Tryd.func120.trans (congrArg some (by kernel_rfl))
 f263:=Tryd.func133.trans (congrArg some (by kernel_rfl))
 f264:=Tryd.func134.trans (congrArg some (by kernel_rfl))
 t46:=Tryd.underlying106
 a46:=Tryd.isAgg106
 z46:=Tryd.sizeOf106
 v46:=Tryd.zeroValue106
 t51:=Tryd.underlying150
 a51:=Tryd.isAgg150
 z51:=Tryd.sizeOf150
 v51:=Tryd.zeroValue150
 t53:=Tryd.underlying72
 a53:=Tryd.isAgg72
 z53:=Tryd.sizeOf72
 v53:=Tryd.zeroValue72
 t146:=Tryd.underlying152
 a146:=Tryd.isAgg152
 z146:=Tryd.sizeOf152
 v146:=Tryd.zeroValue152
 t148:=Tryd.underlying154
 a148:=Tryd.isAgg154
 z148:=Tryd.sizeOf154
 v148:=Tryd.zeroValue154 }
def Tryd.numL_ren:Go.Shelf.Ren:=⟨fun | 284=>142 | 129=>51 | 317=>147 | 318=>148 | n=>n,fun | 53=>72 | 3=>3 | 212=>172 | 0=>0 | 4=>4 | 46=>106 | 5=>5 | 9=>9 | n=>n,fun | 17=>0 | n=>n⟩
theorem Tryd.numL:Go.Proofs.LaysM.n284 Tryd.prog Tryd.numL_ren:={
 mixed:=by kernel_rfl
 f129:=Tryd.func51.trans (congrArg some (by kernel_rfl))
 f284:=Tryd.func142.trans (congrArg some (by kernel_rfl))
 f317:=Tryd.func147.trans (congrArg some (by kernel_rfl))
 f318:=Tryd.func148.trans (congrArg some (by kernel_rfl))
 t0:=Tryd.underlying0
 a0:=Tryd.isAgg0
 z0:=Tryd.sizeOf0
 v0:=Tryd.zeroValue0
 t3:=Tryd.underlying3
 a3:=Tryd.isAgg3
 z3:=Tryd.sizeOf3
 v3:=Tryd.zeroValue3
 t4:=Tryd.underlying4
 a4:=Tryd.isAgg4
 z4:=Tryd.sizeOf4
 v4:=Tryd.zeroValue4
 t5:=Tryd.underlying5
 a5:=Tryd.isAgg5
 z5:=Tryd.sizeOf5
 v5:=Tryd.zeroValue5
 t9:=Tryd.underlying9
 a9:=Tryd.isAgg9
 z9:=Tryd.sizeOf9
 v9:=Tryd.zeroValue9
 t46:=Tryd.underlying106
 a46:=Tryd.isAgg106
 z46:=Tryd.sizeOf106
 v46:=Tryd.zeroValue106
 t53:=Tryd.underlying72
 a53:=Tryd.isAgg72
 z53:=Tryd.sizeOf72
 v53:=Tryd.zeroValue72
 t212:=Tryd.underlying172
 a212:=Tryd.isAgg172
 z212:=Tryd.sizeOf172
 v212:=Tryd.zeroValue172
 g17:=by kernel_rfl
 i0:=by kernel_rfl
 i3:=by kernel_rfl
 i4:=by kernel_rfl
 i5:=by kernel_rfl
 i9:=by kernel_rfl
 i46:=by kernel_rfl
 i53:=by kernel_rfl
 i212:=by kernel_rfl
 m17:=by kernel_rfl }
end Go.Proofs
