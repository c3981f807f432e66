/- Texts that belong together. -/
import Derived.Shelf.SlGeneric
import Derived.Shelf.SlicesE.Delete
import Derived.Ground.SlgnProg
import Derived.Shelf.Bits.Mul64
import Derived.Ground.NamesProg
import Derived.Test.YtaekhhaaphgndaaGreatZe
import Derived.Test.YtaekhhaaphgndaaGreatZf
set_option linter.unusedSimpArgs false
set_option linter.unusedVariables false
set_option maxRecDepth 100000
namespace Go.Proofs.YtaekhhaaphgndaaGreat
section
open Go.Gov
theorem l01In_c (n lo hi:Int):Pure Tryz.prog 48 [i64 n,i64 lo,i64 hi] (bl (decide (lo≤n)&&decide (n≤hi))) []:=by
 refine pureV ok48 rfl ?_;unfold c48
 (refine RN ?_;try with_reducible exact trivial)
theorem within_c (n lo hi:Int):Pure Tryz.prog 40 [i64 n,i64 lo,i64 hi] (bl (decide (lo≤n)&&decide (n≤hi))) []:=by
 refine pureV ok40 rfl ?_;unfold c40
 (refine RN ?_;try with_reducible exact trivial)
theorem size_c (xs:List Int)(hl:xs.length≤1099511627776):Pure Tryz.prog 41 [ints xs] (i64 xs.length) []:=by
 refine pureV ok41 rfl ?_;unfold c41
 (refine RN ?_;try with_reducible exact trivial)
def idx (xs:List Int)(n:Int):Int:=if n∈xs then xs.idxOf n else -1
theorem idx_at {xs:List Int}{n:Int}{i:Nat}(h:∀ j,j<i→xs.getD j 0≠n)(hi:i<xs.length)(he:xs.getD i 0=n):idx xs n=i:=by
 have hm:n∈xs:=by rw [← he];simp [hi]
 unfold idx
 rw [if_pos hm]
 congr 1
 induction xs generalizing i with
 | nil=>cases hi
 | cons x xs ih=>
  cases i with
  | zero=>
   have hx:x=n:=by simpa using he
   simp [hx]
  | succ i=>
   have hx:x≠n:=by have:=h 0 (by omega);simpa using this
   have hm' : n∈xs:=by rcases List.mem_cons.1 hm with h' | h'; exact absurd h'.symm hx;exact h'
   have hb:(x == n)=false:=by simpa using hx
   rw [List.idxOf_cons,hb,cond_false]
   rw [ih (i:=i) (fun j hj=>by have:=h (j+1) (by omega);simpa using this) (by simpa using hi) (by simpa using he) hm']
theorem idx_no {xs:List Int}{n:Int}(h:∀ j,j<xs.length→xs.getD j 0≠n):idx xs n = -1:=by
 unfold idx
 rw [if_neg]
 intro hm
 obtain ⟨j,hj,he⟩:=List.mem_iff_getElem.1 hm
 exact h j hj (by simp [hj,he])
theorem idx_ge (xs:List Int)(n:Int):decide (0≤idx xs n)=decide (n∈xs):=by
 unfold idx
 by_cases h:n∈xs<;>simp [h]
theorem l01Index_c (xs:List Int)(n:Int)(hl:xs.length≤1099511627776):Pure Tryz.prog 74 [ints xs,i64 n] (i64 (idx xs n)) []:=by
 refine pureV ok74 rfl ?_;unfold c74
 refine RN ?_
 refine V_loop (α:=Nat) (S:=fun i=>([(0,ints xs),(1,i64 n),(5,i64 i)],[])) (C:=fun i=>i≤xs.length∧∀ j,j<i→xs.getD j 0≠n) (μ:=fun i=>xs.length - i) 0 ⟨by omega,by omega⟩ (by exact Ref.frame (by simp [sub,fget])) ?_
 rintro i ⟨hi,hall⟩
 refine RN ?_
 refine ⟨fun hc=>?_,fun hc=>?_⟩
 ·(refine RN ?_;try with_reducible exact trivial)
  refine ⟨fun hc=>?_,fun hc=>?_⟩
  ·(refine RN ?_;try with_reducible exact trivial)
   rw [idx_at hall (by omega) (by assumption)]
  ·(refine RN ?_;try with_reducible exact trivial)
   refine ⟨i+1,⟨by omega,fun j hj=>?_⟩,by omega,by exact Ref.frame (by simp [sub,fget])⟩
   rcases Nat.lt_or_ge j i with h | h
   ·exact hall j h
   ·obtain rfl:j=i:=by omega
    simpa using hc
 ·(refine RN ?_;try with_reducible exact trivial)
  rw [idx_no (fun j hj=>hall j (by omega))]
theorem l01Has_c (xs:List Int)(n:Int)(hl:xs.length≤1099511627776):Pure Tryz.prog 65 [ints xs,i64 n] (bl (decide (n∈xs))) []:=by
 refine pureV ok65 rfl ?_;unfold c65
 refine RN ?_
 refine pureC1 (l01Index_c xs n hl) ?_
 (refine RN ?_;try with_reducible exact trivial)
 try rw [idx_ge]
end
section
open Go.Gov
def left (b:Int)(n:Nat):Int:=if (n:Int)≤b then b - n else -1
end
section
open Classical
def push (out:List Int)(e:Int):List Int:=if out.getLast? = some e then out.dropLast else out++[e]
end
end Go.Proofs.YtaekhhaaphgndaaGreat
namespace Go.Proofs
open Go.Shelf
def Tryz.delL_ren:Go.Shelf.Ren:=⟨fun | 45=>68 | n=>n,fun | 22=>26 | 23=>24 | 3=>3 | 4=>4 | 0=>0 | n=>n,fun | n=>n⟩
theorem Tryz.delL:Go.Proofs.SlLaysE.n45 Tryz.prog Tryz.delL_ren:={
 mixed:=by kernel_rfl
 f45:=⟨Tryz.f68.name,by decide,Tryz.func68.trans (congrArg some (by kernel_rfl))⟩
 t0:=Tryz.underlying0
 a0:=Tryz.isAgg0
 z0:=Tryz.sizeOf0
 v0:=Tryz.zeroValue0
 t3:=Tryz.underlying3
 a3:=Tryz.isAgg3
 z3:=Tryz.sizeOf3
 v3:=Tryz.zeroValue3
 t4:=Tryz.underlying4
 a4:=Tryz.isAgg4
 z4:=Tryz.sizeOf4
 v4:=Tryz.zeroValue4
 t22:=Tryz.underlying26
 a22:=Tryz.isAgg26
 z22:=Tryz.sizeOf26
 v22:=Tryz.zeroValue26
 a23:=Tryz.isAgg24
 z23:=Tryz.sizeOf24 }
def Tryz.mulL_ren:Go.Shelf.Ren:=⟨fun | 212=>67 | 263=>76 | 264=>77 | n=>n,fun | 46=>73 | 51=>88 | 146=>89 | 53=>70 | 148=>91 | n=>n,fun | n=>n⟩
theorem Tryz.mulL:Go.Proofs.Lays.n212 Tryz.prog Tryz.mulL_ren:={
 mixed:=by kernel_rfl
 f212:=Tryz.func67.trans (congrArg some (by kernel_rfl))
 f263:=Tryz.func76.trans (congrArg some (by kernel_rfl))
 f264:=Tryz.func77.trans (congrArg some (by kernel_rfl))
 t46:=Tryz.underlying73
 a46:=Tryz.isAgg73
 z46:=Tryz.sizeOf73
 v46:=Tryz.zeroValue73
 t51:=Tryz.underlying88
 a51:=Tryz.isAgg88
 z51:=Tryz.sizeOf88
 v51:=Tryz.zeroValue88
 t53:=Tryz.underlying70
 a53:=Tryz.isAgg70
 z53:=Tryz.sizeOf70
 v53:=Tryz.zeroValue70
 t146:=Tryz.underlying89
 a146:=Tryz.isAgg89
 z146:=Tryz.sizeOf89
 v146:=Tryz.zeroValue89
 t148:=Tryz.underlying91
 a148:=Tryz.isAgg91
 z148:=Tryz.sizeOf91
 v148:=Tryz.zeroValue91 }
end Go.Proofs
