/- Texts that belong together. -/
import Derived.Shelf.SlGeneric
import Derived.Shelf.SortM.Plain
import Derived.Shelf.SortM.SortNone
import Derived.Ground.SlgmProg
import Derived.Shelf.SlicesE.Delete
import Derived.Ground.SlgnProg
import Derived.Shelf.Bits.Mul64
import Derived.Ground.NamesProg
import Derived.Test.YtaekhhaaphgndaaZe
import Derived.Test.YtaekhhaaphgndaaZf
set_option linter.unusedSimpArgs false
set_option linter.unusedVariables false
set_option maxRecDepth 100000
namespace Go.Proofs.Ytaekhhaaphgndaa
section
open Go.Gov
theorem l01In_c (n lo hi:Int):Pure Try.prog 61 [i64 n,i64 lo,i64 hi] (bl (decide (lo≤n)&&decide (n≤hi))) []:=by
 refine pureV ok61 rfl ?_;unfold c61
 (refine RN ?_;try with_reducible exact trivial)
theorem within_c (n lo hi:Int):Pure Try.prog 34 [i64 n,i64 lo,i64 hi] (bl (decide (lo≤n)&&decide (n≤hi))) []:=by
 refine pureV ok34 rfl ?_;unfold c34
 (refine RN ?_;try with_reducible exact trivial)
theorem size_c (xs:List Int)(hl:xs.length≤1099511627776):Pure Try.prog 38 [ints xs] (i64 xs.length) []:=by
 refine pureV ok38 rfl ?_;unfold c38
 (refine RN ?_;try with_reducible exact trivial)
def idx (xs:List Int)(n:Int):Int:=if n∈xs then xs.idxOf n else -1
theorem idx_at {xs:List Int}{n:Int}{i:Nat}(h:∀ j,j<i→xs.getD j 0≠n)(hi:i<xs.length)(he:xs.getD i 0=n):idx xs n=i:=by
 have hm:n∈xs:=by rw [← he];simp [hi]
 unfold idx
 rw [if_pos hm]
 congr 1
 induction xs generalizing i with
 | nil=>cases hi
 | cons x xs ih=>
  cases i with
  | zero=>
   have hx:x=n:=by simpa using he
   simp [hx]
  | succ i=>
   have hx:x≠n:=by have:=h 0 (by omega);simpa using this
   have hm' : n∈xs:=by rcases List.mem_cons.1 hm with h' | h'; exact absurd h'.symm hx;exact h'
   have hb:(x == n)=false:=by simpa using hx
   rw [List.idxOf_cons,hb,cond_false]
   rw [ih (i:=i) (fun j hj=>by have:=h (j+1) (by omega);simpa using this) (by simpa using hi) (by simpa using he) hm']
theorem idx_no {xs:List Int}{n:Int}(h:∀ j,j<xs.length→xs.getD j 0≠n):idx xs n = -1:=by
 unfold idx
 rw [if_neg]
 intro hm
 obtain ⟨j,hj,he⟩:=List.mem_iff_getElem.1 hm
 exact h j hj (by simp [hj,he])
theorem idx_ge (xs:List Int)(n:Int):decide (0≤idx xs n)=decide (n∈xs):=by
 unfold idx
 by_cases h:n∈xs<;>simp [h]
theorem l01Index_c (xs:List Int)(n:Int)(hl:xs.length≤1099511627776):Pure Try.prog 94 [ints xs,i64 n] (i64 (idx xs n)) []:=by
 refine pureV ok94 rfl ?_;unfold c94
 refine RN ?_
 refine V_loop (α:=Nat) (S:=fun i=>([(0,ints xs),(1,i64 n),(5,i64 i)],[])) (C:=fun i=>i≤xs.length∧∀ j,j<i→xs.getD j 0≠n) (μ:=fun i=>xs.length - i) 0 ⟨by omega,by omega⟩ (by exact Ref.frame (by simp [sub,fget])) ?_
 rintro i ⟨hi,hall⟩
 refine RN ?_
 refine ⟨fun hc=>?_,fun hc=>?_⟩
 ·(refine RN ?_;try with_reducible exact trivial)
  refine ⟨fun hc=>?_,fun hc=>?_⟩
  ·(refine RN ?_;try with_reducible exact trivial)
   rw [idx_at hall (by omega) (by assumption)]
  ·(refine RN ?_;try with_reducible exact trivial)
   refine ⟨i+1,⟨by omega,fun j hj=>?_⟩,by omega,by exact Ref.frame (by simp [sub,fget])⟩
   rcases Nat.lt_or_ge j i with h | h
   ·exact hall j h
   ·obtain rfl:j=i:=by omega
    simpa using hc
 ·(refine RN ?_;try with_reducible exact trivial)
  rw [idx_no (fun j hj=>hall j (by omega))]
theorem l01Has_c (xs:List Int)(n:Int)(hl:xs.length≤1099511627776):Pure Try.prog 86 [ints xs,i64 n] (bl (decide (n∈xs))) []:=by
 refine pureV ok86 rfl ?_;unfold c86
 refine RN ?_
 refine pureC1 (l01Index_c xs n hl) ?_
 (refine RN ?_;try with_reducible exact trivial)
 try rw [idx_ge]
theorem isNaN1_c (n:Int):Pure Try.prog 67 [i64 n] (bl false) []:=by
 refine pureV ok67 rfl ?_;unfold c67
 (refine RN ?_;try with_reducible exact trivial)
 try rw [show (n != n)=false by simp]
theorem isNaN2_c (n:Int):Pure Try.prog 88 [i64 n] (bl false) []:=by
 refine pureV ok88 rfl ?_;unfold c88
 (refine RN ?_;try with_reducible exact trivial)
 try rw [show (n != n)=false by simp]
theorem Less_c (x y:Int):Pure Try.prog 66 [i64 x,i64 y] (bl (decide (x<y))) []:=by
 refine pureV ok66 rfl ?_;unfold c66
 refine RN ?_
 refine pureC1 (isNaN2_c x) ?_
 refine GCall_no (bl false) rfl ?_
 (refine RN ?_;try with_reducible exact trivial)
end
section
open Go.Gov
def left (b:Int)(n:Nat):Int:=if (n:Int)≤b then b - n else -1
abbrev posetA (r:Int)(ranks:List Int)(below:List (List Int)):AV:=.agg [i64 r,ints ranks,mat below]
end
section
open Go.Gov
theorem getD_set_self' {α:Type}(l:List α)(i:Nat)(x d:α)(h:i<l.length):(l.set i x).getD i d=x:=by simp [h]
end
section
open Classical
def sst (xs:List Int):Prop:=xs.Pairwise (· < ·)
theorem sst_ext:∀ {a b:List Int},sst a→sst b→(∀ e,e∈a ↔ e∈b)→a=b
 | [],[],_,_,_=>rfl
 | [],y :: b,_,_,h=>by have:=(h y).2 (by simp);simp at this
 | x :: a,[],_,_,h=>by have:=(h x).1 (by simp);simp at this
 | x :: a,y :: b,ha,hb,h=>by
  obtain ⟨ha1,ha2⟩:=List.pairwise_cons.1 ha
  obtain ⟨hb1,hb2⟩:=List.pairwise_cons.1 hb
  have hxy:x=y:=by
   have h1:=(h x).1 (by simp)
   have h2:=(h y).2 (by simp)
   rcases List.mem_cons.1 h1 with h1 | h1
   ·exact h1
   ·rcases List.mem_cons.1 h2 with h2 | h2
    ·exact h2.symm
    ·have:=hb1 x h1;have:=ha1 y h2;omega
  subst hxy
  rw [sst_ext ha2 hb2 fun e=>?_]
  constructor
  ·intro he
   have:=(h e).1 (List.mem_cons_of_mem _ he)
   rcases List.mem_cons.1 this with h1 | h1
   ·subst h1;have:=ha1 e he;omega
   ·exact h1
  ·intro he
   have:=(h e).2 (List.mem_cons_of_mem _ he)
   rcases List.mem_cons.1 this with h1 | h1
   ·subst h1;have:=hb1 e he;omega
   ·exact h1
def push (out:List Int)(e:Int):List Int:=if out.getLast? = some e then out.dropLast else out++[e]
def srtL (xs:List Int):List Int:=xs.mergeSort fun x y=>decide (x≤y)
theorem srtL_perm (xs:List Int):(srtL xs).Perm xs:=List.mergeSort_perm xs _
theorem srtL_le (xs:List Int):(srtL xs).Pairwise (· ≤ ·):=by
 have:=List.pairwise_mergeSort (le:=fun x y:Int=>decide (x≤y)) (fun a b c h1 h2=>by simp at *;omega) (fun a b=>by simp;omega) xs
 exact this.imp fun h=>by simpa using h
theorem srtL_len (xs:List Int):(srtL xs).length=xs.length:=(srtL_perm xs).length_eq
end
end Go.Proofs.Ytaekhhaaphgndaa
namespace Go.Proofs
open Go.Shelf
def Try.sortL_ren:Go.Shelf.Ren:=⟨fun | 5=>42 | 8=>60 | 7=>59 | 19=>84 | 20=>85 | 10=>76 | 11=>77 | 12=>78 | 13=>79 | 14=>80 | 15=>81 | 16=>66 | 17=>82 | 18=>83 | 30=>89 | 31=>90 | 32=>91 | 33=>92 | 34=>93 | 35=>88 | 40=>95 | n=>n,fun | 23=>28 | 25=>2 | 3=>3 | 32=>57 | 22=>28 | 0=>0 | 44=>98 | 46=>41 | 4=>4 | 36=>105 | 35=>104 | 41=>79 | 5=>5 | 9=>9 | 53=>113 | 57=>117 | 63=>120 | 64=>121 | n=>n,fun | n=>n⟩
theorem Try.sortL:Go.Proofs.SlLaysM.n5 Try.prog Try.sortL_ren:={
 mixed:=by kernel_rfl
 f5:=⟨Try.f42.name,by decide,Try.func42.trans (congrArg some (by kernel_rfl))⟩
 f7:=⟨Try.f59.name,by decide,Try.func59.trans (congrArg some (by kernel_rfl))⟩
 f8:=Try.func60.trans (congrArg some (by kernel_rfl))
 f10:=⟨Try.f76.name,by decide,Try.func76.trans (congrArg some (by kernel_rfl))⟩
 f11:=⟨Try.f77.name,by decide,Try.func77.trans (congrArg some (by kernel_rfl))⟩
 f12:=⟨Try.f78.name,by decide,Try.func78.trans (congrArg some (by kernel_rfl))⟩
 f13:=⟨Try.f79.name,by decide,Try.func79.trans (congrArg some (by kernel_rfl))⟩
 f14:=⟨Try.f80.name,by decide,Try.func80.trans (congrArg some (by kernel_rfl))⟩
 f15:=⟨Try.f81.name,by decide,Try.func81.trans (congrArg some (by kernel_rfl))⟩
 f16:=⟨Try.f66.name,by decide,Try.func66.trans (congrArg some (by kernel_rfl))⟩
 f17:=⟨Try.f82.name,by decide,Try.func82.trans (congrArg some (by kernel_rfl))⟩
 f18:=⟨Try.f83.name,by decide,Try.func83.trans (congrArg some (by kernel_rfl))⟩
 f19:=Try.func84.trans (congrArg some (by kernel_rfl))
 f20:=Try.func85.trans (congrArg some (by kernel_rfl))
 f30:=⟨Try.f89.name,by decide,Try.func89.trans (congrArg some (by kernel_rfl))⟩
 f31:=Try.func90.trans (congrArg some (by kernel_rfl))
 f32:=Try.func91.trans (congrArg some (by kernel_rfl))
 f33:=⟨Try.f92.name,by decide,Try.func92.trans (congrArg some (by kernel_rfl))⟩
 f34:=⟨Try.f93.name,by decide,Try.func93.trans (congrArg some (by kernel_rfl))⟩
 f35:=⟨Try.f88.name,by decide,Try.func88.trans (congrArg some (by kernel_rfl))⟩
 f40:=⟨Try.f95.name,by decide,Try.func95.trans (congrArg some (by kernel_rfl))⟩
 t0:=Try.underlying0
 a0:=Try.isAgg0
 z0:=Try.sizeOf0
 v0:=Try.zeroValue0
 t3:=Try.underlying3
 a3:=Try.isAgg3
 z3:=Try.sizeOf3
 v3:=Try.zeroValue3
 t4:=Try.underlying4
 a4:=Try.isAgg4
 z4:=Try.sizeOf4
 v4:=Try.zeroValue4
 t5:=Try.underlying5
 a5:=Try.isAgg5
 z5:=Try.sizeOf5
 v5:=Try.zeroValue5
 t9:=Try.underlying9
 a9:=Try.isAgg9
 z9:=Try.sizeOf9
 v9:=Try.zeroValue9
 t22:=Try.underlying28
 a22:=Try.isAgg28
 z22:=Try.sizeOf28
 v22:=Try.zeroValue28
 t23:=Try.underlying28
 a23:=Try.isAgg28
 z23:=Try.sizeOf28
 v23:=Try.zeroValue28
 t25:=Try.underlying2
 a25:=Try.isAgg2
 z25:=Try.sizeOf2
 v25:=Try.zeroValue2
 t32:=Try.underlying57
 a32:=Try.isAgg57
 z32:=Try.sizeOf57
 v32:=Try.zeroValue57
 t35:=Try.underlying104
 a35:=Try.isAgg104
 z35:=Try.sizeOf104
 v35:=Try.zeroValue104
 t36:=Try.underlying105
 a36:=Try.isAgg105
 z36:=Try.sizeOf105
 v36:=Try.zeroValue105
 t41:=Try.underlying79
 a41:=Try.isAgg79
 z41:=Try.sizeOf79
 v41:=Try.zeroValue79
 t44:=Try.underlying98
 a44:=Try.isAgg98
 z44:=Try.sizeOf98
 v44:=Try.zeroValue98
 t46:=Try.underlying41
 a46:=Try.isAgg41
 z46:=Try.sizeOf41
 v46:=Try.zeroValue41
 t53:=Try.underlying113
 a53:=Try.isAgg113
 z53:=Try.sizeOf113
 v53:=Try.zeroValue113
 t57:=Try.underlying117
 a57:=Try.isAgg117
 z57:=Try.sizeOf117
 v57:=Try.zeroValue117
 t63:=Try.underlying120
 a63:=Try.isAgg120
 z63:=Try.sizeOf120
 v63:=Try.zeroValue120
 t64:=Try.underlying121
 a64:=Try.isAgg121
 z64:=Try.sizeOf121
 v64:=Try.zeroValue121 }
def Try.delL_ren:Go.Shelf.Ren:=⟨fun | 45=>68 | n=>n,fun | 22=>24 | 23=>28 | 3=>3 | 4=>4 | 0=>0 | n=>n,fun | n=>n⟩
theorem Try.delL:Go.Proofs.SlLaysE.n45 Try.prog Try.delL_ren:={
 mixed:=by kernel_rfl
 f45:=⟨Try.f68.name,by decide,Try.func68.trans (congrArg some (by kernel_rfl))⟩
 t0:=Try.underlying0
 a0:=Try.isAgg0
 z0:=Try.sizeOf0
 v0:=Try.zeroValue0
 t3:=Try.underlying3
 a3:=Try.isAgg3
 z3:=Try.sizeOf3
 v3:=Try.zeroValue3
 t4:=Try.underlying4
 a4:=Try.isAgg4
 z4:=Try.sizeOf4
 v4:=Try.zeroValue4
 t22:=Try.underlying24
 a22:=Try.isAgg24
 z22:=Try.sizeOf24
 v22:=Try.zeroValue24
 a23:=Try.isAgg28
 z23:=Try.sizeOf28 }
def Try.mulL_ren:Go.Shelf.Ren:=⟨fun | 212=>58 | 263=>74 | 264=>75 | n=>n,fun | 46=>57 | 51=>98 | 146=>99 | 53=>41 | 148=>101 | n=>n,fun | n=>n⟩
theorem Try.mulL:Go.Proofs.Lays.n212 Try.prog Try.mulL_ren:={
 mixed:=by kernel_rfl
 f212:=Try.func58.trans (congrArg some (by kernel_rfl))
 f263:=Try.func74.trans (congrArg some (by kernel_rfl))
 f264:=Try.func75.trans (congrArg some (by kernel_rfl))
 t46:=Try.underlying57
 a46:=Try.isAgg57
 z46:=Try.sizeOf57
 v46:=Try.zeroValue57
 t51:=Try.underlying98
 a51:=Try.isAgg98
 z51:=Try.sizeOf98
 v51:=Try.zeroValue98
 t53:=Try.underlying41
 a53:=Try.isAgg41
 z53:=Try.sizeOf41
 v53:=Try.zeroValue41
 t146:=Try.underlying99
 a146:=Try.isAgg99
 z146:=Try.sizeOf99
 v146:=Try.zeroValue99
 t148:=Try.underlying101
 a148:=Try.isAgg101
 z148:=Try.sizeOf101
 v148:=Try.zeroValue101 }
end Go.Proofs
