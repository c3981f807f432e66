/- Texts that belong together. -/
import Derived.Shelf.SlGeneric
import Derived.Shelf.SortM.Plain
import Derived.Shelf.SortM.SortNone
import Derived.Ground.SlgmProg
import Derived.Shelf.Spec.SlicesGrow
import Derived.Ground.Names8Prog
import Derived.Test.YtcneanpkpmfaiaaGreatZe
import Derived.Test.YtcneanpkpmfaiaaGreatZf
set_option linter.unusedSimpArgs false
set_option linter.unusedVariables false
set_option maxRecDepth 100000
namespace Go.Proofs.YtcneanpkpmfaiaaGreat
section
open Go.Gov
theorem Ey (n lo hi:Int):Pure Tryz.prog 62 [i64 n,i64 lo,i64 hi] (bl (decide (lo≤n)&&decide (n≤hi))) []:=by
 refine Er xE rfl ?_;unfold Xg
 (refine RN ?_;try with_reducible exact trivial)
theorem Nv (n lo hi:Int):Pure Tryz.prog 46 [i64 n,i64 lo,i64 hi] (bl (decide (lo≤n)&&decide (n≤hi))) []:=by
 refine Er wR rfl ?_;unfold W6
 (refine RN ?_;try with_reducible exact trivial)
theorem eM (xs:List Int)(hl:xs.length≤1099511627776):Pure Tryz.prog 47 [Ac xs] (i64 xs.length) []:=by
 refine Er wS rfl ?_;unfold W7
 (refine RN ?_;try with_reducible exact trivial)
def idx (xs:List Int)(n:Int):Int:=if n∈xs then xs.idxOf n else -1
theorem nP {xs:List Int}{n:Int}{i:Nat}(h:∀ j,j<i→xs.getD j 0≠n)(hi:i<xs.length)(he:xs.getD i 0=n):idx xs n=i:=by
 have hm:n∈xs:=by rw [← he];simp [hi]
 unfold idx
 rw [if_pos hm]
 congr 1
 induction xs generalizing i with
 | nil=>cases hi
 | cons x xs ih=>
  cases i with
  | zero=>
   have hx:x=n:=by simpa using he
   simp [hx]
  | succ i=>
   have hx:x≠n:=by have:=h 0 (by omega);simpa using this
   have hm' : n∈xs:=by rcases List.mem_cons.1 hm with h' | h'; exact absurd h'.symm hx;exact h'
   have hb:(x == n)=false:=by simpa using hx
   rw [List.idxOf_cons,hb,cond_false]
   rw [ih (i:=i) (fun j hj=>by have:=h (j+1) (by omega);simpa using this) (by simpa using hi) (by simpa using he) hm']
theorem nR {xs:List Int}{n:Int}(h:∀ j,j<xs.length→xs.getD j 0≠n):idx xs n = -1:=by
 unfold idx
 rw [if_neg]
 intro hm
 obtain ⟨j,hj,he⟩:=List.mem_iff_getElem.1 hm
 exact h j hj (by simp [hj,he])
theorem nQ (xs:List Int)(n:Int):decide (0≤idx xs n)=decide (n∈xs):=by
 unfold idx
 by_cases h:n∈xs<;>simp [h]
theorem oT (xs:List Int)(n:Int)(hl:xs.length≤1099511627776):Pure Tryz.prog 94 [Ac xs,i64 n] (i64 (idx xs n)) []:=by
 refine Er xY rfl ?_;unfold Xz
 refine RN ?_
 refine Aj (α:=Nat) (S:=fun i=>([(0,Ac xs),(1,i64 n),(5,i64 i)],[])) (C:=fun i=>i≤xs.length∧∀ j,j<i→xs.getD j 0≠n) (μ:=fun i=>xs.length - i) 0 ⟨by omega,by omega⟩ (by exact Ref.frame (by simp [sub,Ab])) ?_
 rintro i ⟨hi,hall⟩
 refine RN ?_
 refine ⟨fun hc=>?_,fun hc=>?_⟩
 ·(refine RN ?_;try with_reducible exact trivial)
  refine ⟨fun hc=>?_,fun hc=>?_⟩
  ·(refine RN ?_;try with_reducible exact trivial)
   rw [nP hall (by omega) (by assumption)]
  ·(refine RN ?_;try with_reducible exact trivial)
   refine ⟨i+1,⟨by omega,fun j hj=>?_⟩,by omega,by exact Ref.frame (by simp [sub,Ab])⟩
   rcases Nat.lt_or_ge j i with h | h
   ·exact hall j h
   ·obtain rfl:j=i:=by omega
    simpa using hc
 ·(refine RN ?_;try with_reducible exact trivial)
  rw [nR (fun j hj=>hall j (by omega))]
theorem Te (xs:List Int)(n:Int)(hl:xs.length≤1099511627776):Pure Tryz.prog 63 [Ac xs,i64 n] (bl (decide (n∈xs))) []:=by
 refine Er xF rfl ?_;unfold Xh
 refine RN ?_
 refine Am (oT xs n hl) ?_
 (refine RN ?_;try with_reducible exact trivial)
 try rw [nQ]
theorem oH (n:Int):Pure Tryz.prog 71 [i64 n] (bl false) []:=by
 refine Er xL rfl ?_;unfold Xn
 (refine RN ?_;try with_reducible exact trivial)
 try rw [show (n != n)=false by simp]
theorem oI (n:Int):Pure Tryz.prog 106 [i64 n] (bl false) []:=by
 refine Er uQ rfl ?_;unfold Vr
 (refine RN ?_;try with_reducible exact trivial)
 try rw [show (n != n)=false by simp]
theorem U4 (x y:Int):Pure Tryz.prog 70 [i64 x,i64 y] (bl (decide (x<y))) []:=by
 refine Er xK rfl ?_;unfold Xm
 refine RN ?_
 refine Am (oI x) ?_
 refine Av (bl false) rfl ?_
 (refine RN ?_;try with_reducible exact trivial)
end
section
open Go.Gov
def left (b:Int)(n:Nat):Int:=if (n:Int)≤b then b - n else -1
def Ck (xss:List (List Int)):Nat:=(xss.map List.length).sum
theorem fA (a b:List (List Int)):Ck (a++b)=Ck a+Ck b:=by simp [Ck]
theorem fB (xss:List (List Int))(i:Nat)(h:i<xss.length):Ck (xss.take (i+1))=Ck (xss.take i)+(xss.getD i []).length:=by
 rw [List.take_succ_eq_append_getElem h,fA]
 simp [Ck,h]
theorem Qt (xss:List (List Int))(i:Nat):Ck (xss.take i)≤Ck xss:=by
 have:=congrArg Ck (List.take_append_drop i xss)
 rw [fA] at this
 omega
abbrev A6 (r:Int)(ranks:List Int)(below:List (List Int)):AV:=.agg [i64 r,Ac ranks,Ae below]
end
section
open Go.Gov
theorem Hs {α:Type}(l:List α)(i:Nat)(x d:α)(h:i<l.length):(l.set i x).getD i d=x:=by simp [h]
end
section
open Classical
def sst (xs:List Int):Prop:=xs.Pairwise (· < ·)
theorem Kh:∀ {a b:List Int},sst a→sst b→(∀ e,e∈a ↔ e∈b)→a=b
 | [],[],_,_,_=>rfl
 | [],y :: b,_,_,h=>by have:=(h y).2 (by simp);simp at this
 | x :: a,[],_,_,h=>by have:=(h x).1 (by simp);simp at this
 | x :: a,y :: b,ha,hb,h=>by
  obtain ⟨ha1,ha2⟩:=List.pairwise_cons.1 ha
  obtain ⟨hb1,hb2⟩:=List.pairwise_cons.1 hb
  have hxy:x=y:=by
   have h1:=(h x).1 (by simp)
   have h2:=(h y).2 (by simp)
   rcases List.mem_cons.1 h1 with h1 | h1
   ·exact h1
   ·rcases List.mem_cons.1 h2 with h2 | h2
    ·exact h2.symm
    ·have:=hb1 x h1;have:=ha1 y h2;omega
  subst hxy
  rw [Kh ha2 hb2 fun e=>?_]
  constructor
  ·intro he
   have:=(h e).1 (List.mem_cons_of_mem _ he)
   rcases List.mem_cons.1 this with h1 | h1
   ·subst h1;have:=ha1 e he;omega
   ·exact h1
  ·intro he
   have:=(h e).2 (List.mem_cons_of_mem _ he)
   rcases List.mem_cons.1 this with h1 | h1
   ·subst h1;have:=hb1 e he;omega
   ·exact h1
theorem Jb:∀ {a:List Int} (e:Int),sst a→a.count e=if e∈a then 1 else 0
 | [],e,_=>by simp
 | x :: a,e,h=>by
  obtain ⟨h1,h2⟩:=List.pairwise_cons.1 h
  rw [List.count_cons,Jb e h2]
  by_cases hx:x=e
  ·subst hx
   have:x∉a:=fun hm=>by have:=h1 x hm;omega
   simp [this]
  ·simp [hx,show ¬ e=x by omega]
def push (out:List Int)(e:Int):List Int:=if out.getLast? = some e then out.dropLast else out++[e]
def Bf (xs:List Int):List Int:=xs.mergeSort fun x y=>decide (x≤y)
def Ep (xs:List Int):List Int:=(Bf xs).foldl push []
theorem Uj : ∀ (l out : List Int), sst out → l.Pairwise (· ≤ ·) → (∀ a ∈ out, ∀ b ∈ l, a ≤ b) →
    sst (l.foldl push out)∧∀ e,e∈l.foldl push out ↔ ((if e∈out then 1 else 0)+l.count e)%2=1
 | [],out,h,_,_=>⟨h,fun e=>by by_cases he:e∈out<;>simp [he]⟩
 | x :: l,out,h,hl,hle=>by
  obtain ⟨hl1,hl2⟩:=List.pairwise_cons.1 hl
  rw [List.foldl_cons]
  by_cases hx:out.getLast? = some x
  ·obtain ⟨o, rfl⟩ : ∃ o, out = o ++ [x] := by
     have hne:out≠[]:=by intro h0;rw [h0] at hx;simp at hx
     refine ⟨out.dropLast,?_⟩
     have:out.getLast hne=x:=by rw [List.getLast?_eq_some_getLast hne] at hx;exact Option.some.inj hx
     rw [← this,List.dropLast_concat_getLast]
   have hp:push (o++[x]) x=o:=by simp [push]
   rw [hp]
   obtain ⟨h1,h2,h3⟩:=List.pairwise_append.1 h
   obtain ⟨k1,k2⟩:=Uj l o h1 hl2 fun a ha b hb=>hle a (by simp [ha]) b (by simp [hb])
   refine ⟨k1,fun e=>?_⟩
   rw [k2 e,List.count_cons]
   have hxo:x∉o:=fun hm=>by have:=h3 x hm x (by simp);omega
   by_cases he:x=e
   ·subst he
    simp [hxo];omega
   ·simp [he,show ¬ e=x by omega]
  ·have hp:push out x=out++[x]:=by simp [push,hx]
   rw [hp]
   have hlt:∀ a∈out,a<x:=fun a ha=>by
    have h1:=hle a ha x (by simp)
    rcases Int.lt_or_eq_of_le h1 with h2 | rfl
    ·exact h2
    ·exfalso
     apply hx
     have hne:out≠[]:=by intro h0;rw [h0] at ha;simp at ha
     rw [List.getLast?_eq_some_getLast hne]
     congr 1
     obtain ⟨o,y,rfl⟩:∃ o y,out=o++[y]:=⟨out.dropLast,out.getLast hne,(List.dropLast_concat_getLast hne).symm⟩
     simp only [List.getLast_append,List.getLast_singleton]
     have h4:=hle y (by simp) a (by simp)
     rcases List.mem_append.1 ha with hm | hm
     ·have:=(List.pairwise_append.1 h).2.2 a hm y (by simp);omega
     ·simp at hm;exact hm.symm
   have hno:x∉out:=fun hm=>by have:=hlt x hm;omega
   have hs:sst (out++[x]):=List.pairwise_append.2 ⟨h,by simp,fun a ha b hb=>by simp at hb;subst hb;exact hlt a ha⟩
   obtain ⟨k1,k2⟩:=Uj l (out++[x]) hs hl2 fun a ha b hb=>by
    rcases List.mem_append.1 ha with hm | hm
    ·exact hle a hm b (by simp [hb])
    ·simp at hm;subst hm;exact hl1 b hb
   refine ⟨k1,fun e=>?_⟩
   rw [k2 e,List.count_cons]
   by_cases he:x=e
   ·subst he
    simp [hno];omega
   ·simp [he,show ¬ e=x by omega]
theorem eS (xs:List Int):(Bf xs).Perm xs:=List.mergeSort_perm xs _
theorem Acv (xs:List Int):(Bf xs).Pairwise (· ≤ ·):=by
 have:=List.pairwise_mergeSort (le:=fun x y:Int=>decide (x≤y)) (fun a b c h1 h2=>by simp at *;omega) (fun a b=>by simp;omega) xs
 exact this.imp fun h=>by simpa using h
theorem bX (xs:List Int):sst (Ep xs)∧∀ e,e∈Ep xs ↔ xs.count e%2=1:=by
 obtain ⟨h1,h2⟩:=Uj (Bf xs) [] List.Pairwise.nil (Acv xs) (by simp)
 refine ⟨h1,fun e=>?_⟩
 have:=h2 e
 rw [(eS xs).count_eq] at this
 simpa [Ep] using this
def Ag:List Int→List Int→List Int
 | [],b=>b
 | x :: a,[]=>x :: a
 | x :: a,y :: b=>if x<y then x :: Ag a (y :: b) else if y<x then y :: Ag (x :: a) b else Ag a b
theorem Gv (a:List Int):Ag a []=a:=by cases a<;>simp [Ag]
theorem Kj:∀ (a b:List Int),sst a→sst b→sst (Ag a b)∧∀ e,e∈Ag a b ↔ (a.count e+b.count e)%2=1
 | [],b,_,hb=>⟨by simpa [Ag] using hb,fun e=>by rw [Ag,Jb e hb];by_cases h:e∈b<;>simp [h]⟩
 | x :: a,[],ha,_=>⟨by simpa [Ag] using ha,fun e=>by rw [Ag,Jb e ha];by_cases h:e∈x :: a<;>simp [h]⟩
 | x :: a,y :: b,ha,hb=>by
  obtain ⟨ha1,ha2⟩:=List.pairwise_cons.1 ha
  obtain ⟨hb1,hb2⟩:=List.pairwise_cons.1 hb
  have pos:∀ (l:List Int) (e:Int),l.count e≠0→e∈l:=fun l e h=>by
   rcases Nat.eq_zero_or_pos (l.count e) with h0 | h0
   ·exact absurd h0 h
   ·exact List.count_pos_iff.1 h0
  unfold Ag
  by_cases h1:x<y
  ·rw [if_pos h1]
   obtain ⟨k1,k2⟩:=Kj a (y :: b) ha2 hb
   have hgt:∀ z∈Ag a (y :: b),x<z:=fun z hz=>by
    have:=(k2 z).1 hz
    by_cases hza:z∈a
    ·exact ha1 z hza
    ·have h0:a.count z=0:=List.count_eq_zero.2 hza
     have:z∈y :: b:=pos _ _ (by omega)
     rcases List.mem_cons.1 this with rfl | h2
     ·exact h1
     ·have:=hb1 z h2;omega
   refine ⟨List.pairwise_cons.2 ⟨hgt,k1⟩,fun e=>?_⟩
   rw [List.mem_cons,k2 e,List.count_cons (a:=e) (b:=x)]
   by_cases he:x=e
   ·subst he
    have h2:a.count x=0:=List.count_eq_zero.2 fun hm=>by have:=ha1 x hm;omega
    have h3:(y :: b).count x=0:=List.count_eq_zero.2 fun hm=>by
     rcases List.mem_cons.1 hm with h4 | h4
     ·omega
     ·have:=hb1 x h4;omega
    simp [h2,h3]
   ·simp [he,show ¬ e=x by omega]
  ·rw [if_neg h1]
   by_cases h2:y<x
   ·rw [if_pos h2]
    obtain ⟨k1,k2⟩:=Kj (x :: a) b ha hb2
    have hgt:∀ z∈Ag (x :: a) b,y<z:=fun z hz=>by
     have:=(k2 z).1 hz
     by_cases hzb:z∈b
     ·exact hb1 z hzb
     ·have h0:b.count z=0:=List.count_eq_zero.2 hzb
      have:z∈x :: a:=pos _ _ (by omega)
      rcases List.mem_cons.1 this with rfl | h3
      ·exact h2
      ·have:=ha1 z h3;omega
    refine ⟨List.pairwise_cons.2 ⟨hgt,k1⟩,fun e=>?_⟩
    rw [List.mem_cons,k2 e,List.count_cons (a:=e) (b:=y)]
    by_cases he:y=e
    ·subst he
     have h3:b.count y=0:=List.count_eq_zero.2 fun hm=>by have:=hb1 y hm;omega
     have h4:(x :: a).count y=0:=List.count_eq_zero.2 fun hm=>by
      rcases List.mem_cons.1 hm with h5 | h5
      ·omega
      ·have:=ha1 y h5;omega
     simp [h3,h4]
    ·simp [he,show ¬ e=y by omega]
   ·rw [if_neg h2]
    have:x=y:=by omega
    subst this
    obtain ⟨k1,k2⟩:=Kj a b ha2 hb2
    refine ⟨k1,fun e=>?_⟩
    rw [k2 e,List.count_cons,List.count_cons]
    by_cases he:x=e<;>simp [he];omega
termination_by a b=>a.length+b.length
theorem I4 {a b:List Int}(ha:sst a)(hb:sst b):Ep (a++b)=Ag a b:=by
 obtain ⟨h1,h2⟩:=bX (a++b)
 obtain ⟨h3,h4⟩:=Kj a b ha hb
 exact Kh h1 h3 fun e=>by rw [h2,h4,List.count_append]
theorem Qo:∀ (ls:List (List Int)) (acc:List Int),sst acc→(∀ l∈ls,sst l)→sst (ls.foldl Ag acc)∧∀ e,e∈ls.foldl Ag acc ↔ (acc.count e+ls.flatten.count e)%2=1
 | [],acc,h,_=>⟨h,fun e=>by rw [List.foldl_nil,Jb e h];by_cases he:e∈acc<;>simp [he]⟩
 | l :: ls,acc,h,hl=>by
  obtain ⟨h1,h2⟩:=Kj acc l h (hl l (by simp))
  obtain ⟨k1,k2⟩:=Qo ls (Ag acc l) h1 fun x hx=>hl x (by simp [hx])
  refine ⟨k1,fun e=>?_⟩
  rw [List.foldl_cons,k2 e,Jb e h1,List.flatten_cons,List.count_append]
  by_cases he:e∈Ag acc l
  ·have:=(h2 e).1 he;simp [he];omega
  ·have:¬ (acc.count e+l.count e)%2=1:=fun h=>he ((h2 e).2 h)
   simp [he];omega
theorem uO {ls:List (List Int)}(h:∀ l∈ls,sst l):Ep ls.flatten=ls.foldl Ag []:=by
 obtain ⟨h1,h2⟩:=bX ls.flatten
 obtain ⟨h3,h4⟩:=Qo ls [] List.Pairwise.nil h
 exact Kh h1 h3 fun e=>by rw [h2,h4];simp
theorem zQ (out:List Int)(e:Int):(push out e).length≤out.length+1:=by
 unfold push;split<;>simp<;>omega
theorem dM:∀ (l out:List Int),(l.foldl push out).length≤out.length+l.length
 | [],out=>by simp
 | e :: l,out=>by
  have:=dM l (push out e)
  have:=zQ out e
  simp only [List.foldl_cons,List.length_cons];omega
theorem eR (xs:List Int):(Bf xs).length=xs.length:=(eS xs).length_eq
theorem Lq:∀ (a b:List Int),(Ag a b).length≤a.length+b.length
 | [],b=>by simp [Ag]
 | x :: a,[]=>by simp [Ag]
 | x :: a,y :: b=>by
  unfold Ag
  split
  ·have:=Lq a (y :: b);simp at *;omega
  ·split
   ·have:=Lq (x :: a) b;simp at *;omega
   ·have:=Lq a b;simp at *;omega
termination_by a b=>a.length+b.length
theorem eT {xs:List Int}(h:∀ j,j+1<xs.length→xs.getD j 0<xs.getD (j+1) 0):sst xs:=by
 unfold sst
 rw [List.pairwise_iff_getElem]
 intro i j hi hj hij
 induction j with
 | zero=>omega
 | succ j ih=>
  have h1:=h j (by omega)
  simp only [List.getD_eq_getElem?_getD,List.getElem?_eq_getElem hj,List.getElem?_eq_getElem (show j<xs.length by omega),Option.getD_some] at h1
  rcases Nat.lt_or_ge i j with h2 | h2
  ·have:=ih (by omega) h2;omega
  ·obtain rfl:i=j:=by omega
   exact h1
theorem sP {xs:List Int}(h:sst xs):∀ j,j+1<xs.length→xs.getD j 0<xs.getD (j+1) 0:=fun j hj=>by
 have:=List.pairwise_iff_getElem.1 h j (j+1) (by omega) hj (by omega)
 simpa [hj,show j<xs.length by omega] using this
end
end Go.Proofs.YtcneanpkpmfaiaaGreat
namespace Go.Proofs
open Go.Shelf
def Tryz.sortL_ren:Go.Shelf.Ren:=⟨fun | 5=>48 | 8=>66 | 7=>65 | 19=>103 | 20=>104 | 10=>95 | 11=>96 | 12=>97 | 13=>98 | 14=>99 | 15=>100 | 16=>70 | 17=>101 | 18=>102 | 30=>123 | 31=>124 | 32=>125 | 33=>126 | 34=>127 | 35=>106 | 40=>143 | n=>n,fun | 23=>24 | 25=>2 | 3=>3 | 32=>95 | 22=>24 | 0=>0 | 44=>130 | 46=>60 | 4=>4 | 36=>124 | 35=>123 | 41=>83 | 5=>5 | 9=>9 | 53=>140 | 57=>144 | 63=>156 | 64=>157 | n=>n,fun | n=>n⟩
theorem Tryz.sortL:Go.Proofs.SlLaysM.n5 Tryz.prog Tryz.sortL_ren:={
 mixed:=by kernel_rfl
 f5:=⟨Tryz.f48.name,by decide,Tryz.func48.trans (congrArg some (by kernel_rfl))⟩
 f7:=⟨Tryz.f65.name,by decide,Tryz.func65.trans (congrArg some (by kernel_rfl))⟩
 f8:=Tryz.func66.trans (congrArg some (by kernel_rfl))
 f10:=⟨Tryz.f95.name,by decide,Tryz.func95.trans (congrArg some (by kernel_rfl))⟩
 f11:=⟨Tryz.f96.name,by decide,Tryz.func96.trans (congrArg some (by kernel_rfl))⟩
 f12:=⟨Tryz.f97.name,by decide,Tryz.func97.trans (congrArg some (by kernel_rfl))⟩
 f13:=⟨Tryz.f98.name,by decide,Tryz.func98.trans (congrArg some (by kernel_rfl))⟩
 f14:=⟨Tryz.f99.name,by decide,Tryz.func99.trans (congrArg some (by kernel_rfl))⟩
 f15:=⟨Tryz.f100.name,by decide,Tryz.func100.trans (congrArg some (by kernel_rfl))⟩
 f16:=⟨Tryz.f70.name,by decide,Tryz.func70.trans (congrArg some (by kernel_rfl))⟩
 f17:=⟨Tryz.f101.name,by decide,Tryz.func101.trans (congrArg some (by kernel_rfl))⟩
 f18:=⟨Tryz.f102.name,by decide,Tryz.func102.trans (congrArg some (by kernel_rfl))⟩
 f19:=Tryz.func103.trans (congrArg some (by kernel_rfl))
 f20:=Tryz.func104.trans (congrArg some (by kernel_rfl))
 f30:=⟨Tryz.f123.name,by decide,Tryz.func123.trans (congrArg some (by kernel_rfl))⟩
 f31:=Tryz.func124.trans (congrArg some (by kernel_rfl))
 f32:=Tryz.func125.trans (congrArg some (by kernel_rfl))
 f33:=⟨Tryz.f126.name,by decide,Tryz.func126.trans (congrArg some (by kernel_rfl))⟩
 f34:=⟨Tryz.f127.name,by decide,Tryz.func127.trans (congrArg some (by kernel_rfl))⟩
 f35:=⟨Tryz.f106.name,by decide,Tryz.func106.trans (congrArg some (by kernel_rfl))⟩
 f40:=⟨Tryz.f143.name,by decide,Tryz.func143.trans (congrArg some (by kernel_rfl))⟩
 t0:=Tryz.underlying0
 a0:=Tryz.isAgg0
 z0:=Tryz.sizeOf0
 v0:=Tryz.zeroValue0
 t3:=Tryz.underlying3
 a3:=Tryz.isAgg3
 z3:=Tryz.sizeOf3
 v3:=Tryz.zeroValue3
 t4:=Tryz.underlying4
 a4:=Tryz.isAgg4
 z4:=Tryz.sizeOf4
 v4:=Tryz.zeroValue4
 t5:=Tryz.underlying5
 a5:=Tryz.isAgg5
 z5:=Tryz.sizeOf5
 v5:=Tryz.zeroValue5
 t9:=Tryz.underlying9
 a9:=Tryz.isAgg9
 z9:=Tryz.sizeOf9
 v9:=Tryz.zeroValue9
 t22:=Tryz.underlying24
 a22:=Tryz.isAgg24
 z22:=Tryz.sizeOf24
 v22:=Tryz.zeroValue24
 t23:=Tryz.underlying24
 a23:=Tryz.isAgg24
 z23:=Tryz.sizeOf24
 v23:=Tryz.zeroValue24
 t25:=Tryz.underlying2
 a25:=Tryz.isAgg2
 z25:=Tryz.sizeOf2
 v25:=Tryz.zeroValue2
 t32:=Tryz.underlying95
 a32:=Tryz.isAgg95
 z32:=Tryz.sizeOf95
 v32:=Tryz.zeroValue95
 t35:=Tryz.underlying123
 a35:=Tryz.isAgg123
 z35:=Tryz.sizeOf123
 v35:=Tryz.zeroValue123
 t36:=Tryz.underlying124
 a36:=Tryz.isAgg124
 z36:=Tryz.sizeOf124
 v36:=Tryz.zeroValue124
 t41:=Tryz.underlying83
 a41:=Tryz.isAgg83
 z41:=Tryz.sizeOf83
 v41:=Tryz.zeroValue83
 t44:=Tryz.underlying130
 a44:=Tryz.isAgg130
 z44:=Tryz.sizeOf130
 v44:=Tryz.zeroValue130
 t46:=Tryz.underlying60
 a46:=Tryz.isAgg60
 z46:=Tryz.sizeOf60
 v46:=Tryz.zeroValue60
 t53:=Tryz.underlying140
 a53:=Tryz.isAgg140
 z53:=Tryz.sizeOf140
 v53:=Tryz.zeroValue140
 t57:=Tryz.underlying144
 a57:=Tryz.isAgg144
 z57:=Tryz.sizeOf144
 v57:=Tryz.zeroValue144
 t63:=Tryz.underlying156
 a63:=Tryz.isAgg156
 z63:=Tryz.sizeOf156
 v63:=Tryz.zeroValue156
 t64:=Tryz.underlying157
 a64:=Tryz.isAgg157
 z64:=Tryz.sizeOf157
 v64:=Tryz.zeroValue157 }
def Tryz.growL_ren:Go.Shelf.Ren:=⟨fun | 4=>49 | n=>n,fun | 22=>24 | 25=>2 | 3=>3 | 4=>4 | 9=>9 | 20=>20 | 0=>0 | n=>n,fun | n=>n⟩
theorem Tryz.growL:Go.Proofs.Lays8.n4 Tryz.prog Tryz.growL_ren:={
 mixed:=by kernel_rfl
 f4:=⟨Tryz.f49.name,by decide,Tryz.func49.trans (congrArg some (by kernel_rfl))⟩
 t0:=Tryz.underlying0
 a0:=Tryz.isAgg0
 z0:=Tryz.sizeOf0
 v0:=Tryz.zeroValue0
 t3:=Tryz.underlying3
 a3:=Tryz.isAgg3
 z3:=Tryz.sizeOf3
 v3:=Tryz.zeroValue3
 t4:=Tryz.underlying4
 a4:=Tryz.isAgg4
 z4:=Tryz.sizeOf4
 v4:=Tryz.zeroValue4
 t9:=Tryz.underlying9
 a9:=Tryz.isAgg9
 z9:=Tryz.sizeOf9
 v9:=Tryz.zeroValue9
 t20:=Tryz.underlying20
 a20:=Tryz.isAgg20
 z20:=Tryz.sizeOf20
 v20:=Tryz.zeroValue20
 t22:=Tryz.underlying24
 a22:=Tryz.isAgg24
 z22:=Tryz.sizeOf24
 v22:=Tryz.zeroValue24 }
end Go.Proofs
