/- Texts that belong together. -/
import Derived.Shelf.SlGeneric
import Derived.Shelf.SortM.Plain
import Derived.Shelf.SortM.SortNone
import Derived.Ground.SlgmProg
import Derived.Shelf.SlicesE.Delete
import Derived.Ground.SlgnProg
import Derived.Shelf.Bits.Mul64
import Derived.Ground.NamesProg
import Derived.Shelf.Strconv.Itoa4
import Derived.Test.YtaekhhaaphgndaaGreatDoorZe
import Derived.Test.YtaekhhaaphgndaaGreatDoorZf
set_option linter.unusedSimpArgs false
set_option linter.unusedVariables false
set_option maxRecDepth 100000
namespace Go.Proofs.YtaekhhaaphgndaaGreatDoor
section
open Go.Gov
theorem l01In_c (n lo hi:Int):Pure Tryz.prog 56 [i64 n,i64 lo,i64 hi] (bl (decide (lo≤n)&&decide (n≤hi))) []:=by
 refine pureV ok56 rfl ?_;unfold c56
 (refine RN ?_;try with_reducible exact trivial)
theorem within_c (n lo hi:Int):Pure Tryz.prog 43 [i64 n,i64 lo,i64 hi] (bl (decide (lo≤n)&&decide (n≤hi))) []:=by
 refine pureV ok43 rfl ?_;unfold c43
 (refine RN ?_;try with_reducible exact trivial)
theorem size_c (xs:List Int)(hl:xs.length≤1099511627776):Pure Tryz.prog 45 [ints xs] (i64 xs.length) []:=by
 refine pureV ok45 rfl ?_;unfold c45
 (refine RN ?_;try with_reducible exact trivial)
def idx (xs:List Int)(n:Int):Int:=if n∈xs then xs.idxOf n else -1
theorem idx_at {xs:List Int}{n:Int}{i:Nat}(h:∀ j,j<i→xs.getD j 0≠n)(hi:i<xs.length)(he:xs.getD i 0=n):idx xs n=i:=by
 have hm:n∈xs:=by rw [← he];simp [hi]
 unfold idx
 rw [if_pos hm]
 congr 1
 induction xs generalizing i with
 | nil=>cases hi
 | cons x xs ih=>
  cases i with
  | zero=>
   have hx:x=n:=by simpa using he
   simp [hx]
  | succ i=>
   have hx:x≠n:=by have:=h 0 (by omega);simpa using this
   have hm' : n∈xs:=by rcases List.mem_cons.1 hm with h' | h'; exact absurd h'.symm hx;exact h'
   have hb:(x == n)=false:=by simpa using hx
   rw [List.idxOf_cons,hb,cond_false]
   rw [ih (i:=i) (fun j hj=>by have:=h (j+1) (by omega);simpa using this) (by simpa using hi) (by simpa using he) hm']
theorem idx_no {xs:List Int}{n:Int}(h:∀ j,j<xs.length→xs.getD j 0≠n):idx xs n = -1:=by
 unfold idx
 rw [if_neg]
 intro hm
 obtain ⟨j,hj,he⟩:=List.mem_iff_getElem.1 hm
 exact h j hj (by simp [hj,he])
theorem idx_ge (xs:List Int)(n:Int):decide (0≤idx xs n)=decide (n∈xs):=by
 unfold idx
 by_cases h:n∈xs<;>simp [h]
theorem l01Index_c (xs:List Int)(n:Int)(hl:xs.length≤1099511627776):Pure Tryz.prog 94 [ints xs,i64 n] (i64 (idx xs n)) []:=by
 refine pureV ok94 rfl ?_;unfold c94
 refine RN ?_
 refine V_loop (α:=Nat) (S:=fun i=>([(0,ints xs),(1,i64 n),(5,i64 i)],[])) (C:=fun i=>i≤xs.length∧∀ j,j<i→xs.getD j 0≠n) (μ:=fun i=>xs.length - i) 0 ⟨by omega,by omega⟩ (by exact Ref.frame (by simp [sub,fget])) ?_
 rintro i ⟨hi,hall⟩
 refine RN ?_
 refine ⟨fun hc=>?_,fun hc=>?_⟩
 ·(refine RN ?_;try with_reducible exact trivial)
  refine ⟨fun hc=>?_,fun hc=>?_⟩
  ·(refine RN ?_;try with_reducible exact trivial)
   rw [idx_at hall (by omega) (by assumption)]
  ·(refine RN ?_;try with_reducible exact trivial)
   refine ⟨i+1,⟨by omega,fun j hj=>?_⟩,by omega,by exact Ref.frame (by simp [sub,fget])⟩
   rcases Nat.lt_or_ge j i with h | h
   ·exact hall j h
   ·obtain rfl:j=i:=by omega
    simpa using hc
 ·(refine RN ?_;try with_reducible exact trivial)
  rw [idx_no (fun j hj=>hall j (by omega))]
theorem l01Has_c (xs:List Int)(n:Int)(hl:xs.length≤1099511627776):Pure Tryz.prog 78 [ints xs,i64 n] (bl (decide (n∈xs))) []:=by
 refine pureV ok78 rfl ?_;unfold c78
 refine RN ?_
 refine pureC1 (l01Index_c xs n hl) ?_
 (refine RN ?_;try with_reducible exact trivial)
 try rw [idx_ge]
theorem isNaN1_c (n:Int):Pure Tryz.prog 112 [i64 n] (bl false) []:=by
 refine pureV ok112 rfl ?_;unfold c112
 (refine RN ?_;try with_reducible exact trivial)
 try rw [show (n != n)=false by simp]
theorem isNaN2_c (n:Int):Pure Tryz.prog 125 [i64 n] (bl false) []:=by
 refine pureV ok125 rfl ?_;unfold c125
 (refine RN ?_;try with_reducible exact trivial)
 try rw [show (n != n)=false by simp]
theorem Less_c (x y:Int):Pure Tryz.prog 105 [i64 x,i64 y] (bl (decide (x<y))) []:=by
 refine pureV ok105 rfl ?_;unfold c105
 refine RN ?_
 refine pureC1 (isNaN2_c x) ?_
 refine GCall_no (bl false) rfl ?_
 (refine RN ?_;try with_reducible exact trivial)
theorem eqInt64S_c (xs ys:List Int)(hx:xs.length≤1099511627776)(hy:ys.length≤1099511627776):Pure Tryz.prog 13 [ints xs,ints ys] (bl (decide (xs=ys))) []:=by
 refine pureV ok13 rfl ?_;unfold c13
 refine RN ?_
 refine ⟨fun hc=>?_,fun hc=>?_⟩
 ·(refine RN ?_;try with_reducible exact trivial)
  rw [decide_eq_false (fun h=>hc (by rw [h]))]
 ·have hl:xs.length=ys.length:=by omega
  refine RN ?_
  refine V_loop (α:=Nat) (S:=fun i=>([(0,ints xs),(1,ints ys),(5,i64 i)],[])) (C:=fun i=>i≤xs.length∧∀ j,j<i→xs.getD j 0=ys.getD j 0) (μ:=fun i=>xs.length - i) 0 ⟨by omega,by omega⟩ (by exact Ref.frame (by simp [sub,fget])) ?_
  rintro i ⟨hi,hall⟩
  refine RN ?_
  refine ⟨fun hc1=>?_,fun hc1=>?_⟩
  ·(refine RN ?_;try with_reducible exact trivial)
   refine ⟨fun hc2=>?_,fun hc2=>?_⟩
   ·(refine RN ?_;try with_reducible exact trivial)
    rw [decide_eq_false (fun h=>hc2 (by rw [h]))]
   ·(refine RN ?_;try with_reducible exact trivial)
    refine ⟨i+1,⟨by omega,fun j hj=>?_⟩,by omega,by exact Ref.frame (by simp [sub,fget])⟩
    rcases Nat.lt_or_ge j i with h | h
    ·exact hall j h
    ·obtain rfl:j=i:=by omega
     simpa using hc2
  ·(refine RN ?_;try with_reducible exact trivial)
   rw [decide_eq_true]
   refine List.ext_getElem hl fun j h1 h2=>?_
   have:=hall j (by omega)
   simpa [h1,h2] using this
end
section
open Go.Gov
def left (b:Int)(n:Nat):Int:=if (n:Int)≤b then b - n else -1
def tot (xss:List (List Int)):Nat:=(xss.map List.length).sum
theorem szInt64S_c (xs:List Int)(b:Int)(h0:0≤b)(hb:b≤1048576)(hl:xs.length≤9223372036854775807):Pure Tryz.prog 38 [ints xs,i64 b] (i64 (left b xs.length)) []:=by
 refine pureV ok38 rfl ?_;unfold c38
 refine RN ?_
 refine ⟨fun hc=>?_,fun hc=>?_⟩
 ·(refine RN ?_;try with_reducible exact trivial)
  rw [show left b xs.length = -1 from if_neg (by omega)]
 ·(refine RN ?_;try with_reducible exact trivial)
  rw [show left b xs.length=b - xs.length from if_pos (by omega)]
theorem tot_app (a b:List (List Int)):tot (a++b)=tot a+tot b:=by simp [tot]
theorem tot_take (xss:List (List Int))(i:Nat)(h:i<xss.length):tot (xss.take (i+1))=tot (xss.take i)+(xss.getD i []).length:=by
 rw [List.take_succ_eq_append_getElem h,tot_app]
 simp [tot,h]
theorem tot_take_le (xss:List (List Int))(i:Nat):tot (xss.take i)≤tot xss:=by
 have:=congrArg tot (List.take_append_drop i xss)
 rw [tot_app] at this
 omega
theorem szInt64SS_c (xss:List (List Int))(b:Int)(h0:0≤b)(hb:b≤1048576)(hl:xss.length≤9223372036854775807)(hr:∀ xs∈xss,xs.length≤9223372036854775807):Pure Tryz.prog 19 [mat xss,i64 b] (i64 (left b (xss.length+tot xss))) []:=by
 refine pureV ok19 rfl ?_;unfold c19
 refine RN ?_
 refine ⟨fun hc=>?_,fun hc=>?_⟩
 ·(refine RN ?_;try with_reducible exact trivial)
  rw [show left b (xss.length+tot xss) = -1 from if_neg (by omega)]
 ·(refine RN ?_;try with_reducible exact trivial)
  refine V_loop (α:=Nat) (S:=fun i=>([(0,mat xss),(1,i64 (b - xss.length - tot (xss.take i))),(5,i64 i)],[])) (C:=fun i=>i≤xss.length∧(tot (xss.take i):Int)≤b - xss.length) (μ:=fun i=>xss.length - i) 0 ⟨by omega,by simp [tot];omega⟩ (by simp only [List.take_zero,tot,List.map_nil,List.sum_nil];exact Ref.frame (by simp [sub,fget])) ?_
  rintro i ⟨hi,hle⟩
  refine RN ?_
  refine ⟨fun hc1=>?_,fun hc1=>?_⟩
  ·have hlt:i<xss.length:=by omega
   have hrow:(xss.getD i []).length≤9223372036854775807:=by
    rw [show xss.getD i []=xss[i] by simp [hlt]];exact hr _ (List.getElem_mem _)
   refine RN ?_
   refine pureC1 (szInt64S_c (xss.getD i []) (b - xss.length - tot (xss.take i)) (by omega) (by omega) hrow) ?_
   refine RN ?_
   have ht:=tot_take xss i hlt
   have hle2:=tot_take_le xss (i+1)
   have hlf:left (b - xss.length - tot (xss.take i)) (xss.getD i []).length=if (tot (xss.take (i+1)):Int)≤b - xss.length then b - xss.length - tot (xss.take (i+1)) else -1:=by
    unfold left
    rw [ht]
    by_cases h:((xss.getD i []).length:Int)≤b - xss.length - tot (xss.take i)
    ·rw [if_pos h,if_pos (by omega)];omega
    ·rw [if_neg h,if_neg (by omega)]
   refine ⟨fun hc2=>?_,fun hc2=>?_⟩
   ·(refine RN ?_;try with_reducible exact trivial)
    have:¬ (tot (xss.take (i+1)):Int)≤b - xss.length:=fun h=>by rw [hlf,if_pos h] at hc2;omega
    rw [show left b (xss.length+tot xss) = -1 from if_neg (by omega)]
   ·have h : (tot (xss.take (i + 1)) : Int) ≤ b - xss.length := by
      rcases Int.lt_or_le (b - xss.length) (tot (xss.take (i+1))) with h | h
      ·rw [hlf,if_neg (by omega)] at hc2;omega
      ·exact h
    refine RN ?_
    rw [hlf,if_pos h]
    exact ⟨i+1,⟨by omega,h⟩,by omega,by exact Ref.frame (by simp [sub,fget])⟩
  ·(refine RN ?_;try with_reducible exact trivial)
   have:i=xss.length:=by omega
   subst this
   rw [List.take_length] at hle ⊢
   rw [show left b (xss.length+tot xss)=b - (xss.length+tot xss:Nat) from if_pos (by omega)]
   show i64 _=i64 _
   rw [show b - (xss.length:Int) - (tot xss:Int)=b - ((xss.length+tot xss:Nat):Int) by omega]
abbrev posetA (r:Int)(ranks:List Int)(below:List (List Int)):AV:=.agg [i64 r,ints ranks,mat below]
theorem left_pos {b:Int}{n:Nat}(h0:0≤b)(h:¬ left b n<0):(n:Int)≤b∧left b n=b - n:=by
 unfold left at *
 by_cases e:(n:Int)≤b
 ·exact ⟨e,if_pos e⟩
 ·rw [if_neg e] at h;omega
theorem left_neg {b:Int}{n:Nat}(h0:0≤b)(h:left b n<0):b<(n:Int):=by
 unfold left at *
 by_cases e:(n:Int)≤b
 ·rw [if_pos e] at h;omega
 ·omega
theorem cpy_map {α β:Type}(f:α→β)(xs:List α)(d0:α)(d:β)(i:Nat)(h:i<xs.length):((xs.take i).map f++List.replicate (xs.length - i) d).set i (f (xs.getD i d0))=(xs.take (i+1)).map f++List.replicate (xs.length - (i+1)) d:=by
 have e:xs.length - i=(xs.length - (i+1))+1:=by omega
 rw [e,List.replicate_succ,List.set_append_right _ _ (by simp;omega),List.length_map,List.length_take,show i - min i xs.length=0 by omega,List.set_cons_zero,List.take_succ_eq_append_getElem h,List.map_append,List.append_assoc,show xs.getD i d0=xs[i] by simp [h]]
 rfl
theorem cpy_step {α:Type}(xs:List α)(d:α)(i:Nat)(h:i<xs.length):(xs.take i++List.replicate (xs.length - i) d).set i (xs.getD i d)=xs.take (i+1)++List.replicate (xs.length - (i+1)) d:=by
 simpa using cpy_map id xs d d i h
theorem toInt64S_c (xs:List Int)(hl:xs.length≤1099511627776):Pure Tryz.prog 42 [ints xs] (.sl 0 1 0 xs.length) [some (intsC xs)]:=by
 refine pureV ok42 rfl ?_;unfold c42
 refine RN ?_
 refine V_loop (α:=Nat) (S:=fun i=>([(0,ints xs),(3,.sl 0 1 0 xs.length),(4,i64 i)],[some (intsC (xs.take i++List.replicate (xs.length - i) 0))])) (C:=fun i=>i≤xs.length) (μ:=fun i=>xs.length - i) 0 (by omega) (by simp only [List.take_zero,List.nil_append,Nat.sub_zero];exact Ref.frame (by simp [sub,fget])) ?_
 intro i hi
 refine RN ?_
 refine ⟨fun hc=>?_,fun hc=>?_⟩
 ·(refine RN ?_;try with_reducible exact trivial)
  rw [cpy_step xs 0 i (by omega)]
  exact ⟨i+1,by omega,by omega,by exact Ref.frame (by simp [sub,fget])⟩
 ·(refine RN ?_;try with_reducible exact trivial)
  rw [show i=xs.length by omega,List.take_length,Nat.sub_self,List.replicate_zero,List.append_nil]
theorem toInt64SS_c (xss:List (List Int))(hl:xss.length≤1099511627776)(hr:∀ xs∈xss,xs.length≤1099511627776):Pure Tryz.prog 21 [mat xss] (.sl 0 1 0 xss.length) [some (xss.map oints)]:=by
 refine pureV ok21 rfl ?_;unfold c21
 refine RN ?_
 refine V_loop (α:=Nat) (S:=fun i=>([(0,mat xss),(3,.sl 0 1 0 xss.length),(4,i64 i)],[some ((xss.take i).map oints++List.replicate (xss.length - i) (.val (.slice none 0 0)))])) (C:=fun i=>i≤xss.length) (μ:=fun i=>xss.length - i) 0 (by omega) (by simp only [List.take_zero,List.map_nil,List.nil_append,Nat.sub_zero];exact Ref.frame (by simp [sub,fget])) ?_
 intro i hi
 refine RN ?_
 refine ⟨fun hc=>?_,fun hc=>?_⟩
 ·(refine RN ?_;try with_reducible exact trivial)
  have hrow:(xss.getD i []).length≤1099511627776:=by
   rw [show xss.getD i []=xss[i]'(by omega) by simp [show i<xss.length by omega]];exact hr _ (List.getElem_mem _)
  refine pureC1 (toInt64S_c (xss.getD i []) hrow) ?_
  refine RN ?_
  refine ⟨i+1,by omega,by omega,(Ref.close 0 i 1 (cs2:=intsC (xss.getD i [])) rfl (List.getElem?_set_self (by simp;omega)) rfl (by decide) (by simp [intsC])).trans (Ref.gc [0] rfl ?_ (by simp [sub,fget,go_sem,↓reduceIte,Nat.reduceEqDiff,Nat.reduceAdd,reduceCtorEq]))⟩
  (try simp only [go_sem,↓reduceIte,Nat.reduceEqDiff,Nat.reduceAdd,reduceCtorEq,List.set_set])
  rw [cpy_map oints xss [] _ i (by omega)]
 ·(refine RN ?_;try with_reducible exact trivial)
  rw [show i=xss.length by omega,List.take_length,Nat.sub_self,List.replicate_zero,List.append_nil]
theorem eqInt64SS_c (xss yss:List (List Int))(hx:xss.length≤1099511627776)(hy:yss.length≤1099511627776)(hxr:∀ xs∈xss,xs.length≤1099511627776)(hyr:∀ xs∈yss,xs.length≤1099511627776):Pure Tryz.prog 24 [mat xss,mat yss] (bl (decide (xss=yss))) []:=by
 refine pureV ok24 rfl ?_;unfold c24
 refine RN ?_
 refine ⟨fun hc=>?_,fun hc=>?_⟩
 ·(refine RN ?_;try with_reducible exact trivial)
  rw [decide_eq_false (fun h=>by simp [h] at hc)]
 ·have hl:xss.length=yss.length:=by omega
  refine RN ?_
  refine V_loop (α:=Nat) (S:=fun i=>([(0,mat xss),(1,mat yss),(5,i64 i)],[])) (C:=fun i=>i≤xss.length∧∀ j,j<i→xss.getD j []=yss.getD j []) (μ:=fun i=>xss.length - i) 0 ⟨by omega,by omega⟩ (by exact Ref.frame (by simp [sub,fget])) ?_
  rintro i ⟨hi,hall⟩
  refine RN ?_
  refine ⟨fun hc1=>?_,fun hc1=>?_⟩
  ·have h1 : (xss.getD i []).length ≤ 1099511627776 := by
     rw [show xss.getD i []=xss[i]'(by omega) by simp [show i<xss.length by omega]];exact hxr _ (List.getElem_mem _)
   have h2:(yss.getD i []).length≤1099511627776:=by
    rw [show yss.getD i []=yss[i]'(by omega) by simp [show i<yss.length by omega]];exact hyr _ (List.getElem_mem _)
   refine RN ?_
   refine pureC1 (eqInt64S_c (xss.getD i []) (yss.getD i []) h1 h2) ?_
   refine RN ?_
   refine ⟨fun hc2=>?_,fun hc2=>?_⟩
   ·(refine RN ?_;try with_reducible exact trivial)
    rw [decide_eq_false (fun h=>by simp [h] at hc2)]
   ·(refine RN ?_;try with_reducible exact trivial)
    refine ⟨i+1,⟨by omega,fun j hj=>?_⟩,by omega,by exact Ref.frame (by simp [sub,fget])⟩
    rcases Nat.lt_or_ge j i with h | h
    ·exact hall j h
    ·obtain rfl:j=i:=by omega
     simpa using hc2
  ·(refine RN ?_;try with_reducible exact trivial)
   rw [decide_eq_true]
   refine List.ext_getElem hl fun j h1 h2=>?_
   have:=hall j (by omega)
   simpa [h1,h2] using this
end
section
open Go.Gov
def up (k:Int)(n:Nat):List Int:=(List.range n).map fun (i:Nat)=>k+(i:Int)
theorem getD_set_self' {α:Type}(l:List α)(i:Nat)(x d:α)(h:i<l.length):(l.set i x).getD i d=x:=by simp [h]
theorem le_tot {xs:List Int}{B:List (List Int)}(h:xs∈B):xs.length≤tot B:=by
 unfold tot
 obtain ⟨a,b,rfl⟩:=List.append_of_mem h
 simp;omega
theorem mat_b {B:List (List Int)}{n:Nat}(h:B.length+tot B≤n):B.length≤n∧tot B≤n∧∀ xs∈B,xs.length≤n:=by
 refine ⟨by omega,by omega,fun xs hx=>?_⟩
 have:=le_tot hx
 omega
end
section
open Classical
def sst (xs:List Int):Prop:=xs.Pairwise (· < ·)
theorem sst_ext:∀ {a b:List Int},sst a→sst b→(∀ e,e∈a ↔ e∈b)→a=b
 | [],[],_,_,_=>rfl
 | [],y :: b,_,_,h=>by have:=(h y).2 (by simp);simp at this
 | x :: a,[],_,_,h=>by have:=(h x).1 (by simp);simp at this
 | x :: a,y :: b,ha,hb,h=>by
  obtain ⟨ha1,ha2⟩:=List.pairwise_cons.1 ha
  obtain ⟨hb1,hb2⟩:=List.pairwise_cons.1 hb
  have hxy:x=y:=by
   have h1:=(h x).1 (by simp)
   have h2:=(h y).2 (by simp)
   rcases List.mem_cons.1 h1 with h1 | h1
   ·exact h1
   ·rcases List.mem_cons.1 h2 with h2 | h2
    ·exact h2.symm
    ·have:=hb1 x h1;have:=ha1 y h2;omega
  subst hxy
  rw [sst_ext ha2 hb2 fun e=>?_]
  constructor
  ·intro he
   have:=(h e).1 (List.mem_cons_of_mem _ he)
   rcases List.mem_cons.1 this with h1 | h1
   ·subst h1;have:=ha1 e he;omega
   ·exact h1
  ·intro he
   have:=(h e).2 (List.mem_cons_of_mem _ he)
   rcases List.mem_cons.1 this with h1 | h1
   ·subst h1;have:=hb1 e he;omega
   ·exact h1
theorem sst_count:∀ {a:List Int} (e:Int),sst a→a.count e=if e∈a then 1 else 0
 | [],e,_=>by simp
 | x :: a,e,h=>by
  obtain ⟨h1,h2⟩:=List.pairwise_cons.1 h
  rw [List.count_cons,sst_count e h2]
  by_cases hx:x=e
  ·subst hx
   have:x∉a:=fun hm=>by have:=h1 x hm;omega
   simp [this]
  ·simp [hx,show ¬ e=x by omega]
def srtL (xs:List Int):List Int:=xs.mergeSort fun x y=>decide (x≤y)
theorem srtL_perm (xs:List Int):(srtL xs).Perm xs:=List.mergeSort_perm xs _
theorem srtL_le (xs:List Int):(srtL xs).Pairwise (· ≤ ·):=by
 have:=List.pairwise_mergeSort (le:=fun x y:Int=>decide (x≤y)) (fun a b c h1 h2=>by simp at *;omega) (fun a b=>by simp;omega) xs
 exact this.imp fun h=>by simpa using h
def sumL:List Int→List Int→List Int
 | [],b=>b
 | x :: a,[]=>x :: a
 | x :: a,y :: b=>if x<y then x :: sumL a (y :: b) else if y<x then y :: sumL (x :: a) b else sumL a b
theorem sumL_nil (a:List Int):sumL a []=a:=by cases a<;>simp [sumL]
theorem sumL_ok:∀ (a b:List Int),sst a→sst b→sst (sumL a b)∧∀ e,e∈sumL a b ↔ (a.count e+b.count e)%2=1
 | [],b,_,hb=>⟨by simpa [sumL] using hb,fun e=>by rw [sumL,sst_count e hb];by_cases h:e∈b<;>simp [h]⟩
 | x :: a,[],ha,_=>⟨by simpa [sumL] using ha,fun e=>by rw [sumL,sst_count e ha];by_cases h:e∈x :: a<;>simp [h]⟩
 | x :: a,y :: b,ha,hb=>by
  obtain ⟨ha1,ha2⟩:=List.pairwise_cons.1 ha
  obtain ⟨hb1,hb2⟩:=List.pairwise_cons.1 hb
  have pos:∀ (l:List Int) (e:Int),l.count e≠0→e∈l:=fun l e h=>by
   rcases Nat.eq_zero_or_pos (l.count e) with h0 | h0
   ·exact absurd h0 h
   ·exact List.count_pos_iff.1 h0
  unfold sumL
  by_cases h1:x<y
  ·rw [if_pos h1]
   obtain ⟨k1,k2⟩:=sumL_ok a (y :: b) ha2 hb
   have hgt:∀ z∈sumL a (y :: b),x<z:=fun z hz=>by
    have:=(k2 z).1 hz
    by_cases hza:z∈a
    ·exact ha1 z hza
    ·have h0:a.count z=0:=List.count_eq_zero.2 hza
     have:z∈y :: b:=pos _ _ (by omega)
     rcases List.mem_cons.1 this with rfl | h2
     ·exact h1
     ·have:=hb1 z h2;omega
   refine ⟨List.pairwise_cons.2 ⟨hgt,k1⟩,fun e=>?_⟩
   rw [List.mem_cons,k2 e,List.count_cons (a:=e) (b:=x)]
   by_cases he:x=e
   ·subst he
    have h2:a.count x=0:=List.count_eq_zero.2 fun hm=>by have:=ha1 x hm;omega
    have h3:(y :: b).count x=0:=List.count_eq_zero.2 fun hm=>by
     rcases List.mem_cons.1 hm with h4 | h4
     ·omega
     ·have:=hb1 x h4;omega
    simp [h2,h3]
   ·simp [he,show ¬ e=x by omega]
  ·rw [if_neg h1]
   by_cases h2:y<x
   ·rw [if_pos h2]
    obtain ⟨k1,k2⟩:=sumL_ok (x :: a) b ha hb2
    have hgt:∀ z∈sumL (x :: a) b,y<z:=fun z hz=>by
     have:=(k2 z).1 hz
     by_cases hzb:z∈b
     ·exact hb1 z hzb
     ·have h0:b.count z=0:=List.count_eq_zero.2 hzb
      have:z∈x :: a:=pos _ _ (by omega)
      rcases List.mem_cons.1 this with rfl | h3
      ·exact h2
      ·have:=ha1 z h3;omega
    refine ⟨List.pairwise_cons.2 ⟨hgt,k1⟩,fun e=>?_⟩
    rw [List.mem_cons,k2 e,List.count_cons (a:=e) (b:=y)]
    by_cases he:y=e
    ·subst he
     have h3:b.count y=0:=List.count_eq_zero.2 fun hm=>by have:=hb1 y hm;omega
     have h4:(x :: a).count y=0:=List.count_eq_zero.2 fun hm=>by
      rcases List.mem_cons.1 hm with h5 | h5
      ·omega
      ·have:=ha1 y h5;omega
     simp [h3,h4]
    ·simp [he,show ¬ e=y by omega]
   ·rw [if_neg h2]
    have:x=y:=by omega
    subst this
    obtain ⟨k1,k2⟩:=sumL_ok a b ha2 hb2
    refine ⟨k1,fun e=>?_⟩
    rw [k2 e,List.count_cons,List.count_cons]
    by_cases he:x=e<;>simp [he];omega
termination_by a b=>a.length+b.length
theorem sums_ok:∀ (ls:List (List Int)) (acc:List Int),sst acc→(∀ l∈ls,sst l)→sst (ls.foldl sumL acc)∧∀ e,e∈ls.foldl sumL acc ↔ (acc.count e+ls.flatten.count e)%2=1
 | [],acc,h,_=>⟨h,fun e=>by rw [List.foldl_nil,sst_count e h];by_cases he:e∈acc<;>simp [he]⟩
 | l :: ls,acc,h,hl=>by
  obtain ⟨h1,h2⟩:=sumL_ok acc l h (hl l (by simp))
  obtain ⟨k1,k2⟩:=sums_ok ls (sumL acc l) h1 fun x hx=>hl x (by simp [hx])
  refine ⟨k1,fun e=>?_⟩
  rw [List.foldl_cons,k2 e,sst_count e h1,List.flatten_cons,List.count_append]
  by_cases he:e∈sumL acc l
  ·have:=(h2 e).1 he;simp [he];omega
  ·have:¬ (acc.count e+l.count e)%2=1:=fun h=>he ((h2 e).2 h)
   simp [he];omega
theorem srtL_len (xs:List Int):(srtL xs).length=xs.length:=(srtL_perm xs).length_eq
theorem sst_of_lt {xs:List Int}(h:∀ j,j+1<xs.length→xs.getD j 0<xs.getD (j+1) 0):sst xs:=by
 unfold sst
 rw [List.pairwise_iff_getElem]
 intro i j hi hj hij
 induction j with
 | zero=>omega
 | succ j ih=>
  have h1:=h j (by omega)
  simp only [List.getD_eq_getElem?_getD,List.getElem?_eq_getElem hj,List.getElem?_eq_getElem (show j<xs.length by omega),Option.getD_some] at h1
  rcases Nat.lt_or_ge i j with h2 | h2
  ·have:=ih (by omega) h2;omega
  ·obtain rfl:i=j:=by omega
   exact h1
theorem lt_of_sst {xs:List Int}(h:sst xs):∀ j,j+1<xs.length→xs.getD j 0<xs.getD (j+1) 0:=fun j hj=>by
 have:=List.pairwise_iff_getElem.1 h j (j+1) (by omega) hj (by omega)
 simpa [hj,show j<xs.length by omega] using this
end
end Go.Proofs.YtaekhhaaphgndaaGreatDoor
namespace Go.Proofs
open Go.Shelf
def Tryz.sortL_ren:Go.Shelf.Ren:=⟨fun | 5=>67 | 8=>85 | 7=>84 | 19=>108 | 20=>109 | 10=>99 | 11=>100 | 12=>101 | 13=>102 | 14=>103 | 15=>104 | 16=>105 | 17=>106 | 18=>107 | 30=>120 | 31=>121 | 32=>122 | 33=>123 | 34=>124 | 35=>125 | 40=>128 | n=>n,fun | 23=>32 | 25=>2 | 3=>3 | 32=>95 | 22=>32 | 0=>0 | 44=>113 | 46=>93 | 4=>4 | 36=>121 | 35=>120 | 41=>102 | 5=>5 | 9=>9 | 53=>136 | 57=>140 | 63=>143 | 64=>144 | n=>n,fun | n=>n⟩
theorem Tryz.sortL:Go.Proofs.SlLaysM.n5 Tryz.prog Tryz.sortL_ren:={
 mixed:=by kernel_rfl
 f5:=⟨Tryz.f67.name,by decide,Tryz.func67.trans (congrArg some (by kernel_rfl))⟩
 f7:=⟨Tryz.f84.name,by decide,Tryz.func84.trans (congrArg some (by kernel_rfl))⟩
 f8:=Tryz.func85.trans (congrArg some (by kernel_rfl))
 f10:=⟨Tryz.f99.name,by decide,Tryz.func99.trans (congrArg some (by kernel_rfl))⟩
 f11:=⟨Tryz.f100.name,by decide,Tryz.func100.trans (congrArg some (by kernel_rfl))⟩
 f12:=⟨Tryz.f101.name,by decide,Tryz.func101.trans (congrArg some (by kernel_rfl))⟩
 f13:=⟨Tryz.f102.name,by decide,Tryz.func102.trans (congrArg some (by kernel_rfl))⟩
 f14:=⟨Tryz.f103.name,by decide,Tryz.func103.trans (congrArg some (by kernel_rfl))⟩
 f15:=⟨Tryz.f104.name,by decide,Tryz.func104.trans (congrArg some (by kernel_rfl))⟩
 f16:=⟨Tryz.f105.name,by decide,Tryz.func105.trans (congrArg some (by kernel_rfl))⟩
 f17:=⟨Tryz.f106.name,by decide,Tryz.func106.trans (congrArg some (by kernel_rfl))⟩
 f18:=⟨Tryz.f107.name,by decide,Tryz.func107.trans (congrArg some (by kernel_rfl))⟩
 f19:=Tryz.func108.trans (congrArg some (by kernel_rfl))
 f20:=Tryz.func109.trans (congrArg some (by kernel_rfl))
 f30:=⟨Tryz.f120.name,by decide,Tryz.func120.trans (congrArg some (by kernel_rfl))⟩
 f31:=Tryz.func121.trans (congrArg some (by kernel_rfl))
 f32:=Tryz.func122.trans (congrArg some (by kernel_rfl))
 f33:=⟨Tryz.f123.name,by decide,Tryz.func123.trans (congrArg some (by kernel_rfl))⟩
 f34:=⟨Tryz.f124.name,by decide,Tryz.func124.trans (congrArg some (by kernel_rfl))⟩
 f35:=⟨Tryz.f125.name,by decide,Tryz.func125.trans (congrArg some (by kernel_rfl))⟩
 f40:=⟨Tryz.f128.name,by decide,Tryz.func128.trans (congrArg some (by kernel_rfl))⟩
 t0:=Tryz.underlying0
 a0:=Tryz.isAgg0
 z0:=Tryz.sizeOf0
 v0:=Tryz.zeroValue0
 t3:=Tryz.underlying3
 a3:=Tryz.isAgg3
 z3:=Tryz.sizeOf3
 v3:=Tryz.zeroValue3
 t4:=Tryz.underlying4
 a4:=Tryz.isAgg4
 z4:=Tryz.sizeOf4
 v4:=Tryz.zeroValue4
 t5:=Tryz.underlying5
 a5:=Tryz.isAgg5
 z5:=Tryz.sizeOf5
 v5:=Tryz.zeroValue5
 t9:=Tryz.underlying9
 a9:=Tryz.isAgg9
 z9:=Tryz.sizeOf9
 v9:=Tryz.zeroValue9
 t22:=Tryz.underlying32
 a22:=Tryz.isAgg32
 z22:=Tryz.sizeOf32
 v22:=Tryz.zeroValue32
 t23:=Tryz.underlying32
 a23:=Tryz.isAgg32
 z23:=Tryz.sizeOf32
 v23:=Tryz.zeroValue32
 t25:=Tryz.underlying2
 a25:=Tryz.isAgg2
 z25:=Tryz.sizeOf2
 v25:=Tryz.zeroValue2
 t32:=Tryz.underlying95
 a32:=Tryz.isAgg95
 z32:=Tryz.sizeOf95
 v32:=Tryz.zeroValue95
 t35:=Tryz.underlying120
 a35:=Tryz.isAgg120
 z35:=Tryz.sizeOf120
 v35:=Tryz.zeroValue120
 t36:=Tryz.underlying121
 a36:=Tryz.isAgg121
 z36:=Tryz.sizeOf121
 v36:=Tryz.zeroValue121
 t41:=Tryz.underlying102
 a41:=Tryz.isAgg102
 z41:=Tryz.sizeOf102
 v41:=Tryz.zeroValue102
 t44:=Tryz.underlying113
 a44:=Tryz.isAgg113
 z44:=Tryz.sizeOf113
 v44:=Tryz.zeroValue113
 t46:=Tryz.underlying93
 a46:=Tryz.isAgg93
 z46:=Tryz.sizeOf93
 v46:=Tryz.zeroValue93
 t53:=Tryz.underlying136
 a53:=Tryz.isAgg136
 z53:=Tryz.sizeOf136
 v53:=Tryz.zeroValue136
 t57:=Tryz.underlying140
 a57:=Tryz.isAgg140
 z57:=Tryz.sizeOf140
 v57:=Tryz.zeroValue140
 t63:=Tryz.underlying143
 a63:=Tryz.isAgg143
 z63:=Tryz.sizeOf143
 v63:=Tryz.zeroValue143
 t64:=Tryz.underlying144
 a64:=Tryz.isAgg144
 z64:=Tryz.sizeOf144
 v64:=Tryz.zeroValue144 }
def Tryz.delL_ren:Go.Shelf.Ren:=⟨fun | 45=>118 | n=>n,fun | 22=>22 | 23=>32 | 3=>3 | 4=>4 | 0=>0 | n=>n,fun | n=>n⟩
theorem Tryz.delL:Go.Proofs.SlLaysE.n45 Tryz.prog Tryz.delL_ren:={
 mixed:=by kernel_rfl
 f45:=⟨Tryz.f118.name,by decide,Tryz.func118.trans (congrArg some (by kernel_rfl))⟩
 t0:=Tryz.underlying0
 a0:=Tryz.isAgg0
 z0:=Tryz.sizeOf0
 v0:=Tryz.zeroValue0
 t3:=Tryz.underlying3
 a3:=Tryz.isAgg3
 z3:=Tryz.sizeOf3
 v3:=Tryz.zeroValue3
 t4:=Tryz.underlying4
 a4:=Tryz.isAgg4
 z4:=Tryz.sizeOf4
 v4:=Tryz.zeroValue4
 t22:=Tryz.underlying22
 a22:=Tryz.isAgg22
 z22:=Tryz.sizeOf22
 v22:=Tryz.zeroValue22
 a23:=Tryz.isAgg32
 z23:=Tryz.sizeOf32 }
def Tryz.mulL_ren:Go.Shelf.Ren:=⟨fun | 212=>82 | 263=>96 | 264=>97 | n=>n,fun | 46=>95 | 51=>113 | 146=>114 | 53=>93 | 148=>116 | n=>n,fun | n=>n⟩
theorem Tryz.mulL:Go.Proofs.Lays.n212 Tryz.prog Tryz.mulL_ren:={
 mixed:=by kernel_rfl
 f212:=Tryz.func82.trans (congrArg some (by kernel_rfl))
 f263:=Tryz.func96.trans (congrArg some (by kernel_rfl))
 f264:=Tryz.func97.trans (congrArg some (by kernel_rfl))
 t46:=Tryz.underlying95
 a46:=Tryz.isAgg95
 z46:=Tryz.sizeOf95
 v46:=Tryz.zeroValue95
 t51:=Tryz.underlying113
 a51:=Tryz.isAgg113
 z51:=Tryz.sizeOf113
 v51:=Tryz.zeroValue113
 t53:=Tryz.underlying93
 a53:=Tryz.isAgg93
 z53:=Tryz.sizeOf93
 v53:=Tryz.zeroValue93
 t146:=Tryz.underlying114
 a146:=Tryz.isAgg114
 z146:=Tryz.sizeOf114
 v146:=Tryz.zeroValue114
 t148:=Tryz.underlying116
 a148:=Tryz.isAgg116
 z148:=Tryz.sizeOf116
 v148:=Tryz.zeroValue116 }
def Tryz.numL_ren:Go.Shelf.Ren:=⟨fun | 284=>131 | 129=>109 | 317=>134 | 318=>135 | n=>n,fun | 53=>93 | 3=>3 | 212=>154 | 0=>0 | 4=>4 | 46=>95 | 5=>5 | 9=>9 | n=>n,fun | 17=>0 | n=>n⟩
theorem Tryz.numL:Go.Proofs.LaysM.n284 Tryz.prog Tryz.numL_ren:={
 mixed:=by kernel_rfl
 f129:=Tryz.func109.trans (congrArg some (by kernel_rfl))
 f284:=Tryz.func131.trans (congrArg some (by kernel_rfl))
 f317:=Tryz.func134.trans (congrArg some (by kernel_rfl))
 f318:=Tryz.func135.trans (congrArg some (by kernel_rfl))
 t0:=Tryz.underlying0
 a0:=Tryz.isAgg0
 z0:=Tryz.sizeOf0
 v0:=Tryz.zeroValue0
 t3:=Tryz.underlying3
 a3:=Tryz.isAgg3
 z3:=Tryz.sizeOf3
 v3:=Tryz.zeroValue3
 t4:=Tryz.underlying4
 a4:=Tryz.isAgg4
 z4:=Tryz.sizeOf4
 v4:=Tryz.zeroValue4
 t5:=Tryz.underlying5
 a5:=Tryz.isAgg5
 z5:=Tryz.sizeOf5
 v5:=Tryz.zeroValue5
 t9:=Tryz.underlying9
 a9:=Tryz.isAgg9
 z9:=Tryz.sizeOf9
 v9:=Tryz.zeroValue9
 t46:=Tryz.underlying95
 a46:=Tryz.isAgg95
 z46:=Tryz.sizeOf95
 v46:=Tryz.zeroValue95
 t53:=Tryz.underlying93
 a53:=Tryz.isAgg93
 z53:=Tryz.sizeOf93
 v53:=Tryz.zeroValue93
 t212:=Tryz.underlying154
 a212:=Tryz.isAgg154
 z212:=Tryz.sizeOf154
 v212:=Tryz.zeroValue154
 g17:=by kernel_rfl
 i0:=by kernel_rfl
 i3:=by kernel_rfl
 i4:=by kernel_rfl
 i5:=by kernel_rfl
 i9:=by kernel_rfl
 i46:=by kernel_rfl
 i53:=by kernel_rfl
 i212:=by kernel_rfl
 m17:=by kernel_rfl }
end Go.Proofs
