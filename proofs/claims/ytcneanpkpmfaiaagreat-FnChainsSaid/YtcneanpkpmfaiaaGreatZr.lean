/- Texts that belong together. -/
import Derived.Test.YtcneanpkpmfaiaaGreatZn
set_option linter.unusedSimpArgs false
set_option linter.unusedVariables false
set_option maxRecDepth 100000
namespace Go.Proofs.YtcneanpkpmfaiaaGreat
section
open Go.Gov
open Classical
def Ia (xs:List Int):Prop:=∀ j,j+1<xs.length→xs.getD j 0≤xs.getD (j+1) 0
theorem Ql {xs:List Int}(h:Ia xs){i j:Nat}(hij:i≤j)(hj:j<xs.length):xs.getD i 0≤xs.getD j 0:=by
 induction j with
 | zero => obtain rfl : i = 0 := by omega
           exact Int.le_refl _
 | succ j ih=>
  rcases Nat.lt_or_ge i (j+1) with h' | h'
  ·exact Int.le_trans (ih (by omega) (by omega)) (h j hj)
  ·obtain rfl:i=j+1:=by omega
   exact Int.le_refl _
theorem oK (xs:List Int)(hl:xs.length≤1099511627776):Pure Tryz.prog 54 [Ac xs] (bl (decide (Ia xs))) []:=by
 refine Er wX rfl ?_;unfold Xa
 refine RN ?_
 refine Aj (α:=Int) (S:=fun i=>([(0,Ac xs),(3,i64 i)],[])) (C:=fun i => -1≤i∧i<xs.length∧∀ j:Nat,i≤j→j+1<xs.length→xs.getD j 0≤xs.getD (j+1) 0) (μ:=fun i=>(i+1).toNat) (xs.length - 1) ⟨by omega,by omega,fun j h1 h2=>by omega⟩ (by exact Ref.frame (by simp [sub,Ab])) ?_
 rintro i ⟨h1,h2,hall⟩
 refine RN ?_
 refine ⟨fun hc=>?_,fun hc=>?_⟩
 ·obtain ⟨i,rfl⟩:∃ k:Nat,i=(k:Int)+1:=⟨(i - 1).toNat,by omega⟩
  have e1:(i:Int)+1 - 1=i:=by omega
  have e2:((i:Int)+1).toNat=i+1:=by omega
  refine RN ?_
  simp only [e1,e2,go_sem,↓reduceIte,Nat.reduceEqDiff,Nat.reduceAdd,reduceCtorEq]
  refine RN ?_
  refine Am (U4 (xs.getD (i+1) 0) (xs.getD i 0)) ?_
  refine RN ?_
  refine ⟨fun hc2=>?_,fun hc2=>?_⟩
  ·(refine RN ?_;try with_reducible exact trivial)
   rw [decide_eq_false (fun h=>by have:=h i (by omega);omega)]
  ·(refine RN ?_;try with_reducible exact trivial)
   refine ⟨i,⟨by omega,by omega,fun j h3 h4=>?_⟩,by omega,by exact Ref.frame (by simp [sub,Ab])⟩
   rcases Nat.lt_or_ge i j with h | h
   ·exact hall j (by omega) h4
   ·obtain rfl:j=i:=by omega
    exact hc2
 ·(refine RN ?_;try with_reducible exact trivial)
  rw [decide_eq_true (p:=Ia xs) (fun j h=>hall j (by omega) h)]
theorem jC (n lo hi:Int):Pure Tryz.prog 69 [i64 n,.pto [i64 lo] 0,.pto [i64 hi] 0] (bl (!(decide (lo≤n)&&decide (n≤hi)))) []:=by
 refine Er xJ rfl ?_;unfold Xl
 refine RN ?_
 refine Am (Nv n lo hi) ?_
 (refine RN ?_;try with_reducible exact trivial)
def Js (p:Int→Bool)(xs:List Int):Int:=if xs.any p then xs.findIdx p else -1
theorem mD {p:Int→Bool}{xs:List Int}{i:Nat}(h:∀ j,j<i→p (xs.getD j 0)=false)(hi:i<xs.length)(he:p (xs.getD i 0)=true):Js p xs=i:=by
 have he' : p xs[i]=true:=by simpa [hi] using he
 unfold Js
 rw [if_pos (List.any_eq_true.2 ⟨_,List.getElem_mem hi,he'⟩)]
 congr 1
 have h1:xs.findIdx p≤i:=by
  rcases Nat.lt_or_ge i (xs.findIdx p) with h2 | h2
  ·have:=List.not_of_lt_findIdx h2
   simp [he'] at this
  ·exact h2
 rcases Nat.lt_or_ge (xs.findIdx p) i with h2 | h2
 ·have h3:=h _ h2
  have h4:p xs[xs.findIdx p]=true:=List.findIdx_getElem (w:=by omega)
  simp [show xs.findIdx p<xs.length by omega,h4] at h3
 ·omega
theorem mF {p:Int→Bool}{xs:List Int}(h:∀ j,j<xs.length→p (xs.getD j 0)=false):Js p xs = -1:=by
 unfold Js
 rw [if_neg]
 intro ha
 obtain ⟨x,hx,hp⟩:=List.any_eq_true.1 ha
 obtain ⟨j,hj,rfl⟩:=List.mem_iff_getElem.1 hx
 have:=h j hj
 simp [hj,hp] at this
theorem mE (p:Int→Bool)(xs:List Int):decide (0≤Js p xs)=xs.any p:=by
 unfold Js
 by_cases h:xs.any p=true<;>simp [h]
theorem oB (xs:List Int)(f:FuncId)(fs cs:List AV)(p:Int→Bool)(hl:xs.length≤1099511627776)(hf:∀ n,Pure Tryz.prog f (fs++[i64 n]++cs) (bl (p n)) [])(hk:G3 Tryz.prog f=true)(h1:fs.map (Ak [] 6)=fs)(h2:cs.map (Ak [] 6)=cs):Pure Tryz.prog 105 [Ac xs,.clo f fs cs] (i64 (Js p xs)) []:=by
 refine Er uP rfl ?_;unfold Vq
 refine RN ?_
 refine Aj (α:=Nat) (S:=fun i=>([(0,Ac xs),(1,.clo f fs cs),(6,Ac xs),(7,i64 xs.length),(8,i64 i)],[])) (C:=fun i=>i≤xs.length∧∀ j,j<i→p (xs.getD j 0)=false) (μ:=fun i=>xs.length - i) 0 ⟨by omega,by omega⟩ (by exact Ref.frame (by simp [sub,Ab])) ?_
 rintro i ⟨hi,hall⟩
 refine RN ?_
 refine ⟨fun hc=>?_,fun hc=>?_⟩
 ·(refine RN ?_;try with_reducible exact trivial)
  refine Oq (args:=fs++[i64 (xs.getD i 0)]++cs) (hf _) (by simp only [List.map_append,h1,h2,go_sem,↓reduceIte,Nat.reduceEqDiff,Nat.reduceAdd,reduceCtorEq]) rfl rfl ?_
  (try simp only [go_sem,↓reduceIte,Nat.reduceEqDiff,Nat.reduceAdd,reduceCtorEq,go_sem,↓reduceIte,Nat.reduceEqDiff,Nat.reduceAdd,reduceCtorEq])
  refine RN ?_
  refine ⟨fun hc2=>?_,fun hc2=>?_⟩
  ·(refine RN ?_;try with_reducible exact trivial)
   rw [mD hall (by omega) hc2]
  ·(refine RN ?_;try with_reducible exact trivial)
   refine ⟨i+1,⟨by omega,fun j hj=>?_⟩,by omega,by exact Ref.frame (by simp [sub,Ab])⟩
   rcases Nat.lt_or_ge j i with h | h
   ·exact hall j h
   ·obtain rfl:j=i:=by omega
    exact hc2
 ·(refine RN ?_;try with_reducible exact trivial)
  rw [mF (fun j hj=>hall j (by omega))]
theorem kR (xs:List Int)(f:FuncId)(fs cs:List AV)(p:Int→Bool)(hl:xs.length≤1099511627776)(hf:∀ n,Pure Tryz.prog f (fs++[i64 n]++cs) (bl (p n)) [])(hk:G3 Tryz.prog f=true)(h1:fs.map (Ak [] 6)=fs)(h2:cs.map (Ak [] 6)=cs)(h3:fs.map (Ak [] 5)=fs)(h4:cs.map (Ak [] 5)=cs):Pure Tryz.prog 68 [Ac xs,.clo f fs cs] (bl (xs.any p)) []:=by
 refine Er xI rfl ?_;unfold Xk
 refine RN ?_
 refine Oq (oB xs f fs cs p hl hf hk h1 h2) (by simp only [h3,h4,go_sem,↓reduceIte,Nat.reduceEqDiff,Nat.reduceAdd,reduceCtorEq]) rfl rfl ?_
 (try simp only [go_sem,↓reduceIte,Nat.reduceEqDiff,Nat.reduceAdd,reduceCtorEq,go_sem,↓reduceIte,Nat.reduceEqDiff,Nat.reduceAdd,reduceCtorEq])
 refine RN ?_
 rw [mE]
theorem jD (xs:List Int)(lo hi:Int)(hl:xs.length≤1099511627776):Pure Tryz.prog 53 [Ac xs,i64 lo,i64 hi] (bl (xs.all fun n=>decide (lo≤n)&&decide (n≤hi))) []:=by
 refine Bj wW rfl rfl ?_;unfold W9
 refine RN ?_
 refine Am (kR xs 69 [] [.pto [i64 lo] 0,.pto [i64 hi] 0] (fun n=>!(decide (lo≤n)&&decide (n≤hi))) hl (fun n=>jC n lo hi) (by kernel_rfl) rfl rfl rfl rfl) ?_
 refine RN ?_
 rw [List.all_eq_not_any_not]
def lb (z:Int)(xs:List Int):Nat:=(xs.takeWhile (fun x=>decide (x<z))).length
theorem aN {z:Int}:∀ {xs:List Int} {i:Nat},i≤xs.length→(∀ j,j<i→xs.getD j 0<z)→(i<xs.length→z≤xs.getD i 0)→lb z xs=i
 | [],i,hi,_,_=>by simp at hi;subst hi;rfl
 | x :: xs,0,_,_,h=>by
  have:z≤x:=by simpa using h (by simp)
  simp [lb,show ¬ x<z by omega]
 | x :: xs,i+1,hi,h1,h2=>by
  have hx:x<z:=by simpa using h1 0 (by omega)
  have ih:=aN (z:=z) (xs:=xs) (i:=i) (by simpa using hi) (fun j hj=>by simpa using h1 (j+1) (by omega)) (fun h=>by simpa using h2 (by simpa using h))
  simp only [lb,List.takeWhile_cons,hx,decide_true,if_true,List.length_cons] at *
  omega
theorem Ab5 (n:Nat)(h:n≤4611686018427387904):D5 .shr .u64 (IntKind.wrap .u64 (n:Int)) 1=((n / 2:Nat):Int):=by
 have e:IntKind.wrap .u64 (n:Int)=n:=by
  show (if (false&&decide ((n:Int)%2^64 ≥ 2^(64 - 1)))=true then (n:Int)%2^64 - 2^64 else (n:Int)%2^64)=(n:Int)
  rw [Bool.false_and,if_neg (by decide)]
  omega
 rw [e]
 show (n:Int).fdiv (2^min (Int.toNat 1) 64)=((n / 2:Nat):Int)
 rw [show (2:Int)^min (Int.toNat 1) 64=2 by rfl,Int.fdiv_eq_ediv_of_nonneg _ (by decide)]
 omega
theorem jN (xs:List Int)(z:Int)(hs:Ia xs)(hl:xs.length≤1099511627776):Pure Tryz.prog 55 [Ac xs,i64 z] (.tup [i64 (lb z xs),bl (decide (z∈xs))]) []:=by
 refine Er wY rfl ?_;unfold Xb
 refine RN ?_
 refine Aj (α:=Nat×Nat) (S:=fun p=>([(0,Ac xs),(1,i64 z),(6,i64 xs.length),(7,i64 p.1),(8,i64 p.2)],[])) (C:=fun p=>p.1≤p.2∧p.2≤xs.length∧(∀ j,j<p.1→xs.getD j 0<z)∧(∀ j,p.2≤j→j<xs.length→z≤xs.getD j 0)) (μ:=fun p=>p.2 - p.1) (0,xs.length) ⟨by omega,by omega,fun j hj=>by omega,fun j h1 h2=>by omega⟩ (by exact Ref.frame (by simp [sub,Ab])) ?_
 rintro ⟨l,h⟩ ⟨h1,h2,h3,h4⟩
 dsimp only at h1 h2 h3 h4
 refine RN ?_
 refine ⟨fun hc=>?_,fun hc=>?_⟩
 ·have hsh:D5 .shr .u64 (IntKind.wrap .u64 ((l:Int)+h)) 1=(((l+h) / 2:Nat):Int):=Ab5 (l+h) (by omega)
  refine RN ?_
  simp only [hsh,go_sem,↓reduceIte,Nat.reduceEqDiff,Nat.reduceAdd,reduceCtorEq]
  refine RN ?_
  refine Am (U4 (xs.getD ((l+h) / 2) 0) z) ?_
  refine RN ?_
  refine ⟨fun hc2=>?_,fun hc2=>?_⟩
  ·(refine RN ?_;try with_reducible exact trivial)
   refine ⟨((l+h) / 2+1,h),⟨by dsimp only;omega,h2,fun j hj=>?_,h4⟩,by dsimp only;omega,by exact Ref.frame (by simp [sub,Ab])⟩
   exact Int.lt_of_le_of_lt (Ql hs (by dsimp only at hj;omega) (by omega)) hc2
  ·(refine RN ?_;try with_reducible exact trivial)
   refine ⟨(l,(l+h) / 2),⟨by dsimp only;omega,by dsimp only;omega,h3,fun j hj hj2=>?_⟩,by dsimp only;omega,by exact Ref.frame (by simp [sub,Ab])⟩
   exact Int.le_trans hc2 (Ql hs (by dsimp only at hj;omega) hj2)
 ·obtain rfl:h=l:=by omega
  refine RN ?_
  refine G1 (bl false ) (fun hg =>  oH (xs.getD h 0)) ?_
  refine RN ?_
  refine Av (bl false) rfl ?_
  refine RN ?_
  rw [aN h2 h3 (fun hh=>h4 h (Nat.le_refl h) hh)]
  have hm:(decide ((h:Int)<xs.length)&&xs.getD h 0 == z)=decide (z∈xs):=by
   rw [Bool.eq_iff_iff]
   simp only [Bool.and_eq_true,decide_eq_true_eq,beq_iff_eq]
   constructor
   ·rintro ⟨hh,he⟩
    have hh' : h<xs.length:=by omega
    rw [← he];simp [hh']
   ·intro hz
    obtain ⟨j,hj,he⟩:=List.mem_iff_getElem.1 hz
    have he' : xs.getD j 0=z:=by simpa [hj] using he
    have hhj:h≤j:=by
     rcases Nat.lt_or_ge j h with h' | h'
     ·have:=h3 j h'; omega
     ·exact h'
    have:=Ql hs hhj hj
    have:=h4 h (Nat.le_refl h) (by omega)
    exact ⟨by omega,by omega⟩
  rw [hm]
end
section
open Go.Gov
open Classical
def Hj (R:List Int)(B:List (List Int))(x k:Nat):Prop:=
 0≤(B.getD x []).getD k 0∧(B.getD x []).getD k 0≤(x:Int) - 1∧R.getD ((B.getD x []).getD k 0).toNat 0<R.getD x 0∧(0<k→(B.getD x []).getD (k - 1) 0<(B.getD x []).getD k 0)
def N7 (B:List (List Int))(x k:Nat):Prop:=
 ∀ j,j<(B.getD ((B.getD x []).getD k 0).toNat []).length→(B.getD ((B.getD x []).getD k 0).toNat []).getD j 0∈B.getD x []
def N6 (r:Int)(R:List Int)(x:Nat):Prop:=0≤R.getD x 0∧R.getD x 0≤r - 1∧(0<x→R.getD (x - 1) 0≤R.getD x 0)
def Uz (r:Int)(R:List Int)(B:List (List Int))(x:Nat):Prop:=N6 r R x∧∀ k,k<(B.getD x []).length→Hj R B x k∧N7 B x k
def Rh (r:Int)(R:List Int)(B:List (List Int)):Prop:=1≤r∧r≤5∧R.length≤500∧B.length=R.length
def IsPos (r:Int)(R:List Int)(B:List (List Int)):Prop:=Rh r R B∧∀ x,x<R.length→Uz r R B x
theorem Hr {B:List (List Int)}{n:Nat}(hr:∀ xs∈B,xs.length≤n)(i:Nat):(B.getD i []).length≤n:=by
 by_cases h:i<B.length
 ·rw [show B.getD i []=B[i] by simp [h]];exact hr _ (List.getElem_mem _)
 ·simp [h]
theorem Tj (r:Int)(R:List Int)(B:List (List Int))(h1:R.length≤1099511627776)(hl:B.length≤1099511627776)(hr:∀ xs∈B,xs.length≤1099511627776):Pure Tryz.prog 35 [A6 r R B] (bl (decide (IsPos r R B))) []:=by
 refine Bj wL rfl rfl ?_;unfold W0
 refine RN ?_
 refine Am (Ey r 1 5) ?_
 refine RN ?_
 refine ⟨fun hc=>?_,fun hc=>?_⟩
 ·(refine RN ?_;try with_reducible exact trivial)
  rw [decide_eq_false (fun h=>?_)]
  obtain ⟨⟨a1,a2,a3,a4⟩,_⟩:=h
  try simp only [go_sem,↓reduceIte,Nat.reduceEqDiff,Nat.reduceAdd,reduceCtorEq,Bool.or_eq_true] at hc
  omega
 ·have hs : Rh r R B := by
    try simp only [go_sem,↓reduceIte,Nat.reduceEqDiff,Nat.reduceAdd,reduceCtorEq] at hc
    unfold Rh
    omega
  obtain ⟨a1,a2,a3,a4⟩:=hs
  refine RN ?_
  refine Aj (α:=Nat) (S:=fun x=>([(1,.ref 0 0),(3,i64 x)],[some [i64 r,Ac R,Ae B]])) (C:=fun x=>x≤R.length∧∀ j,j<x→Uz r R B j) (μ:=fun x=>R.length - x) 0 ⟨by omega,by omega⟩ (by exact Ref.frame (by simp [sub,Ab])) ?_
  rintro x ⟨hx,hall⟩
  refine RN ?_
  refine ⟨fun hc1=>?_,fun hc1=>?_⟩
  ·(refine RN ?_;try with_reducible exact trivial)
   refine Am (Ey (R.getD x 0) 0 (r - 1)) ?_
   refine RN ?_
   refine ⟨fun hc2=>?_,fun hc2=>?_⟩
   ·(refine RN ?_;try with_reducible exact trivial)
    rw [decide_eq_false (fun h=>?_)]
    obtain ⟨⟨b1,b2,b3⟩,_⟩:=h.2 x (by omega)
    try simp only [go_sem,↓reduceIte,Nat.reduceEqDiff,Nat.reduceAdd,reduceCtorEq] at hc2
    omega
   ·have hrk : N6 r R x := by
      try simp only [go_sem,↓reduceIte,Nat.reduceEqDiff,Nat.reduceAdd,reduceCtorEq] at hc2
      unfold N6
      omega
    refine RN ?_
    refine Aj (α:=Nat) (S:=fun k=>([(1,.ref 0 0),(3,i64 x),(4,i64 k)],[some [i64 r,Ac R,Ae B]])) (C:=fun k=>k≤(B.getD x []).length∧∀ j,j<k→Hj R B x j∧N7 B x j) (μ:=fun k=>(B.getD x []).length - k) 0 ⟨by omega,by omega⟩ (by exact Ref.frame (by simp [sub,Ab])) ?_
    rintro k ⟨hk,hallk⟩
    have hrow:=Hr hr x
    refine RN ?_
    refine ⟨fun hc3=>?_,fun hc3=>?_⟩
    ·(refine RN ?_;try with_reducible exact trivial)
     refine Am (Ey ((B.getD x []).getD k 0) 0 (x - 1)) ?_
     refine RN ?_
     refine ⟨fun hc4=>?_,fun hc4=>?_⟩
     ·(refine RN ?_;try with_reducible exact trivial)
      rw [decide_eq_false (fun h=>?_)]
      obtain ⟨⟨b1,b2,b3,b4⟩,_⟩:=(h.2 x (by omega)).2 k (by omega)
      try simp only [go_sem,↓reduceIte,Nat.reduceEqDiff,Nat.reduceAdd,reduceCtorEq] at hc4
      omega
     ·have hcv : Hj R B x k := by
        try simp only [go_sem,↓reduceIte,Nat.reduceEqDiff,Nat.reduceAdd,reduceCtorEq] at hc4
        unfold Hj
        omega
      have hy1:((B.getD x []).getD k 0).toNat<B.length:=by
       obtain ⟨b1,b2,_⟩:=hcv
       omega
      have hrowy:=Hr hr ((B.getD x []).getD k 0).toNat
      have hy0:0≤(B.getD x []).getD k 0:=hcv.1
      refine RN ?_
      refine Aj (α:=Nat) (S:=fun j=>([(1,.ref 0 0),(3,i64 x),(4,i64 k),(5,i64 ((B.getD x []).getD k 0)),(6,i64 j)],[some [i64 r,Ac R,Ae B]])) (C:=fun j=>j≤(B.getD ((B.getD x []).getD k 0).toNat []).length∧∀ i,i<j→(B.getD ((B.getD x []).getD k 0).toNat []).getD i 0∈B.getD x []) (μ:=fun j=>(B.getD ((B.getD x []).getD k 0).toNat []).length - j) 0 ⟨by omega,by omega⟩ (by exact Ref.frame (by simp [sub,Ab])) ?_
      rintro j ⟨hj,hallj⟩
      refine RN ?_
      refine ⟨fun hc5=>?_,fun hc5=>?_⟩
      ·(refine RN ?_;try with_reducible exact trivial)
       refine Am (Te (B.getD x []) ((B.getD ((B.getD x []).getD k 0).toNat []).getD j 0) hrow) ?_
       refine RN ?_
       refine ⟨fun hc6=>?_,fun hc6=>?_⟩
       ·(refine RN ?_;try with_reducible exact trivial)
        rw [decide_eq_false (fun h=>?_)]
        have h2:=((h.2 x (by omega)).2 k (by omega)).2 j (by omega)
        first | exact hc6 h2 | (rw [decide_eq_true h2] at hc6;cases hc6)
       ·(refine RN ?_;try with_reducible exact trivial)
        refine ⟨j+1,⟨by omega,fun i hi=>?_⟩,by omega,by exact Ref.frame (by simp [sub,Ab])⟩
        rcases Nat.lt_or_ge i j with h | h
        ·exact hallj i h
        ·obtain rfl:i=j:=by omega
         simpa using hc6
      ·(refine RN ?_;try with_reducible exact trivial)
       refine ⟨k+1,⟨by omega,fun i hi=>?_⟩,by omega,by exact Ref.frame (by simp [sub,Ab])⟩
       rcases Nat.lt_or_ge i k with h | h
       ·exact hallk i h
       ·obtain rfl:i=k:=by omega
        exact ⟨hcv,fun j' hj' => hallj j' (by omega)⟩
    ·(refine RN ?_;try with_reducible exact trivial)
     refine ⟨x+1,⟨by omega,fun i hi=>?_⟩,by omega,by exact Ref.frame (by simp [sub,Ab])⟩
     rcases Nat.lt_or_ge i x with h | h
     ·exact hall i h
     ·obtain rfl:i=x:=by omega
      exact ⟨hrk,fun k' hk' => hallk k' (by omega)⟩
  ·(refine RN ?_;try with_reducible exact trivial)
   rw [decide_eq_true (p:=IsPos r R B) ⟨⟨a1,a2,a3,a4⟩,fun x hx=>hall x (by omega)⟩]
end
section
open Go.Gov
open Classical
set_option maxHeartbeats 4000000 in
theorem Ta (r:Int)(R:List Int)(B:List (List Int))(h1:R.length≤1099511627776)(hl:B.length≤1099511627776)(hr:∀ xs∈B,xs.length≤1099511627776):Pure Tryz.prog 30 [A6 r R B] (bl (decide (IsPos r R B))) []:=by
 refine Bj wH rfl rfl ?_;unfold Ww
 refine RN ?_
 refine Am (eM R h1) ?_
 refine RN ?_
 refine Am (Nv r 1 5) ?_
 refine RN ?_
 refine G1 (bl (R.all fun n=>decide (0≤n)&&decide (n≤r - 1)) ) (fun hg =>  jD R 0 (r - 1) h1) ?_
 refine RN ?_
 refine G1 (bl (decide (Ia R)) ) (fun hg =>  oK R h1) ?_
 refine RN ?_
 refine ⟨fun hc=>?_,fun hc=>?_⟩
 ·(refine RN ?_;try with_reducible exact trivial)
  rw [decide_eq_false (fun h=>?_)]
  obtain ⟨⟨b1,b2,b3,b4⟩,b5⟩:=h
  have c1:(R.all fun n=>decide (0≤n)&&decide (n≤r - 1))=true:=List.all_eq_true.2 fun n hn=>by
   obtain ⟨j,hj,rfl⟩:=List.mem_iff_getElem.1 hn
   obtain ⟨⟨d1,d2,d3⟩,_⟩:=b5 j hj
   have e:R.getD j 0=R[j]:=by simp [hj]
   rw [e] at d1 d2
   simp only [go_sem,↓reduceIte,Nat.reduceEqDiff,Nat.reduceAdd,reduceCtorEq]
   omega
  have c2:Ia R:=fun j hj=>by
   obtain ⟨⟨d1,d2,d3⟩,_⟩:=b5 (j+1) hj
   exact d3 (by omega)
  rw [c1] at hc
  try simp only [go_sem,↓reduceIte,Nat.reduceEqDiff,Nat.reduceAdd,reduceCtorEq,Bool.not_true,Bool.false_eq_true,or_false,decide_eq_true c2] at hc
  have c3:¬ (¬ Ia R):=fun h=>h c2
  have c4:¬ (true=false):=by decide
  first | omega | (rcases hc with (hc | hc) | hc<;>first | omega | exact c4 hc | exact c3 hc)
 ·obtain ⟨a1, a2, a3, a4, a5, a6⟩ : 1 ≤ r ∧ r ≤ 5 ∧ R.length ≤ 500 ∧ B.length = R.length ∧ (∀ n ∈ R, 0 ≤ n ∧ n ≤ r - 1) ∧ Ia R := by
    simp only [go_sem,↓reduceIte,Nat.reduceEqDiff,Nat.reduceAdd,reduceCtorEq,List.all_eq_true] at hc
    obtain ⟨⟨⟨⟨⟨e1,e2⟩,e3⟩,e4⟩,e5⟩,e6⟩:=hc
    exact ⟨e1,e2,by omega,by omega,e5,e6⟩
  have hrk:∀ x,x<R.length→N6 r R x:=fun x hx=>by
   have e:R.getD x 0=R[x]:=by simp [hx]
   obtain ⟨d1,d2⟩:=a5 _ (List.getElem_mem hx)
   refine ⟨by omega,by omega,fun h0=>?_⟩
   have:=a6 (x - 1) (by omega)
   rwa [show x - 1+1=x by omega] at this
  refine RN ?_
  refine Aj (α:=Nat) (S:=fun x=>([(1,.ref 0 0),(3,i64 R.length),(52,Ae B),(53,i64 B.length),(54,i64 x)],[some [i64 r,Ac R,Ae B]])) (C:=fun x=>x≤B.length∧∀ i,i<x→∀ k,k<(B.getD i []).length→Hj R B i k) (μ:=fun x=>B.length - x) 0 ⟨by omega,by omega⟩ (by exact Ref.frame (by simp [sub,Ab])) ?_
  rintro x ⟨hx,hall⟩
  refine RN ?_
  refine ⟨fun hc1=>?_,fun hc1=>?_⟩
  ·have hrow:=Hr hr x
   refine RN ?_
   refine Aj (α:=Nat) (S:=fun k=>([(1,.ref 0 0),(3,i64 R.length),(52,Ae B),(53,i64 B.length),(54,i64 x),(4,i64 x),(5,Ac (B.getD x [])),(59,Ac (B.getD x [])),(60,i64 (B.getD x []).length),(61,i64 k)],[some [i64 r,Ac R,Ae B]])) (C:=fun k=>k≤(B.getD x []).length∧∀ i,i<k→Hj R B x i) (μ:=fun k=>(B.getD x []).length - k) 0 ⟨by omega,by omega⟩ (by exact Ref.frame (by simp [sub,Ab])) ?_
   rintro k ⟨hk,hallk⟩
   refine RN ?_
   refine ⟨fun hc3=>?_,fun hc3=>?_⟩
   ·(refine RN ?_;try with_reducible exact trivial)
    refine Am (Nv ((B.getD x []).getD k 0) 0 (R.length - 1)) ?_
    refine RN ?_
    refine ⟨fun hc4=>?_,fun hc4=>?_⟩
    ·(refine RN ?_;try with_reducible exact trivial)
     rw [decide_eq_false (fun h=>?_)]
     obtain ⟨⟨b1,b2,b3,b4⟩,_⟩:=(h.2 x (by omega)).2 k (by omega)
     try simp only [go_sem,↓reduceIte,Nat.reduceEqDiff,Nat.reduceAdd,reduceCtorEq] at hc4
     omega
    ·have hcv : Hj R B x k := by
       try simp only [go_sem,↓reduceIte,Nat.reduceEqDiff,Nat.reduceAdd,reduceCtorEq] at hc4
       have hy:(B.getD x []).getD k 0≤(x:Int) - 1:=by
        rcases Nat.lt_or_ge ((B.getD x []).getD k 0).toNat x with h | h
        ·omega
        ·have:=Ql a6 h (by omega)
         omega
       unfold Hj
       omega
     refine RN ?_
     refine ⟨k+1,⟨by omega,fun i hi=>?_⟩,by omega,by exact Ref.frame (by simp [sub,Ab])⟩
     rcases Nat.lt_or_ge i k with h | h
     ·exact hallk i h
     ·obtain rfl:i=k:=by omega
      exact hcv
   ·(refine RN ?_;try with_reducible exact trivial)
    refine ⟨x+1,⟨by omega,fun i hi=>?_⟩,by omega,by exact Ref.frame (by simp [sub,Ab])⟩
    rcases Nat.lt_or_ge i x with h | h
    ·exact hall i h
    ·obtain rfl:i=x:=by omega
     exact fun k' hk' => hallk k' (by omega)
  ·have hcv:∀ i,i<B.length→∀ k,k<(B.getD i []).length→Hj R B i k:=fun i hi=>hall i (by omega)
   have hsr:∀ i,i<B.length→Ia (B.getD i []):=fun i hi j hj=>by
    have:=(hcv i hi (j+1) hj).2.2.2 (by omega)
    rw [show j+1 - 1=j by omega] at this
    omega
   refine RN ?_
   refine Aj (α:=Nat) (S:=fun x=>([(1,.ref 0 0),(100,Ae B),(101,i64 B.length),(102,i64 x)],[some [i64 r,Ac R,Ae B]])) (C:=fun x=>x≤B.length∧∀ i,i<x→∀ k,k<(B.getD i []).length→N7 B i k) (μ:=fun x=>B.length - x) 0 ⟨by omega,by omega⟩ (by exact Ref.frame (by simp [sub,Ab])) ?_
   rintro x ⟨hx,hall2⟩
   refine RN ?_
   refine ⟨fun hc1=>?_,fun hc1=>?_⟩
   ·have hrow:=Hr hr x
    have hsx:=hsr x (by omega)
    refine RN ?_
    refine Aj (α:=Nat) (S:=fun k=>([(1,.ref 0 0),(100,Ae B),(101,i64 B.length),(102,i64 x),(9,Ac (B.getD x [])),(106,Ac (B.getD x [])),(107,i64 (B.getD x []).length),(108,i64 k)],[some [i64 r,Ac R,Ae B]])) (C:=fun k=>k≤(B.getD x []).length∧∀ i,i<k→N7 B x i) (μ:=fun k=>(B.getD x []).length - k) 0 ⟨by omega,by omega⟩ (by exact Ref.frame (by simp [sub,Ab])) ?_
    rintro k ⟨hk,hallk⟩
    refine RN ?_
    refine ⟨fun hc3=>?_,fun hc3=>?_⟩
    ·obtain ⟨y0,y1,y2,y3⟩:=hcv x (by omega) k (by omega)
     have hy1:((B.getD x []).getD k 0).toNat<B.length:=by omega
     have hrowy:=Hr hr ((B.getD x []).getD k 0).toNat
     refine RN ?_
     refine Aj (α:=Nat) (S:=fun j=>([(1,.ref 0 0),(100,Ae B),(101,i64 B.length),(102,i64 x),(9,Ac (B.getD x [])),(106,Ac (B.getD x [])),(107,i64 (B.getD x []).length),(108,i64 k),(116,Ac (B.getD ((B.getD x []).getD k 0).toNat [])),(117,i64 (B.getD ((B.getD x []).getD k 0).toNat []).length),(118,i64 j)],[some [i64 r,Ac R,Ae B]])) (C:=fun j=>j≤(B.getD ((B.getD x []).getD k 0).toNat []).length∧∀ i,i<j→(B.getD ((B.getD x []).getD k 0).toNat []).getD i 0∈B.getD x []) (μ:=fun j=>(B.getD ((B.getD x []).getD k 0).toNat []).length - j) 0 ⟨by omega,by omega⟩ (by exact Ref.frame (by simp [sub,Ab])) ?_
     rintro j ⟨hj,hallj⟩
     refine RN ?_
     refine ⟨fun hc5=>?_,fun hc5=>?_⟩
     ·(refine RN ?_;try with_reducible exact trivial)
      refine Am (jN (B.getD x []) ((B.getD ((B.getD x []).getD k 0).toNat []).getD j 0) hsx hrow) ?_
      refine RN ?_
      refine ⟨fun hc6=>?_,fun hc6=>?_⟩
      ·(refine RN ?_;try with_reducible exact trivial)
       rw [decide_eq_false (fun h=>?_)]
       have h2:=((h.2 x (by omega)).2 k (by omega)).2 j (by omega)
       first | exact hc6 h2 | (rw [decide_eq_true h2] at hc6;cases hc6)
      ·(refine RN ?_;try with_reducible exact trivial)
       refine ⟨j+1,⟨by omega,fun i hi=>?_⟩,by omega,by exact Ref.frame (by simp [sub,Ab])⟩
       rcases Nat.lt_or_ge i j with h | h
       ·exact hallj i h
       ·obtain rfl:i=j:=by omega
        simpa using hc6
     ·(refine RN ?_;try with_reducible exact trivial)
      refine ⟨k+1,⟨by omega,fun i hi=>?_⟩,by omega,by exact Ref.frame (by simp [sub,Ab])⟩
      rcases Nat.lt_or_ge i k with h | h
      ·exact hallk i h
      ·obtain rfl:i=k:=by omega
       exact fun j' hj' => hallj j' (by omega)
    ·(refine RN ?_;try with_reducible exact trivial)
     refine ⟨x+1,⟨by omega,fun i hi=>?_⟩,by omega,by exact Ref.frame (by simp [sub,Ab])⟩
     rcases Nat.lt_or_ge i x with h | h
     ·exact hall2 i h
     ·obtain rfl:i=x:=by omega
      exact fun k' hk' => hallk k' (by omega)
   ·(refine RN ?_;try with_reducible exact trivial)
    rw [decide_eq_true (p:=IsPos r R B) ⟨⟨a1,a2,a3,a4⟩,fun x hx=>⟨hrk x hx,fun k hk=>⟨hcv x (by omega) k hk,hall2 x (by omega) k hk⟩⟩⟩]
end
section
open Go.Gov
open Classical
theorem IsPos.rank {r:Int}{R:List Int}{B:List (List Int)}(h:IsPos r R B):1≤r∧r≤5∧R.length≤500∧B.length=R.length∧∀ x,x<R.length→0≤R.getD x 0∧R.getD x 0≤r - 1:=by
 obtain ⟨⟨a1,a2,a3,a4⟩,a5⟩:=h
 exact ⟨a1,a2,a3,a4,fun x hx=>⟨(a5 x hx).1.1,(a5 x hx).1.2.1⟩⟩
end
section
open Go.Gov Go.Sort
theorem nL {w : World} {b off n : Nat} {os : Array Obj} {cur : Array Value} {e : TypeId} {fr : Nat × Nat} (d : Array Int) (hb : w.heap[b]? = some (.cells cur e fr)) :
    (grow (putRow (Value.int .i64) (Sort.ahead w n) b off d) os).heap[b]? = some (.cells (putCells (Value.int .i64) off d cur) e fr):=by
 have hg:b<w.heap.size:=(Array.getElem?_eq_some_iff.1 hb).1
 rw [heap_grow_old _ _ (by simpa using hg)]
 simp [putRow,mapBlock,Sort.ahead,Array.getElem?_modify,hb,onCells]
theorem nK {w:World}{b off n:Nat}{os:Array Obj}(d:Array Int){k:Nat}(hk:k<w.heap.size)(hne:k≠b):(grow (putRow (Value.int .i64) (Sort.ahead w n) b off d) os).heap[k]? = w.heap[k]?:=by
 rw [heap_grow_old _ _ (by simpa using hk)]
 simp [putRow,mapBlock,Sort.ahead,Array.getElem?_modify,Ne.symm hne]
theorem Aci (xs:List Int)(hl:xs.length≤1099511627776):Fa Tryz.prog 48 [.sl 0 1 0 xs.length] [some (Aa xs)] (.tup []) [some (Aa (Bf xs))]:=by
 intro g w vals hp hl1 hr
 have h0:=hr 0 (by simp)
 simp only [List.getElem_cons_zero] at h0
 have hv:vals = #[vals.getD 0 undef]:=by
  refine Array.ext (by simpa using hl1) fun i h1 h2=>?_
  obtain rfl:i=0:=by simp at h2;exact h2
  simp [h1]
 have ho:=hp.obj 0 (Aa xs) rfl
 generalize vals.getD 0 undef=v at h0 hv
 subst hv
 have none_case:∀ a cap,xs=[]→Calls Tryz.prog 48 #[.slice a 0 cap] w fun e w' => ∃ v g' av H', e = .returned v∧Mv g [some (Aa xs)] w g' H' w' ∧ Rd w' (g'.tr H') g'.G av v []∧(false=true→Ext w w')∧av = .tup []∧H' = [some (Aa (Bf xs))]:=by
  rintro a cap rfl
  refine (AnyM.slices_Sort_int_none Tryz.sortL a cap w).mono ?_
  rintro e w' ⟨rfl,rfl⟩
  exact ⟨.tuple #[],g,.tup [],_,rfl,Mv.refl hp,.tup rfl (by simp),by simp,rfl,by simp [Bf]⟩
 cases h0 with
 | sl h00 hv0 h=>
  obtain ⟨hle,hS⟩:=h _ (Gh.tr_some (g:=g) (H:=[some (Aa xs)]) (o:=0) rfl)
  dsimp only at hS hle
  cases hρ:g.ρ 0 with
  | none=>
   rw [hρ] at hS
   obtain ⟨hn,a,rfl⟩:=hS
   have hx:=List.eq_nil_of_length_eq_zero hn
   exact none_case a 0 hx
  | some l=>
   obtain ⟨b,base,sz⟩:=l
   rw [hρ] at hS ho
   obtain ⟨cap,h1,h2,h3,h4⟩:=hS
   obtain ⟨arr,elem,u,bss,hb,hsz,hbase,hc,hr2,hob⟩:=ho.cells (by omega)
   have hil:(Aa xs).length=xs.length:=by simp [Aa]
   rw [hil] at hbase
   have hu:∀ m,m<xs.length→u m = .int .i64 (xs.getD m 0)∧bss m=[]:=fun m hm=>by
    have h5:=hr2 m (by omega)
    have e:(Aa xs)[m]'(by omega)=i64 (xs.getD m 0):=by simp [Aa,hm]
    rw [e] at h5
    exact h5.val_inv
   rcases h4 with rfl | ⟨rfl,a,rfl⟩
   ·have hblk:b<w.heap.size:=(Array.getElem?_eq_some_iff.1 hb).1
    have hH:Holds (Value.int .i64) w b (base+0) xs.toArray:=fun j hj=>by
     have hj' : j<xs.length:=by simpa using hj
     obtain ⟨hu1,_⟩:=hu j hj'
     have hcj:=hc j (by omega)
     refine ⟨?_,by have h9:elem.1.2.2≤elem.1.2.1∨sz≤elem.1.2.1:=elem.2;have h11:base+j<sz:=(by omega);simp [World.frozen?,hb];intro h10;rcases h9 with h9 | h9;exact Nat.le_trans h9 h10;exact absurd (Nat.le_trans h9 h10) (by omega)⟩
     simp only [World.cell?,hb,Nat.add_zero]
     rw [show (if (none:Option Nat).isSome=true then none else arr[base+j]?)=arr[base+j]? by simp,hcj,hu1]
     simp [hj']
    refine (AnyM.slices_Sort_int Tryz.sortL b (base+0) cap xs w hH hblk (by omega)).mono ?_
    rintro e w' ⟨rfl,n,os,rfl⟩
    have hys:(xs.mergeSort fun x y=>decide (x≤y))=Bf xs:=rfl
    rw [hys]
    have hyl:=eR xs
    have hhb:=nL (w:=w) (n:=n) (os:=os) (off:=base+0) (Bf xs).toArray hb
    have hoth:=fun k (hk:k<w.heap.size) (hne:k≠b)=>nK (w:=w) (b:=b) (off:=base+0) (n:=n) (os:=os) (Bf xs).toArray hk hne
    have hsize:w.heap.size≤(grow (putRow (Value.int .i64) (Sort.ahead w n) b (base+0) (Bf xs).toArray) os).heap.size:=by simp [grow,putRow,mapBlock,Sort.ahead]
    have hos:(grow (putRow (Value.int .i64) (Sort.ahead w n) b (base+0) (Bf xs).toArray) os).os=w.os:=rfl
    have htp:(grow (putRow (Value.int .i64) (Sort.ahead w n) b (base+0) (Bf xs).toArray) os).tape=w.tape∧w.drawn≤(grow (putRow (Value.int .i64) (Sort.ahead w n) b (base+0) (Bf xs).toArray) os).drawn:=⟨rfl,Nat.le_add_right _ _⟩
    have hou:(grow (putRow (Value.int .i64) (Sort.ahead w n) b (base+0) (Bf xs).toArray) os).output=w.output:=rfl
    generalize grow (putRow (Value.int .i64) (Sort.ahead w n) b (base+0) (Bf xs).toArray) os=w' at *
    have hilY:(Aa (Bf xs)).length=xs.length:=by simp [Aa,hyl]
    have hnotO:∀ k,¬ k∈g.ob 0→k≠b:=fun k hk e=>hk (by rw [hob,e];simp)
    have hGb:¬ g.G b:=hp.free 0 _ rfl b (by rw [hob];simp)
    have htr:∀ o d,g.tr [some (Aa xs)] o=some d→g.tr [some (Aa (Bf xs))] o=some d:=fun o d hd=>by
     have hlt:=Cz hd
     obtain rfl:o=0:=by simpa using hlt
     unfold Gh.tr at *
     simp only [List.getElem?_cons_zero,hil,hilY] at *
     exact hd
    have lift:∀ x v,Rd w (g.tr [some (Aa xs)]) g.G x v []→Rd w' (g.tr [some (Aa (Bf xs))]) g.G x v []:=fun x v hx=>
     hx.mono (fun _ h=>h) (fun k hk=>hoth k (hp.low k hk) (fun e=>hGb (e ▸ hk))) (fun o d h=>.inl (htr o d h)) (by simp)
    have one:∀ o cs,[some (Aa (Bf xs))][o]? = some (some cs)→o=0∧cs=Aa (Bf xs):=fun o cs h=>by
     cases o with
     | zero=>simp at h;exact ⟨rfl,h.symm⟩
     | succ o=>simp at h
    have hp' : HeapR g [some (Aa (Bf xs))] w' := by
     refine ⟨?_,?_,?_,?_,fun k hk=>Nat.lt_of_lt_of_le (hp.low k hk) hsize⟩
     ·intro o cs h5
      obtain ⟨rfl,rfl⟩:=one o cs h5
      rw [hρ]
      refine .ofCells ⟨_,elem,fun m=>.int .i64 ((Bf xs).getD m 0),fun _=>[],hhb,by simp [putCells,hsz],by omega,fun m hm=>?_,fun m hm=>?_,?_⟩
      ·rw [hilY] at hm
       have hm2:base+m<arr.size:=by omega
       simp [putCells,hm2,hyl,hm,show m<(Bf xs).length by omega]
      ·have e : (Aa (Bf xs))[m] = i64 ((Bf xs).getD m 0) := by
         rw [hilY] at hm
         simp [Aa,show m<(Bf xs).length by omega]
       rw [e];exact .val
      ·rw [hob,hilY,hil]
       congr 1
       rw [flatMap_nil]
       refine List.flatMap_eq_nil_iff.2 fun m hm=>(hu m (List.mem_range.1 hm)).2
     ·intro o cs h5
      obtain ⟨rfl,rfl⟩:=one o cs h5
      exact hp.nodup 0 _ rfl
     ·intro o o' cs cs' h5 h6 hne
      obtain ⟨rfl,rfl⟩:=one o cs h5
      obtain ⟨rfl,rfl⟩:=one o' cs' h6
      exact absurd rfl hne
     ·intro o cs h5
      obtain ⟨rfl,rfl⟩:=one o cs h5
      exact hp.free 0 _ rfl
    refine ⟨.tuple #[],g,.tup [],_,rfl,⟨hp', ⟨hos,⟨htp.1,by first | exact htp.2 | exact Nat.le_refl _⟩,hou,hsize,fun k hk hO=>hoth k hk (hnotO k fun hm=>hO ⟨0,_,rfl,hm⟩),fun k ⟨o,cs,h5,hm⟩=>?_,fun _ h=>h,fun _ h=>.inl h,fun a ha=>?_⟩,lift,fun o d h=>.inl (htr o d h)⟩,.tup rfl (by simp),by simp,rfl,rfl⟩
    ·obtain ⟨rfl,rfl⟩:=one o cs h5
     exact .inl ⟨0,_,rfl,hm⟩
    ·unfold World.frozen?
     by_cases e:a.block=b
     ·rw [e,hb,hhb]
     ·rw [hoth _ ha e]
   ·have hx:xs=[]:=List.eq_nil_of_length_eq_zero (by omega)
    exact none_case a 0 hx
end
end Go.Proofs.YtcneanpkpmfaiaaGreat
