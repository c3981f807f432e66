/- Texts that belong together. -/
import Derived.Test.YtfofabbkigonpaaDoorZn
set_option linter.unusedSimpArgs false
set_option linter.unusedVariables false
set_option maxRecDepth 100000
namespace Go.Proofs.YtfofabbkigonpaaDoor
section
open Go.Gov
open Classical
def Gy (xs:List Int):Prop:=∀ j,j+1<xs.length→xs.getD j 0≤xs.getD (j+1) 0
theorem O6 {xs:List Int}(h:Gy xs){i j:Nat}(hij:i≤j)(hj:j<xs.length):xs.getD i 0≤xs.getD j 0:=by
 induction j with
 | zero => obtain rfl : i = 0 := by omega
           exact Int.le_refl _
 | succ j ih=>
  rcases Nat.lt_or_ge i (j+1) with h' | h'
  ·exact Int.le_trans (ih (by omega) (by omega)) (h j hj)
  ·obtain rfl:i=j+1:=by omega
   exact Int.le_refl _
theorem jX (xs:List Int)(hl:xs.length≤1099511627776):Ao Tryd.prog 47 [Ad xs] (bl (decide (Gy xs))) []:=by
 refine Cm pM rfl ?_;unfold Uo
 refine RN ?_
 refine Ak (α:=Int) (S:=fun i=>([(0,Ad xs),(3,i64 i)],[])) (C:=fun i => -1≤i∧i<xs.length∧∀ j:Nat,i≤j→j+1<xs.length→xs.getD j 0≤xs.getD (j+1) 0) (μ:=fun i=>(i+1).toNat) (xs.length - 1) ⟨by omega,by omega,fun j h1 h2=>by omega⟩ (by exact Ref.frame (by simp [sub,Ac])) ?_
 rintro i ⟨h1,h2,hall⟩
 refine RN ?_
 refine ⟨fun hc=>?_,fun hc=>?_⟩
 ·obtain ⟨i,rfl⟩:∃ k:Nat,i=(k:Int)+1:=⟨(i - 1).toNat,by omega⟩
  have e1:(i:Int)+1 - 1=i:=by omega
  have e2:((i:Int)+1).toNat=i+1:=by omega
  refine RN ?_
  simp only [e1,e2,go_sem,↓reduceIte,Nat.reduceEqDiff,Nat.reduceAdd,reduceCtorEq]
  refine RN ?_
  refine An (Sx (xs.getD (i+1) 0) (xs.getD i 0)) ?_
  refine RN ?_
  refine ⟨fun hc2=>?_,fun hc2=>?_⟩
  ·(refine RN ?_;try with_reducible exact trivial)
   rw [decide_eq_false (fun h=>by have:=h i (by omega);omega)]
  ·(refine RN ?_;try with_reducible exact trivial)
   refine ⟨i,⟨by omega,by omega,fun j h3 h4=>?_⟩,by omega,by exact Ref.frame (by simp [sub,Ac])⟩
   rcases Nat.lt_or_ge i j with h | h
   ·exact hall j (by omega) h4
   ·obtain rfl:j=i:=by omega
    exact hc2
 ·(refine RN ?_;try with_reducible exact trivial)
  rw [decide_eq_true (p:=Gy xs) (fun j h=>hall j (by omega) h)]
theorem dO (n lo hi:Int):Ao Tryd.prog 80 [i64 n,.pto [i64 lo] 0,.pto [i64 hi] 0] (bl (!(decide (lo≤n)&&decide (n≤hi)))) []:=by
 refine Cm qF rfl ?_;unfold U5
 refine RN ?_
 refine An (Ph n lo hi) ?_
 (refine RN ?_;try with_reducible exact trivial)
def Ix (p:Int→Bool)(xs:List Int):Int:=if xs.any p then xs.findIdx p else -1
theorem iA {p:Int→Bool}{xs:List Int}{i:Nat}(h:∀ j,j<i→p (xs.getD j 0)=false)(hi:i<xs.length)(he:p (xs.getD i 0)=true):Ix p xs=i:=by
 have he' : p xs[i]=true:=by simpa [hi] using he
 unfold Ix
 rw [if_pos (List.any_eq_true.2 ⟨_,List.getElem_mem hi,he'⟩)]
 congr 1
 have h1:xs.findIdx p≤i:=by
  rcases Nat.lt_or_ge i (xs.findIdx p) with h2 | h2
  ·have:=List.not_of_lt_findIdx h2
   simp [he'] at this
  ·exact h2
 rcases Nat.lt_or_ge (xs.findIdx p) i with h2 | h2
 ·have h3:=h _ h2
  have h4:p xs[xs.findIdx p]=true:=List.findIdx_getElem (w:=by omega)
  simp [show xs.findIdx p<xs.length by omega,h4] at h3
 ·omega
theorem iC {p:Int→Bool}{xs:List Int}(h:∀ j,j<xs.length→p (xs.getD j 0)=false):Ix p xs = -1:=by
 unfold Ix
 rw [if_neg]
 intro ha
 obtain ⟨x,hx,hp⟩:=List.any_eq_true.1 ha
 obtain ⟨j,hj,rfl⟩:=List.mem_iff_getElem.1 hx
 have:=h j hj
 simp [hj,hp] at this
theorem iB (p:Int→Bool)(xs:List Int):decide (0≤Ix p xs)=xs.any p:=by
 unfold Ix
 by_cases h:xs.any p=true<;>simp [h]
theorem jP (xs:List Int)(f:FuncId)(fs cs:List AV)(p:Int→Bool)(hl:xs.length≤1099511627776)(hf:∀ n,Ao Tryd.prog f (fs++[i64 n]++cs) (bl (p n)) [])(hk:Gn Tryd.prog f=true)(h1:fs.map (Ai [] 6)=fs)(h2:cs.map (Ai [] 6)=cs):Ao Tryd.prog 106 [Ad xs,.clo f fs cs] (i64 (Ix p xs)) []:=by
 refine Cm oE rfl ?_;unfold Tv
 refine RN ?_
 refine Ak (α:=Nat) (S:=fun i=>([(0,Ad xs),(1,.clo f fs cs),(6,Ad xs),(7,i64 xs.length),(8,i64 i)],[])) (C:=fun i=>i≤xs.length∧∀ j,j<i→p (xs.getD j 0)=false) (μ:=fun i=>xs.length - i) 0 ⟨by omega,by omega⟩ (by exact Ref.frame (by simp [sub,Ac])) ?_
 rintro i ⟨hi,hall⟩
 refine RN ?_
 refine ⟨fun hc=>?_,fun hc=>?_⟩
 ·(refine RN ?_;try with_reducible exact trivial)
  refine M3 (args:=fs++[i64 (xs.getD i 0)]++cs) (hf _) (by simp only [List.map_append,h1,h2,go_sem,↓reduceIte,Nat.reduceEqDiff,Nat.reduceAdd,reduceCtorEq]) rfl rfl ?_
  (try simp only [go_sem,↓reduceIte,Nat.reduceEqDiff,Nat.reduceAdd,reduceCtorEq,go_sem,↓reduceIte,Nat.reduceEqDiff,Nat.reduceAdd,reduceCtorEq])
  refine RN ?_
  refine ⟨fun hc2=>?_,fun hc2=>?_⟩
  ·(refine RN ?_;try with_reducible exact trivial)
   rw [iA hall (by omega) hc2]
  ·(refine RN ?_;try with_reducible exact trivial)
   refine ⟨i+1,⟨by omega,fun j hj=>?_⟩,by omega,by exact Ref.frame (by simp [sub,Ac])⟩
   rcases Nat.lt_or_ge j i with h | h
   ·exact hall j h
   ·obtain rfl:j=i:=by omega
    exact hc2
 ·(refine RN ?_;try with_reducible exact trivial)
  rw [iC (fun j hj=>hall j (by omega))]
theorem fX (xs:List Int)(f:FuncId)(fs cs:List AV)(p:Int→Bool)(hl:xs.length≤1099511627776)(hf:∀ n,Ao Tryd.prog f (fs++[i64 n]++cs) (bl (p n)) [])(hk:Gn Tryd.prog f=true)(h1:fs.map (Ai [] 6)=fs)(h2:cs.map (Ai [] 6)=cs)(h3:fs.map (Ai [] 5)=fs)(h4:cs.map (Ai [] 5)=cs):Ao Tryd.prog 79 [Ad xs,.clo f fs cs] (bl (xs.any p)) []:=by
 refine Cm qE rfl ?_;unfold U4
 refine RN ?_
 refine M3 (jP xs f fs cs p hl hf hk h1 h2) (by simp only [h3,h4,go_sem,↓reduceIte,Nat.reduceEqDiff,Nat.reduceAdd,reduceCtorEq]) rfl rfl ?_
 (try simp only [go_sem,↓reduceIte,Nat.reduceEqDiff,Nat.reduceAdd,reduceCtorEq,go_sem,↓reduceIte,Nat.reduceEqDiff,Nat.reduceAdd,reduceCtorEq])
 refine RN ?_
 rw [iB]
theorem dP (xs:List Int)(lo hi:Int)(hl:xs.length≤1099511627776):Ao Tryd.prog 46 [Ad xs,i64 lo,i64 hi] (bl (xs.all fun n=>decide (lo≤n)&&decide (n≤hi))) []:=by
 refine Gf pK rfl rfl ?_;unfold Un
 refine RN ?_
 refine An (fX xs 80 [] [.pto [i64 lo] 0,.pto [i64 hi] 0] (fun n=>!(decide (lo≤n)&&decide (n≤hi))) hl (fun n=>dO n lo hi) (by kernel_rfl) rfl rfl rfl rfl) ?_
 refine RN ?_
 rw [List.all_eq_not_any_not]
def lb (z:Int)(xs:List Int):Nat:=(xs.takeWhile (fun x=>decide (x<z))).length
theorem Xr {z:Int}:∀ {xs:List Int} {i:Nat},i≤xs.length→(∀ j,j<i→xs.getD j 0<z)→(i<xs.length→z≤xs.getD i 0)→lb z xs=i
 | [],i,hi,_,_=>by simp at hi;subst hi;rfl
 | x :: xs,0,_,_,h=>by
  have:z≤x:=by simpa using h (by simp)
  simp [lb,show ¬ x<z by omega]
 | x :: xs,i+1,hi,h1,h2=>by
  have hx:x<z:=by simpa using h1 0 (by omega)
  have ih:=Xr (z:=z) (xs:=xs) (i:=i) (by simpa using hi) (fun j hj=>by simpa using h1 (j+1) (by omega)) (fun h=>by simpa using h2 (by simpa using h))
  simp only [lb,List.takeWhile_cons,hx,decide_true,if_true,List.length_cons] at *
  omega
theorem vZ (n:Nat)(h:n≤4611686018427387904):Fa .shr .u64 (IntKind.wrap .u64 (n:Int)) 1=((n / 2:Nat):Int):=by
 have e:IntKind.wrap .u64 (n:Int)=n:=by
  show (if (false&&decide ((n:Int)%2^64 ≥ 2^(64 - 1)))=true then (n:Int)%2^64 - 2^64 else (n:Int)%2^64)=(n:Int)
  rw [Bool.false_and,if_neg (by decide)]
  omega
 rw [e]
 show (n:Int).fdiv (2^min (Int.toNat 1) 64)=((n / 2:Nat):Int)
 rw [show (2:Int)^min (Int.toNat 1) 64=2 by rfl,Int.fdiv_eq_ediv_of_nonneg _ (by decide)]
 omega
theorem Tl (xs:List Int)(z:Int)(hs:Gy xs)(hl:xs.length≤1099511627776):Ao Tryd.prog 48 [Ad xs,i64 z] (.tup [i64 (lb z xs),bl (decide (z∈xs))]) []:=by
 refine Cm pN rfl ?_;unfold Up
 refine RN ?_
 refine Ak (α:=Nat×Nat) (S:=fun p=>([(0,Ad xs),(1,i64 z),(6,i64 xs.length),(7,i64 p.1),(8,i64 p.2)],[])) (C:=fun p=>p.1≤p.2∧p.2≤xs.length∧(∀ j,j<p.1→xs.getD j 0<z)∧(∀ j,p.2≤j→j<xs.length→z≤xs.getD j 0)) (μ:=fun p=>p.2 - p.1) (0,xs.length) ⟨by omega,by omega,fun j hj=>by omega,fun j h1 h2=>by omega⟩ (by exact Ref.frame (by simp [sub,Ac])) ?_
 rintro ⟨l,h⟩ ⟨h1,h2,h3,h4⟩
 dsimp only at h1 h2 h3 h4
 refine RN ?_
 refine ⟨fun hc=>?_,fun hc=>?_⟩
 ·have hsh:Fa .shr .u64 (IntKind.wrap .u64 ((l:Int)+h)) 1=(((l+h) / 2:Nat):Int):=vZ (l+h) (by omega)
  refine RN ?_
  simp only [hsh,go_sem,↓reduceIte,Nat.reduceEqDiff,Nat.reduceAdd,reduceCtorEq]
  refine RN ?_
  refine An (Sx (xs.getD ((l+h) / 2) 0) z) ?_
  refine RN ?_
  refine ⟨fun hc2=>?_,fun hc2=>?_⟩
  ·(refine RN ?_;try with_reducible exact trivial)
   refine ⟨((l+h) / 2+1,h),⟨by dsimp only;omega,h2,fun j hj=>?_,h4⟩,by dsimp only;omega,by exact Ref.frame (by simp [sub,Ac])⟩
   exact Int.lt_of_le_of_lt (O6 hs (by dsimp only at hj;omega) (by omega)) hc2
  ·(refine RN ?_;try with_reducible exact trivial)
   refine ⟨(l,(l+h) / 2),⟨by dsimp only;omega,by dsimp only;omega,h3,fun j hj hj2=>?_⟩,by dsimp only;omega,by exact Ref.frame (by simp [sub,Ac])⟩
   exact Int.le_trans hc2 (O6 hs (by dsimp only at hj;omega) hj2)
 ·obtain rfl:h=l:=by omega
  refine RN ?_
  refine G2 (bl false ) (fun hg =>  jT (xs.getD h 0)) ?_
  refine RN ?_
  refine Dz (bl false) rfl ?_
  refine RN ?_
  rw [Xr h2 h3 (fun hh=>h4 h (Nat.le_refl h) hh)]
  have hm:(decide ((h:Int)<xs.length)&&xs.getD h 0 == z)=decide (z∈xs):=by
   rw [Bool.eq_iff_iff]
   simp only [Bool.and_eq_true,decide_eq_true_eq,beq_iff_eq]
   constructor
   ·rintro ⟨hh,he⟩
    have hh' : h<xs.length:=by omega
    rw [← he];simp [hh']
   ·intro hz
    obtain ⟨j,hj,he⟩:=List.mem_iff_getElem.1 hz
    have he' : xs.getD j 0=z:=by simpa [hj] using he
    have hhj:h≤j:=by
     rcases Nat.lt_or_ge j h with h' | h'
     ·have:=h3 j h'; omega
     ·exact h'
    have:=O6 hs hhj hj
    have:=h4 h (Nat.le_refl h) (by omega)
    exact ⟨by omega,by omega⟩
  rw [hm]
end
section
open Go.Gov
open Classical
def Ep (R:List Int)(B:List (List Int))(x k:Nat):Prop:=
 0≤(B.getD x []).getD k 0∧(B.getD x []).getD k 0≤(x:Int) - 1∧R.getD ((B.getD x []).getD k 0).toNat 0<R.getD x 0∧(0<k→(B.getD x []).getD (k - 1) 0<(B.getD x []).getD k 0)
def K6 (B:List (List Int))(x k:Nat):Prop:=
 ∀ j,j<(B.getD ((B.getD x []).getD k 0).toNat []).length→(B.getD ((B.getD x []).getD k 0).toNat []).getD j 0∈B.getD x []
def K3 (r:Int)(R:List Int)(x:Nat):Prop:=0≤R.getD x 0∧R.getD x 0≤r - 1∧(0<x→R.getD (x - 1) 0≤R.getD x 0)
def Sv (r:Int)(R:List Int)(B:List (List Int))(x:Nat):Prop:=K3 r R x∧∀ k,k<(B.getD x []).length→Ep R B x k∧K6 B x k
def Mt (r:Int)(R:List Int)(B:List (List Int)):Prop:=1≤r∧r≤5∧R.length≤500∧B.length=R.length
def IsPos (r:Int)(R:List Int)(B:List (List Int)):Prop:=Mt r R B∧∀ x,x<R.length→Sv r R B x
theorem Lr {B:List (List Int)}{n:Nat}(hr:∀ xs∈B,xs.length≤n)(i:Nat):(B.getD i []).length≤n:=by
 by_cases h:i<B.length
 ·rw [show B.getD i []=B[i] by simp [h]];exact hr _ (List.getElem_mem _)
 ·simp [h]
theorem Xj (r:Int)(R:List Int)(B:List (List Int))(h1:R.length≤1099511627776)(hl:B.length≤1099511627776)(hr:∀ xs∈B,xs.length≤1099511627776):Ao Tryd.prog 22 [A6 r R B] (bl (decide (IsPos r R B))) []:=by
 refine Gf oV rfl rfl ?_;unfold Ub
 refine RN ?_
 refine An (Q9 r 1 5) ?_
 refine RN ?_
 refine ⟨fun hc=>?_,fun hc=>?_⟩
 ·(refine RN ?_;try with_reducible exact trivial)
  rw [decide_eq_false (fun h=>?_)]
  obtain ⟨⟨a1,a2,a3,a4⟩,_⟩:=h
  try simp only [go_sem,↓reduceIte,Nat.reduceEqDiff,Nat.reduceAdd,reduceCtorEq,Bool.or_eq_true] at hc
  omega
 ·have hs : Mt r R B := by
    try simp only [go_sem,↓reduceIte,Nat.reduceEqDiff,Nat.reduceAdd,reduceCtorEq] at hc
    unfold Mt
    omega
  obtain ⟨a1,a2,a3,a4⟩:=hs
  refine RN ?_
  refine Ak (α:=Nat) (S:=fun x=>([(1,.ref 0 0),(3,i64 x)],[some [i64 r,Ad R,Ae B]])) (C:=fun x=>x≤R.length∧∀ j,j<x→Sv r R B j) (μ:=fun x=>R.length - x) 0 ⟨by omega,by omega⟩ (by exact Ref.frame (by simp [sub,Ac])) ?_
  rintro x ⟨hx,hall⟩
  refine RN ?_
  refine ⟨fun hc1=>?_,fun hc1=>?_⟩
  ·(refine RN ?_;try with_reducible exact trivial)
   refine An (Q9 (R.getD x 0) 0 (r - 1)) ?_
   refine RN ?_
   refine ⟨fun hc2=>?_,fun hc2=>?_⟩
   ·(refine RN ?_;try with_reducible exact trivial)
    rw [decide_eq_false (fun h=>?_)]
    obtain ⟨⟨b1,b2,b3⟩,_⟩:=h.2 x (by omega)
    try simp only [go_sem,↓reduceIte,Nat.reduceEqDiff,Nat.reduceAdd,reduceCtorEq] at hc2
    omega
   ·have hrk : K3 r R x := by
      try simp only [go_sem,↓reduceIte,Nat.reduceEqDiff,Nat.reduceAdd,reduceCtorEq] at hc2
      unfold K3
      omega
    refine RN ?_
    refine Ak (α:=Nat) (S:=fun k=>([(1,.ref 0 0),(3,i64 x),(4,i64 k)],[some [i64 r,Ad R,Ae B]])) (C:=fun k=>k≤(B.getD x []).length∧∀ j,j<k→Ep R B x j∧K6 B x j) (μ:=fun k=>(B.getD x []).length - k) 0 ⟨by omega,by omega⟩ (by exact Ref.frame (by simp [sub,Ac])) ?_
    rintro k ⟨hk,hallk⟩
    have hrow:=Lr hr x
    refine RN ?_
    refine ⟨fun hc3=>?_,fun hc3=>?_⟩
    ·(refine RN ?_;try with_reducible exact trivial)
     refine An (Q9 ((B.getD x []).getD k 0) 0 (x - 1)) ?_
     refine RN ?_
     refine ⟨fun hc4=>?_,fun hc4=>?_⟩
     ·(refine RN ?_;try with_reducible exact trivial)
      rw [decide_eq_false (fun h=>?_)]
      obtain ⟨⟨b1,b2,b3,b4⟩,_⟩:=(h.2 x (by omega)).2 k (by omega)
      try simp only [go_sem,↓reduceIte,Nat.reduceEqDiff,Nat.reduceAdd,reduceCtorEq] at hc4
      omega
     ·have hcv : Ep R B x k := by
        try simp only [go_sem,↓reduceIte,Nat.reduceEqDiff,Nat.reduceAdd,reduceCtorEq] at hc4
        unfold Ep
        omega
      have hy1:((B.getD x []).getD k 0).toNat<B.length:=by
       obtain ⟨b1,b2,_⟩:=hcv
       omega
      have hrowy:=Lr hr ((B.getD x []).getD k 0).toNat
      have hy0:0≤(B.getD x []).getD k 0:=hcv.1
      refine RN ?_
      refine Ak (α:=Nat) (S:=fun j=>([(1,.ref 0 0),(3,i64 x),(4,i64 k),(5,i64 ((B.getD x []).getD k 0)),(6,i64 j)],[some [i64 r,Ad R,Ae B]])) (C:=fun j=>j≤(B.getD ((B.getD x []).getD k 0).toNat []).length∧∀ i,i<j→(B.getD ((B.getD x []).getD k 0).toNat []).getD i 0∈B.getD x []) (μ:=fun j=>(B.getD ((B.getD x []).getD k 0).toNat []).length - j) 0 ⟨by omega,by omega⟩ (by exact Ref.frame (by simp [sub,Ac])) ?_
      rintro j ⟨hj,hallj⟩
      refine RN ?_
      refine ⟨fun hc5=>?_,fun hc5=>?_⟩
      ·(refine RN ?_;try with_reducible exact trivial)
       refine An (Q8 (B.getD x []) ((B.getD ((B.getD x []).getD k 0).toNat []).getD j 0) hrow) ?_
       refine RN ?_
       refine ⟨fun hc6=>?_,fun hc6=>?_⟩
       ·(refine RN ?_;try with_reducible exact trivial)
        rw [decide_eq_false (fun h=>?_)]
        have h2:=((h.2 x (by omega)).2 k (by omega)).2 j (by omega)
        first | exact hc6 h2 | (rw [decide_eq_true h2] at hc6;cases hc6)
       ·(refine RN ?_;try with_reducible exact trivial)
        refine ⟨j+1,⟨by omega,fun i hi=>?_⟩,by omega,by exact Ref.frame (by simp [sub,Ac])⟩
        rcases Nat.lt_or_ge i j with h | h
        ·exact hallj i h
        ·obtain rfl:i=j:=by omega
         simpa using hc6
      ·(refine RN ?_;try with_reducible exact trivial)
       refine ⟨k+1,⟨by omega,fun i hi=>?_⟩,by omega,by exact Ref.frame (by simp [sub,Ac])⟩
       rcases Nat.lt_or_ge i k with h | h
       ·exact hallk i h
       ·obtain rfl:i=k:=by omega
        exact ⟨hcv,fun j' hj' => hallj j' (by omega)⟩
    ·(refine RN ?_;try with_reducible exact trivial)
     refine ⟨x+1,⟨by omega,fun i hi=>?_⟩,by omega,by exact Ref.frame (by simp [sub,Ac])⟩
     rcases Nat.lt_or_ge i x with h | h
     ·exact hall i h
     ·obtain rfl:i=x:=by omega
      exact ⟨hrk,fun k' hk' => hallk k' (by omega)⟩
  ·(refine RN ?_;try with_reducible exact trivial)
   rw [decide_eq_true (p:=IsPos r R B) ⟨⟨a1,a2,a3,a4⟩,fun x hx=>hall x (by omega)⟩]
end
section
open Go.Gov
open Classical
set_option maxHeartbeats 4000000 in
theorem Iz (r:Int)(R:List Int)(B:List (List Int))(h1:R.length≤1099511627776)(hl:B.length≤1099511627776)(hr:∀ xs∈B,xs.length≤1099511627776):Ao Tryd.prog 20 [A6 r R B] (bl (decide (IsPos r R B))) []:=by
 refine Gf oT rfl rfl ?_;unfold T9
 refine RN ?_
 refine An (I9 R h1) ?_
 refine RN ?_
 refine An (Ph r 1 5) ?_
 refine RN ?_
 refine G2 (bl (R.all fun n=>decide (0≤n)&&decide (n≤r - 1)) ) (fun hg =>  dP R 0 (r - 1) h1) ?_
 refine RN ?_
 refine G2 (bl (decide (Gy R)) ) (fun hg =>  jX R h1) ?_
 refine RN ?_
 refine ⟨fun hc=>?_,fun hc=>?_⟩
 ·(refine RN ?_;try with_reducible exact trivial)
  rw [decide_eq_false (fun h=>?_)]
  obtain ⟨⟨b1,b2,b3,b4⟩,b5⟩:=h
  have c1:(R.all fun n=>decide (0≤n)&&decide (n≤r - 1))=true:=List.all_eq_true.2 fun n hn=>by
   obtain ⟨j,hj,rfl⟩:=List.mem_iff_getElem.1 hn
   obtain ⟨⟨d1,d2,d3⟩,_⟩:=b5 j hj
   have e:R.getD j 0=R[j]:=by simp [hj]
   rw [e] at d1 d2
   simp only [go_sem,↓reduceIte,Nat.reduceEqDiff,Nat.reduceAdd,reduceCtorEq]
   omega
  have c2:Gy R:=fun j hj=>by
   obtain ⟨⟨d1,d2,d3⟩,_⟩:=b5 (j+1) hj
   exact d3 (by omega)
  rw [c1] at hc
  try simp only [go_sem,↓reduceIte,Nat.reduceEqDiff,Nat.reduceAdd,reduceCtorEq,Bool.not_true,Bool.false_eq_true,or_false,decide_eq_true c2] at hc
  have c3:¬ (¬ Gy R):=fun h=>h c2
  have c4:¬ (true=false):=by decide
  first | omega | (rcases hc with (hc | hc) | hc<;>first | omega | exact c4 hc | exact c3 hc)
 ·obtain ⟨a1, a2, a3, a4, a5, a6⟩ : 1 ≤ r ∧ r ≤ 5 ∧ R.length ≤ 500 ∧ B.length = R.length ∧ (∀ n ∈ R, 0 ≤ n ∧ n ≤ r - 1) ∧ Gy R := by
    simp only [go_sem,↓reduceIte,Nat.reduceEqDiff,Nat.reduceAdd,reduceCtorEq,List.all_eq_true] at hc
    obtain ⟨⟨⟨⟨⟨e1,e2⟩,e3⟩,e4⟩,e5⟩,e6⟩:=hc
    exact ⟨e1,e2,by omega,by omega,e5,e6⟩
  have hrk:∀ x,x<R.length→K3 r R x:=fun x hx=>by
   have e:R.getD x 0=R[x]:=by simp [hx]
   obtain ⟨d1,d2⟩:=a5 _ (List.getElem_mem hx)
   refine ⟨by omega,by omega,fun h0=>?_⟩
   have:=a6 (x - 1) (by omega)
   rwa [show x - 1+1=x by omega] at this
  refine RN ?_
  refine Ak (α:=Nat) (S:=fun x=>([(1,.ref 0 0),(3,i64 R.length),(52,Ae B),(53,i64 B.length),(54,i64 x)],[some [i64 r,Ad R,Ae B]])) (C:=fun x=>x≤B.length∧∀ i,i<x→∀ k,k<(B.getD i []).length→Ep R B i k) (μ:=fun x=>B.length - x) 0 ⟨by omega,by omega⟩ (by exact Ref.frame (by simp [sub,Ac])) ?_
  rintro x ⟨hx,hall⟩
  refine RN ?_
  refine ⟨fun hc1=>?_,fun hc1=>?_⟩
  ·have hrow:=Lr hr x
   refine RN ?_
   refine Ak (α:=Nat) (S:=fun k=>([(1,.ref 0 0),(3,i64 R.length),(52,Ae B),(53,i64 B.length),(54,i64 x),(4,i64 x),(5,Ad (B.getD x [])),(59,Ad (B.getD x [])),(60,i64 (B.getD x []).length),(61,i64 k)],[some [i64 r,Ad R,Ae B]])) (C:=fun k=>k≤(B.getD x []).length∧∀ i,i<k→Ep R B x i) (μ:=fun k=>(B.getD x []).length - k) 0 ⟨by omega,by omega⟩ (by exact Ref.frame (by simp [sub,Ac])) ?_
   rintro k ⟨hk,hallk⟩
   refine RN ?_
   refine ⟨fun hc3=>?_,fun hc3=>?_⟩
   ·(refine RN ?_;try with_reducible exact trivial)
    refine An (Ph ((B.getD x []).getD k 0) 0 (R.length - 1)) ?_
    refine RN ?_
    refine ⟨fun hc4=>?_,fun hc4=>?_⟩
    ·(refine RN ?_;try with_reducible exact trivial)
     rw [decide_eq_false (fun h=>?_)]
     obtain ⟨⟨b1,b2,b3,b4⟩,_⟩:=(h.2 x (by omega)).2 k (by omega)
     try simp only [go_sem,↓reduceIte,Nat.reduceEqDiff,Nat.reduceAdd,reduceCtorEq] at hc4
     omega
    ·have hcv : Ep R B x k := by
       try simp only [go_sem,↓reduceIte,Nat.reduceEqDiff,Nat.reduceAdd,reduceCtorEq] at hc4
       have hy:(B.getD x []).getD k 0≤(x:Int) - 1:=by
        rcases Nat.lt_or_ge ((B.getD x []).getD k 0).toNat x with h | h
        ·omega
        ·have:=O6 a6 h (by omega)
         omega
       unfold Ep
       omega
     refine RN ?_
     refine ⟨k+1,⟨by omega,fun i hi=>?_⟩,by omega,by exact Ref.frame (by simp [sub,Ac])⟩
     rcases Nat.lt_or_ge i k with h | h
     ·exact hallk i h
     ·obtain rfl:i=k:=by omega
      exact hcv
   ·(refine RN ?_;try with_reducible exact trivial)
    refine ⟨x+1,⟨by omega,fun i hi=>?_⟩,by omega,by exact Ref.frame (by simp [sub,Ac])⟩
    rcases Nat.lt_or_ge i x with h | h
    ·exact hall i h
    ·obtain rfl:i=x:=by omega
     exact fun k' hk' => hallk k' (by omega)
  ·have hcv:∀ i,i<B.length→∀ k,k<(B.getD i []).length→Ep R B i k:=fun i hi=>hall i (by omega)
   have hsr:∀ i,i<B.length→Gy (B.getD i []):=fun i hi j hj=>by
    have:=(hcv i hi (j+1) hj).2.2.2 (by omega)
    rw [show j+1 - 1=j by omega] at this
    omega
   refine RN ?_
   refine Ak (α:=Nat) (S:=fun x=>([(1,.ref 0 0),(100,Ae B),(101,i64 B.length),(102,i64 x)],[some [i64 r,Ad R,Ae B]])) (C:=fun x=>x≤B.length∧∀ i,i<x→∀ k,k<(B.getD i []).length→K6 B i k) (μ:=fun x=>B.length - x) 0 ⟨by omega,by omega⟩ (by exact Ref.frame (by simp [sub,Ac])) ?_
   rintro x ⟨hx,hall2⟩
   refine RN ?_
   refine ⟨fun hc1=>?_,fun hc1=>?_⟩
   ·have hrow:=Lr hr x
    have hsx:=hsr x (by omega)
    refine RN ?_
    refine Ak (α:=Nat) (S:=fun k=>([(1,.ref 0 0),(100,Ae B),(101,i64 B.length),(102,i64 x),(9,Ad (B.getD x [])),(106,Ad (B.getD x [])),(107,i64 (B.getD x []).length),(108,i64 k)],[some [i64 r,Ad R,Ae B]])) (C:=fun k=>k≤(B.getD x []).length∧∀ i,i<k→K6 B x i) (μ:=fun k=>(B.getD x []).length - k) 0 ⟨by omega,by omega⟩ (by exact Ref.frame (by simp [sub,Ac])) ?_
    rintro k ⟨hk,hallk⟩
    refine RN ?_
    refine ⟨fun hc3=>?_,fun hc3=>?_⟩
    ·obtain ⟨y0,y1,y2,y3⟩:=hcv x (by omega) k (by omega)
     have hy1:((B.getD x []).getD k 0).toNat<B.length:=by omega
     have hrowy:=Lr hr ((B.getD x []).getD k 0).toNat
     refine RN ?_
     refine Ak (α:=Nat) (S:=fun j=>([(1,.ref 0 0),(100,Ae B),(101,i64 B.length),(102,i64 x),(9,Ad (B.getD x [])),(106,Ad (B.getD x [])),(107,i64 (B.getD x []).length),(108,i64 k),(116,Ad (B.getD ((B.getD x []).getD k 0).toNat [])),(117,i64 (B.getD ((B.getD x []).getD k 0).toNat []).length),(118,i64 j)],[some [i64 r,Ad R,Ae B]])) (C:=fun j=>j≤(B.getD ((B.getD x []).getD k 0).toNat []).length∧∀ i,i<j→(B.getD ((B.getD x []).getD k 0).toNat []).getD i 0∈B.getD x []) (μ:=fun j=>(B.getD ((B.getD x []).getD k 0).toNat []).length - j) 0 ⟨by omega,by omega⟩ (by exact Ref.frame (by simp [sub,Ac])) ?_
     rintro j ⟨hj,hallj⟩
     refine RN ?_
     refine ⟨fun hc5=>?_,fun hc5=>?_⟩
     ·(refine RN ?_;try with_reducible exact trivial)
      refine An (Tl (B.getD x []) ((B.getD ((B.getD x []).getD k 0).toNat []).getD j 0) hsx hrow) ?_
      refine RN ?_
      refine ⟨fun hc6=>?_,fun hc6=>?_⟩
      ·(refine RN ?_;try with_reducible exact trivial)
       rw [decide_eq_false (fun h=>?_)]
       have h2:=((h.2 x (by omega)).2 k (by omega)).2 j (by omega)
       first | exact hc6 h2 | (rw [decide_eq_true h2] at hc6;cases hc6)
      ·(refine RN ?_;try with_reducible exact trivial)
       refine ⟨j+1,⟨by omega,fun i hi=>?_⟩,by omega,by exact Ref.frame (by simp [sub,Ac])⟩
       rcases Nat.lt_or_ge i j with h | h
       ·exact hallj i h
       ·obtain rfl:i=j:=by omega
        simpa using hc6
     ·(refine RN ?_;try with_reducible exact trivial)
      refine ⟨k+1,⟨by omega,fun i hi=>?_⟩,by omega,by exact Ref.frame (by simp [sub,Ac])⟩
      rcases Nat.lt_or_ge i k with h | h
      ·exact hallk i h
      ·obtain rfl:i=k:=by omega
       exact fun j' hj' => hallj j' (by omega)
    ·(refine RN ?_;try with_reducible exact trivial)
     refine ⟨x+1,⟨by omega,fun i hi=>?_⟩,by omega,by exact Ref.frame (by simp [sub,Ac])⟩
     rcases Nat.lt_or_ge i x with h | h
     ·exact hall2 i h
     ·obtain rfl:i=x:=by omega
      exact fun k' hk' => hallk k' (by omega)
   ·(refine RN ?_;try with_reducible exact trivial)
    rw [decide_eq_true (p:=IsPos r R B) ⟨⟨a1,a2,a3,a4⟩,fun x hx=>⟨hrk x hx,fun k hk=>⟨hcv x (by omega) k hk,hall2 x (by omega) k hk⟩⟩⟩]
end
section
open Go.Gov
open Classical
theorem IsPos.rank {r:Int}{R:List Int}{B:List (List Int)}(h:IsPos r R B):1≤r∧r≤5∧R.length≤500∧B.length=R.length∧∀ x,x<R.length→0≤R.getD x 0∧R.getD x 0≤r - 1:=by
 obtain ⟨⟨a1,a2,a3,a4⟩,a5⟩:=h
 exact ⟨a1,a2,a3,a4,fun x hx=>⟨(a5 x hx).1.1,(a5 x hx).1.2.1⟩⟩
end
end Go.Proofs.YtfofabbkigonpaaDoor
