/- Texts that belong together. -/
import Derived.Test.YtcneanpkpmfaiaaGreatZn
set_option linter.unusedSimpArgs false
set_option linter.unusedVariables false
set_option maxRecDepth 100000
namespace Go.Proofs.YtcneanpkpmfaiaaGreat
section
open Go.Gov
open Classical
def It (xs:List Int):Prop:=∀ j,j+1<xs.length→xs.getD j 0≤xs.getD (j+1) 0
theorem Rv {xs:List Int}(h:It xs){i j:Nat}(hij:i≤j)(hj:j<xs.length):xs.getD i 0≤xs.getD j 0:=by
 induction j with
 | zero => obtain rfl : i = 0 := by omega
           exact Int.le_refl _
 | succ j ih=>
  rcases Nat.lt_or_ge i (j+1) with h' | h'
  ·exact Int.le_trans (ih (by omega) (by omega)) (h j hj)
  ·obtain rfl:i=j+1:=by omega
   exact Int.le_refl _
theorem qS (xs:List Int)(hl:xs.length≤1099511627776):Pure Tryz.prog 54 [Ac xs] (bl (decide (It xs))) []:=by
 refine D7 zF rfl ?_;unfold Yc
 refine RN ?_
 refine Aj (α:=Int) (S:=fun i=>([(0,Ac xs),(3,i64 i)],[])) (C:=fun i => -1≤i∧i<xs.length∧∀ j:Nat,i≤j→j+1<xs.length→xs.getD j 0≤xs.getD (j+1) 0) (μ:=fun i=>(i+1).toNat) (xs.length - 1) ⟨by omega,by omega,fun j h1 h2=>by omega⟩ (by exact Ref.frame (by simp [sub,Ab])) ?_
 rintro i ⟨h1,h2,hall⟩
 refine RN ?_
 refine ⟨fun hc=>?_,fun hc=>?_⟩
 ·obtain ⟨i,rfl⟩:∃ k:Nat,i=(k:Int)+1:=⟨(i - 1).toNat,by omega⟩
  have e1:(i:Int)+1 - 1=i:=by omega
  have e2:((i:Int)+1).toNat=i+1:=by omega
  refine RN ?_
  simp only [e1,e2,go_sem,↓reduceIte,Nat.reduceEqDiff,Nat.reduceAdd,reduceCtorEq]
  refine RN ?_
  refine Ak (V3 (xs.getD (i+1) 0) (xs.getD i 0)) ?_
  refine RN ?_
  refine ⟨fun hc2=>?_,fun hc2=>?_⟩
  ·(refine RN ?_;try with_reducible exact trivial)
   rw [decide_eq_false (fun h=>by have:=h i (by omega);omega)]
  ·(refine RN ?_;try with_reducible exact trivial)
   refine ⟨i,⟨by omega,by omega,fun j h3 h4=>?_⟩,by omega,by exact Ref.frame (by simp [sub,Ab])⟩
   rcases Nat.lt_or_ge i j with h | h
   ·exact hall j (by omega) h4
   ·obtain rfl:j=i:=by omega
    exact hc2
 ·(refine RN ?_;try with_reducible exact trivial)
  rw [decide_eq_true (p:=It xs) (fun j h=>hall j (by omega) h)]
theorem kW (n lo hi:Int):Pure Tryz.prog 69 [i64 n,.pto [i64 lo] 0,.pto [i64 hi] 0] (bl (!(decide (lo≤n)&&decide (n≤hi)))) []:=by
 refine D7 zQ rfl ?_;unfold Yn
 refine RN ?_
 refine Ak (Ox n lo hi) ?_
 (refine RN ?_;try with_reducible exact trivial)
def J8 (p:Int→Bool)(xs:List Int):Int:=if xs.any p then xs.findIdx p else -1
theorem oQ {p:Int→Bool}{xs:List Int}{i:Nat}(h:∀ j,j<i→p (xs.getD j 0)=false)(hi:i<xs.length)(he:p (xs.getD i 0)=true):J8 p xs=i:=by
 have he' : p xs[i]=true:=by simpa [hi] using he
 unfold J8
 rw [if_pos (List.any_eq_true.2 ⟨_,List.getElem_mem hi,he'⟩)]
 congr 1
 have h1:xs.findIdx p≤i:=by
  rcases Nat.lt_or_ge i (xs.findIdx p) with h2 | h2
  ·have:=List.not_of_lt_findIdx h2
   simp [he'] at this
  ·exact h2
 rcases Nat.lt_or_ge (xs.findIdx p) i with h2 | h2
 ·have h3:=h _ h2
  have h4:p xs[xs.findIdx p]=true:=List.findIdx_getElem (w:=by omega)
  simp [show xs.findIdx p<xs.length by omega,h4] at h3
 ·omega
theorem oS {p:Int→Bool}{xs:List Int}(h:∀ j,j<xs.length→p (xs.getD j 0)=false):J8 p xs = -1:=by
 unfold J8
 rw [if_neg]
 intro ha
 obtain ⟨x,hx,hp⟩:=List.any_eq_true.1 ha
 obtain ⟨j,hj,rfl⟩:=List.mem_iff_getElem.1 hx
 have:=h j hj
 simp [hj,hp] at this
theorem oR (p:Int→Bool)(xs:List Int):decide (0≤J8 p xs)=xs.any p:=by
 unfold J8
 by_cases h:xs.any p=true<;>simp [h]
theorem qN (xs:List Int)(f:FuncId)(fs cs:List AV)(p:Int→Bool)(hl:xs.length≤1099511627776)(hf:∀ n,Pure Tryz.prog f (fs++[i64 n]++cs) (bl (p n)) [])(hk:Hi Tryz.prog f=true)(h1:fs.map (Al [] 6)=fs)(h2:cs.map (Al [] 6)=cs):Pure Tryz.prog 105 [Ac xs,.clo f fs cs] (i64 (J8 p xs)) []:=by
 refine D7 wZ rfl ?_;unfold Wr
 refine RN ?_
 refine Aj (α:=Nat) (S:=fun i=>([(0,Ac xs),(1,.clo f fs cs),(6,Ac xs),(7,i64 xs.length),(8,i64 i)],[])) (C:=fun i=>i≤xs.length∧∀ j,j<i→p (xs.getD j 0)=false) (μ:=fun i=>xs.length - i) 0 ⟨by omega,by omega⟩ (by exact Ref.frame (by simp [sub,Ab])) ?_
 rintro i ⟨hi,hall⟩
 refine RN ?_
 refine ⟨fun hc=>?_,fun hc=>?_⟩
 ·(refine RN ?_;try with_reducible exact trivial)
  refine Pt (args:=fs++[i64 (xs.getD i 0)]++cs) (hf _) (by simp only [List.map_append,h1,h2,go_sem,↓reduceIte,Nat.reduceEqDiff,Nat.reduceAdd,reduceCtorEq]) rfl rfl ?_
  (try simp only [go_sem,↓reduceIte,Nat.reduceEqDiff,Nat.reduceAdd,reduceCtorEq,go_sem,↓reduceIte,Nat.reduceEqDiff,Nat.reduceAdd,reduceCtorEq])
  refine RN ?_
  refine ⟨fun hc2=>?_,fun hc2=>?_⟩
  ·(refine RN ?_;try with_reducible exact trivial)
   rw [oQ hall (by omega) hc2]
  ·(refine RN ?_;try with_reducible exact trivial)
   refine ⟨i+1,⟨by omega,fun j hj=>?_⟩,by omega,by exact Ref.frame (by simp [sub,Ab])⟩
   rcases Nat.lt_or_ge j i with h | h
   ·exact hall j h
   ·obtain rfl:j=i:=by omega
    exact hc2
 ·(refine RN ?_;try with_reducible exact trivial)
  rw [oS (fun j hj=>hall j (by omega))]
theorem nC (xs:List Int)(f:FuncId)(fs cs:List AV)(p:Int→Bool)(hl:xs.length≤1099511627776)(hf:∀ n,Pure Tryz.prog f (fs++[i64 n]++cs) (bl (p n)) [])(hk:Hi Tryz.prog f=true)(h1:fs.map (Al [] 6)=fs)(h2:cs.map (Al [] 6)=cs)(h3:fs.map (Al [] 5)=fs)(h4:cs.map (Al [] 5)=cs):Pure Tryz.prog 68 [Ac xs,.clo f fs cs] (bl (xs.any p)) []:=by
 refine D7 zP rfl ?_;unfold Ym
 refine RN ?_
 refine Pt (qN xs f fs cs p hl hf hk h1 h2) (by simp only [h3,h4,go_sem,↓reduceIte,Nat.reduceEqDiff,Nat.reduceAdd,reduceCtorEq]) rfl rfl ?_
 (try simp only [go_sem,↓reduceIte,Nat.reduceEqDiff,Nat.reduceAdd,reduceCtorEq,go_sem,↓reduceIte,Nat.reduceEqDiff,Nat.reduceAdd,reduceCtorEq])
 refine RN ?_
 rw [oR]
theorem kX (xs:List Int)(lo hi:Int)(hl:xs.length≤1099511627776):Pure Tryz.prog 53 [Ac xs,i64 lo,i64 hi] (bl (xs.all fun n=>decide (lo≤n)&&decide (n≤hi))) []:=by
 refine Bm zE rfl rfl ?_;unfold Yb
 refine RN ?_
 refine Ak (nC xs 69 [] [.pto [i64 lo] 0,.pto [i64 hi] 0] (fun n=>!(decide (lo≤n)&&decide (n≤hi))) hl (fun n=>kW n lo hi) (by kernel_rfl) rfl rfl rfl rfl) ?_
 refine RN ?_
 rw [List.all_eq_not_any_not]
def lb (z:Int)(xs:List Int):Nat:=(xs.takeWhile (fun x=>decide (x<z))).length
theorem cF {z:Int}:∀ {xs:List Int} {i:Nat},i≤xs.length→(∀ j,j<i→xs.getD j 0<z)→(i<xs.length→z≤xs.getD i 0)→lb z xs=i
 | [],i,hi,_,_=>by simp at hi;subst hi;rfl
 | x :: xs,0,_,_,h=>by
  have:z≤x:=by simpa using h (by simp)
  simp [lb,show ¬ x<z by omega]
 | x :: xs,i+1,hi,h1,h2=>by
  have hx:x<z:=by simpa using h1 0 (by omega)
  have ih:=cF (z:=z) (xs:=xs) (i:=i) (by simpa using hi) (fun j hj=>by simpa using h1 (j+1) (by omega)) (fun h=>by simpa using h2 (by simpa using h))
  simp only [lb,List.takeWhile_cons,hx,decide_true,if_true,List.length_cons] at *
  omega
theorem Adx (n:Nat)(h:n≤4611686018427387904):Da .shr .u64 (IntKind.wrap .u64 (n:Int)) 1=((n / 2:Nat):Int):=by
 have e:IntKind.wrap .u64 (n:Int)=n:=by
  show (if (false&&decide ((n:Int)%2^64 ≥ 2^(64 - 1)))=true then (n:Int)%2^64 - 2^64 else (n:Int)%2^64)=(n:Int)
  rw [Bool.false_and,if_neg (by decide)]
  omega
 rw [e]
 show (n:Int).fdiv (2^min (Int.toNat 1) 64)=((n / 2:Nat):Int)
 rw [show (2:Int)^min (Int.toNat 1) 64=2 by rfl,Int.fdiv_eq_ediv_of_nonneg _ (by decide)]
 omega
theorem lI (xs:List Int)(z:Int)(hs:It xs)(hl:xs.length≤1099511627776):Pure Tryz.prog 55 [Ac xs,i64 z] (.tup [i64 (lb z xs),bl (decide (z∈xs))]) []:=by
 refine D7 zG rfl ?_;unfold Yd
 refine RN ?_
 refine Aj (α:=Nat×Nat) (S:=fun p=>([(0,Ac xs),(1,i64 z),(6,i64 xs.length),(7,i64 p.1),(8,i64 p.2)],[])) (C:=fun p=>p.1≤p.2∧p.2≤xs.length∧(∀ j,j<p.1→xs.getD j 0<z)∧(∀ j,p.2≤j→j<xs.length→z≤xs.getD j 0)) (μ:=fun p=>p.2 - p.1) (0,xs.length) ⟨by omega,by omega,fun j hj=>by omega,fun j h1 h2=>by omega⟩ (by exact Ref.frame (by simp [sub,Ab])) ?_
 rintro ⟨l,h⟩ ⟨h1,h2,h3,h4⟩
 dsimp only at h1 h2 h3 h4
 refine RN ?_
 refine ⟨fun hc=>?_,fun hc=>?_⟩
 ·have hsh:Da .shr .u64 (IntKind.wrap .u64 ((l:Int)+h)) 1=(((l+h) / 2:Nat):Int):=Adx (l+h) (by omega)
  refine RN ?_
  simp only [hsh,go_sem,↓reduceIte,Nat.reduceEqDiff,Nat.reduceAdd,reduceCtorEq]
  refine RN ?_
  refine Ak (V3 (xs.getD ((l+h) / 2) 0) z) ?_
  refine RN ?_
  refine ⟨fun hc2=>?_,fun hc2=>?_⟩
  ·(refine RN ?_;try with_reducible exact trivial)
   refine ⟨((l+h) / 2+1,h),⟨by dsimp only;omega,h2,fun j hj=>?_,h4⟩,by dsimp only;omega,by exact Ref.frame (by simp [sub,Ab])⟩
   exact Int.lt_of_le_of_lt (Rv hs (by dsimp only at hj;omega) (by omega)) hc2
  ·(refine RN ?_;try with_reducible exact trivial)
   refine ⟨(l,(l+h) / 2),⟨by dsimp only;omega,by dsimp only;omega,h3,fun j hj hj2=>?_⟩,by dsimp only;omega,by exact Ref.frame (by simp [sub,Ab])⟩
   exact Int.le_trans hc2 (Rv hs (by dsimp only at hj;omega) hj2)
 ·obtain rfl:h=l:=by omega
  refine RN ?_
  refine Gc (bl false ) (fun hg =>  qQ (xs.getD h 0)) ?_
  refine RN ?_
  refine Au (bl false) rfl ?_
  refine RN ?_
  rw [cF h2 h3 (fun hh=>h4 h (Nat.le_refl h) hh)]
  have hm:(decide ((h:Int)<xs.length)&&xs.getD h 0 == z)=decide (z∈xs):=by
   rw [Bool.eq_iff_iff]
   simp only [Bool.and_eq_true,decide_eq_true_eq,beq_iff_eq]
   constructor
   ·rintro ⟨hh,he⟩
    have hh' : h<xs.length:=by omega
    rw [← he];simp [hh']
   ·intro hz
    obtain ⟨j,hj,he⟩:=List.mem_iff_getElem.1 hz
    have he' : xs.getD j 0=z:=by simpa [hj] using he
    have hhj:h≤j:=by
     rcases Nat.lt_or_ge j h with h' | h'
     ·have:=h3 j h'; omega
     ·exact h'
    have:=Rv hs hhj hj
    have:=h4 h (Nat.le_refl h) (by omega)
    exact ⟨by omega,by omega⟩
  rw [hm]
end
section
open Go.Gov
open Classical
def H6 (R:List Int)(B:List (List Int))(x k:Nat):Prop:=
 0≤(B.getD x []).getD k 0∧(B.getD x []).getD k 0≤(x:Int) - 1∧R.getD ((B.getD x []).getD k 0).toNat 0<R.getD x 0∧(0<k→(B.getD x []).getD (k - 1) 0<(B.getD x []).getD k 0)
def O9 (B:List (List Int))(x k:Nat):Prop:=
 ∀ j,j<(B.getD ((B.getD x []).getD k 0).toNat []).length→(B.getD ((B.getD x []).getD k 0).toNat []).getD j 0∈B.getD x []
def O8 (r:Int)(R:List Int)(x:Nat):Prop:=0≤R.getD x 0∧R.getD x 0≤r - 1∧(0<x→R.getD (x - 1) 0≤R.getD x 0)
def Vy (r:Int)(R:List Int)(B:List (List Int))(x:Nat):Prop:=O8 r R x∧∀ k,k<(B.getD x []).length→H6 R B x k∧O9 B x k
def Sn (r:Int)(R:List Int)(B:List (List Int)):Prop:=1≤r∧r≤5∧R.length≤500∧B.length=R.length
def IsPos (r:Int)(R:List Int)(B:List (List Int)):Prop:=Sn r R B∧∀ x,x<R.length→Vy r R B x
theorem Ie {B:List (List Int)}{n:Nat}(hr:∀ xs∈B,xs.length≤n)(i:Nat):(B.getD i []).length≤n:=by
 by_cases h:i<B.length
 ·rw [show B.getD i []=B[i] by simp [h]];exact hr _ (List.getElem_mem _)
 ·simp [h]
theorem Qt (r:Int)(R:List Int)(B:List (List Int))(h1:R.length≤1099511627776)(hl:B.length≤1099511627776)(hr:∀ xs∈B,xs.length≤1099511627776):Pure Tryz.prog 35 [Bo r R B] (bl (decide (IsPos r R B))) []:=by
 refine Bm yP rfl rfl ?_;unfold Xx
 refine RN ?_
 refine Ak (Gp r 1 5) ?_
 refine RN ?_
 refine ⟨fun hc=>?_,fun hc=>?_⟩
 ·(refine RN ?_;try with_reducible exact trivial)
  rw [decide_eq_false (fun h=>?_)]
  obtain ⟨⟨a1,a2,a3,a4⟩,_⟩:=h
  try simp only [go_sem,↓reduceIte,Nat.reduceEqDiff,Nat.reduceAdd,reduceCtorEq,Bool.or_eq_true] at hc
  omega
 ·have hs : Sn r R B := by
    try simp only [go_sem,↓reduceIte,Nat.reduceEqDiff,Nat.reduceAdd,reduceCtorEq] at hc
    unfold Sn
    omega
  obtain ⟨a1,a2,a3,a4⟩:=hs
  refine RN ?_
  refine Aj (α:=Nat) (S:=fun x=>([(1,.ref 0 0),(3,i64 x)],[some [i64 r,Ac R,Af B]])) (C:=fun x=>x≤R.length∧∀ j,j<x→Vy r R B j) (μ:=fun x=>R.length - x) 0 ⟨by omega,by omega⟩ (by exact Ref.frame (by simp [sub,Ab])) ?_
  rintro x ⟨hx,hall⟩
  refine RN ?_
  refine ⟨fun hc1=>?_,fun hc1=>?_⟩
  ·(refine RN ?_;try with_reducible exact trivial)
   refine Ak (Gp (R.getD x 0) 0 (r - 1)) ?_
   refine RN ?_
   refine ⟨fun hc2=>?_,fun hc2=>?_⟩
   ·(refine RN ?_;try with_reducible exact trivial)
    rw [decide_eq_false (fun h=>?_)]
    obtain ⟨⟨b1,b2,b3⟩,_⟩:=h.2 x (by omega)
    try simp only [go_sem,↓reduceIte,Nat.reduceEqDiff,Nat.reduceAdd,reduceCtorEq] at hc2
    omega
   ·have hrk : O8 r R x := by
      try simp only [go_sem,↓reduceIte,Nat.reduceEqDiff,Nat.reduceAdd,reduceCtorEq] at hc2
      unfold O8
      omega
    refine RN ?_
    refine Aj (α:=Nat) (S:=fun k=>([(1,.ref 0 0),(3,i64 x),(4,i64 k)],[some [i64 r,Ac R,Af B]])) (C:=fun k=>k≤(B.getD x []).length∧∀ j,j<k→H6 R B x j∧O9 B x j) (μ:=fun k=>(B.getD x []).length - k) 0 ⟨by omega,by omega⟩ (by exact Ref.frame (by simp [sub,Ab])) ?_
    rintro k ⟨hk,hallk⟩
    have hrow:=Ie hr x
    refine RN ?_
    refine ⟨fun hc3=>?_,fun hc3=>?_⟩
    ·(refine RN ?_;try with_reducible exact trivial)
     refine Ak (Gp ((B.getD x []).getD k 0) 0 (x - 1)) ?_
     refine RN ?_
     refine ⟨fun hc4=>?_,fun hc4=>?_⟩
     ·(refine RN ?_;try with_reducible exact trivial)
      rw [decide_eq_false (fun h=>?_)]
      obtain ⟨⟨b1,b2,b3,b4⟩,_⟩:=(h.2 x (by omega)).2 k (by omega)
      try simp only [go_sem,↓reduceIte,Nat.reduceEqDiff,Nat.reduceAdd,reduceCtorEq] at hc4
      omega
     ·have hcv : H6 R B x k := by
        try simp only [go_sem,↓reduceIte,Nat.reduceEqDiff,Nat.reduceAdd,reduceCtorEq] at hc4
        unfold H6
        omega
      have hy1:((B.getD x []).getD k 0).toNat<B.length:=by
       obtain ⟨b1,b2,_⟩:=hcv
       omega
      have hrowy:=Ie hr ((B.getD x []).getD k 0).toNat
      have hy0:0≤(B.getD x []).getD k 0:=hcv.1
      refine RN ?_
      refine Aj (α:=Nat) (S:=fun j=>([(1,.ref 0 0),(3,i64 x),(4,i64 k),(5,i64 ((B.getD x []).getD k 0)),(6,i64 j)],[some [i64 r,Ac R,Af B]])) (C:=fun j=>j≤(B.getD ((B.getD x []).getD k 0).toNat []).length∧∀ i,i<j→(B.getD ((B.getD x []).getD k 0).toNat []).getD i 0∈B.getD x []) (μ:=fun j=>(B.getD ((B.getD x []).getD k 0).toNat []).length - j) 0 ⟨by omega,by omega⟩ (by exact Ref.frame (by simp [sub,Ab])) ?_
      rintro j ⟨hj,hallj⟩
      refine RN ?_
      refine ⟨fun hc5=>?_,fun hc5=>?_⟩
      ·(refine RN ?_;try with_reducible exact trivial)
       refine Ak (Uc (B.getD x []) ((B.getD ((B.getD x []).getD k 0).toNat []).getD j 0) hrow) ?_
       refine RN ?_
       refine ⟨fun hc6=>?_,fun hc6=>?_⟩
       ·(refine RN ?_;try with_reducible exact trivial)
        rw [decide_eq_false (fun h=>?_)]
        have h2:=((h.2 x (by omega)).2 k (by omega)).2 j (by omega)
        first | exact hc6 h2 | (rw [decide_eq_true h2] at hc6;cases hc6)
       ·(refine RN ?_;try with_reducible exact trivial)
        refine ⟨j+1,⟨by omega,fun i hi=>?_⟩,by omega,by exact Ref.frame (by simp [sub,Ab])⟩
        rcases Nat.lt_or_ge i j with h | h
        ·exact hallj i h
        ·obtain rfl:i=j:=by omega
         simpa using hc6
      ·(refine RN ?_;try with_reducible exact trivial)
       refine ⟨k+1,⟨by omega,fun i hi=>?_⟩,by omega,by exact Ref.frame (by simp [sub,Ab])⟩
       rcases Nat.lt_or_ge i k with h | h
       ·exact hallk i h
       ·obtain rfl:i=k:=by omega
        exact ⟨hcv,fun j' hj' => hallj j' (by omega)⟩
    ·(refine RN ?_;try with_reducible exact trivial)
     refine ⟨x+1,⟨by omega,fun i hi=>?_⟩,by omega,by exact Ref.frame (by simp [sub,Ab])⟩
     rcases Nat.lt_or_ge i x with h | h
     ·exact hall i h
     ·obtain rfl:i=x:=by omega
      exact ⟨hrk,fun k' hk' => hallk k' (by omega)⟩
  ·(refine RN ?_;try with_reducible exact trivial)
   rw [decide_eq_true (p:=IsPos r R B) ⟨⟨a1,a2,a3,a4⟩,fun x hx=>hall x (by omega)⟩]
end
section
open Go.Gov
open Classical
set_option maxHeartbeats 4000000 in
theorem Hr (r:Int)(R:List Int)(B:List (List Int))(h1:R.length≤1099511627776)(hl:B.length≤1099511627776)(hr:∀ xs∈B,xs.length≤1099511627776):Pure Tryz.prog 30 [Bo r R B] (bl (decide (IsPos r R B))) []:=by
 refine Bm yL rfl rfl ?_;unfold Xt
 refine RN ?_
 refine Ak (gQ R h1) ?_
 refine RN ?_
 refine Ak (Ox r 1 5) ?_
 refine RN ?_
 refine Gc (bl (R.all fun n=>decide (0≤n)&&decide (n≤r - 1)) ) (fun hg =>  kX R 0 (r - 1) h1) ?_
 refine RN ?_
 refine Gc (bl (decide (It R)) ) (fun hg =>  qS R h1) ?_
 refine RN ?_
 refine ⟨fun hc=>?_,fun hc=>?_⟩
 ·(refine RN ?_;try with_reducible exact trivial)
  rw [decide_eq_false (fun h=>?_)]
  obtain ⟨⟨b1,b2,b3,b4⟩,b5⟩:=h
  have c1:(R.all fun n=>decide (0≤n)&&decide (n≤r - 1))=true:=List.all_eq_true.2 fun n hn=>by
   obtain ⟨j,hj,rfl⟩:=List.mem_iff_getElem.1 hn
   obtain ⟨⟨d1,d2,d3⟩,_⟩:=b5 j hj
   have e:R.getD j 0=R[j]:=by simp [hj]
   rw [e] at d1 d2
   simp only [go_sem,↓reduceIte,Nat.reduceEqDiff,Nat.reduceAdd,reduceCtorEq]
   omega
  have c2:It R:=fun j hj=>by
   obtain ⟨⟨d1,d2,d3⟩,_⟩:=b5 (j+1) hj
   exact d3 (by omega)
  rw [c1] at hc
  try simp only [go_sem,↓reduceIte,Nat.reduceEqDiff,Nat.reduceAdd,reduceCtorEq,Bool.not_true,Bool.false_eq_true,or_false,decide_eq_true c2] at hc
  have c3:¬ (¬ It R):=fun h=>h c2
  have c4:¬ (true=false):=by decide
  first | omega | (rcases hc with (hc | hc) | hc<;>first | omega | exact c4 hc | exact c3 hc)
 ·obtain ⟨a1, a2, a3, a4, a5, a6⟩ : 1 ≤ r ∧ r ≤ 5 ∧ R.length ≤ 500 ∧ B.length = R.length ∧ (∀ n ∈ R, 0 ≤ n ∧ n ≤ r - 1) ∧ It R := by
    simp only [go_sem,↓reduceIte,Nat.reduceEqDiff,Nat.reduceAdd,reduceCtorEq,List.all_eq_true] at hc
    obtain ⟨⟨⟨⟨⟨e1,e2⟩,e3⟩,e4⟩,e5⟩,e6⟩:=hc
    exact ⟨e1,e2,by omega,by omega,e5,e6⟩
  have hrk:∀ x,x<R.length→O8 r R x:=fun x hx=>by
   have e:R.getD x 0=R[x]:=by simp [hx]
   obtain ⟨d1,d2⟩:=a5 _ (List.getElem_mem hx)
   refine ⟨by omega,by omega,fun h0=>?_⟩
   have:=a6 (x - 1) (by omega)
   rwa [show x - 1+1=x by omega] at this
  refine RN ?_
  refine Aj (α:=Nat) (S:=fun x=>([(1,.ref 0 0),(3,i64 R.length),(52,Af B),(53,i64 B.length),(54,i64 x)],[some [i64 r,Ac R,Af B]])) (C:=fun x=>x≤B.length∧∀ i,i<x→∀ k,k<(B.getD i []).length→H6 R B i k) (μ:=fun x=>B.length - x) 0 ⟨by omega,by omega⟩ (by exact Ref.frame (by simp [sub,Ab])) ?_
  rintro x ⟨hx,hall⟩
  refine RN ?_
  refine ⟨fun hc1=>?_,fun hc1=>?_⟩
  ·have hrow:=Ie hr x
   refine RN ?_
   refine Aj (α:=Nat) (S:=fun k=>([(1,.ref 0 0),(3,i64 R.length),(52,Af B),(53,i64 B.length),(54,i64 x),(4,i64 x),(5,Ac (B.getD x [])),(59,Ac (B.getD x [])),(60,i64 (B.getD x []).length),(61,i64 k)],[some [i64 r,Ac R,Af B]])) (C:=fun k=>k≤(B.getD x []).length∧∀ i,i<k→H6 R B x i) (μ:=fun k=>(B.getD x []).length - k) 0 ⟨by omega,by omega⟩ (by exact Ref.frame (by simp [sub,Ab])) ?_
   rintro k ⟨hk,hallk⟩
   refine RN ?_
   refine ⟨fun hc3=>?_,fun hc3=>?_⟩
   ·(refine RN ?_;try with_reducible exact trivial)
    refine Ak (Ox ((B.getD x []).getD k 0) 0 (R.length - 1)) ?_
    refine RN ?_
    refine ⟨fun hc4=>?_,fun hc4=>?_⟩
    ·(refine RN ?_;try with_reducible exact trivial)
     rw [decide_eq_false (fun h=>?_)]
     obtain ⟨⟨b1,b2,b3,b4⟩,_⟩:=(h.2 x (by omega)).2 k (by omega)
     try simp only [go_sem,↓reduceIte,Nat.reduceEqDiff,Nat.reduceAdd,reduceCtorEq] at hc4
     omega
    ·have hcv : H6 R B x k := by
       try simp only [go_sem,↓reduceIte,Nat.reduceEqDiff,Nat.reduceAdd,reduceCtorEq] at hc4
       have hy:(B.getD x []).getD k 0≤(x:Int) - 1:=by
        rcases Nat.lt_or_ge ((B.getD x []).getD k 0).toNat x with h | h
        ·omega
        ·have:=Rv a6 h (by omega)
         omega
       unfold H6
       omega
     refine RN ?_
     refine ⟨k+1,⟨by omega,fun i hi=>?_⟩,by omega,by exact Ref.frame (by simp [sub,Ab])⟩
     rcases Nat.lt_or_ge i k with h | h
     ·exact hallk i h
     ·obtain rfl:i=k:=by omega
      exact hcv
   ·(refine RN ?_;try with_reducible exact trivial)
    refine ⟨x+1,⟨by omega,fun i hi=>?_⟩,by omega,by exact Ref.frame (by simp [sub,Ab])⟩
    rcases Nat.lt_or_ge i x with h | h
    ·exact hall i h
    ·obtain rfl:i=x:=by omega
     exact fun k' hk' => hallk k' (by omega)
  ·have hcv:∀ i,i<B.length→∀ k,k<(B.getD i []).length→H6 R B i k:=fun i hi=>hall i (by omega)
   have hsr:∀ i,i<B.length→It (B.getD i []):=fun i hi j hj=>by
    have:=(hcv i hi (j+1) hj).2.2.2 (by omega)
    rw [show j+1 - 1=j by omega] at this
    omega
   refine RN ?_
   refine Aj (α:=Nat) (S:=fun x=>([(1,.ref 0 0),(100,Af B),(101,i64 B.length),(102,i64 x)],[some [i64 r,Ac R,Af B]])) (C:=fun x=>x≤B.length∧∀ i,i<x→∀ k,k<(B.getD i []).length→O9 B i k) (μ:=fun x=>B.length - x) 0 ⟨by omega,by omega⟩ (by exact Ref.frame (by simp [sub,Ab])) ?_
   rintro x ⟨hx,hall2⟩
   refine RN ?_
   refine ⟨fun hc1=>?_,fun hc1=>?_⟩
   ·have hrow:=Ie hr x
    have hsx:=hsr x (by omega)
    refine RN ?_
    refine Aj (α:=Nat) (S:=fun k=>([(1,.ref 0 0),(100,Af B),(101,i64 B.length),(102,i64 x),(9,Ac (B.getD x [])),(106,Ac (B.getD x [])),(107,i64 (B.getD x []).length),(108,i64 k)],[some [i64 r,Ac R,Af B]])) (C:=fun k=>k≤(B.getD x []).length∧∀ i,i<k→O9 B x i) (μ:=fun k=>(B.getD x []).length - k) 0 ⟨by omega,by omega⟩ (by exact Ref.frame (by simp [sub,Ab])) ?_
    rintro k ⟨hk,hallk⟩
    refine RN ?_
    refine ⟨fun hc3=>?_,fun hc3=>?_⟩
    ·obtain ⟨y0,y1,y2,y3⟩:=hcv x (by omega) k (by omega)
     have hy1:((B.getD x []).getD k 0).toNat<B.length:=by omega
     have hrowy:=Ie hr ((B.getD x []).getD k 0).toNat
     refine RN ?_
     refine Aj (α:=Nat) (S:=fun j=>([(1,.ref 0 0),(100,Af B),(101,i64 B.length),(102,i64 x),(9,Ac (B.getD x [])),(106,Ac (B.getD x [])),(107,i64 (B.getD x []).length),(108,i64 k),(116,Ac (B.getD ((B.getD x []).getD k 0).toNat [])),(117,i64 (B.getD ((B.getD x []).getD k 0).toNat []).length),(118,i64 j)],[some [i64 r,Ac R,Af B]])) (C:=fun j=>j≤(B.getD ((B.getD x []).getD k 0).toNat []).length∧∀ i,i<j→(B.getD ((B.getD x []).getD k 0).toNat []).getD i 0∈B.getD x []) (μ:=fun j=>(B.getD ((B.getD x []).getD k 0).toNat []).length - j) 0 ⟨by omega,by omega⟩ (by exact Ref.frame (by simp [sub,Ab])) ?_
     rintro j ⟨hj,hallj⟩
     refine RN ?_
     refine ⟨fun hc5=>?_,fun hc5=>?_⟩
     ·(refine RN ?_;try with_reducible exact trivial)
      refine Ak (lI (B.getD x []) ((B.getD ((B.getD x []).getD k 0).toNat []).getD j 0) hsx hrow) ?_
      refine RN ?_
      refine ⟨fun hc6=>?_,fun hc6=>?_⟩
      ·(refine RN ?_;try with_reducible exact trivial)
       rw [decide_eq_false (fun h=>?_)]
       have h2:=((h.2 x (by omega)).2 k (by omega)).2 j (by omega)
       first | exact hc6 h2 | (rw [decide_eq_true h2] at hc6;cases hc6)
      ·(refine RN ?_;try with_reducible exact trivial)
       refine ⟨j+1,⟨by omega,fun i hi=>?_⟩,by omega,by exact Ref.frame (by simp [sub,Ab])⟩
       rcases Nat.lt_or_ge i j with h | h
       ·exact hallj i h
       ·obtain rfl:i=j:=by omega
        simpa using hc6
     ·(refine RN ?_;try with_reducible exact trivial)
      refine ⟨k+1,⟨by omega,fun i hi=>?_⟩,by omega,by exact Ref.frame (by simp [sub,Ab])⟩
      rcases Nat.lt_or_ge i k with h | h
      ·exact hallk i h
      ·obtain rfl:i=k:=by omega
       exact fun j' hj' => hallj j' (by omega)
    ·(refine RN ?_;try with_reducible exact trivial)
     refine ⟨x+1,⟨by omega,fun i hi=>?_⟩,by omega,by exact Ref.frame (by simp [sub,Ab])⟩
     rcases Nat.lt_or_ge i x with h | h
     ·exact hall2 i h
     ·obtain rfl:i=x:=by omega
      exact fun k' hk' => hallk k' (by omega)
   ·(refine RN ?_;try with_reducible exact trivial)
    rw [decide_eq_true (p:=IsPos r R B) ⟨⟨a1,a2,a3,a4⟩,fun x hx=>⟨hrk x hx,fun k hk=>⟨hcv x (by omega) k hk,hall2 x (by omega) k hk⟩⟩⟩]
end
section
open Go.Gov
open Classical
def C1 (r:Int)(R:List Int):List Int:=(List.range r.toNat).map fun (i:Nat)=>(R.count (i:Int):Int)
theorem mV (r:Int):C1 r []=List.replicate r.toNat 0:=by
 unfold C1
 refine List.ext_getElem (by simp) fun j h1 h2=>by simp
theorem mW {r n:Int}{l:List Int}(h0:0≤n)(h1:n<r):(C1 r l).set n.toNat ((C1 r l).getD n.toNat 0+1)=C1 r (l++[n]):=by
 unfold C1
 refine List.ext_getElem (by simp) fun j h2 h3=>?_
 have hj:j<r.toNat:=by simpa using h3
 by_cases e:n.toNat=j
 ·subst e
  have:n.toNat<r.toNat:=by omega
  simp [this,show max n 0=n by omega]
 ·rw [List.getElem_set_ne e]
  simp [show ¬ n=(j:Int) by omega]
theorem nD (r:Int)(R:List Int)(B:List (List Int))(h1:R.length≤1099511627776)(hr0:0≤r)(hr5:r≤1048576)(hR:∀ x,x<R.length→0≤R.getD x 0∧R.getD x 0≤r - 1):Pure Tryz.prog 43 [.pto [i64 r,Ac R,Af B] 0] (.sl 0 1 0 (C1 r R).length) [some (Aa (C1 r R))]:=by
 rw [show (C1 r R).length=r.toNat by simp [C1]]
 refine D7 yX rfl ?_;unfold X5
 refine RN ?_
 rw [← mV r]
 refine Aj (α:=Nat) (S:=fun x=>([(3,.sl 0 1 0 r.toNat),(14,Ac R),(15,i64 R.length),(16,i64 x)],[some (Aa (C1 r (R.take x)))])) (C:=fun x=>x≤R.length) (μ:=fun x=>R.length - x) 0 (by omega) (by simp only [List.take_zero];exact Ref.frame (by simp [sub,Ab])) ?_
 intro x hx
 have hlen:(C1 r (R.take x)).length=r.toNat:=by simp [C1]
 refine RN ?_
 refine ⟨fun hc1=>?_,fun hc1=>?_⟩
 ·obtain ⟨b1,b2⟩:=hR x (by omega)
  have hcn:0≤(C1 r (R.take x)).getD (R.getD x 0).toNat 0∧(C1 r (R.take x)).getD (R.getD x 0).toNat 0≤R.length:=by
   have h3:(R.getD x 0).toNat<r.toNat:=by omega
   have h4:List.count (((R.getD x 0).toNat:Nat):Int) (R.take x)≤(R.take x).length:=List.count_le_length
   rw [List.length_take] at h4
   have h5:(C1 r (R.take x)).getD (R.getD x 0).toNat 0=(List.count (((R.getD x 0).toNat:Nat):Int) (R.take x):Int):=by
    unfold C1
    rw [List.getD_eq_getElem?_getD,List.getElem?_map,List.getElem?_range h3]
    rfl
   rw [h5]
   omega
  refine RN ?_
  refine ⟨x+1,by omega,by omega,Ref.to ?_ (by simp [sub,Ab])⟩
  rw [mW b1 (by omega),List.take_succ_eq_append_getElem (by omega)]
  simp [show x<R.length by omega]
 ·(refine RN ?_;try with_reducible exact trivial)
  rw [show x=R.length by omega,List.take_length]
end
section
open Go.Gov
open Classical
theorem IsPos.rank {r:Int}{R:List Int}{B:List (List Int)}(h:IsPos r R B):1≤r∧r≤5∧R.length≤500∧B.length=R.length∧∀ x,x<R.length→0≤R.getD x 0∧R.getD x 0≤r - 1:=by
 obtain ⟨⟨a1,a2,a3,a4⟩,a5⟩:=h
 exact ⟨a1,a2,a3,a4,fun x hx=>⟨(a5 x hx).1.1,(a5 x hx).1.2.1⟩⟩
theorem mU (r:Int)(R:List Int):(C1 r R).length=r.toNat:=by simp [C1]
end
section
open Go.Gov Go.Sort
theorem pV {w : World} {b off n : Nat} {os : Array Obj} {cur : Array Value} {e : TypeId} {fr : Nat × Nat} (d : Array Int) (hb : w.heap[b]? = some (.cells cur e fr)) :
    (grow (putRow (Value.int .i64) (Sort.ahead w n) b off d) os).heap[b]? = some (.cells (putCells (Value.int .i64) off d cur) e fr):=by
 have hg:b<w.heap.size:=(Array.getElem?_eq_some_iff.1 hb).1
 rw [heap_grow_old _ _ (by simpa using hg)]
 simp [putRow,mapBlock,Sort.ahead,Array.getElem?_modify,hb,onCells]
theorem pU {w:World}{b off n:Nat}{os:Array Obj}(d:Array Int){k:Nat}(hk:k<w.heap.size)(hne:k≠b):(grow (putRow (Value.int .i64) (Sort.ahead w n) b off d) os).heap[k]? = w.heap[k]?:=by
 rw [heap_grow_old _ _ (by simpa using hk)]
 simp [putRow,mapBlock,Sort.ahead,Array.getElem?_modify,Ne.symm hne]
theorem Aea (xs:List Int)(hl:xs.length≤1099511627776):Fq Tryz.prog 48 [.sl 0 1 0 xs.length] [some (Aa xs)] (.tup []) [some (Aa (A9 xs))]:=by
 intro g w vals hp hl1 hr
 have h0:=hr 0 (by simp)
 simp only [List.getElem_cons_zero] at h0
 have hv:vals = #[vals.getD 0 undef]:=by
  refine Array.ext (by simpa using hl1) fun i h1 h2=>?_
  obtain rfl:i=0:=by simp at h2;exact h2
  simp [h1]
 have ho:=hp.obj 0 (Aa xs) rfl
 generalize vals.getD 0 undef=v at h0 hv
 subst hv
 have none_case:∀ a cap,xs=[]→Calls Tryz.prog 48 #[.slice a 0 cap] w fun e w' => ∃ v g' av H', e = .returned v∧Mv g [some (Aa xs)] w g' H' w' ∧ Rd w' (g'.tr H') g'.G av v []∧(false=true→Ext w w')∧av = .tup []∧H' = [some (Aa (A9 xs))]:=by
  rintro a cap rfl
  refine (AnyM.slices_Sort_int_none Tryz.sortL a cap w).mono ?_
  rintro e w' ⟨rfl,rfl⟩
  exact ⟨.tuple #[],g,.tup [],_,rfl,Mv.refl hp,.tup rfl (by simp),by simp,rfl,by simp [A9]⟩
 cases h0 with
 | sl h00 hv0 h=>
  obtain ⟨hle,hS⟩:=h _ (Gh.tr_some (g:=g) (H:=[some (Aa xs)]) (o:=0) rfl)
  dsimp only at hS hle
  cases hρ:g.ρ 0 with
  | none=>
   rw [hρ] at hS
   obtain ⟨hn,a,rfl⟩:=hS
   have hx:=List.eq_nil_of_length_eq_zero hn
   exact none_case a 0 hx
  | some l=>
   obtain ⟨b,base,sz⟩:=l
   rw [hρ] at hS ho
   obtain ⟨cap,h1,h2,h3,h4⟩:=hS
   obtain ⟨arr,elem,u,bss,hb,hsz,hbase,hc,hr2,hob⟩:=ho.cells (by omega)
   have hil:(Aa xs).length=xs.length:=by simp [Aa]
   rw [hil] at hbase
   have hu:∀ m,m<xs.length→u m = .int .i64 (xs.getD m 0)∧bss m=[]:=fun m hm=>by
    have h5:=hr2 m (by omega)
    have e:(Aa xs)[m]'(by omega)=i64 (xs.getD m 0):=by simp [Aa,hm]
    rw [e] at h5
    exact h5.val_inv
   rcases h4 with rfl | ⟨rfl,a,rfl⟩
   ·have hblk:b<w.heap.size:=(Array.getElem?_eq_some_iff.1 hb).1
    have hH:Holds (Value.int .i64) w b (base+0) xs.toArray:=fun j hj=>by
     have hj' : j<xs.length:=by simpa using hj
     obtain ⟨hu1,_⟩:=hu j hj'
     have hcj:=hc j (by omega)
     refine ⟨?_,by have h9:elem.1.2.2≤elem.1.2.1∨sz≤elem.1.2.1:=elem.2;have h11:base+j<sz:=(by omega);simp [World.frozen?,hb];intro h10;rcases h9 with h9 | h9;exact Nat.le_trans h9 h10;exact absurd (Nat.le_trans h9 h10) (by omega)⟩
     simp only [World.cell?,hb,Nat.add_zero]
     rw [show (if (none:Option Nat).isSome=true then none else arr[base+j]?)=arr[base+j]? by simp,hcj,hu1]
     simp [hj']
    refine (AnyM.slices_Sort_int Tryz.sortL b (base+0) cap xs w hH hblk (by omega)).mono ?_
    rintro e w' ⟨rfl,n,os,rfl⟩
    have hys:(xs.mergeSort fun x y=>decide (x≤y))=A9 xs:=rfl
    rw [hys]
    have hyl:=hY xs
    have hhb:=pV (w:=w) (n:=n) (os:=os) (off:=base+0) (A9 xs).toArray hb
    have hoth:=fun k (hk:k<w.heap.size) (hne:k≠b)=>pU (w:=w) (b:=b) (off:=base+0) (n:=n) (os:=os) (A9 xs).toArray hk hne
    have hsize:w.heap.size≤(grow (putRow (Value.int .i64) (Sort.ahead w n) b (base+0) (A9 xs).toArray) os).heap.size:=by simp [grow,putRow,mapBlock,Sort.ahead]
    have hos:(grow (putRow (Value.int .i64) (Sort.ahead w n) b (base+0) (A9 xs).toArray) os).os=w.os:=rfl
    have htp:(grow (putRow (Value.int .i64) (Sort.ahead w n) b (base+0) (A9 xs).toArray) os).tape=w.tape∧w.drawn≤(grow (putRow (Value.int .i64) (Sort.ahead w n) b (base+0) (A9 xs).toArray) os).drawn:=⟨rfl,Nat.le_add_right _ _⟩
    have hou:(grow (putRow (Value.int .i64) (Sort.ahead w n) b (base+0) (A9 xs).toArray) os).output=w.output:=rfl
    generalize grow (putRow (Value.int .i64) (Sort.ahead w n) b (base+0) (A9 xs).toArray) os=w' at *
    have hilY:(Aa (A9 xs)).length=xs.length:=by simp [Aa,hyl]
    have hnotO:∀ k,¬ k∈g.ob 0→k≠b:=fun k hk e=>hk (by rw [hob,e];simp)
    have hGb:¬ g.G b:=hp.free 0 _ rfl b (by rw [hob];simp)
    have htr:∀ o d,g.tr [some (Aa xs)] o=some d→g.tr [some (Aa (A9 xs))] o=some d:=fun o d hd=>by
     have hlt:=Db hd
     obtain rfl:o=0:=by simpa using hlt
     unfold Gh.tr at *
     simp only [List.getElem?_cons_zero,hil,hilY] at *
     exact hd
    have lift:∀ x v,Rd w (g.tr [some (Aa xs)]) g.G x v []→Rd w' (g.tr [some (Aa (A9 xs))]) g.G x v []:=fun x v hx=>
     hx.mono (fun _ h=>h) (fun k hk=>hoth k (hp.low k hk) (fun e=>hGb (e ▸ hk))) (fun o d h=>.inl (htr o d h)) (by simp)
    have one:∀ o cs,[some (Aa (A9 xs))][o]? = some (some cs)→o=0∧cs=Aa (A9 xs):=fun o cs h=>by
     cases o with
     | zero=>simp at h;exact ⟨rfl,h.symm⟩
     | succ o=>simp at h
    have hp' : HeapR g [some (Aa (A9 xs))] w' := by
     refine ⟨?_,?_,?_,?_,fun k hk=>Nat.lt_of_lt_of_le (hp.low k hk) hsize⟩
     ·intro o cs h5
      obtain ⟨rfl,rfl⟩:=one o cs h5
      rw [hρ]
      refine .ofCells ⟨_,elem,fun m=>.int .i64 ((A9 xs).getD m 0),fun _=>[],hhb,by simp [putCells,hsz],by omega,fun m hm=>?_,fun m hm=>?_,?_⟩
      ·rw [hilY] at hm
       have hm2:base+m<arr.size:=by omega
       simp [putCells,hm2,hyl,hm,show m<(A9 xs).length by omega]
      ·have e : (Aa (A9 xs))[m] = i64 ((A9 xs).getD m 0) := by
         rw [hilY] at hm
         simp [Aa,show m<(A9 xs).length by omega]
       rw [e];exact .val
      ·rw [hob,hilY,hil]
       congr 1
       rw [flatMap_nil]
       refine List.flatMap_eq_nil_iff.2 fun m hm=>(hu m (List.mem_range.1 hm)).2
     ·intro o cs h5
      obtain ⟨rfl,rfl⟩:=one o cs h5
      exact hp.nodup 0 _ rfl
     ·intro o o' cs cs' h5 h6 hne
      obtain ⟨rfl,rfl⟩:=one o cs h5
      obtain ⟨rfl,rfl⟩:=one o' cs' h6
      exact absurd rfl hne
     ·intro o cs h5
      obtain ⟨rfl,rfl⟩:=one o cs h5
      exact hp.free 0 _ rfl
    refine ⟨.tuple #[],g,.tup [],_,rfl,⟨hp', ⟨hos,⟨htp.1,by first | exact htp.2 | exact Nat.le_refl _⟩,hou,hsize,fun k hk hO=>hoth k hk (hnotO k fun hm=>hO ⟨0,_,rfl,hm⟩),fun k ⟨o,cs,h5,hm⟩=>?_,fun _ h=>h,fun _ h=>.inl h,fun a ha=>?_⟩,lift,fun o d h=>.inl (htr o d h)⟩,.tup rfl (by simp),by simp,rfl,rfl⟩
    ·obtain ⟨rfl,rfl⟩:=one o cs h5
     exact .inl ⟨0,_,rfl,hm⟩
    ·unfold World.frozen?
     by_cases e:a.block=b
     ·rw [e,hb,hhb]
     ·rw [hoth _ ha e]
   ·have hx:xs=[]:=List.eq_nil_of_length_eq_zero (by omega)
    exact none_case a 0 hx
end
end Go.Proofs.YtcneanpkpmfaiaaGreat
