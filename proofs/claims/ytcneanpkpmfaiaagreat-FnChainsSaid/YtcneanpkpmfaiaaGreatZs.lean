/- Texts that belong together. -/
import Derived.Test.YtcneanpkpmfaiaaGreatZq
import Derived.Test.YtcneanpkpmfaiaaGreatZr
set_option linter.unusedSimpArgs false
set_option linter.unusedVariables false
set_option maxRecDepth 100000
namespace Go.Proofs.YtcneanpkpmfaiaaGreat
section
open Go.Gov
theorem nF {xs:List Int}{e:Int}:(decide (0<xs.length)&&(xs.getD (xs.length - 1) 0 == e))=decide (xs.getLast? = some e):=by
 rw [Bool.eq_iff_iff]
 simp only [Bool.and_eq_true,decide_eq_true_eq,beq_iff_eq]
 rcases Nat.eq_zero_or_pos xs.length with h | h
 ·have:xs=[]:=List.eq_nil_of_length_eq_zero h
  subst this;simp
 ·rw [List.getLast?_eq_getElem?,List.getElem?_eq_getElem (show xs.length - 1<xs.length by omega)]
  simp [show xs.length - 1<xs.length by omega,h]
theorem lU (xs:List Int):xs.take (xs.length - 1)=xs.dropLast:=by rw [List.dropLast_eq_take]
theorem H6 (xs:List Int)(hl:xs.length≤1099511627776):Fa Tryz.prog 24 [.sl 0 1 0 xs.length] [some (Aa xs)] (.sl 1 1 0 (Ep xs).length) [some (Aa (Bf xs)),some (Aa (Ep xs))]:=by
 refine Ad3 [0,1] wB rfl ?_;unfold Wr
 refine RN ?_
 refine Jg (Aci xs hl) [0] ?_
 have hyl:=eR xs
 refine RN ?_
 refine Aj (α:=Nat) (S:=fun k=>([(8,.sl 0 1 0 xs.length),(9,i64 xs.length),(10,i64 k),(3,.sl 1 1 0 (((Bf xs).take k).foldl push []).length)],[some (Aa (Bf xs)),some (Aa (((Bf xs).take k).foldl push []))])) (C:=fun k=>k≤xs.length) (μ:=fun k=>xs.length - k) 0 (by omega) ((Ref.nil 3 1 rfl).trans (Ref.to (by simp [Aa]) (by simp [sub,Ab]))) ?_
 intro k hk
 have hol:=dM ((Bf xs).take k) []
 have hst:k<xs.length→((Bf xs).take (k+1)).foldl push []=push (((Bf xs).take k).foldl push []) ((Bf xs).getD k 0):=fun h=>by
  rw [List.take_succ_eq_append_getElem (by omega),List.foldl_append]
  simp [show k<(Bf xs).length by omega]
 simp only [List.length_nil,List.length_take] at hol
 generalize hL:((Bf xs).take k).foldl push []=L at hol hst ⊢
 refine RN ?_
 refine ⟨fun hc=>?_,fun hc=>?_⟩
 ·have hst' := hst (by omega)
  refine RN ?_
  have hgl:=nF (xs:=L) (e:=(Bf xs).getD k 0)
  refine ⟨fun hc2=>?_,fun hc2=>?_⟩
  ·have hlast : L.getLast? = some ((Bf xs).getD k 0) := by
     have:(decide (0<L.length)&&(L.getD (L.length - 1) 0 == (Bf xs).getD k 0))=true:=by simpa using hc2
     rw [hgl] at this;exact of_decide_eq_true this
   have hpos:0<L.length:=by
    rcases Nat.eq_zero_or_pos L.length with h | h
    ·rw [List.eq_nil_of_length_eq_zero h] at hlast;simp at hlast
    ·exact h
   have e:push L ((Bf xs).getD k 0)=L.dropLast:=by simp only [push,hlast,if_true]
   refine RN ?_
   refine ⟨k+1,by omega,by omega,?_⟩
   rw [hst', e]
   refine (Ref.cut 1 (L.length - 1) 3 (cs:=Aa L) rfl (by simp [Aa]) rfl (by omega)).trans (Ref.gc [0,2] rfl ?_ (by simp [sub,Ab,go_sem,↓reduceIte,Nat.reduceEqDiff,Nat.reduceAdd,reduceCtorEq]))
   (try simp only [go_sem,↓reduceIte,Nat.reduceEqDiff,Nat.reduceAdd,reduceCtorEq,eX,lU,List.cons_append,List.nil_append])
  ·have hlast : ¬ L.getLast? = some ((Bf xs).getD k 0) := fun h => by
     have:(decide (0<L.length)&&(L.getD (L.length - 1) 0 == (Bf xs).getD k 0))=false:=by
      rw [Bool.and_eq_false_iff]
      rcases hc2 with hc2 | hc2
      ·left;first | exact decide_eq_false (by omega) | exact hc2
      ·right;first | exact beq_eq_false_iff_ne.2 hc2 | exact hc2
     rw [hgl,decide_eq_true h] at this;cases this
   have e:push L ((Bf xs).getD k 0)=L++[(Bf xs).getD k 0]:=by simp only [push,if_neg hlast]
   refine RN ?_
   refine ⟨k+1,by omega,by omega,?_⟩
   rw [hst', e]
   refine Ref.gc [0,3] rfl ?_ (by simp [sub,Ab,go_sem,↓reduceIte,Nat.reduceEqDiff,Nat.reduceAdd,reduceCtorEq])
   (try simp only [go_sem,↓reduceIte,Nat.reduceEqDiff,Nat.reduceAdd,reduceCtorEq,Jc,H7,Gg])
 ·obtain rfl:k=xs.length:=by omega
  have e:L=Ep xs:=by rw [← hL,← hyl,List.take_length];rfl
  subst e
  (refine RN ?_;try with_reducible exact trivial)
  (try simp only [go_sem,↓reduceIte,Nat.reduceEqDiff,Nat.reduceAdd,reduceCtorEq,and_self])
end
section
open Go.Gov
open Classical
def Ih (R:List Int)(i:Int)(c:List Int)(k:Nat):Prop:=0≤c.getD k 0∧c.getD k 0≤(R.length:Int) - 1∧R.getD (c.getD k 0).toNat 0=i∧(0<k→c.getD (k - 1) 0<c.getD k 0)
def ChOk (R:List Int)(i:Int)(c:List Int):Prop:=∀ k,k<c.length→Ih R i c k
theorem rH (r:Int)(R:List Int)(B:List (List Int))(i:Int)(c:List Int)(h1:R.length≤1099511627776)(hc:c.length≤1099511627776):Pure Tryz.prog 67 [A6 r R B,i64 i,Ac c] (bl (decide (ChOk R i c))) []:=by
 refine Bj xH rfl rfl ?_;unfold Xj
 refine RN ?_
 refine Aj (α:=Nat) (S:=fun k=>([(1,i64 i),(2,Ac c),(3,.ref 0 0),(7,i64 k)],[some [i64 r,Ac R,Ae B]])) (C:=fun k=>k≤c.length∧∀ j,j<k→Ih R i c j) (μ:=fun k=>c.length - k) 0 ⟨by omega,by omega⟩ (by exact Ref.frame (by simp [sub,Ab])) ?_
 rintro k ⟨hk,hall⟩
 refine RN ?_
 refine ⟨fun hc1=>?_,fun hc1=>?_⟩
 ·(refine RN ?_;try with_reducible exact trivial)
  refine Am (Ey (c.getD k 0) 0 (R.length - 1)) ?_
  refine RN ?_
  refine ⟨fun hc2=>?_,fun hc2=>?_⟩
  ·(refine RN ?_;try with_reducible exact trivial)
   rw [decide_eq_false (fun h=>?_)]
   obtain ⟨b1,b2,b3,b4⟩:=h k (by omega)
   try simp only [go_sem,↓reduceIte,Nat.reduceEqDiff,Nat.reduceAdd,reduceCtorEq] at hc2
   omega
  ·have hcv : Ih R i c k := by
     try simp only [go_sem,↓reduceIte,Nat.reduceEqDiff,Nat.reduceAdd,reduceCtorEq] at hc2
     unfold Ih
     omega
   refine RN ?_
   refine ⟨k+1,⟨by omega,fun j hj=>?_⟩,by omega,by exact Ref.frame (by simp [sub,Ab])⟩
   rcases Nat.lt_or_ge j k with h | h
   ·exact hall j h
   ·obtain rfl:j=k:=by omega
    exact hcv
 ·(refine RN ?_;try with_reducible exact trivial)
  rw [decide_eq_true (p:=ChOk R i c) (fun j hj=>hall j (by omega))]
noncomputable def A3 (r:Int)(R:List Int)(B:List (List Int))(i:Int)(cs:List (List Int)):Int:=
 if IsPos r R B then if (0≤i∧i≤r - 1)∧∀ c∈cs,ChOk R i c then 0 else 2 else 1
theorem aG (r:Int)(R:List Int)(B:List (List Int))(i:Int)(c:List Int)(h1:R.length≤1099511627776)(hl:B.length≤1099511627776)(hr:∀ xs∈B,xs.length≤1099511627776)(hc:c.length≤1099511627776):Pure Tryz.prog 50 [A6 r R B,i64 i,Ac c] (i64 (A3 r R B i [c])) []:=by
 unfold A3
 by_cases hp:IsPos r R B
 ·have hpd:decide (IsPos r R B)=true:=decide_eq_true hp
  obtain ⟨a1,a2,a3,a4,hrk⟩:=hp.rank
  rw [if_pos hp]
  refine Bj cM rfl rfl ?_;unfold R8
  refine RN ?_
  refine Am (Tj r R B h1 hl hr) ?_
  simp only [hpd,go_sem,↓reduceIte,Nat.reduceEqDiff,Nat.reduceAdd,reduceCtorEq]
  refine RN ?_
  refine Am (Ey i 0 (r - 1)) ?_
  refine RN ?_
  refine G1 (bl (decide (ChOk R i c)) ) (fun hg =>  rH r R B i c h1 hc) ?_
  refine RN ?_
  refine ⟨fun hc2=>?_,fun hc2=>?_⟩
  ·(refine RN ?_;try with_reducible exact trivial)
   rw [if_neg]
   try simp only [go_sem,↓reduceIte,Nat.reduceEqDiff,Nat.reduceAdd,reduceCtorEq] at hc2
   rintro ⟨h5,h6⟩
   have:=h6 c (by simp)
   rcases hc2 with h | h
   ·omega
   ·exact h this
  ·(refine RN ?_;try with_reducible exact trivial)
   rw [if_pos]
   try simp only [go_sem,↓reduceIte,Nat.reduceEqDiff,Nat.reduceAdd,reduceCtorEq] at hc2
   exact ⟨by omega,fun x hx=>by simp at hx;subst hx;exact hc2.2⟩
 ·have hpd:decide (IsPos r R B)=false:=decide_eq_false hp
  rw [if_neg hp]
  refine Bj cM rfl rfl ?_;unfold R8
  refine RN ?_
  refine Am (Tj r R B h1 hl hr) ?_
  simp only [hpd,go_sem,↓reduceIte,Nat.reduceEqDiff,Nat.reduceAdd,reduceCtorEq]
  (refine RN ?_;try with_reducible exact trivial)
theorem kJ (r:Int)(R:List Int)(B:List (List Int))(i:Int)(a b:List Int):A3 r R B i [a,b]=if A3 r R B i [a]=0 then A3 r R B i [b] else A3 r R B i [a]:=by
 unfold A3
 by_cases hp:IsPos r R B
 ·simp only [if_pos hp,List.forall_mem_cons,List.not_mem_nil,false_implies,implies_true,and_true]
  by_cases h1:0≤i∧i≤r - 1<;>by_cases h2:ChOk R i a<;>by_cases h3:ChOk R i b<;>simp [h1,h2,h3]
 ·simp [if_neg hp]
theorem Pv (r:Int)(R:List Int)(B:List (List Int))(i:Int)(a b:List Int)(h1:R.length≤1099511627776)(hl:B.length≤1099511627776)(hr:∀ xs∈B,xs.length≤1099511627776)(ha:a.length≤1099511627776)(hb:b.length≤1099511627776):Pure Tryz.prog 26 [A6 r R B,i64 i,Ac a,Ac b] (i64 (A3 r R B i [a,b])) []:=by
 rw [kJ]
 refine Bj wD rfl rfl ?_;unfold Wt
 refine RN ?_
 refine Am (aG r R B i a h1 hl hr ha) ?_
 refine RN ?_
 refine ⟨fun hc2=>?_,fun hc2=>?_⟩
 ·(refine RN ?_;try with_reducible exact trivial)
  rw [if_neg (by simpa using hc2)]
 ·(refine RN ?_;try with_reducible exact trivial)
  refine Am (aG r R B i b h1 hl hr hb) ?_
  refine RN ?_
  rw [if_pos (by simpa using hc2)]
theorem Gk (r:Int)(R:List Int)(B:List (List Int))(i:Int)(cs:List (List Int))(h1:R.length≤1099511627776)(hl:B.length≤1099511627776)(hr:∀ xs∈B,xs.length≤1099511627776)(hcs:cs.length≤1099511627776)(hcr:∀ xs∈cs,xs.length≤1099511627776):Pure Tryz.prog 23 [A6 r R B,i64 i,Ae cs] (i64 (A3 r R B i cs)) []:=by
 unfold A3
 by_cases hp:IsPos r R B
 ·have hpd:decide (IsPos r R B)=true:=decide_eq_true hp
  obtain ⟨a1,a2,a3,a4,hrk⟩:=hp.rank
  rw [if_pos hp]
  refine Bj cH rfl rfl ?_;unfold R5
  refine RN ?_
  refine Am (Ta r R B h1 hl hr) ?_
  simp only [hpd,go_sem,↓reduceIte,Nat.reduceEqDiff,Nat.reduceAdd,reduceCtorEq]
  refine RN ?_
  refine Am (Nv i 0 (r - 1)) ?_
  refine RN ?_
  refine ⟨fun hc2=>?_,fun hc2=>?_⟩
  ·(refine RN ?_;try with_reducible exact trivial)
   rw [if_neg]
   try simp only [go_sem,↓reduceIte,Nat.reduceEqDiff,Nat.reduceAdd,reduceCtorEq] at hc2
   rintro ⟨h5,h6⟩
   omega
  ·have hi : 0 ≤ i ∧ i ≤ r - 1 := by
     try simp only [go_sem,↓reduceIte,Nat.reduceEqDiff,Nat.reduceAdd,reduceCtorEq] at hc2
     omega
   refine RN ?_
   refine Aj (α:=Nat) (S:=fun x=>([(1,i64 i),(3,.ref 0 0),(20,Ae cs),(21,i64 cs.length),(22,i64 x)],[some [i64 r,Ac R,Ae B]])) (C:=fun x=>x≤cs.length∧∀ j,j<x→ChOk R i (cs.getD j [])) (μ:=fun x=>cs.length - x) 0 ⟨by omega,by omega⟩ (by exact Ref.frame (by simp [sub,Ab])) ?_
   rintro x ⟨hx,hall⟩
   refine RN ?_
   refine ⟨fun hc3=>?_,fun hc3=>?_⟩
   ·have hrow:=Hr hcr x
    have hmem:cs.getD x []∈cs:=by
     rw [show cs.getD x []=cs[x]'(by omega) by simp [show x<cs.length by omega]]
     exact List.getElem_mem _
    refine RN ?_
    refine Aj (α:=Nat) (S:=fun k=>([(1,i64 i),(3,.ref 0 0),(20,Ae cs),(21,i64 cs.length),(22,i64 x),(8,Ac (cs.getD x [])),(26,Ac (cs.getD x [])),(27,i64 (cs.getD x []).length),(28,i64 k)],[some [i64 r,Ac R,Ae B]])) (C:=fun k=>k≤(cs.getD x []).length∧∀ j,j<k→Ih R i (cs.getD x []) j) (μ:=fun k=>(cs.getD x []).length - k) 0 ⟨by omega,by omega⟩ (by exact Ref.frame (by simp [sub,Ab])) ?_
    rintro k ⟨hk,hallk⟩
    refine RN ?_
    refine ⟨fun hc4=>?_,fun hc4=>?_⟩
    ·(refine RN ?_;try with_reducible exact trivial)
     refine Am (eM R h1) ?_
     refine RN ?_
     refine Am (Nv ((cs.getD x []).getD k 0) 0 (R.length - 1)) ?_
     refine RN ?_
     refine ⟨fun hc5=>?_,fun hc5=>?_⟩
     ·(refine RN ?_;try with_reducible exact trivial)
      rw [if_neg]
      rintro ⟨_,h6⟩
      obtain ⟨b1,b2,b3,b4⟩:=h6 _ hmem k (by omega)
      try simp only [go_sem,↓reduceIte,Nat.reduceEqDiff,Nat.reduceAdd,reduceCtorEq] at hc5
      omega
     ·have hcv : Ih R i (cs.getD x []) k := by
        try simp only [go_sem,↓reduceIte,Nat.reduceEqDiff,Nat.reduceAdd,reduceCtorEq] at hc5
        unfold Ih
        omega
      refine RN ?_
      refine ⟨k+1,⟨by omega,fun j hj=>?_⟩,by omega,by exact Ref.frame (by simp [sub,Ab])⟩
      rcases Nat.lt_or_ge j k with h | h
      ·exact hallk j h
      ·obtain rfl:j=k:=by omega
       exact hcv
    ·(refine RN ?_;try with_reducible exact trivial)
     refine ⟨x+1,⟨by omega,fun j hj=>?_⟩,by omega,by exact Ref.frame (by simp [sub,Ab])⟩
     rcases Nat.lt_or_ge j x with h | h
     ·exact hall j h
     ·obtain rfl:j=x:=by omega
      exact fun k' hk' => hallk k' (by omega)
   ·(refine RN ?_;try with_reducible exact trivial)
    rw [if_pos]
    refine ⟨hi,fun c hcm=>?_⟩
    obtain ⟨j,hj,rfl⟩:=List.mem_iff_getElem.1 hcm
    have:=hall j (by omega)
    rwa [show cs.getD j []=cs[j] by simp [hj]] at this
 ·have hpd:decide (IsPos r R B)=false:=decide_eq_false hp
  rw [if_neg hp]
  refine Bj cH rfl rfl ?_;unfold R5
  refine RN ?_
  refine Am (Ta r R B h1 hl hr) ?_
  simp only [hpd,go_sem,↓reduceIte,Nat.reduceEqDiff,Nat.reduceAdd,reduceCtorEq]
  (refine RN ?_;try with_reducible exact trivial)
end
section
open Go.Gov
open Classical
theorem K0 (a:List Int)(i:Nat)(h:i<a.length):a.drop i=a.getD i 0 :: a.drop (i+1):=by
 rw [List.drop_eq_getElem_cons h];simp [h]
theorem Adb {a b:List Int}{i k:Nat}(h:i<a.length)(hk:b.length≤k∨(k<b.length∧a.getD i 0<b.getD k 0)):Ag (a.drop i) (b.drop k)=a.getD i 0 :: Ag (a.drop (i+1)) (b.drop k):=by
 rw [K0 a i h]
 rcases hk with hk | ⟨hk,hlt⟩
 ·rw [List.drop_eq_nil_of_le hk,Gv,Gv]
 ·rw [K0 b k hk]
  conv=>lhs;unfold Ag
  rw [if_pos hlt]
theorem Adc {a b:List Int}{i k:Nat}(h:k<b.length)(hk:a.length≤i∨(i<a.length∧b.getD k 0<a.getD i 0)):Ag (a.drop i) (b.drop k)=b.getD k 0 :: Ag (a.drop i) (b.drop (k+1)):=by
 rw [K0 b k h]
 rcases hk with hk | ⟨hk,hlt⟩
 ·rw [List.drop_eq_nil_of_le hk];simp [Ag]
 ·rw [K0 a i hk]
  conv=>lhs;unfold Ag
  rw [if_neg (by omega),if_pos hlt]
theorem Ade {a b:List Int}{i k:Nat}(h:i<a.length)(hk:k<b.length)(he:a.getD i 0=b.getD k 0):Ag (a.drop i) (b.drop k)=Ag (a.drop (i+1)) (b.drop (k+1)):=by
 rw [K0 a i h,K0 b k hk]
 conv=>lhs;unfold Ag
 rw [if_neg (by omega),if_neg (by omega)]
theorem Ms {f:FuncId}{args:List AV}{xs:List Int}(h:Pure Tryz.prog f args (.sl 0 1 0 xs.length) [some (Aa xs)]):Fresh Tryz.prog f args (Ac xs):=
 Fresh.of h 6 rfl (by simp only [go_sem,↓reduceIte,Nat.reduceEqDiff,Nat.reduceAdd,reduceCtorEq]) (by
  have e:D7 id 6 [some (Aa xs)]=[some (Aa xs)]:=by simp only [D7,List.map_cons,List.map_nil,Option.map_some,Tw]
  rw [e]
  simp only [shr,id,Ak,go_sem,↓reduceIte,Nat.reduceEqDiff,Nat.reduceAdd,reduceCtorEq])
set_option maxHeartbeats 1000000 in
theorem Jx (a b:List Int)(ha:a.length≤549755813888)(hb:b.length≤549755813888):Pure Tryz.prog 27 [Ac a,Ac b] (.sl 0 1 0 (Ag a b).length) [some (Aa (Ag a b))]:=by
 refine Gc [0] wE rfl ?_;unfold Wu
 refine RN ?_
 refine Aj (α:=Nat×Nat×List Int) (S:=fun p=>([(0,Ac a),(1,Ac b),(5,.sl 0 1 0 p.2.2.length),(6,i64 p.1),(7,i64 p.2.1)],[some (Aa p.2.2)])) (C:=fun p=>p.1≤a.length∧p.2.1≤b.length∧p.2.2++Ag (a.drop p.1) (b.drop p.2.1)=Ag a b) (μ:=fun p=>(a.length - p.1)+(b.length - p.2.1)) (0,0,[]) ⟨Nat.zero_le _,Nat.zero_le _,by simp⟩ (Ref.to (by simp [Aa]) (by simp [sub,Ab])) ?_
 rintro ⟨i,k,O⟩ ⟨hi,hk,hO⟩
 dsimp only at hi hk hO
 have hOl:O.length≤a.length+b.length:=by
  have h1:=Lq a b
  have h2:=congrArg List.length hO
  rw [List.length_append] at h2
  omega
 refine RN ?_
 refine ⟨fun hc=>?_,fun hc=>?_⟩
 ·have hc' : i < a.length ∨ k < b.length := by
    try simp only [go_sem,↓reduceIte,Nat.reduceEqDiff,Nat.reduceAdd,reduceCtorEq] at hc
    omega
  refine RN ?_
  refine ⟨fun hc1=>?_,fun hc1=>?_⟩
  ·have h1 : i < a.length := by
     try simp only [go_sem,↓reduceIte,Nat.reduceEqDiff,Nat.reduceAdd,reduceCtorEq] at hc1
     omega
   have h2:b.length≤k∨(k<b.length∧a.getD i 0<b.getD k 0):=by
    try simp only [go_sem,↓reduceIte,Nat.reduceEqDiff,Nat.reduceAdd,reduceCtorEq] at hc1
    omega
   have hs:=Adb h1 h2
   refine RN ?_
   refine ⟨(i+1,k,O++[a.getD i 0]),⟨by dsimp only;omega,hk,?_⟩,by dsimp only;omega,?_⟩
   ·dsimp only
    rw [← hO,hs];simp
   ·refine Ref.gc [2] rfl ?_ (by simp [sub,Ab,go_sem,↓reduceIte,Nat.reduceEqDiff,Nat.reduceAdd,reduceCtorEq])
    (try simp only [go_sem,↓reduceIte,Nat.reduceEqDiff,Nat.reduceAdd,reduceCtorEq,Jc,H7,Gg])
  ·have hk1 : k < b.length := by
     try simp only [go_sem,↓reduceIte,Nat.reduceEqDiff,Nat.reduceAdd,reduceCtorEq] at hc1
     omega
   refine RN ?_
   refine ⟨fun hc2=>?_,fun hc2=>?_⟩
   ·have h2 : a.length ≤ i ∨ (i < a.length ∧ b.getD k 0 < a.getD i 0) := by
      try simp only [go_sem,↓reduceIte,Nat.reduceEqDiff,Nat.reduceAdd,reduceCtorEq] at hc2
      omega
    have hs:=Adc hk1 h2
    refine RN ?_
    refine ⟨(i,k+1,O++[b.getD k 0]),⟨hi,by dsimp only;omega,?_⟩,by dsimp only;omega,?_⟩
    ·dsimp only
     rw [← hO,hs];simp
    ·refine Ref.gc [2] rfl ?_ (by simp [sub,Ab,go_sem,↓reduceIte,Nat.reduceEqDiff,Nat.reduceAdd,reduceCtorEq])
     (try simp only [go_sem,↓reduceIte,Nat.reduceEqDiff,Nat.reduceAdd,reduceCtorEq,Jc,H7,Gg])
   ·have h2 : i < a.length ∧ a.getD i 0 = b.getD k 0 := by
      try simp only [go_sem,↓reduceIte,Nat.reduceEqDiff,Nat.reduceAdd,reduceCtorEq] at hc1 hc2
      omega
    have hs:=Ade h2.1 hk1 h2.2
    refine RN ?_
    refine ⟨(i+1,k+1,O),⟨by dsimp only;omega,by dsimp only;omega,?_⟩,by dsimp only;omega,by exact Ref.frame (by simp [sub,Ab])⟩
    dsimp only
    rw [← hO,hs]
 ·have hc' : i = a.length ∧ k = b.length := by
    try simp only [go_sem,↓reduceIte,Nat.reduceEqDiff,Nat.reduceAdd,reduceCtorEq] at hc
    omega
  obtain ⟨rfl,rfl⟩:=hc'
  have:O=Ag a b:=by
   rw [← hO];simp [Ag]
  subst this
  (refine RN ?_;try with_reducible exact trivial)
  (try simp only [go_sem,↓reduceIte,Nat.reduceEqDiff,Nat.reduceAdd,reduceCtorEq,and_self])
theorem rP (a b:List Int)(ha:a.length≤549755813888)(hb:b.length≤549755813888):Fresh Tryz.prog 27 [Ac a,Ac b] (Ac (Ag a b)):=Ms (Jx a b ha hb)
def B6 (R:List Int)(e d:Int):Bool:=R.getD d.toNat 0 == R.getD e.toNat 0 - 1
def At (R:List Int)(B:List (List Int))(e:Int):List Int:=(B.getD e.toNat []).filter (B6 R e)
def L3 (R:List Int)(B:List (List Int)):Prop:=∀ x,x<B.length→∀ k,k<(B.getD x []).length→0≤(B.getD x []).getD k 0∧(B.getD x []).getD k 0≤(R.length:Int) - 1
theorem IsPos.rows {r:Int}{R:List Int}{B:List (List Int)}(h:IsPos r R B):L3 R B∧∀ x,sst (B.getD x []):=by
 obtain ⟨⟨a1,a2,a3,a4⟩,a5⟩:=h
 refine ⟨fun x hx k hk=>?_,fun x=>eT fun j hj=>?_⟩
 ·obtain ⟨b1,b2,b3,b4⟩:=((a5 x (by omega)).2 k hk).1
  omega
 ·by_cases hx:x<B.length
  ·have:=(((a5 x (by omega)).2 (j+1) hj).1).2.2.2 (by omega)
   simpa using this
  ·simp [hx] at hj
theorem Gj {R:List Int}{B:List (List Int)}(h:∀ x,sst (B.getD x []))(e:Int):sst (At R B e):=(h e.toNat).sublist List.filter_sublist
theorem Sm {p:Int→Bool}{xs:List Int}{k:Nat}(h:k<xs.length):(xs.take (k+1)).filter p=if p (xs.getD k 0) then (xs.take k).filter p++[xs.getD k 0] else (xs.take k).filter p:=by
 rw [List.take_succ_eq_append_getElem h,List.filter_append,show xs.getD k 0=xs[k] by simp [h]]
 by_cases hp:p xs[k]=true<;>simp [hp]
theorem Sl {p:Int→Bool}(xs:List Int)(k:Nat):((xs.take k).filter p).length≤k:=by
 have h1:=List.length_filter_le p (xs.take k)
 rw [List.length_take] at h1;omega
theorem aF (r : Int) (R : List Int) (B : List (List Int)) (e : Int) (h1 : R.length ≤ 1048576) (hl : B.length = R.length) (hr : ∀ xs ∈ B, xs.length ≤ 1048576) (hok : L3 R B) (hR : ∀ x, x < R.length → 0 ≤ R.getD x 0 ∧ R.getD x 0 ≤ 1048576) (he : 0 ≤ e) (he2 : e ≤ (R.length : Int) - 1) :
    Pure Tryz.prog 64 [A6 r R B,i64 e] (.sl 0 1 0 (At R B e).length) [some (Aa (At R B e))]:=by
 have hrow:=Hr hr e.toNat
 have hRe:=hR e.toNat (by omega)
 unfold At
 refine Gc [1] xG rfl ?_;unfold Xi
 refine RN ?_
 refine Aj (α:=Nat) (S:=fun k=>([(1,i64 e),(2,.ref 0 0),(5,.sl 1 1 0 (((B.getD e.toNat []).take k).filter (B6 R e)).length),(6,i64 k)],[some [i64 r,Ac R,Ae B],some (Aa (((B.getD e.toNat []).take k).filter (B6 R e)))])) (C:=fun k=>k≤(B.getD e.toNat []).length) (μ:=fun k=>(B.getD e.toNat []).length - k) 0 (by omega) (Ref.to (by simp [Aa]) (by simp [sub,Ab])) ?_
 intro k hk
 have hfl:=Sl (p:=B6 R e) (B.getD e.toNat []) k
 refine RN ?_
 refine ⟨fun hc=>?_,fun hc=>?_⟩
 ·have hd:=hok e.toNat (by omega) k (by omega)
  have hf:=Sm (p:=B6 R e) (xs:=B.getD e.toNat []) (k:=k) (by omega)
  have hRd:=hR ((B.getD e.toNat []).getD k 0).toNat (by omega)
  refine RN ?_
  refine ⟨fun hc2=>?_,fun hc2=>?_⟩
  ·have hp:B6 R e ((B.getD e.toNat []).getD k 0)=true:=(by unfold B6;first | exact beq_iff_eq.2 hc2 | exact hc2)
   rw [hp,if_pos rfl] at hf
   refine RN ?_
   refine ⟨k+1,by omega,by omega,?_⟩
   rw [hf]
   refine Ref.gc [0,3] rfl ?_ (by simp [sub,Ab,go_sem,↓reduceIte,Nat.reduceEqDiff,Nat.reduceAdd,reduceCtorEq])
   (try simp only [go_sem,↓reduceIte,Nat.reduceEqDiff,Nat.reduceAdd,reduceCtorEq,Jc,H7,Gg])
  ·have hp:B6 R e ((B.getD e.toNat []).getD k 0)=false:=(by unfold B6;first | exact beq_eq_false_iff_ne.2 hc2 | exact hc2)
   rw [hp,if_neg (by simp)] at hf
   refine RN ?_
   refine ⟨k+1,by omega,by omega,?_⟩
   rw [hf]
   exact Ref.frame (by simp [sub,Ab])
 ·obtain rfl:k=(B.getD e.toNat []).length:=by omega
  rw [List.take_length]
  (refine RN ?_;try with_reducible exact trivial)
  (try simp only [go_sem,↓reduceIte,Nat.reduceEqDiff,Nat.reduceAdd,reduceCtorEq,and_self])
theorem rF (r:Int)(R:List Int)(B:List (List Int))(e:Int)(h1:R.length≤1048576)(hl:B.length=R.length)(hr:∀ xs∈B,xs.length≤1048576)(hok:L3 R B)(hR:∀ x,x<R.length→0≤R.getD x 0∧R.getD x 0≤1048576)(he:0≤e)(he2:e≤(R.length:Int) - 1):Fresh Tryz.prog 64 [A6 r R B,i64 e] (Ac (At R B e)):=
 Ms (aF r R B e h1 hl hr hok hR he he2)
theorem Rv {R:List Int}{B:List (List Int)}{n:Nat}(hr:∀ xs∈B,xs.length≤n)(e:Int):(At R B e).length≤n:=Nat.le_trans (List.length_filter_le _ _) (Hr hr _)
def B9 (R:List Int)(B:List (List Int))(c:List Int):List Int:=(c.map (At R B)).foldl Ag []
theorem eV (n:Nat):∀ (ls:List (List Int)) (acc:List Int),(∀ l∈ls,l.length≤n)→(ls.foldl Ag acc).length≤acc.length+ls.length*n
 | [],acc,_=>by simp
 | l :: ls,acc,h=>by
  have h1:=eV n ls (Ag acc l) fun x hx=>h x (by simp [hx])
  have h2:=Lq acc l
  have h3:=h l (by simp)
  rw [List.foldl_cons,List.length_cons,Nat.add_mul]
  omega
theorem rG (r : Int) (R : List Int) (B : List (List Int)) (c : List Int) (h1 : R.length ≤ 1048576) (hl : B.length = R.length) (hr : ∀ xs ∈ B, xs.length ≤ 1048576) (hok : L3 R B) (hR : ∀ x, x < R.length → 0 ≤ R.getD x 0 ∧ R.getD x 0 ≤ 1048576) (hc : c.length ≤ 262144) (hce : ∀ k, k < c.length → 0 ≤ c.getD k 0 ∧ c.getD k 0 ≤ (R.length : Int) - 1) :
    Pure Tryz.prog 40 [A6 r R B,Ac c] (.sl 0 1 0 (B9 R B c).length) [some (Aa (B9 R B c))]:=by
 have hacc:∀ k:Nat,B9 R B (c.take (k+1))=if k<c.length then Ag (B9 R B (c.take k)) (At R B (c.getD k 0)) else B9 R B (c.take k):=fun k=>by
  by_cases h:k<c.length
  ·rw [if_pos h]
   unfold B9
   rw [List.take_succ_eq_append_getElem h,List.map_append,List.foldl_append]
   simp [h]
  ·rw [if_neg h,List.take_of_length_le (by omega),List.take_of_length_le (by omega)]
 have hlen:∀ k,(B9 R B (c.take k)).length≤274877906944:=fun k=>by
  have h2:=eV 1048576 ((c.take k).map (At R B)) [] (fun l hl=>by
   obtain ⟨e,_,rfl⟩:=List.mem_map.1 hl
   exact Rv hr e)
  unfold B9
  rw [List.length_map,List.length_take] at h2
  simp only [List.length_nil] at h2
  have:min k c.length*1048576≤262144*1048576:=Nat.mul_le_mul_right _ (by omega)
  omega
 refine Gc [1] wO rfl ?_;unfold W3
 refine RN ?_
 refine Aj (α:=Nat) (S:=fun k=>([(1,Ac c),(2,.ref 0 0),(5,.sl 1 1 0 (B9 R B (c.take k)).length),(6,i64 k)],[some [i64 r,Ac R,Ae B],some (Aa (B9 R B (c.take k)))])) (C:=fun k=>k≤c.length) (μ:=fun k=>c.length - k) 0 (by omega) (Ref.to (by simp [Aa,B9]) (by simp [sub,Ab,B9])) ?_
 intro k hk
 have hln:=hlen k
 refine RN ?_
 refine ⟨fun hc1=>?_,fun hc1=>?_⟩
 ·obtain ⟨e1,e2⟩:=hce k (by omega)
  have hst:=hacc k
  rw [if_pos (by omega)] at hst
  have hbl:=Rv hr (c.getD k 0) (R:=R)
  refine RN ?_
  refine Mg (rF r R B (c.getD k 0) h1 hl hr hok hR e1 e2) (by simp only [go_sem,↓reduceIte,Nat.reduceEqDiff,Nat.reduceAdd,reduceCtorEq]<;>rfl) ?_
  refine RN ?_
  refine Am (Jx (B9 R B (c.take k)) (At R B (c.getD k 0)) (by omega) (by omega)) ?_
  refine RN ?_
  refine ⟨k+1,by omega,by omega,?_⟩
  rw [hst]
  refine Ref.gc [0,2] rfl ?_ (by simp [sub,Ab,go_sem,↓reduceIte,Nat.reduceEqDiff,Nat.reduceAdd,reduceCtorEq])
  (try simp only [go_sem,↓reduceIte,Nat.reduceEqDiff,Nat.reduceAdd,reduceCtorEq])
 ·obtain rfl:k=c.length:=by omega
  rw [List.take_length]
  (refine RN ?_;try with_reducible exact trivial)
  (try simp only [go_sem,↓reduceIte,Nat.reduceEqDiff,Nat.reduceAdd,reduceCtorEq,and_self])
theorem Ma (r : Int) (R : List Int) (B : List (List Int)) (c : List Int) (h1 : R.length ≤ 1048576) (hl : B.length = R.length) (hr : ∀ xs ∈ B, xs.length ≤ 1048576) (hok : L3 R B) (hR : ∀ x, x < R.length → 0 ≤ R.getD x 0 ∧ R.getD x 0 ≤ 1048576) (hs : ∀ x, sst (B.getD x [])) (hc : c.length ≤ 262144) (hce : ∀ k, k < c.length → 0 ≤ c.getD k 0 ∧ c.getD k 0 ≤ (R.length : Int) - 1) :
    Pure Tryz.prog 32 [.pto [i64 r,Ac R,Ae B] 0,Ac c] (.sl 0 1 0 (B9 R B c).length) [some (Aa (B9 R B c))]:=by
 have hbd:Ep (c.map (At R B)).flatten=B9 R B c:=uO fun l hl=>by
  obtain ⟨e,_,rfl⟩:=List.mem_map.1 hl
  exact Gj hs e
 rw [← hbd]
 have hlen:∀ k,((c.take k).map (At R B)).flatten.length≤274877906944:=fun k=>by
  have h2:∀ ls:List (List Int),(∀ l∈ls,l.length≤1048576)→ls.flatten.length≤ls.length*1048576:=fun ls=>by
   induction ls with
   | nil=>simp
   | cons l ls ih=>
    intro h
    have h3:=ih fun x hx=>h x (by simp [hx])
    have h4:=h l (by simp)
    rw [List.flatten_cons,List.length_append,List.length_cons,Nat.add_mul];omega
  have h3:=h2 ((c.take k).map (At R B)) (fun l hl=>by
   obtain ⟨e,_,rfl⟩:=List.mem_map.1 hl
   exact Rv hr e)
  rw [List.length_map,List.length_take] at h3
  have:min k c.length*1048576≤262144*1048576:=Nat.mul_le_mul_right _ (by omega)
  omega
 have hacc:∀ k,k<c.length→((c.take (k+1)).map (At R B)).flatten=((c.take k).map (At R B)).flatten++At R B (c.getD k 0):=fun k h=>by
  rw [List.take_succ_eq_append_getElem h,List.map_append,List.flatten_append]
  simp [h]
 have hwhole:=hlen c.length
 rw [List.take_length] at hwhole
 refine Gc [1] wJ rfl ?_;unfold Wy
 refine RN ?_
 refine Aj (α:=Nat) (S:=fun k=>([(0,.pto [i64 r,Ac R,Ae B] 0),(5,.sl 0 1 0 ((c.take k).map (At R B)).flatten.length),(10,Ac c),(11,i64 c.length),(12,i64 k)],[some (Aa ((c.take k).map (At R B)).flatten)])) (C:=fun k=>k≤c.length) (μ:=fun k=>c.length - k) 0 (by omega) ((Ref.nil 5 1 rfl).trans (Ref.to (by simp [Aa]) (by simp [sub,Ab]))) ?_
 intro k hk
 have hln:=hlen k
 have hst:=hacc k
 generalize hL:((c.take k).map (At R B)).flatten=L at hln hst ⊢
 refine RN ?_
 refine ⟨fun hc1=>?_,fun hc1=>?_⟩
 ·obtain ⟨e1,e2⟩:=hce k (by omega)
  have hst' := hst (by omega)
  have hrow:=Hr hr (c.getD k 0).toNat
  have hRe:=hR (c.getD k 0).toNat (by omega)
  refine RN ?_
  refine Aj (α:=Nat) (S:=fun j=>([(0,.pto [i64 r,Ac R,Ae B] 0),(5,.sl 0 1 0 (L++((B.getD (c.getD k 0).toNat []).take j).filter (B6 R (c.getD k 0))).length),(7,i64 (c.getD k 0)),(10,Ac c),(11,i64 c.length),(12,i64 k),(22,Ac (B.getD (c.getD k 0).toNat [])),(23,i64 (B.getD (c.getD k 0).toNat []).length),(24,i64 j)],[some (Aa (L++((B.getD (c.getD k 0).toNat []).take j).filter (B6 R (c.getD k 0))))])) (C:=fun j=>j≤(B.getD (c.getD k 0).toNat []).length) (μ:=fun j=>(B.getD (c.getD k 0).toNat []).length - j) 0 (by omega) (Ref.to (by simp) (by simp [sub,Ab])) ?_
  intro j hj
  have hfl:=Sl (p:=B6 R (c.getD k 0)) (B.getD (c.getD k 0).toNat []) j
  have hap:(L++((B.getD (c.getD k 0).toNat []).take j).filter (B6 R (c.getD k 0))).length=L.length+(((B.getD (c.getD k 0).toNat []).take j).filter (B6 R (c.getD k 0))).length:=List.length_append
  have hsn:∀ x,L++((B.getD (c.getD k 0).toNat []).take j).filter (B6 R (c.getD k 0))++[x]=L++(((B.getD (c.getD k 0).toNat []).take j).filter (B6 R (c.getD k 0))++[x]):=fun x=>List.append_assoc _ _ _
  generalize hM:L++((B.getD (c.getD k 0).toNat []).take j).filter (B6 R (c.getD k 0))=N at hap hsn ⊢
  refine RN ?_
  refine ⟨fun hc2=>?_,fun hc2=>?_⟩
  ·have hd:=hok (c.getD k 0).toNat (by omega) j (by omega)
   have hf:=Sm (p:=B6 R (c.getD k 0)) (xs:=B.getD (c.getD k 0).toNat []) (k:=j) (by omega)
   have hRd:=hR ((B.getD (c.getD k 0).toNat []).getD j 0).toNat (by omega)
   refine RN ?_
   refine ⟨fun hc3=>?_,fun hc3=>?_⟩
   ·have hp:B6 R (c.getD k 0) ((B.getD (c.getD k 0).toNat []).getD j 0)=true:=(by unfold B6;first | exact beq_iff_eq.2 hc3 | exact hc3)
    rw [hp,if_pos rfl] at hf
    refine RN ?_
    refine ⟨j+1,by omega,by omega,?_⟩
    rw [hf,← hsn]
    refine Ref.gc [2] rfl ?_ (by simp [sub,Ab,go_sem,↓reduceIte,Nat.reduceEqDiff,Nat.reduceAdd,reduceCtorEq,hap,Nat.add_assoc])
    (try simp only [go_sem,↓reduceIte,Nat.reduceEqDiff,Nat.reduceAdd,reduceCtorEq,Jc,H7,Gg])
   ·have hp:B6 R (c.getD k 0) ((B.getD (c.getD k 0).toNat []).getD j 0)=false:=(by unfold B6;first | exact beq_eq_false_iff_ne.2 hc3 | exact hc3)
    rw [hp,if_neg (by simp)] at hf
    refine RN ?_
    refine ⟨j+1,by omega,by omega,?_⟩
    rw [hf,hM]
    exact Ref.frame (by simp [sub,Ab,hap])
  ·obtain rfl:j=(B.getD (c.getD k 0).toNat []).length:=by omega
   refine RN ?_
   refine ⟨k+1,by omega,by omega,?_⟩
   rw [List.take_length] at hM
   subst hM
   rw [hst']
   exact Ref.frame (by simp [sub,Ab,At])
 ·obtain rfl:k=c.length:=by omega
  rw [List.take_length] at hL
  subst hL
  refine RN ?_
  refine Jg (H6 (c.map (At R B)).flatten (by omega)) [0] ?_
  (refine RN ?_;try with_reducible exact trivial)
  (try simp only [go_sem,↓reduceIte,Nat.reduceEqDiff,Nat.reduceAdd,reduceCtorEq,and_self])
end
section
open Go.Gov
open Classical
theorem Hm {r:Int}{R:List Int}{B:List (List Int)}{i:Int}{cs:List (List Int)}(h:A3 r R B i cs=0):IsPos r R B∧(0≤i∧i≤r - 1)∧∀ c∈cs,ChOk R i c:=by
 unfold A3 at h
 split at h
 ·rename_i hp
  split at h
  ·rename_i h2;exact ⟨hp,h2.1,h2.2⟩
  ·omega
 ·omega
theorem ChOk.sst {R:List Int}{i:Int}{c:List Int}(h:ChOk R i c):sst c:=eT fun j hj=>by
 have:=(h (j+1) hj).2.2.2 (by omega)
 simpa using this
theorem ChOk.len {R:List Int}{i:Int}{c:List Int}(h:ChOk R i c):c.length≤R.length:=by
 have hk:∀ k,k<c.length→(k:Int)≤c.getD k 0:=by
  intro k
  induction k with
  | zero=>intro hk;exact (h 0 hk).1
  | succ k ih=>
   intro hk
   have h1:=ih (by omega)
   have h2:=(h (k+1) hk).2.2.2 (by omega)
   simp only [Nat.add_sub_cancel] at h2
   omega
 rcases Nat.eq_zero_or_pos c.length with h0 | h0
 ·omega
 ·have h1:=hk (c.length - 1) (by omega)
  have h2:=(h (c.length - 1) (by omega)).2.1
  omega
theorem ChOk.in {R:List Int}{i:Int}{c:List Int}(h:ChOk R i c):∀ k,k<c.length→0≤c.getD k 0∧c.getD k 0≤(R.length:Int) - 1:=fun k hk=>⟨(h k hk).1,(h k hk).2.1⟩
section
variable (r:Int) (R:List Int) (B:List (List Int)) (i:Int) (c:List Int)
noncomputable def Fz:Bool:=if A3 r R B i [c]=0 then (i == 0 || ((B9 R B c).length:Int) == 0) else false
noncomputable def El:List Int:=if A3 r R B i [c]=0 then if i=0 then [] else B9 R B c else []
noncomputable def Jl:Int:=if A3 r R B i [c]=0 then if i=0 then 2 else 0 else A3 r R B i [c]
theorem Zg (h1:R.length≤1048576)(hl:B.length≤1048576)(hr:∀ xs∈B,xs.length≤1048576)(hc:c.length≤1048576):Pure Tryz.prog 14 [A6 r R B,i64 i,Ac c] (.tup [bl (Fz r R B i c),i64 (A3 r R B i [c])]) []:=by
 have g3:∀ xs∈B,xs.length≤1099511627776:=fun xs hx=>by have:=hr xs hx;omega
 unfold Fz
 refine Bj vO rfl rfl ?_;unfold We
 refine RN ?_
 refine E4 (Gk r R B i [c] (by omega) (by omega) g3 (by simp) (by simp;omega)) (by (try simp only [go_sem,↓reduceIte,Nat.reduceEqDiff,Nat.reduceAdd,reduceCtorEq,Nat.reduceMul,List.take_succ_cons,List.take_zero,List.take_nil]);try rfl) ?_
 refine RN ?_
 refine ⟨fun hc2=>?_,fun hc2=>?_⟩
 ·(refine RN ?_;try with_reducible exact trivial)
  rw [if_neg (by simpa using hc2)]
 ·have h0:A3 r R B i [c]=0:=by simpa using hc2
  obtain ⟨hp,hi,hcs⟩:=Hm h0
  have hck:=hcs c (by simp)
  obtain ⟨a1,a2,a3,a4,hrk⟩:=hp.rank
  obtain ⟨hro,hss⟩:=hp.rows
  have hcl:=hck.len
  refine RN ?_
  refine GCall.mk (Ac (B9 R B c) ) (fun hg=>by first | exact Mg ( Ms (Ma r R B c h1 a4 hr hro (fun x hx=>by have:=hrk x hx;omega) hss (by omega) hck.in)) (by simp only [go_sem,↓reduceIte,Nat.reduceEqDiff,Nat.reduceAdd,reduceCtorEq]<;>rfl) ⟨rfl,rfl⟩ | exact ⟨hg,Mg ( Ms (Ma r R B c h1 a4 hr hro (fun x hx=>by have:=hrk x hx;omega) hss (by omega) hck.in)) (by simp only [go_sem,↓reduceIte,Nat.reduceEqDiff,Nat.reduceAdd,reduceCtorEq]<;>rfl) ⟨rfl,rfl⟩⟩ | exact ⟨by grind,Mg ( Ms (Ma r R B c h1 a4 hr hro (fun x hx=>by have:=hrk x hx;omega) hss (by omega) hck.in)) (by simp only [go_sem,↓reduceIte,Nat.reduceEqDiff,Nat.reduceAdd,reduceCtorEq]<;>rfl) ⟨rfl,rfl⟩⟩) ?_
  refine RN ?_
  rw [if_pos h0,h0]
theorem Zf (h1:R.length≤1048576)(hl:B.length≤1048576)(hr:∀ xs∈B,xs.length≤1048576)(hc:c.length≤1048576):Pure Tryz.prog 15 [A6 r R B,i64 i,Ac c] (.tup [.sl 0 1 0 (El r R B i c).length,i64 (Jl r R B i c)]) [some (Aa (El r R B i c))]:=by
 have g3:∀ xs∈B,xs.length≤1099511627776:=fun xs hx=>by have:=hr xs hx;omega
 unfold El Jl
 by_cases h0:A3 r R B i [c]=0
 ·obtain ⟨hp,hi,hcs⟩:=Hm h0
  have hck:=hcs c (by simp)
  obtain ⟨a1,a2,a3,a4,hrk⟩:=hp.rank
  obtain ⟨hro,hss⟩:=hp.rows
  have hcl:=hck.len
  rw [if_pos h0,if_pos h0]
  by_cases hi0:i=0
  ·rw [if_pos hi0,if_pos hi0]
   refine Kb 1 ?_
   refine Bj Ub rfl rfl ?_;unfold Oj
   refine RN ?_
   refine E4 (Gk r R B i [c] (by omega) (by omega) g3 (by simp) (by simp;omega)) (by (try simp only [go_sem,↓reduceIte,Nat.reduceEqDiff,Nat.reduceAdd,reduceCtorEq,Nat.reduceMul,List.take_succ_cons,List.take_zero,List.take_nil]);try rfl) ?_
   generalize A3 r R B i [c]=C at h0
   refine RN ?_
   (first | with_reducible refine fun _=>?_ | refine ⟨fun _=>?_,fun hx=>absurd hx (by simp_all)⟩ | refine ⟨fun hx=>absurd hx (by simp_all),fun _=>?_⟩)
   refine RN ?_
   (first | with_reducible refine fun _=>?_ | refine ⟨fun _=>?_,fun hx=>absurd hx (by simp_all)⟩ | refine ⟨fun hx=>absurd hx (by simp_all),fun _=>?_⟩)
   (refine RN ?_;try with_reducible exact trivial)
  ·rw [if_neg hi0,if_neg hi0]
   refine Gc [2] Ub rfl ?_;unfold Oj
   refine RN ?_
   refine E4 (Gk r R B i [c] (by omega) (by omega) g3 (by simp) (by simp;omega)) (by (try simp only [go_sem,↓reduceIte,Nat.reduceEqDiff,Nat.reduceAdd,reduceCtorEq,Nat.reduceMul,List.take_succ_cons,List.take_zero,List.take_nil]);try rfl) ?_
   generalize A3 r R B i [c]=C at h0
   refine RN ?_
   (first | with_reducible refine fun _=>?_ | refine ⟨fun _=>?_,fun hx=>absurd hx (by simp_all)⟩ | refine ⟨fun hx=>absurd hx (by simp_all),fun _=>?_⟩)
   refine RN ?_
   (first | with_reducible refine fun _=>?_ | refine ⟨fun _=>?_,fun hx=>absurd hx (by simp_all)⟩ | refine ⟨fun hx=>absurd hx (by simp_all),fun _=>?_⟩)
   refine RN ?_
   refine Am (Ma r R B c h1 a4 hr hro (fun x hx=>by have:=hrk x hx;omega) hss (by omega) hck.in) ?_
   (refine RN ?_;try with_reducible exact trivial)
   (try simp only [go_sem,↓reduceIte,Nat.reduceEqDiff,Nat.reduceAdd,reduceCtorEq,and_self])
 ·rw [if_neg h0,if_neg h0]
  refine Kb 1 ?_
  refine Bj Ub rfl rfl ?_;unfold Oj
  refine RN ?_
  refine E4 (Gk r R B i [c] (by omega) (by omega) g3 (by simp) (by simp;omega)) (by (try simp only [go_sem,↓reduceIte,Nat.reduceEqDiff,Nat.reduceAdd,reduceCtorEq,Nat.reduceMul,List.take_succ_cons,List.take_zero,List.take_nil]);try rfl) ?_
  generalize A3 r R B i [c]=C at h0
  refine RN ?_
  (first | with_reducible refine fun _=>?_ | refine ⟨fun _=>?_,fun hx=>absurd hx (by simp_all)⟩ | refine ⟨fun hx=>absurd hx (by simp_all),fun _=>?_⟩)
  (refine RN ?_;try with_reducible exact trivial)
end
end
section
open Go.Gov
open Classical
section
variable (r:Int) (R:List Int) (B:List (List Int)) (i:Int) (a b:List Int)
noncomputable def Dv:List Int:=if A3 r R B i [a,b]=0 then Ag a b else []
theorem Abu:(Dv r R B i a b).length≤a.length+b.length:=by
 unfold Dv
 split
 ·exact Lq a b
 ·simp
theorem Acl (h1:R.length≤1048576)(hl:B.length≤1048576)(hr:∀ xs∈B,xs.length≤1048576)(ha:a.length≤1048576)(hb:b.length≤1048576):Pure Tryz.prog 8 [A6 r R B,i64 i,Ac a,Ac b] (.tup [.sl 0 1 0 (Dv r R B i a b).length,i64 (A3 r R B i [a,b])]) [some (Aa (Dv r R B i a b))]:=by
 have g3:∀ xs∈B,xs.length≤1099511627776:=fun xs hx=>by have:=hr xs hx;omega
 unfold Dv
 by_cases h0:A3 r R B i [a,b]=0
 ·rw [if_pos h0]
  refine Gc [1] cQ rfl ?_;unfold c8
  refine RN ?_
  refine Am (Pv r R B i a b (by omega) (by omega) g3 (by omega) (by omega)) ?_
  generalize A3 r R B i [a,b]=C at h0
  refine RN ?_
  (first | with_reducible refine fun _=>?_ | refine ⟨fun _=>?_,fun hx=>absurd hx (by simp_all)⟩ | refine ⟨fun hx=>absurd hx (by simp_all),fun _=>?_⟩)
  refine RN ?_
  refine Am (Jx a b (by omega) (by omega)) ?_
  (refine RN ?_;try with_reducible exact trivial)
  (try simp only [go_sem,↓reduceIte,Nat.reduceEqDiff,Nat.reduceAdd,reduceCtorEq,h0,and_self])
 ·rw [if_neg h0]
  refine Kb 1 ?_
  refine Bj cQ rfl rfl ?_;unfold c8
  refine RN ?_
  refine Am (Pv r R B i a b (by omega) (by omega) g3 (by omega) (by omega)) ?_
  generalize A3 r R B i [a,b]=C at h0
  refine RN ?_
  (first | with_reducible refine fun _=>?_ | refine ⟨fun _=>?_,fun hx=>absurd hx (by simp_all)⟩ | refine ⟨fun hx=>absurd hx (by simp_all),fun _=>?_⟩)
  (refine RN ?_;try with_reducible exact trivial)
theorem Zh (h1:R.length≤1048576)(hl:B.length≤1048576)(hr:∀ xs∈B,xs.length≤1048576)(ha:a.length≤1048576)(hb:b.length≤1048576):Pure Tryz.prog 7 [A6 r R B,i64 i,Ac a,Ac b] (.tup [.sl 0 1 0 (Dv r R B i a b).length,i64 (A3 r R B i [a,b])]) [some (Aa (Dv r R B i a b))]:=by
 have g3:∀ xs∈B,xs.length≤1099511627776:=fun xs hx=>by have:=hr xs hx;omega
 have g4:∀ xs∈[a,b],xs.length≤1099511627776:=fun xs hx=>by
  simp only [List.mem_cons,List.not_mem_nil,or_false] at hx
  rcases hx with rfl | rfl<;>omega
 have htot:Ck [a,b]≤1099511627776:=by simp [Ck];omega
 unfold Dv
 by_cases h0:A3 r R B i [a,b]=0
 ·obtain ⟨hp,hi,hcs⟩:=Hm h0
  have hodd:=I4 (hcs a (by simp)).sst (hcs b (by simp)).sst
  have hfl:[a,b].flatten=a++b:=by simp
  rw [if_pos h0,← hodd,← hfl]
  have hfl2:[a,b].flatten.length≤1099511627776:=by rw [hfl,List.length_append];omega
  refine Gc [4] cP rfl ?_;unfold c7
  refine RN ?_
  refine E4 (Gk r R B i [a,b] (by omega) (by omega) g3 (by simp) g4) (by (try simp only [go_sem,↓reduceIte,Nat.reduceEqDiff,Nat.reduceAdd,reduceCtorEq,Nat.reduceMul,List.take_succ_cons,List.take_zero,List.take_nil]);try rfl) ?_
  generalize A3 r R B i [a,b]=C at h0
  refine RN ?_
  (first | with_reducible refine fun _=>?_ | refine ⟨fun _=>?_,fun hx=>absurd hx (by simp_all)⟩ | refine ⟨fun hx=>absurd hx (by simp_all),fun _=>?_⟩)
  refine RN ?_
  refine E4 (Is [a,b] (by simp) htot) (by (try simp only [go_sem,↓reduceIte,Nat.reduceEqDiff,Nat.reduceAdd,reduceCtorEq,Nat.reduceMul,List.take_succ_cons,List.take_zero,List.take_nil]);try rfl) ?_
  generalize [a,b].flatten=ab at hfl2
  refine RN ?_
  refine Jg (H6 ab hfl2) [3] ?_
  (refine RN ?_;try with_reducible exact trivial)
  (try simp only [go_sem,↓reduceIte,Nat.reduceEqDiff,Nat.reduceAdd,reduceCtorEq,h0,and_self])
 ·rw [if_neg h0]
  refine Kb 1 ?_
  refine Bj cP rfl rfl ?_;unfold c7
  refine RN ?_
  refine E4 (Gk r R B i [a,b] (by omega) (by omega) g3 (by simp) g4) (by (try simp only [go_sem,↓reduceIte,Nat.reduceEqDiff,Nat.reduceAdd,reduceCtorEq,Nat.reduceMul,List.take_succ_cons,List.take_zero,List.take_nil]);try rfl) ?_
  generalize A3 r R B i [a,b]=C at h0
  refine RN ?_
  (first | with_reducible refine fun _=>?_ | refine ⟨fun _=>?_,fun hx=>absurd hx (by simp_all)⟩ | refine ⟨fun hx=>absurd hx (by simp_all),fun _=>?_⟩)
  (refine RN ?_;try with_reducible exact trivial)
end
end
end Go.Proofs.YtcneanpkpmfaiaaGreat
