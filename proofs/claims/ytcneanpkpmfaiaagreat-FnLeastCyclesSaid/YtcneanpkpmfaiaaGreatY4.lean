/- Texts that belong together. -/
import Derived.Test.YtcneanpkpmfaiaaGreatY3
set_option linter.unusedSimpArgs false
set_option linter.unusedVariables false
set_option maxRecDepth 100000
namespace Go.Proofs.YtcneanpkpmfaiaaGreat
open Go.Gov
open Classical
theorem eV (R:List Int)(i:Int):∀ k,k≤R.length→(Dh R i k).length=(R.take k).count i
 | 0,_=>by simp [Dh]
 | k+1,h=>by
  have ih:=eV R i k (by omega)
  rw [Rf,List.take_succ_eq_append_getElem (by omega),List.count_append,← ih,B8 R k (by omega)]
  by_cases e:R[k]=i
  ·rw [if_pos e,e];simp
  ·rw [if_neg e,List.count_singleton,if_neg (by simpa using e)];simp
theorem Abb (R:List Int)(i:Int):(Am R i).length=R.count i:=by
 have:=eV R i R.length (by omega)
 rwa [List.take_length] at this
noncomputable def Dy (r:Int)(R:List Int)(B:List (List Int)):List Int:=L5 R B (r.toNat - 1)++[0]
theorem Ac1 {r:Int}{R:List Int}{B:List (List Int)}(h:1≤r):(Dy r R B).length=r.toNat+1:=by
 unfold Dy
 rw [List.length_append,Ac2]
 simp;omega
theorem Ac0 {r:Int}{R:List Int}{B:List (List Int)}(h:IsPos r R B)(j:Nat):0≤(Dy r R B).getD j 0∧(Dy r R B).getD j 0≤500:=by
 by_cases hj:j<(Dy r R B).length
 ·have hm:(Dy r R B).getD j 0∈Dy r R B:=by rw [B8 _ j hj];exact List.getElem_mem hj
  unfold Dy L5 D3 at hm ⊢
  simp only [List.cons_append,List.mem_cons,List.mem_append,List.mem_map,List.mem_singleton,List.not_mem_nil,or_false] at hm
  rcases hm with hm | ⟨q,_,hm⟩ | hm
  ·rw [List.cons_append,hm];omega
  ·rw [List.cons_append,← hm]
   have:=fK h ((q:Int)+1)
   omega
  ·rw [List.cons_append,hm];omega
 ·rw [List.getD_eq_getElem?_getD,List.getElem?_eq_none (by omega)]
  simp
noncomputable def Gi (r:Int)(R:List Int)(B:List (List Int))(k:Nat):List Int:=(List.range k).map fun j:Nat=>(R.count (j:Int):Int) - (Dy r R B).getD j 0 - (Dy r R B).getD (j+1) 0
theorem Wp (r:Int)(R:List Int)(B:List (List Int))(k:Nat):(Gi r R B k).length=k:=by simp [Gi]
theorem lQ (r:Int)(R:List Int)(B:List (List Int))(k:Nat):Gi r R B (k+1)=Gi r R B k++[(R.count (k:Int):Int) - (Dy r R B).getD k 0 - (Dy r R B).getD (k+1) 0]:=by simp [Gi,List.range_succ]
noncomputable def I6 (r:Int)(R:List Int)(B:List (List Int)):List Int:=if IsPos r R B∧Cd R B then Gi r R B r.toNat else []
noncomputable def Pb (r:Int)(R:List Int)(B:List (List Int)):Int:=if IsPos r R B then if Cd R B then 0 else 5 else 1
theorem mT {r:Int}{R:List Int}{k:Nat}(h:k<r.toNat):(C1 r R).getD k 0=(R.count (k:Int):Int):=by
 unfold C1
 rw [List.getD_eq_getElem?_getD,List.getElem?_map,List.getElem?_range h]
 rfl
theorem Ad8 (T U:List Int)(k:Nat)(hT:T.length=k)(hk:k<U.length):(T++U.drop k).length=U.length∧(T++U.drop k).getD k 0=U.getD k 0∧∀ v,(T++U.drop k).set k v=T++[v]++U.drop (k+1):=by
 refine ⟨by rw [List.length_append,List.length_drop];omega,?_,fun v=>?_⟩
 ·rw [List.drop_eq_getElem_cons hk,List.getD_eq_getElem?_getD,List.getElem?_append_right (by omega),hT]
  simp [hk]
 ·rw [List.set_append_right _ _ (by omega),hT,Nat.sub_self,List.drop_eq_getElem_cons hk,List.set_cons_zero,List.append_assoc,List.singleton_append]
set_option maxHeartbeats 4000000 in
theorem qJ (r:Int)(R:List Int)(B:List (List Int))(h1:R.length≤1048576)(hl:B.length≤1048576)(hr:∀ xs∈B,xs.length≤1048576):Pure Tryz.prog 19 [Bo r R B] (.tup [.sl 0 1 0 (I6 r R B).length,i64 (Pb r R B)]) [some (Aa (I6 r R B))]:=by
 have gr:∀ xs∈B,xs.length≤1099511627776:=fun xs hx=>by have:=hr xs hx;omega
 unfold I6 Pb
 by_cases hp:IsPos r R B
 ·have hpd:decide (IsPos r R B)=true:=decide_eq_true hp
  by_cases he:Cd R B
  ·have hed:decide (Cd R B)=true:=decide_eq_true he
   rw [if_pos hp,if_pos he,if_pos ⟨hp,he⟩]
   obtain ⟨a1,a2,a3,a4,hrk⟩:=hp.rank
   have hrks:=lM r R B hp hr
   have hcts:=nD r R B (by omega) (by omega) (by omega) hrk
   have hLl:=Ac1 (R:=R) (B:=B) a1
   have hLb:=Ac0 hp
   have hLe:[0]++D3 R B (r.toNat - 1)++[0]=Dy r R B:=rfl
   have hvl:=Wm R B (r.toNat - 1)
   have hst:=lQ r R B
   have hbl:=Wp r R B
   have hb0:Gi r R B 0=[]:=rfl
   have hUl:=mU r R
   have hUa:∀ k,k<r.toNat→(C1 r R).getD k 0=(R.count (k:Int):Int):=fun k hk=>mT hk
   generalize Gi r R B=T at hst hbl hb0 ⊢
   generalize D3 R B (r.toNat - 1)=V at hrks hLe hvl
   generalize Dy r R B=L0 at hLl hLb hst hLe
   generalize C1 r R=U at hcts hUl hUa
   refine Fi [2] U7 rfl ?_;unfold Pm
   refine RN ?_
   refine Ak (Hr r R B (by omega) (by omega) gr) ?_
   simp only [hpd,go_sem,↓reduceIte,Nat.reduceEqDiff,Nat.reduceAdd,reduceCtorEq]
   refine RN ?_
   refine Ak (Lq r R B hp) ?_
   simp only [hed,go_sem,↓reduceIte,Nat.reduceEqDiff,Nat.reduceAdd,reduceCtorEq]
   refine RN ?_
   refine Ak (hrks) ?_
   refine RN ?_
   refine Ak (hcts) ?_
   refine RN ?_
   refine Aj (α:=Nat) (S:=fun k=>([(4,.sl 1 1 0 L0.length),(5,.sl 2 1 0 U.length),(20,.sl 2 1 0 U.length),(21,i64 U.length),(22,i64 k)],[some [i64 r,Ac R,Af B],some (Aa L0),some (Aa (T k++U.drop k))])) (C:=fun k=>k≤r.toNat) (μ:=fun k=>r.toNat - k) 0 (by omega) ?_ ?_
   ·have hcell : List.take (1 + V.length) (AV.val (Value.int IntKind.i64 0) :: Aa V) ++ [AV.val (Value.int IntKind.i64 0)] = Aa L0 := by
      rw [List.take_of_length_le (by simp [Aa];omega),← hLe]
      simp [Aa]
    have hl0:1+V.length+1=L0.length:=by rw [hLl,hvl];omega
    rw [hcell,hl0]
    refine Ref.gc [0,5,6] rfl ?_ (by simp [sub,Ab,go_sem,↓reduceIte,Nat.reduceEqDiff,Nat.reduceAdd,reduceCtorEq])
    simp only [hb0,List.nil_append,List.drop_zero,go_sem,↓reduceIte,Nat.reduceEqDiff,Nat.reduceAdd,reduceCtorEq]
   intro k hk
   have hst' := hst k
   have hbl' := hbl k
   have hsd:=Ad8 (T k) U k hbl'
   have b1:=hLb k
   have b2:=hLb (k+1)
   have b3:R.count (k:Int)≤R.length:=List.count_le_length
   by_cases hk2:k<r.toNat
   ·obtain ⟨d1,d2,d3⟩:=hsd (by omega)
    have hUk:=hUa k hk2
    rw [hUk] at d2
    have hd3:=d3 ((R.count (k:Int):Int) - L0.getD k 0 - L0.getD (k+1) 0)
    rw [← hst'] at hd3
    generalize T k++U.drop k=X at d1 d2 hd3 ⊢
    refine RN ?_
    refine ⟨fun hc=>?_,fun hc=>by omega⟩
    refine RN ?_
    refine ⟨k+1,by omega,by omega,?_⟩
    rw [d2,show (R.count (k:Int):Int) - (L0.getD k 0+L0.getD (k+1) 0)=(R.count (k:Int):Int) - L0.getD k 0 - L0.getD (k+1) 0 by omega,hd3]
    exact Ref.frame (by simp [sub,Ab])
   ·obtain rfl:k=r.toNat:=by omega
    rw [List.drop_of_length_le (by omega),List.append_nil]
    refine RN ?_
    refine fun hc=>?_
    (refine RN ?_;try with_reducible exact trivial)
    (try rw [hUl,hbl])
    (try simp only [go_sem,↓reduceIte,Nat.reduceEqDiff,Nat.reduceAdd,reduceCtorEq,and_self])
  ·have hed:decide (Cd R B)=false:=decide_eq_false he
   rw [if_pos hp,if_neg he,if_neg (fun h=>he h.2)]
   refine Iq 1 ?_
   refine Bm U7 rfl rfl ?_;unfold Pm
   refine RN ?_
   refine Ak (Hr r R B (by omega) (by omega) gr) ?_
   simp only [hpd,go_sem,↓reduceIte,Nat.reduceEqDiff,Nat.reduceAdd,reduceCtorEq]
   refine RN ?_
   refine Ak (Lq r R B hp) ?_
   simp only [hed,go_sem,↓reduceIte,Nat.reduceEqDiff,Nat.reduceAdd,reduceCtorEq]
   (refine RN ?_;try with_reducible exact trivial)
 ·rw [if_neg hp,if_neg (fun h=>hp h.1)]
  refine Iq 1 ?_
  have hpd:decide (IsPos r R B)=false:=decide_eq_false hp
  refine Bm U7 rfl rfl ?_;unfold Pm
  refine RN ?_
  refine Ak (Hr r R B (by omega) (by omega) gr) ?_
  simp only [hpd,go_sem,↓reduceIte,Nat.reduceEqDiff,Nat.reduceAdd,reduceCtorEq]
  (refine RN ?_;try with_reducible exact trivial)
end Go.Proofs.YtcneanpkpmfaiaaGreat
