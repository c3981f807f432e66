/- Texts that belong together. -/
import Derived.Test.YtcneanpkpmfaiaaGreatZh
import Derived.Test.YtcneanpkpmfaiaaGreatZl
set_option linter.unusedSimpArgs false
set_option linter.unusedVariables false
set_option maxRecDepth 100000
namespace Go.Proofs.YtcneanpkpmfaiaaGreat
section
open Go.Gov
open Classical
def L1 (n:Nat)(p:List Int):Prop:=p.length=n∧IsPrm p∧N0 p
def Jh (a b:List Int)(f:Nat):Prop:=a.getD f 0≠b.getD f 0∧b.getD (a.getD f 0).toNat 0=a.getD (b.getD f 0).toNat 0
abbrev fl (M:List (List Int)):Nat:=(M.getD 0 []).length
structure IsMan (M:List (List Int)):Prop where
 r1:1≤M.length
 r5:M.length≤5
 f2:2≤fl M
 f4:fl M≤400
 rows:∀ k,k<M.length→L1 (fl M) (M.getD k [])
 com:∀ i k f,i+2≤k→k<M.length→f<fl M→Jh (M.getD i []) (M.getD k []) f
 con:∀ x,x<fl M→Rch M 0 x
theorem bP {n:Nat}{M:List (List Int)}(h:∀ k,k<M.length→L1 n (M.getD k [])):MvOk n M:=fun p hp=>by
 obtain ⟨k,hk,rfl⟩:=List.mem_iff_getElem.1 hp
 obtain ⟨h1,h2,h3⟩:=h k hk
 rw [show M.getD k []=M[k] by simp [hk]] at h1 h2 h3
 refine ⟨h1,fun x hx=>?_⟩
 have h4:=h2.at (k:=x) (by omega)
 exact ⟨h4.1,by omega,(h3 x (by omega)).2⟩
theorem IsMan.mv {M:List (List Int)}(h:IsMan M):MvOk (fl M) M:=bP h.rows
theorem tJ {V:List Nat}{n:Nat}(hn:V.Nodup)(hV:∀ j,j∈V→j<n)(hl:V.length=n):∀ x,x<n→x∈V:=fun x hx=>by
 rcases Classical.em (x∈V) with h | h
 ·exact h
 ·have h2:(x :: V).Nodup:=List.nodup_cons.2 ⟨h,hn⟩
  have:=H5 h2 (n:=n) fun y hy=>by
   rcases List.mem_cons.1 hy with rfl | hy
   ·exact hx
   ·exact hV y hy
  simp at this
  omega
theorem aQ:∀ (n:Nat) (V:List Nat),(∀ x,x<n→x∈V)→n≤V.length
 | 0,_,_=>Nat.zero_le _
 | n+1,V,h=>by
  have h1:=h n (by omega)
  have:=aQ n (V.erase n) fun x hx=>(List.mem_erase_of_ne (by omega)).2 (h x (by omega))
  have h2:=List.length_erase_of_mem h1
  have h3:0<V.length:=List.length_pos_of_mem h1
  omega
theorem kO {n:Nat}{M:List (List Int)}(hM:MvOk n M)(h0:0<n){V:List Nat}(hn:V.Nodup)(hV:∀ j,j∈V ↔ Rch M 0 j):(V.length:Int)=n ↔ ∀ x,x<n→Rch M 0 x:=by
 have hlt:∀ j,j∈V→j<n:=fun j hj=>((hV j).1 hj).lt hM h0
 constructor
 ·intro h x hx
  exact (hV x).1 (tJ hn hlt (by omega) x hx)
 ·intro h
  have h1:=H5 hn hlt
  have h2:=aQ n V fun x hx=>(hV x).2 (h x hx)
  omega
set_option maxHeartbeats 4000000 in
theorem Zu (M:List (List Int))(hl:M.length≤1048576)(hr:∀ p∈M,p.length≤1048576):Pure Tryz.prog 121 [Bw M] (bl (decide (IsMan M))) []:=by
 have hrk:∀ k,k<M.length→(M.getD k []).length≤1048576:=fun k hk=>hr _ (Nk hk)
 refine Bj vA rfl rfl ?_;unfold V1
 have h00:=hrk 0
 refine RN ?_
 have tz:Int.toNat 0=0:=rfl
 (try simp only [tz])
 refine ⟨fun hc=>?_,fun hc=>?_⟩
 ·try simp only [go_sem,↓reduceIte,Nat.reduceEqDiff,Nat.reduceAdd,reduceCtorEq] at hc
  refine RN ?_
  rw [decide_eq_false (fun h=>?_)]
  have h1:=h.r1;have h2:=h.r5;have h3:=h.f2;have h4:=h.f4
  unfold fl at h3 h4
  omega
 ·try simp only [go_sem,↓reduceIte,Nat.reduceEqDiff,Nat.reduceAdd,reduceCtorEq] at hc
  have h01:=h00 (by omega)
  generalize hn:(M.getD 0 []).length=n at *
  refine RN ?_
  refine Aj (α:=Nat) (S:=fun k=>([(1,.ref 0 0),(3,i64 M.length),(4,i64 k)],[some [Ae M]])) (C:=fun k=>k≤M.length∧∀ j,j<k→L1 n (M.getD j [])) (μ:=fun k=>M.length - k) 0 ⟨by omega,by omega⟩ (by exact Ref.frame (by simp [sub,Ab])) ?_
  rintro k ⟨hk,hall⟩
  refine RN ?_
  refine ⟨fun hc1=>?_,fun hc1=>?_⟩
  ·have hrl:=hrk k (by omega)
   (refine RN ?_;try with_reducible exact trivial)
   (try simp only [tz,hn])
   refine RN ?_
   refine G1 (bl (decide (IsPrm (M.getD k []))) ) (fun hg =>  Zr (M.getD k []) (by omega)) ?_
   refine RN ?_
   refine G1 (bl (decide (N0 (M.getD k []))) ) (fun hg =>  oR (M.getD k []) (by omega) (by try simp only [go_sem,↓reduceIte,Nat.reduceEqDiff,Nat.reduceAdd,reduceCtorEq] at hg;exact hg.2)) ?_
   refine RN ?_
   refine ⟨fun hc2=>?_,fun hc2=>?_⟩
   ·(refine RN ?_;try with_reducible exact trivial)
    rw [decide_eq_false (fun h=>?_)]
    obtain ⟨b1,b2,b3⟩:=h.rows k (by omega)
    try simp only [go_sem,↓reduceIte,Nat.reduceEqDiff,Nat.reduceAdd,reduceCtorEq] at hc2
    rw [show fl M=n from hn] at b1
    rcases hc2 with (hc2 | hc2) | hc2
    ·omega
    ·exact hc2 b2
    ·exact hc2 b3
   ·have hcv : L1 n (M.getD k []) := by
      try simp only [go_sem,↓reduceIte,Nat.reduceEqDiff,Nat.reduceAdd,reduceCtorEq] at hc2
      exact ⟨by omega,hc2.1.2,hc2.2⟩
    refine RN ?_
    refine ⟨k+1,⟨by omega,fun j hj=>?_⟩,by omega,by exact Ref.frame (by simp [sub,Ab])⟩
    rcases Nat.lt_or_ge j k with h | h
    ·exact hall j h
    ·obtain rfl:j=k:=by omega
     exact hcv
  ·have hrows:∀ j,j<M.length→L1 n (M.getD j []):=fun j hj=>hall j (by omega)
   have hM:=bP hrows
   clear hall
   refine RN ?_
   refine Aj (α:=Nat) (S:=fun i=>([(1,.ref 0 0),(3,i64 M.length),(5,i64 i)],[some [Ae M]])) (C:=fun i=>i≤M.length∧∀ i', i' < i→∀ k f,i' + 2≤k→k<M.length→f<n→Jh (M.getD i' []) (M.getD k []) f) (μ:=fun i=>M.length - i) 0 ⟨by omega,by omega⟩ (by exact Ref.frame (by simp [sub,Ab])) ?_
   rintro i ⟨hi,hD1⟩
   refine RN ?_
   refine ⟨fun hc2=>?_,fun hc2=>?_⟩
   ·obtain ⟨q1,q2,q3⟩:=hrows i (by omega)
    refine RN ?_
    refine Aj (α:=Nat) (S:=fun k=>([(1,.ref 0 0),(3,i64 M.length),(5,i64 i),(6,i64 k)],[some [Ae M]])) (C:=fun k=>i+2≤k∧∀ k' f,i+2≤k' → k' < k→k' < M.length→f<n→Jh (M.getD i []) (M.getD k' []) f) (μ:=fun k=>M.length - k) (i+2) ⟨by omega,by omega⟩ (by exact Ref.frame (by simp [sub,Ab])) ?_
    rintro k ⟨hk,hD2⟩
    refine RN ?_
    refine ⟨fun hc3=>?_,fun hc3=>?_⟩
    ·obtain ⟨r1,r2,r3⟩:=hrows k (by omega)
     refine RN ?_
     refine Aj (α:=Nat) (S:=fun f=>([(1,.ref 0 0),(3,i64 M.length),(5,i64 i),(6,i64 k),(7,i64 f)],[some [Ae M]])) (C:=fun f=>f≤n∧∀ f', f' < f→Jh (M.getD i []) (M.getD k []) f') (μ:=fun f=>n - f) 0 ⟨by omega,by omega⟩ (by exact Ref.frame (by simp [sub,Ab])) ?_
     rintro f ⟨hf,hD3⟩
     (refine RN ?_;try with_reducible exact trivial)
     (try simp only [tz,hn])
     refine RN ?_
     refine ⟨fun hc4=>?_,fun hc4=>?_⟩
     ·have q4:=q2.at (k:=f) (by omega)
      have r4:=r2.at (k:=f) (by omega)
      refine RN ?_
      refine ⟨fun hc5=>?_,fun hc5=>?_⟩
      ·(refine RN ?_;try with_reducible exact trivial)
       rw [decide_eq_false (fun h=>?_)]
       obtain ⟨b1,b2⟩:=h.com i k f hk (by omega) (by rw [show fl M=n from hn];omega)
       try simp only [go_sem,↓reduceIte,Nat.reduceEqDiff,Nat.reduceAdd,reduceCtorEq] at hc5
       rcases hc5 with hc5 | hc5
       ·exact hc5 b2
       ·exact b1 hc5
      ·have hcv : Jh (M.getD i []) (M.getD k []) f := by
         try simp only [go_sem,↓reduceIte,Nat.reduceEqDiff,Nat.reduceAdd,reduceCtorEq] at hc5
         exact ⟨hc5.2,hc5.1⟩
       refine RN ?_
       refine ⟨f+1,⟨by omega,fun j hj=>?_⟩,by omega,by exact Ref.frame (by simp [sub,Ab])⟩
       rcases Nat.lt_or_ge j f with h | h
       ·exact hD3 j h
       ·obtain rfl:j=f:=by omega
        exact hcv
     ·have hD3' : ∀ f', f' < n→Jh (M.getD i []) (M.getD k []) f' := fun f' h=>hD3 f' (by omega)
      refine RN ?_
      refine ⟨k+1,⟨by omega,fun k' f' h1 h2 h3 h4=>?_⟩,by omega,by exact Ref.frame (by simp [sub,Ab])⟩
      rcases Nat.lt_or_ge k' k with h | h
      ·exact hD2 k' f' h1 h h3 h4
      ·obtain rfl:k' = k:=by omega
       exact hD3' f' h4
    ·(refine RN ?_;try with_reducible exact trivial)
     refine ⟨i+1,⟨by omega,fun i' h1 k' f' h2 h3 h4=>?_⟩,by omega,by exact Ref.frame (by simp [sub,Ab])⟩
     rcases Nat.lt_or_ge i' i with h | h
     ·exact hD1 i' h k' f' h2 h3 h4
     ·obtain rfl:i' = i:=by omega
      exact hD2 k' f' h2 (by omega) h3 h4
   ·have hcom:∀ i k f,i+2≤k→k<M.length→f<n→Jh (M.getD i []) (M.getD k []) f:=fun i' k f h1 h2 h3=>hD1 i' (by omega) k f h1 h2 h3
    have hor:=oV n M 0 hM (by omega) (by omega) (by omega)
    rw [show ((0:Nat):Int)=0 from rfl] at hor
    (refine RN ?_;try with_reducible exact trivial)
    (try simp only [tz,hn])
    refine RN ?_
    refine Bx (hor) (by simp only [go_sem,↓reduceIte,Nat.reduceEqDiff,Nat.reduceAdd,reduceCtorEq]<;>rfl) (fun o=>by first | rfl | simp only [go_sem,↓reduceIte,Nat.reduceEqDiff,Nat.reduceAdd,reduceCtorEq]) fun o ho=>?_
    obtain ⟨hnd,hV⟩:=ho
    have hci:=kO hM (by omega) hnd hV
    refine RN ?_
    rcases Classical.em (IsMan M) with h | h
    ·rw [decide_eq_true h,beq_iff_eq.2 (hci.2 fun x hx=>h.con x (by rw [show fl M=n from hn];exact hx))]
    ·rw [decide_eq_false h,beq_eq_false_iff_ne.2 fun e=>h ?_]
     subst hn
     exact ⟨by omega,by omega,by unfold fl;omega,by unfold fl;omega,hrows,hcom,hci.1 e⟩
end
section
open Go.Gov
open Classical
def Ra (M:List (List Int)):Prop:=IsMan M∧M.length=3
theorem aE (M:List (List Int))(hl:M.length≤1048576)(hr:∀ p∈M,p.length≤1048576):Pure Tryz.prog 92 [Bw M] (bl (decide (Ra M))) []:=by
 refine Bj xX rfl rfl ?_;unfold Xy
 refine RN ?_
 refine Am (Zu M hl hr) ?_
 refine RN ?_
 rw [show Ra M=(IsMan M∧M.length=3) from rfl]
 by_cases h1:IsMan M<;>by_cases h2:M.length=3<;>simp [h1,h2]<;>omega
end
end Go.Proofs.YtcneanpkpmfaiaaGreat
