/- Texts that belong together. -/
import Derived.Test.YtaekhhaaphgndaaGreatZh
import Derived.Test.YtaekhhaaphgndaaGreatZl
set_option maxHeartbeats 16000000
set_option linter.unusedSimpArgs false
set_option linter.unusedVariables false
set_option maxRecDepth 100000
namespace Go.Proofs.YtaekhhaaphgndaaGreat
section
open Go.Gov
open Classical
def RowOk (n:Nat)(p:List Int):Prop:=p.length=n∧IsPrm p∧IsFre p
def Com (a b:List Int)(f:Nat):Prop:=a.getD f 0≠b.getD f 0∧b.getD (a.getD f 0).toNat 0=a.getD (b.getD f 0).toNat 0
abbrev fl (M:List (List Int)):Nat:=(M.getD 0 []).length
structure IsMan (M:List (List Int)):Prop where
 r1:1≤M.length
 r5:M.length≤5
 f2:2≤fl M
 f4:fl M≤400
 rows:∀ k,k<M.length→RowOk (fl M) (M.getD k [])
 com:∀ i k f,i+2≤k→k<M.length→f<fl M→Com (M.getD i []) (M.getD k []) f
 con:∀ x,x<fl M→Rch M 0 x
theorem mvok_of {n:Nat}{M:List (List Int)}(h:∀ k,k<M.length→RowOk n (M.getD k [])):MvOk n M:=fun p hp=>by
 obtain ⟨k,hk,rfl⟩:=List.mem_iff_getElem.1 hp
 obtain ⟨h1,h2,h3⟩:=h k hk
 rw [show M.getD k []=M[k] by simp [hk]] at h1 h2 h3
 refine ⟨h1,fun x hx=>?_⟩
 have h4:=h2.at (k:=x) (by omega)
 exact ⟨h4.1,by omega,(h3 x (by omega)).2⟩
theorem IsMan.mv {M:List (List Int)}(h:IsMan M):MvOk (fl M) M:=mvok_of h.rows
theorem mem_nodup {V:List Nat}{n:Nat}(hn:V.Nodup)(hV:∀ j,j∈V→j<n)(hl:V.length=n):∀ x,x<n→x∈V:=fun x hx=>by
 rcases Classical.em (x∈V) with h | h
 ·exact h
 ·have h2:(x :: V).Nodup:=List.nodup_cons.2 ⟨h,hn⟩
  have:=nodup_len h2 (n:=n) fun y hy=>by
   rcases List.mem_cons.1 hy with rfl | hy
   ·exact hx
   ·exact hV y hy
  simp at this
  omega
theorem len_mem:∀ (n:Nat) (V:List Nat),(∀ x,x<n→x∈V)→n≤V.length
 | 0,_,_=>Nat.zero_le _
 | n+1,V,h=>by
  have h1:=h n (by omega)
  have:=len_mem n (V.erase n) fun x hx=>(List.mem_erase_of_ne (by omega)).2 (h x (by omega))
  have h2:=List.length_erase_of_mem h1
  have h3:0<V.length:=List.length_pos_of_mem h1
  omega
theorem con_iff {n:Nat}{M:List (List Int)}(hM:MvOk n M)(h0:0<n){V:List Nat}(hn:V.Nodup)(hV:∀ j,j∈V ↔ Rch M 0 j):(V.length:Int)=n ↔ ∀ x,x<n→Rch M 0 x:=by
 have hlt:∀ j,j∈V→j<n:=fun j hj=>((hV j).1 hj).lt hM h0
 constructor
 ·intro h x hx
  exact (hV x).1 (mem_nodup hn hlt (by omega) x hx)
 ·intro h
  have h1:=nodup_len hn hlt
  have h2:=len_mem n V fun x hx=>(hV x).2 (h x hx)
  omega
theorem one_iff {n:Nat}{M:List (List Int)}(hM:MvOk n M)(h0:0<n):((ncnt M n:Nat):Int)=1 ↔ ∀ x,x<n→Rch M 0 x:=by
 have hf0:fst M 0=0:=by have:=(fst_spec M 0).1;omega
 have h1:=ncnt_new hf0
 have hz:ncnt M 0=0:=rfl
 constructor
 ·intro h x hx
  obtain ⟨a1,a2,_⟩:=fst_spec M x
  have hff:=fst_fst hM hx
  have h2:=ncnt_new hff
  have h3:=ncnt_mono M (a:=fst M x+1) (b:=n) (by omega)
  rcases Nat.eq_zero_or_pos (fst M x) with h4 | h4
  ·rwa [h4] at a2
  ·have h5:=ncnt_mono M (a:=0+1) (b:=fst M x) (by omega)
   omega
 ·intro h
  have:∀ k,k+1≤n→ncnt M (k+1)=1:=fun k=>by
   induction k with
   | zero=>intro _;omega
   | succ k ih=>
    intro hk
    have h2:=ih (by omega)
    have h3:=fst_eq hM (h (k+1) (by omega)) h0
    rw [ncnt_old (by omega)]
    exact h2
  have h6:=this (n - 1) (by omega)
  rw [show n - 1+1=n by omega] at h6
  omega
theorem l02Is_c (M:List (List Int))(hl:M.length≤1048576)(hr:∀ p∈M,p.length≤1048576):Pure Tryz.prog 47 [maniA M] (bl (decide (IsMan M))) []:=by
 have hrk:∀ k,k<M.length→(M.getD k []).length≤1048576:=fun k hk=>hr _ (row_mem hk)
 refine pureV0 ok47 rfl rfl ?_;unfold c47
 have h00:=hrk 0
 refine RN ?_
 have tz:Int.toNat 0=0:=rfl
 (try simp only [tz])
 refine ⟨fun hc=>?_,fun hc=>?_⟩
 ·try simp only [go_sem,↓reduceIte,Nat.reduceEqDiff,Nat.reduceAdd,reduceCtorEq] at hc
  refine RN ?_
  rw [decide_eq_false (fun h=>?_)]
  have h1:=h.r1;have h2:=h.r5;have h3:=h.f2;have h4:=h.f4
  unfold fl at h3 h4
  omega
 ·try simp only [go_sem,↓reduceIte,Nat.reduceEqDiff,Nat.reduceAdd,reduceCtorEq] at hc
  have h01:=h00 (by omega)
  generalize hn:(M.getD 0 []).length=n at *
  refine RN ?_
  refine V_loop (α:=Nat) (S:=fun k=>([(1,.ref 0 0),(3,i64 M.length),(4,i64 k)],[some [mat M]])) (C:=fun k=>k≤M.length∧∀ j,j<k→RowOk n (M.getD j [])) (μ:=fun k=>M.length - k) 0 ⟨by omega,by omega⟩ (by exact Ref.frame (by simp [sub,fget])) ?_
  rintro k ⟨hk,hall⟩
  refine RN ?_
  refine ⟨fun hc1=>?_,fun hc1=>?_⟩
  ·have hrl:=hrk k (by omega)
   (refine RN ?_;try with_reducible exact trivial)
   (try simp only [tz,hn])
   refine RN ?_
   refine GC1 (bl (decide (IsPrm (M.getD k []))) ) (fun hg =>  l01Perm_c (M.getD k []) (by omega)) ?_
   refine RN ?_
   refine GC1 (bl (decide (IsFre (M.getD k []))) ) (fun hg =>  l01Free_c (M.getD k []) (by omega) (by try simp only [go_sem,↓reduceIte,Nat.reduceEqDiff,Nat.reduceAdd,reduceCtorEq] at hg;exact hg.2)) ?_
   refine RN ?_
   refine ⟨fun hc2=>?_,fun hc2=>?_⟩
   ·(refine RN ?_;try with_reducible exact trivial)
    rw [decide_eq_false (fun h=>?_)]
    obtain ⟨b1,b2,b3⟩:=h.rows k (by omega)
    try simp only [go_sem,↓reduceIte,Nat.reduceEqDiff,Nat.reduceAdd,reduceCtorEq] at hc2
    rw [show fl M=n from hn] at b1
    rcases hc2 with (hc2 | hc2) | hc2
    ·omega
    ·exact hc2 b2
    ·exact hc2 b3
   ·have hcv : RowOk n (M.getD k []) := by
      try simp only [go_sem,↓reduceIte,Nat.reduceEqDiff,Nat.reduceAdd,reduceCtorEq] at hc2
      exact ⟨by omega,hc2.1.2,hc2.2⟩
    refine RN ?_
    refine ⟨k+1,⟨by omega,fun j hj=>?_⟩,by omega,by exact Ref.frame (by simp [sub,fget])⟩
    rcases Nat.lt_or_ge j k with h | h
    ·exact hall j h
    ·obtain rfl:j=k:=by omega
     exact hcv
  ·have hrows:∀ j,j<M.length→RowOk n (M.getD j []):=fun j hj=>hall j (by omega)
   have hM:=mvok_of hrows
   clear hall
   refine RN ?_
   refine V_loop (α:=Nat) (S:=fun i=>([(1,.ref 0 0),(3,i64 M.length),(5,i64 i)],[some [mat M]])) (C:=fun i=>i≤M.length∧∀ i', i' < i→∀ k f,i' + 2≤k→k<M.length→f<n→Com (M.getD i' []) (M.getD k []) f) (μ:=fun i=>M.length - i) 0 ⟨by omega,by omega⟩ (by exact Ref.frame (by simp [sub,fget])) ?_
   rintro i ⟨hi,hD1⟩
   refine RN ?_
   refine ⟨fun hc2=>?_,fun hc2=>?_⟩
   ·obtain ⟨q1,q2,q3⟩:=hrows i (by omega)
    refine RN ?_
    refine V_loop (α:=Nat) (S:=fun k=>([(1,.ref 0 0),(3,i64 M.length),(5,i64 i),(6,i64 k)],[some [mat M]])) (C:=fun k=>i+2≤k∧∀ k' f,i+2≤k' → k' < k→k' < M.length→f<n→Com (M.getD i []) (M.getD k' []) f) (μ:=fun k=>M.length - k) (i+2) ⟨by omega,by omega⟩ (by exact Ref.frame (by simp [sub,fget])) ?_
    rintro k ⟨hk,hD2⟩
    refine RN ?_
    refine ⟨fun hc3=>?_,fun hc3=>?_⟩
    ·obtain ⟨r1,r2,r3⟩:=hrows k (by omega)
     refine RN ?_
     refine V_loop (α:=Nat) (S:=fun f=>([(1,.ref 0 0),(3,i64 M.length),(5,i64 i),(6,i64 k),(7,i64 f)],[some [mat M]])) (C:=fun f=>f≤n∧∀ f', f' < f→Com (M.getD i []) (M.getD k []) f') (μ:=fun f=>n - f) 0 ⟨by omega,by omega⟩ (by exact Ref.frame (by simp [sub,fget])) ?_
     rintro f ⟨hf,hD3⟩
     (refine RN ?_;try with_reducible exact trivial)
     (try simp only [tz,hn])
     refine RN ?_
     refine ⟨fun hc4=>?_,fun hc4=>?_⟩
     ·have q4:=q2.at (k:=f) (by omega)
      have r4:=r2.at (k:=f) (by omega)
      refine RN ?_
      refine ⟨fun hc5=>?_,fun hc5=>?_⟩
      ·(refine RN ?_;try with_reducible exact trivial)
       rw [decide_eq_false (fun h=>?_)]
       obtain ⟨b1,b2⟩:=h.com i k f hk (by omega) (by rw [show fl M=n from hn];omega)
       try simp only [go_sem,↓reduceIte,Nat.reduceEqDiff,Nat.reduceAdd,reduceCtorEq] at hc5
       rcases hc5 with hc5 | hc5
       ·exact hc5 b2
       ·exact b1 hc5
      ·have hcv : Com (M.getD i []) (M.getD k []) f := by
         try simp only [go_sem,↓reduceIte,Nat.reduceEqDiff,Nat.reduceAdd,reduceCtorEq] at hc5
         exact ⟨hc5.2,hc5.1⟩
       refine RN ?_
       refine ⟨f+1,⟨by omega,fun j hj=>?_⟩,by omega,by exact Ref.frame (by simp [sub,fget])⟩
       rcases Nat.lt_or_ge j f with h | h
       ·exact hD3 j h
       ·obtain rfl:j=f:=by omega
        exact hcv
     ·have hD3' : ∀ f', f' < n→Com (M.getD i []) (M.getD k []) f' := fun f' h=>hD3 f' (by omega)
      refine RN ?_
      refine ⟨k+1,⟨by omega,fun k' f' h1 h2 h3 h4=>?_⟩,by omega,by exact Ref.frame (by simp [sub,fget])⟩
      rcases Nat.lt_or_ge k' k with h | h
      ·exact hD2 k' f' h1 h h3 h4
      ·obtain rfl:k' = k:=by omega
       exact hD3' f' h4
    ·(refine RN ?_;try with_reducible exact trivial)
     refine ⟨i+1,⟨by omega,fun i' h1 k' f' h2 h3 h4=>?_⟩,by omega,by exact Ref.frame (by simp [sub,fget])⟩
     rcases Nat.lt_or_ge i' i with h | h
     ·exact hD1 i' h k' f' h2 h3 h4
     ·obtain rfl:i' = i:=by omega
      exact hD2 k' f' h2 (by omega) h3 h4
   ·have hcom:∀ i k f,i+2≤k→k<M.length→f<n→Com (M.getD i []) (M.getD k []) f:=fun i' k f h1 h2 h3=>hD1 i' (by omega) k f h1 h2 h3
    have hor:=l01Orbit_c n M 0 hM (by omega) (by omega) (by omega)
    rw [show ((0:Nat):Int)=0 from rfl] at hor
    (refine RN ?_;try with_reducible exact trivial)
    (try simp only [tz,hn])
    refine RN ?_
    refine pureEC (hor) (by simp only [go_sem,↓reduceIte,Nat.reduceEqDiff,Nat.reduceAdd,reduceCtorEq]<;>rfl) (fun o=>by first | rfl | simp only [go_sem,↓reduceIte,Nat.reduceEqDiff,Nat.reduceAdd,reduceCtorEq]) fun o ho=>?_
    obtain ⟨hnd,hV⟩:=ho
    have hci:=con_iff hM (by omega) hnd hV
    refine RN ?_
    rcases Classical.em (IsMan M) with h | h
    ·rw [decide_eq_true h,beq_iff_eq.2 (hci.2 fun x hx=>h.con x (by rw [show fl M=n from hn];exact hx))]
    ·rw [decide_eq_false h,beq_eq_false_iff_ne.2 fun e=>h ?_]
     subst hn
     exact ⟨by omega,by omega,by unfold fl;omega,by unfold fl;omega,hrows,hcom,hci.1 e⟩
end
section
open Go.Gov
open Classical
theorem tdrop (M:List (List Int))(j:Nat):(M.map ints).drop j=(M.drop j).map ints:=by rw [List.map_drop]
theorem isManiplex_c (M:List (List Int))(hl:M.length≤1048576)(hr:∀ p∈M,p.length≤1048576):Pure Tryz.prog 24 [maniA M] (bl (decide (IsMan M))) []:=by
 have hrk:∀ k,k<M.length→(M.getD k []).length≤1048576:=fun k hk=>hr _ (row_mem hk)
 refine pureV0 ok24 rfl rfl ?_;unfold c24
 have h00:=hrk 0
 have tz:Int.toNat 0=0:=rfl
 refine RN ?_
 refine pureC1 (rank_c M hl) ?_
 refine RN ?_
 refine pureC1 (within_c M.length 1 5) ?_
 refine RN ?_
 refine GC1 (i64 (fl M) ) (fun hg =>  flags_c M (by try simp only [go_sem,↓reduceIte,Nat.reduceEqDiff,Nat.reduceAdd,reduceCtorEq] at hg;omega) hl (by try simp only [go_sem,↓reduceIte,Nat.reduceEqDiff,Nat.reduceAdd,reduceCtorEq] at hg;exact h00 (by omega))) ?_
 refine RN ?_
 refine GC1 (bl (decide (2≤(fl M:Int))&&decide ((fl M:Int)≤400)) ) (fun hg =>  within_c (fl M) 2 400) ?_
 refine RN ?_
 refine ⟨fun hc=>?_,fun hc=>?_⟩
 ·try simp only [go_sem,↓reduceIte,Nat.reduceEqDiff,Nat.reduceAdd,reduceCtorEq] at hc
  refine RN ?_
  rw [decide_eq_false (fun h=>?_)]
  have h1:=h.r1;have h2:=h.r5;have h3:=h.f2;have h4:=h.f4
  omega
 ·try simp only [go_sem,↓reduceIte,Nat.reduceEqDiff,Nat.reduceAdd,reduceCtorEq] at hc
  have h01:=h00 (by omega)
  generalize hn:fl M=n at *
  have hfl:=flags_c M (by omega) hl h01
  rw [show (M.getD 0 []).length=n from hn] at hfl h01
  refine RN ?_
  refine V_loop (α:=Nat) (S:=fun k=>([(1,.ref 0 0),(21,mat M),(22,i64 M.length),(23,i64 k)],[some [mat M]])) (C:=fun k=>k≤M.length∧∀ j,j<k→RowOk n (M.getD j [])) (μ:=fun k=>M.length - k) 0 ⟨by omega,by omega⟩ (by exact Ref.frame (by simp [sub,fget])) ?_
  rintro k ⟨hk,hall⟩
  refine RN ?_
  refine ⟨fun hc1=>?_,fun hc1=>?_⟩
  ·have hrl:=hrk k (by omega)
   refine RN ?_
   refine pureC1 (isFreeInv_c (M.getD k []) (by omega)) ?_
   refine RN ?_
   refine GC1 (i64 (M.getD k []).length ) (fun hg =>  size_c (M.getD k []) (by omega)) ?_
   refine RN ?_
   refine GC1 (i64 n ) (fun hg =>  hfl) ?_
   refine RN ?_
   refine ⟨fun hc2=>?_,fun hc2=>?_⟩
   ·(refine RN ?_;try with_reducible exact trivial)
    rw [decide_eq_false (fun h=>?_)]
    obtain ⟨b1,b2,b3⟩:=h.rows k (by omega)
    try simp only [go_sem,↓reduceIte,Nat.reduceEqDiff,Nat.reduceAdd,reduceCtorEq] at hc2
    rw [hn] at b1
    rcases hc2 with hc2 | hc2
    ·exact hc2 ⟨b2,b3⟩
    ·omega
   ·have hcv : RowOk n (M.getD k []) := by
      try simp only [go_sem,↓reduceIte,Nat.reduceEqDiff,Nat.reduceAdd,reduceCtorEq] at hc2
      exact ⟨by omega,hc2.1.1,hc2.1.2⟩
    refine RN ?_
    refine ⟨k+1,⟨by omega,fun j hj=>?_⟩,by omega,by exact Ref.frame (by simp [sub,fget])⟩
    rcases Nat.lt_or_ge j k with h | h
    ·exact hall j h
    ·obtain rfl:j=k:=by omega
     exact hcv
  ·have hrows:∀ j,j<M.length→RowOk n (M.getD j []):=fun j hj=>hall j (by omega)
   have hM:=mvok_of hrows
   clear hall
   refine RN ?_
   refine V_loop (α:=Nat) (S:=fun i=>([(1,.ref 0 0),(38,mat M),(39,i64 M.length),(40,i64 i)],[some [mat M]])) (C:=fun i=>i≤M.length∧∀ i', i' < i→∀ k f,i' + 2≤k→k<M.length→f<n→Com (M.getD i' []) (M.getD k []) f) (μ:=fun i=>M.length - i) 0 ⟨by omega,by omega⟩ (by exact Ref.frame (by simp [sub,fget])) ?_
   rintro i ⟨hi,hD1⟩
   refine RN ?_
   refine ⟨fun hc2=>?_,fun hc2=>?_⟩
   ·obtain ⟨q1,q2,q3⟩:=hrows i (by omega)
    refine RN ?_
    obtain ⟨lo,hlo⟩:∃ lo,lo=min (i+2) M.length:=⟨_,rfl⟩
    obtain ⟨T,hT⟩:∃ T,T=M.drop lo:=⟨_,rfl⟩
    have hTl:T.length=M.length - lo:=by rw [hT,List.length_drop]
    have hTa:∀ j,j<T.length→T.getD j []=M.getD (lo+j) []:=fun j hj=>by simp [hT]
    have e0:(if (M.length:Int)<(i:Int)+2 then (M.length:Int) else (i:Int)+2)=(lo:Int):=by split<;>omega
    have e1:((M.length:Int) - (lo:Int)).toNat=T.length:=by omega
    have e2:((lo:Int)).toNat=lo:=by omega
    have e3:List.take T.length (List.drop lo (M.map ints))=T.map ints:=by
     rw [tdrop,← hT,List.take_of_length_le (by simp)]
    simp only [e0,e1,e2,e3]
    refine V_loop (α:=Nat) (S:=fun j=>([(1,.ref 0 0),(38,mat M),(39,i64 M.length),(40,i64 i),(5,i64 i),(6,ints (M.getD i [])),(53,mat T),(54,i64 T.length),(55,i64 j)],[some [mat M]])) (C:=fun j=>j≤T.length∧∀ k' f,i+2≤k' → k' < lo+j→k' < M.length→f<n→Com (M.getD i []) (M.getD k' []) f) (μ:=fun j=>T.length - j) 0 ⟨by omega,by omega⟩ (by exact Ref.frame (by simp [sub,fget])) ?_
    rintro j ⟨hj,hD2⟩
    refine RN ?_
    refine ⟨fun hc3=>?_,fun hc3=>?_⟩
    ·obtain ⟨r1,r2,r3⟩:=hrows (lo+j) (by omega)
     rw [← hTa j (by omega)] at r1 r2 r3
     refine RN ?_
     refine pureC1 (hfl) ?_
     refine RN ?_
     refine V_loop (α:=Nat) (S:=fun f=>([(1,.ref 0 0),(38,mat M),(39,i64 M.length),(40,i64 i),(5,i64 i),(6,ints (M.getD i [])),(53,mat T),(54,i64 T.length),(55,i64 j),(8,ints (T.getD j [])),(59,i64 n),(60,i64 f)],[some [mat M]])) (C:=fun f=>f≤n∧∀ f', f' < f→Com (M.getD i []) (T.getD j []) f') (μ:=fun f=>n - f) 0 ⟨by omega,by omega⟩ (by exact Ref.frame (by simp [sub,fget])) ?_
     rintro f ⟨hf,hD3⟩
     refine RN ?_
     refine ⟨fun hc4=>?_,fun hc4=>?_⟩
     ·have q4:=q2.at (k:=f) (by omega)
      have r4:=r2.at (k:=f) (by omega)
      refine RN ?_
      refine ⟨fun hc5=>?_,fun hc5=>?_⟩
      ·(refine RN ?_;try with_reducible exact trivial)
       rw [decide_eq_false (fun h=>?_)]
       obtain ⟨b1,b2⟩:=h.com i (lo+j) f (by omega) (by omega) (by rw [hn];omega)
       rw [← hTa j (by omega)] at b1 b2
       try simp only [go_sem,↓reduceIte,Nat.reduceEqDiff,Nat.reduceAdd,reduceCtorEq] at hc5
       rcases hc5 with hc5 | hc5
       ·exact b1 hc5
       ·exact hc5 b2
      ·have hcv : Com (M.getD i []) (T.getD j []) f := by
         try simp only [go_sem,↓reduceIte,Nat.reduceEqDiff,Nat.reduceAdd,reduceCtorEq] at hc5
         exact ⟨hc5.1,hc5.2⟩
       refine RN ?_
       refine ⟨f+1,⟨by omega,fun j' hj' => ?_⟩,by omega,by exact Ref.frame (by simp [sub,fget])⟩
       rcases Nat.lt_or_ge j' f with h | h
       ·exact hD3 j' h
       ·obtain rfl:j' = f:=by omega
        exact hcv
     ·have hD3' : ∀ f', f' < n→Com (M.getD i []) (T.getD j []) f' := fun f' h=>hD3 f' (by omega)
      refine RN ?_
      refine ⟨j+1,⟨by omega,fun k' f' h1 h2 h3 h4=>?_⟩,by omega,by exact Ref.frame (by simp [sub,fget])⟩
      rcases Nat.lt_or_ge k' (lo+j) with h | h
      ·exact hD2 k' f' h1 h h3 h4
      ·obtain rfl:k' = lo+j:=by omega
       rw [← hTa j (by omega)]
       exact hD3' f' h4
    ·(refine RN ?_;try with_reducible exact trivial)
     refine ⟨i+1,⟨by omega,fun i' h1 k' f' h2 h3 h4=>?_⟩,by omega,by exact Ref.frame (by simp [sub,fget])⟩
     rcases Nat.lt_or_ge i' i with h | h
     ·exact hD1 i' h k' f' h2 h3 h4
     ·obtain rfl:i' = i:=by omega
      exact hD2 k' f' h2 (by omega) h3 h4
   ·have hcom:∀ i k f,i+2≤k→k<M.length→f<n→Com (M.getD i []) (M.getD k []) f:=fun i' k f h1 h2 h3=>hD1 i' (by omega) k f h1 h2 h3
    have hoi:=one_iff hM (by omega)
    have hcl:=ncnt_le M n
    refine RN ?_
    refine pureC1 (hfl) ?_
    refine RN ?_
    refine pureC1 (orbitLabels_c n M hM (by omega) hl) ?_
    refine RN ?_
    rcases Classical.em (IsMan M) with h | h
    ·rw [decide_eq_true h,beq_iff_eq.2 (hoi.2 fun x hx=>h.con x (by rw [hn];exact hx))]
    ·rw [decide_eq_false h,beq_eq_false_iff_ne.2 fun e=>h ?_]
     subst hn
     exact ⟨by omega,by omega,by omega,by omega,hrows,hcom,hoi.1 e⟩
end
section
open Go.Gov
open Classical
def IsMap (M:List (List Int)):Prop:=IsMan M∧M.length=3
theorem isMap_c (M:List (List Int))(hl:M.length≤1048576)(hr:∀ p∈M,p.length≤1048576):Pure Tryz.prog 28 [maniA M] (bl (decide (IsMap M))) []:=by
 refine pureV0 ok28 rfl rfl ?_;unfold c28
 refine RN ?_
 refine GC1 (bl (decide (IsMan M)) ) (fun hg =>  isManiplex_c M hl hr) ?_
 refine RN ?_
 rw [show IsMap M=(IsMan M∧M.length=3) from rfl]
 by_cases h1:IsMan M<;>by_cases h2:M.length=3<;>simp [h1,h2]<;>omega
theorem l14Is_c (M:List (List Int))(hl:M.length≤1048576)(hr:∀ p∈M,p.length≤1048576):Pure Tryz.prog 25 [maniA M] (bl (decide (IsMap M))) []:=by
 refine pureV0 ok25 rfl rfl ?_;unfold c25
 refine RN ?_
 refine pureC1 (l02Is_c M hl hr) ?_
 refine RN ?_
 rw [show IsMap M=(IsMan M∧M.length=3) from rfl]
 by_cases h1:IsMan M<;>by_cases h2:M.length=3<;>simp [h1,h2]<;>omega
noncomputable def vdC (M:List (List Int)):Int:=if IsMap M then 0 else 1
end
end Go.Proofs.YtaekhhaaphgndaaGreat
