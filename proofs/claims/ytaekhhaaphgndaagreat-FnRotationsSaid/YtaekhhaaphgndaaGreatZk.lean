/- Texts that belong together. -/
import Derived.Test.YtaekhhaaphgndaaGreatZg
import Derived.Test.YtaekhhaaphgndaaGreatZj
set_option maxHeartbeats 16000000
set_option linter.unusedSimpArgs false
set_option linter.unusedVariables false
set_option maxRecDepth 100000
namespace Go.Proofs.YtaekhhaaphgndaaGreat
section
open Go.Gov
open Classical
def PrK (p:List Int)(k:Nat):Prop:=∀ j,j<k→(0≤p.getD j 0∧p.getD j 0≤(p.length:Int) - 1)∧∀ i,i<j→p.getD i 0≠p.getD j 0
def IsPrm (p:List Int):Prop:=p.length≤400∧PrK p p.length
theorem PrK.succ {p:List Int}{k:Nat}(h:PrK p k)(h1:0≤p.getD k 0∧p.getD k 0≤(p.length:Int) - 1)(h2:∀ i,i<k→p.getD i 0≠p.getD k 0):PrK p (k+1):=fun j hj=>by
 rcases Nat.lt_or_ge j k with h3 | h3
 ·exact h j h3
 ·obtain rfl:j=k:=by omega
  exact ⟨h1,h2⟩
noncomputable def seenB (p:List Int)(k:Nat):List Bool:=(List.range p.length).map fun (x:Nat)=>decide (∃ i,i<k∧p.getD i 0=(x:Int))
theorem seenB_len (p:List Int)(k:Nat):(seenB p k).length=p.length:=by simp [seenB]
theorem seenB_zero (p:List Int):seenB p 0=List.replicate p.length false:=by
 refine List.ext_getElem (by simp [seenB]) fun j h1 h2=>by simp [seenB]
theorem seenB_at {p:List Int}{k:Nat}{x:Int}(h0:0≤x)(h1:x≤(p.length:Int) - 1):(seenB p k).getD x.toNat false=decide (∃ i,i<k∧p.getD i 0=x):=by
 have h2:x.toNat<p.length:=by omega
 have h3:((x.toNat:Nat):Int)=x:=by omega
 rw [List.getD_eq_getElem?_getD,seenB,List.getElem?_map,List.getElem?_range h2]
 simp only [Option.map_some,Option.getD_some,h3]
theorem seenB_set {p:List Int}{k:Nat}(h0:0≤p.getD k 0)(h1:p.getD k 0≤(p.length:Int) - 1):(seenB p k).set (p.getD k 0).toNat true=seenB p (k+1):=by
 refine List.ext_getElem (by simp [seenB]) fun j h2 h3=>?_
 have hj:j<p.length:=by simpa [seenB] using h3
 by_cases e:(p.getD k 0).toNat=j
 ·subst e
  rw [List.getElem_set_self]
  simp only [seenB,List.getElem_map,List.getElem_range]
  exact (decide_eq_true ⟨k,by omega,by omega⟩).symm
 ·rw [List.getElem_set_ne e]
  simp only [seenB,List.getElem_map,List.getElem_range]
  rw [decide_eq_decide]
  constructor
  ·rintro ⟨i,hi,h⟩;exact ⟨i,by omega,h⟩
  ·rintro ⟨i,hi,h⟩
   rcases Nat.lt_or_ge i k with h4 | h4
   ·exact ⟨i,h4,h⟩
   ·obtain rfl:i=k:=by omega
    omega
theorem isPerm_c (p:List Int)(hl:p.length≤1099511627776):Pure Tryz.prog 42 [ints p] (bl (decide (IsPrm p))) []:=by
 refine pureV0 ok42 rfl rfl ?_;unfold c42
 refine RN ?_
 refine ⟨fun hc=>?_,fun hc=>?_⟩
 ·(refine RN ?_;try with_reducible exact trivial)
  rw [decide_eq_false (fun h=>by have:=h.1;omega)]
 ·(refine RN ?_;try with_reducible exact trivial)
  refine V_loop (α:=Nat) (S:=fun k=>([(0,ints p),(3,.sl 0 1 0 p.length),(12,ints p),(13,i64 p.length),(14,i64 k)],[some (boolsC (seenB p k))])) (C:=fun k=>k≤p.length∧PrK p k) (μ:=fun k=>p.length - k) 0 ⟨by omega,fun j hj=>by omega⟩ (Ref.to (by simp only [seenB_zero]) (by simp [sub,fget])) ?_
  rintro k ⟨hk,hall⟩
  have hsl:=seenB_len p k
  refine RN ?_
  refine ⟨fun hc1=>?_,fun hc1=>?_⟩
  ·have hat:=seenB_at (p:=p) (k:=k) (x:=p.getD k 0)
   refine RN ?_
   refine pureC1 (size_c p hl) ?_
   refine RN ?_
   refine pureC1 (within_c (p.getD k 0) 0 (p.length - 1)) ?_
   refine RN ?_
   refine ⟨fun hc2=>?_,fun hc2=>?_⟩
   ·(refine RN ?_;try with_reducible exact trivial)
    rw [decide_eq_false (fun h=>?_)]
    obtain ⟨⟨b1,b2⟩,b3⟩:=h.2 k (by omega)
    try simp only [go_sem,↓reduceIte,Nat.reduceEqDiff,Nat.reduceAdd,reduceCtorEq] at hc2
    rcases hc2 with hc2 | hc2
    ·omega
    ·rw [hat b1 b2] at hc2
     obtain ⟨i,hi,he⟩:=of_decide_eq_true hc2
     exact b3 i hi he
   ·have hb : 0 ≤ p.getD k 0 ∧ p.getD k 0 ≤ (p.length : Int) - 1 := by
      try simp only [go_sem,↓reduceIte,Nat.reduceEqDiff,Nat.reduceAdd,reduceCtorEq] at hc2
      omega
    have hn:∀ i,i<k→p.getD i 0≠p.getD k 0:=fun i hi he=>by
     try simp only [go_sem,↓reduceIte,Nat.reduceEqDiff,Nat.reduceAdd,reduceCtorEq] at hc2
     have h5:=hc2.2
     rw [hat hb.1 hb.2,decide_eq_true ⟨i,hi,he⟩] at h5
     cases h5
    have hst:=seenB_set hb.1 hb.2
    refine RN ?_
    exact ⟨k+1,⟨by omega,hall.succ hb hn⟩,by omega,Ref.to (by rw [hst]) (by simp [sub,fget])⟩
  ·obtain rfl:k=p.length:=by omega
   refine RN ?_
   rw [decide_eq_true (p:=IsPrm p) ⟨by omega,hall⟩]
theorem l01Perm_c (p:List Int)(hl:p.length≤1099511627776):Pure Tryz.prog 27 [ints p] (bl (decide (IsPrm p))) []:=by
 refine pureV0 ok27 rfl rfl ?_;unfold c27
 refine RN ?_
 refine ⟨fun hc=>?_,fun hc=>?_⟩
 ·(refine RN ?_;try with_reducible exact trivial)
  rw [decide_eq_false (fun h=>by have:=h.1;omega)]
 ·(refine RN ?_;try with_reducible exact trivial)
  refine V_loop (α:=Nat) (S:=fun k=>([(0,ints p),(3,.sl 0 1 0 p.length),(4,i64 k)],[some (boolsC (seenB p k))])) (C:=fun k=>k≤p.length∧PrK p k) (μ:=fun k=>p.length - k) 0 ⟨by omega,fun j hj=>by omega⟩ (Ref.to (by simp only [seenB_zero]) (by simp [sub,fget])) ?_
  rintro k ⟨hk,hall⟩
  have hsl:=seenB_len p k
  refine RN ?_
  refine ⟨fun hc1=>?_,fun hc1=>?_⟩
  ·have hat:=seenB_at (p:=p) (k:=k) (x:=p.getD k 0)
   refine RN ?_
   refine pureC1 (l01In_c (p.getD k 0) 0 (p.length - 1)) ?_
   refine RN ?_
   refine ⟨fun hc2=>?_,fun hc2=>?_⟩
   ·(refine RN ?_;try with_reducible exact trivial)
    rw [decide_eq_false (fun h=>?_)]
    obtain ⟨⟨b1,b2⟩,b3⟩:=h.2 k (by omega)
    try simp only [go_sem,↓reduceIte,Nat.reduceEqDiff,Nat.reduceAdd,reduceCtorEq] at hc2
    rcases hc2 with hc2 | hc2
    ·omega
    ·rw [hat b1 b2] at hc2
     obtain ⟨i,hi,he⟩:=of_decide_eq_true hc2
     exact b3 i hi he
   ·have hb : 0 ≤ p.getD k 0 ∧ p.getD k 0 ≤ (p.length : Int) - 1 := by
      try simp only [go_sem,↓reduceIte,Nat.reduceEqDiff,Nat.reduceAdd,reduceCtorEq] at hc2
      omega
    have hn:∀ i,i<k→p.getD i 0≠p.getD k 0:=fun i hi he=>by
     try simp only [go_sem,↓reduceIte,Nat.reduceEqDiff,Nat.reduceAdd,reduceCtorEq] at hc2
     have h5:=hc2.2
     rw [hat hb.1 hb.2,decide_eq_true ⟨i,hi,he⟩] at h5
     cases h5
    have hst:=seenB_set hb.1 hb.2
    refine RN ?_
    exact ⟨k+1,⟨by omega,hall.succ hb hn⟩,by omega,Ref.to (by rw [hst]) (by simp [sub,fget])⟩
  ·obtain rfl:k=p.length:=by omega
   refine RN ?_
   rw [decide_eq_true (p:=IsPrm p) ⟨by omega,hall⟩]
def Fr1 (p:List Int)(k:Nat):Prop:=p.getD k 0≠(k:Int)∧p.getD (p.getD k 0).toNat 0=(k:Int)
def IsFre (p:List Int):Prop:=∀ k,k<p.length→Fr1 p k
theorem IsPrm.at {p:List Int}(h:IsPrm p){k:Nat}(hk:k<p.length):0≤p.getD k 0∧p.getD k 0≤(p.length:Int) - 1:=(h.2 k hk).1
theorem l01Free_c (p:List Int)(hl:p.length≤1099511627776)(hp:IsPrm p):Pure Tryz.prog 60 [ints p] (bl (decide (IsFre p))) []:=by
 refine pureV0 ok60 rfl rfl ?_;unfold c60
 refine RN ?_
 refine V_loop (α:=Nat) (S:=fun k=>([(0,ints p),(3,i64 k)],[])) (C:=fun k=>k≤p.length∧∀ j,j<k→Fr1 p j) (μ:=fun k=>p.length - k) 0 ⟨by omega,by omega⟩ (by exact Ref.frame (by simp [sub,fget])) ?_
 rintro k ⟨hk,hall⟩
 refine RN ?_
 refine ⟨fun hc1=>?_,fun hc1=>?_⟩
 ·have hb:=hp.at (k:=k) (by omega)
  refine RN ?_
  refine ⟨fun hc2=>?_,fun hc2=>?_⟩
  ·(refine RN ?_;try with_reducible exact trivial)
   rw [decide_eq_false (fun h=>?_)]
   obtain ⟨b1,b2⟩:=h k (by omega)
   try simp only [go_sem,↓reduceIte,Nat.reduceEqDiff,Nat.reduceAdd,reduceCtorEq] at hc2
   rcases hc2 with hc2 | hc2
   ·exact b1 hc2
   ·exact hc2 b2
  ·have hcv : Fr1 p k := by
     try simp only [go_sem,↓reduceIte,Nat.reduceEqDiff,Nat.reduceAdd,reduceCtorEq] at hc2
     exact ⟨hc2.1,hc2.2⟩
   refine RN ?_
   refine ⟨k+1,⟨by omega,fun j hj=>?_⟩,by omega,by exact Ref.frame (by simp [sub,fget])⟩
   rcases Nat.lt_or_ge j k with h | h
   ·exact hall j h
   ·obtain rfl:j=k:=by omega
    exact hcv
 ·(refine RN ?_;try with_reducible exact trivial)
  rw [decide_eq_true (p:=IsFre p) (fun j hj=>hall j (by omega))]
theorem isFreeInv_c (p:List Int)(hl:p.length≤1099511627776):Pure Tryz.prog 45 [ints p] (bl (decide (IsPrm p∧IsFre p))) []:=by
 refine pureV0 ok45 rfl rfl ?_;unfold c45
 refine RN ?_
 refine pureC1 (isPerm_c p hl) ?_
 refine RN ?_
 refine ⟨fun hc=>?_,fun hc=>?_⟩
 ·(refine RN ?_;try with_reducible exact trivial)
  rw [decide_eq_false (fun h=>?_)]
  exact hc h.1
 ·have hp:IsPrm p:=by first | exact hc | simpa using hc
  refine RN ?_
  refine V_loop (α:=Nat) (S:=fun k=>([(0,ints p),(8,ints p),(9,i64 p.length),(10,i64 k)],[])) (C:=fun k=>k≤p.length∧∀ j,j<k→Fr1 p j) (μ:=fun k=>p.length - k) 0 ⟨by omega,by omega⟩ (by exact Ref.frame (by simp [sub,fget])) ?_
  rintro k ⟨hk,hall⟩
  refine RN ?_
  refine ⟨fun hc1=>?_,fun hc1=>?_⟩
  ·have hb:=hp.at (k:=k) (by omega)
   refine RN ?_
   refine ⟨fun hc2=>?_,fun hc2=>?_⟩
   ·(refine RN ?_;try with_reducible exact trivial)
    rw [decide_eq_false (fun h=>?_)]
    obtain ⟨b1,b2⟩:=h.2 k (by omega)
    try simp only [go_sem,↓reduceIte,Nat.reduceEqDiff,Nat.reduceAdd,reduceCtorEq] at hc2
    rcases hc2 with hc2 | hc2
    ·exact b1 hc2
    ·exact hc2 b2
   ·have hcv : Fr1 p k := by
      try simp only [go_sem,↓reduceIte,Nat.reduceEqDiff,Nat.reduceAdd,reduceCtorEq] at hc2
      exact ⟨hc2.1,hc2.2⟩
    refine RN ?_
    refine ⟨k+1,⟨by omega,fun j hj=>?_⟩,by omega,by exact Ref.frame (by simp [sub,fget])⟩
    rcases Nat.lt_or_ge j k with h | h
    ·exact hall j h
    ·obtain rfl:j=k:=by omega
     exact hcv
  ·(refine RN ?_;try with_reducible exact trivial)
   rw [decide_eq_true (p:=IsPrm p∧IsFre p) ⟨hp,fun j hj=>hall j (by omega)⟩]
end
section
open Go.Gov Go.Sort
theorem mul_c (x y:Nat)(hx:x<18446744073709551616)(hy:y<18446744073709551616):Pure Tryz.prog 67 [.val (.int .u64 x),.val (.int .u64 y)] (.tup [.val (.int .u64 ((x*y / 18446744073709551616:Nat):Int)),.val (.int .u64 ((x*y%18446744073709551616:Nat):Int))]) []:=by
 intro g w vals hp hl1 hr
 have h0:=hr 0 (by simp)
 have h1:=hr 1 (by simp)
 simp only [List.getElem_cons_zero,List.getElem_cons_succ] at h0 h1
 have hv:vals = #[.int .u64 x,.int .u64 y]:=by
  refine Array.ext (by simpa using hl1) fun i h2 h3=>?_
  have e0:=h0.val_inv.1
  have e1:=h1.val_inv.1
  match i,h3 with
  | 0,_=>simpa [h2] using e0
  | 1,_=>simpa [h2] using e1
 subst hv
 refine (Any.bits_Mul Tryz.mulL x y hx hy w).mono ?_
 rintro e w' ⟨rfl,rfl⟩
 refine ⟨_,g,_,[],rfl,Mv.refl hp,.tup (by simp) (fun m hm=>?_),fun _ _ _=>rfl,rfl,rfl⟩
 match m,hm with
 | 0,_=>exact .val
 | 1,_=>exact .val
theorem take_lenI (xs:List Int):(intsC xs).take xs.length=intsC xs:=List.take_of_length_le (by simp [intsC])
theorem wrapU (n:Nat)(h:n<18446744073709551616):IntKind.wrap .u64 (n:Int)=n:=by
 show (if (false&&decide ((n:Int)%2^64 ≥ 2^(64 - 1)))=true then (n:Int)%2^64 - 2^64 else (n:Int)%2^64)=(n:Int)
 rw [Bool.false_and,if_neg (by decide)]
 omega
theorem wrapI (n:Nat)(h:n<9223372036854775808):IntKind.wrap .i64 (n:Int)=n:=by
 show (if (true&&decide ((n:Int)%2^64 ≥ 2^(64 - 1)))=true then (n:Int)%2^64 - 2^64 else (n:Int)%2^64)=(n:Int)
 rw [Bool.true_and,if_neg (by simp;omega)]
 omega
theorem repeat_c (v:Int)(n:Nat)(hn:n≤1099511627776):Pure Tryz.prog 59 [ints [v],i64 n] (.sl 0 1 0 n) [some (intsC (List.replicate n v))]:=by
 have e1:IntKind.wrap .u64 ((1:Nat):Int)=((1:Nat):Int):=wrapU 1 (by omega)
 have e2:=wrapU n (by omega)
 refine pureV ok59 rfl ?_;unfold c59
 refine RN ?_
 refine fun _=>?_
 refine RN ?_
 rw [e1,e2]
 have e3:1*n / 18446744073709551616=0:=by omega
 have e4:1*n%18446744073709551616=n:=by omega
 have e5:=wrapI n (by omega)
 have hm:=mul_c 1 n (by omega) (by omega)
 rw [e3,e4] at hm
 refine pureC1 (hm) ?_
 refine RN ?_
 refine fun _=>?_
 refine RN ?_
 have h0:Nat.min 1 n≤n:=Nat.min_le_right _ _
 have h1:0<n→0<Nat.min 1 n:=fun h=>by rw [show Nat.min 1 n=1 from Nat.min_eq_left (by omega)];omega
 have hc0:List.take (Nat.min 1 n) (intsC [v])++List.drop (Nat.min 1 n) (intsC (List.replicate n 0))=intsC (List.replicate (Nat.min 1 n) v++List.replicate (n - Nat.min 1 n) 0):=by
  rw [take_intsC,drop_intsC,app_intsC]
  congr 2
  ·rcases Nat.eq_zero_or_pos n with h | h
   ·subst h;simp
   ·rw [show Nat.min 1 n=1 from Nat.min_eq_left (by omega)];rfl
  ·simp
 rw [hc0]
 generalize Nat.min 1 n=m0 at h0 h1
 refine V_loop (α:=Nat) (S:=fun m=>([(7,.sl 0 1 0 n),(8,i64 m)],[some (intsC (List.replicate m v++List.replicate (n - m) 0))])) (C:=fun m=>m≤n∧(0<n→0<m)) (μ:=fun m=>n - m) m0 ⟨h0,h1⟩ (by exact Ref.frame (by simp [sub,fget])) ?_
 rintro m ⟨hm1,hm2⟩
 have hlen:(List.replicate m v++List.replicate (n - m) (0:Int)).length=n:=by simp;omega
 refine RN ?_
 refine ⟨fun hc=>?_,fun hc=>?_⟩
 ·have hmp:=hm2 (by omega)
  refine RN ?_
  refine V_alts ?_
  refine RN ?_
  have t1:((m:Int) - 0).toNat=m:=by omega
  have t2:Int.toNat 0=0:=rfl
  have t3:((n:Int) - (m:Int)).toNat=n - m:=by omega
  have hq1:Nat.min m (n - m)≤n - m:=Nat.min_le_right _ _
  have hq3:Nat.min m (n - m)≤m:=Nat.min_le_left _ _
  have hq2:0<Nat.min m (n - m):=Nat.lt_min.2 ⟨hmp,by omega⟩
  simp only [t1,t2,t3,List.drop_zero,take_intsC,all_plain_intsC,all_one_intsC,drop_intsC,app_intsC,true_and]
  generalize Nat.min m (n - m)=q at hq1 hq2 hq3
  refine ⟨by omega,m+q,⟨by omega,by omega⟩,by omega,Ref.to ?_ (by simp [sub,fget])⟩
  have u1:(List.replicate m v++List.replicate (n - m) (0:Int)).take m=List.replicate m v:=by rw [List.take_append_of_le_length (by simp)];simp
  have u2:(List.replicate m v).take q=List.replicate q v:=by rw [List.take_replicate,Nat.min_eq_left hq3]
  have u3:(List.replicate m v++List.replicate (n - m) (0:Int)).drop (m+q)=List.replicate (n - (m+q)) 0:=by
   rw [List.drop_append,List.drop_of_length_le (by simp),List.nil_append,List.drop_replicate,List.length_replicate]
   congr 1;omega
  rw [u1,u2,u3,List.replicate_append_replicate]
 ·obtain rfl:m=n:=by omega
  refine RN ?_
  simp
end
section
open Classical
def MvOk (n:Nat)(L:List (List Int)):Prop:=∀ p∈L,p.length=n∧∀ x,x<n→0≤p.getD x 0∧p.getD x 0<n∧p.getD (p.getD x 0).toNat 0=x
inductive Rch (L:List (List Int)) (x:Nat):Nat→Prop
 | refl:Rch L x x
 | step {y:Nat} {p:List Int}:Rch L x y→p∈L→Rch L x (p.getD y 0).toNat
theorem Rch.trans {L:List (List Int)}{x y z:Nat}(h:Rch L x y)(k:Rch L y z):Rch L x z:=by
 induction k with
 | refl=>exact h
 | step _ hp ih=>exact ih.step hp
theorem Rch.lt {n:Nat}{L:List (List Int)}(hL:MvOk n L){x y:Nat}(h:Rch L x y)(hx:x<n):y<n:=by
 induction h with
 | refl=>exact hx
 | step _ hp ih=>have:=(hL _ hp).2 _ ih;omega
theorem Rch.symm {n:Nat}{L:List (List Int)}(hL:MvOk n L){x y:Nat}(h:Rch L x y)(hx:x<n):Rch L y x:=by
 induction h with
 | refl=>exact .refl
 | step h1 hp ih=>
  rename_i y p
  have hy:=h1.lt hL hx
  obtain ⟨_,h2⟩:=hL _ hp
  obtain ⟨h3,h4,h5⟩:=h2 y hy
  have hb:Rch L (p.getD y 0).toNat (p.getD (p.getD y 0).toNat 0).toNat:=Rch.refl.step hp
  rw [h5] at hb
  exact Rch.trans (by simpa using hb) ih
noncomputable def fst (L:List (List Int))(x:Nat):Nat:=((List.range (x+1)).find? fun y=>decide (Rch L y x)).getD x
theorem find_least:∀ (n:Nat) (p:Nat→Bool) (y:Nat),(List.range n).find? p=some y ↔ (y<n∧p y=true∧∀ z,z<y→p z=false)
 | 0,p,y=>by simp
 | n+1,p,y=>by
  rw [List.range_succ,List.find?_append]
  cases h:(List.range n).find? p with
  | some z=>
   have hz:=(find_least n p z).1 h
   simp only [Option.some_or,Option.some.injEq]
   constructor
   ·rintro rfl;exact ⟨by omega,hz.2⟩
   ·rintro ⟨h1,h2,h3⟩
    rcases Nat.lt_trichotomy z y with h4 | h4 | h4
    ·have:=h3 z h4;rw [hz.2.1] at this;cases this
    ·exact h4
    ·have:=hz.2.2 y h4;rw [h2] at this;cases this
  | none=>
   have hno:∀ z,z<n→p z=false:=fun z hz=>by
    have:=List.find?_eq_none.1 h z (List.mem_range.2 hz)
    simpa using this
   simp only [Option.none_or]
   constructor
   ·intro h1
    have h2:y=n∧p n=true:=by
     by_cases hp:p n=true
     ·simp [hp] at h1;exact ⟨h1.symm,hp⟩
     ·simp [hp] at h1
    obtain ⟨rfl,h3⟩:=h2
    exact ⟨by omega,h3,hno⟩
   ·rintro ⟨h1,h2,h3⟩
    have:y=n:=by
     rcases Nat.lt_or_ge y n with h4 | h4
     ·have:=hno y h4;rw [h2] at this;cases this
     ·omega
    subst this
    simp [h2]
theorem fst_spec (L:List (List Int))(x:Nat):fst L x≤x∧Rch L (fst L x) x∧∀ z,z<fst L x→¬ Rch L z x:=by
 unfold fst
 cases h:(List.range (x+1)).find? fun y=>decide (Rch L y x) with
 | some y=>
  obtain ⟨h1,h2,h3⟩:=(find_least _ _ _).1 h
  exact ⟨by simp;omega,by simpa using h2,fun z hz=>by have:=h3 z (by simpa using hz);simpa using this⟩
 | none=>
  have:=List.find?_eq_none.1 h x (by simp)
  simp only [decide_eq_true_eq] at this
  exact absurd Rch.refl this
theorem fst_eq {n:Nat}{L:List (List Int)}(hL:MvOk n L){x y:Nat}(h:Rch L x y)(hx:x<n):fst L x=fst L y:=by
 have hy:=h.lt hL hx
 obtain ⟨a1,a2,a3⟩:=fst_spec L x
 obtain ⟨b1,b2,b3⟩:=fst_spec L y
 rcases Nat.lt_trichotomy (fst L x) (fst L y) with h1 | h1 | h1
 ·exact absurd (a2.trans h) (b3 _ h1)
 ·exact h1
 ·exact absurd (b2.trans (h.symm hL hx)) (a3 _ h1)
theorem fst_fst {n:Nat}{L:List (List Int)}(hL:MvOk n L){x:Nat}(hx:x<n):fst L (fst L x)=fst L x:=by
 obtain ⟨a1,a2,_⟩:=fst_spec L x
 exact fst_eq hL a2 (by omega)
theorem rch_fst {n:Nat}{L:List (List Int)}(hL:MvOk n L){i j:Nat}(hi:i<n)(hj:j<n)(hf:fst L i=i):Rch L i j ↔ fst L j=i:=by
 constructor
 ·intro h;rw [← fst_eq hL h hi,hf]
 ·intro h
  have:=(fst_spec L j).2.1
  rwa [h] at this
noncomputable def ncnt (L:List (List Int))(k:Nat):Nat:=(List.range k).countP fun m=>decide (fst L m=m)
theorem ncnt_succ (L:List (List Int))(k:Nat):ncnt L (k+1)=ncnt L k+if fst L k=k then 1 else 0:=by
 unfold ncnt
 rw [List.range_succ,List.countP_append]
 by_cases h:fst L k=k<;>simp [h]
theorem ncnt_le (L:List (List Int))(k:Nat):ncnt L k≤k:=by
 have:=List.countP_le_length (p:=fun m=>decide (fst L m=m)) (l:=List.range k)
 simpa [ncnt] using this
theorem ncnt_mono (L:List (List Int)){a b:Nat}(h:a≤b):ncnt L a≤ncnt L b:=by
 induction b with
 | zero => have : a = 0 := by omega
           subst this;exact Nat.le_refl _
 | succ b ih=>
  rcases Nat.lt_or_ge b a with h1 | h1
  ·have:a=b+1:=by omega
   subst this;exact Nat.le_refl _
  ·rw [ncnt_succ];have:=ih h1;omega
noncomputable def lab (L:List (List Int))(x:Nat):Nat:=ncnt L (fst L x)
noncomputable def labs (n:Nat)(L:List (List Int)):List Int:=(List.range n).map fun x=>((lab L x:Nat):Int)
theorem lab_lt {n:Nat}{L:List (List Int)}(hL:MvOk n L){x:Nat}(hx:x<n):lab L x<ncnt L n:=by
 have h1:=(fst_spec L x).1
 have h2:=ncnt_succ L (fst L x)
 rw [if_pos (fst_fst hL hx)] at h2
 have h3:=ncnt_mono L (show fst L x+1≤n by omega)
 unfold lab;omega
noncomputable def lbV (n:Nat)(L:List (List Int))(i:Nat)(V:List Nat):List Int:=(List.range n).map fun j=>if fst L j<i then ((lab L j:Nat):Int) else if j∈V then (ncnt L i:Nat) else -1
theorem lbV_len (n:Nat)(L:List (List Int))(i:Nat)(V:List Nat):(lbV n L i V).length=n:=by simp [lbV]
theorem lbV_at {n:Nat}{L:List (List Int)}{i:Nat}{V:List Nat}{j:Nat}(hj:j<n):(lbV n L i V).getD j 0=if fst L j<i then ((lab L j:Nat):Int) else if j∈V then (ncnt L i:Nat) else -1:=by
 simp [lbV,hj]
theorem lbV_set {n:Nat}{L:List (List Int)}{i:Nat}{V:List Nat}{j:Nat}(hj:j<n)(hf:¬ fst L j<i):(lbV n L i V).set j (ncnt L i:Nat)=lbV n L i (V++[j]):=by
 refine List.ext_getElem (by simp [lbV]) fun k h1 h2=>?_
 by_cases e:j=k
 ·subst e
  simp [lbV,hf]
 ·rw [List.getElem_set_ne e]
  simp [lbV,show ¬ k=j from fun h=>e h.symm]
theorem lbV_start (n:Nat)(L:List (List Int)):lbV n L 0 []=List.replicate n (-1):=by
 refine List.ext_getElem (by simp [lbV]) fun k h1 h2=>?_
 simp [lbV]
theorem lbV_old {n:Nat}{L:List (List Int)}{i:Nat}(hL:MvOk n L)(h:fst L i≠i):lbV n L i []=lbV n L (i+1) []:=by
 unfold lbV
 refine List.map_congr_left fun j hj=>?_
 have hj:=List.mem_range.1 hj
 have hne:fst L j≠i:=fun e=>h (by have:=fst_fst hL hj;rw [e] at this;exact this)
 by_cases h1:fst L j<i
 ·rw [if_pos h1,if_pos (by omega)]
 ·simp only [List.not_mem_nil,if_false]
  rw [if_neg h1,if_neg (by omega)]
theorem lbV_new {n:Nat}{L:List (List Int)}{i:Nat}{V:List Nat}(hL:MvOk n L)(hi:i<n)(h:fst L i=i)(hV:∀ j,j∈V ↔ Rch L i j):lbV n L i V=lbV n L (i+1) []:=by
 unfold lbV
 refine List.map_congr_left fun j hj=>?_
 have hj:=List.mem_range.1 hj
 by_cases h1:fst L j<i
 ·rw [if_pos h1,if_pos (by omega)]
 ·rw [if_neg h1]
  by_cases h2:fst L j=i
  ·rw [if_pos ((hV j).2 ((rch_fst hL hi hj h).2 h2)),if_pos (by omega)]
   unfold lab;rw [h2]
  ·rw [if_neg (fun hm=>h2 ((rch_fst hL hi hj h).1 ((hV j).1 hm))),if_neg (by omega)]
   simp
theorem lbV_end (n:Nat)(L:List (List Int)):lbV n L n []=labs n L:=by
 unfold lbV labs
 refine List.map_congr_left fun j hj=>?_
 have:=(fst_spec L j).1
 rw [if_pos (by have:=List.mem_range.1 hj;omega)]
theorem ncnt_new {L:List (List Int)}{i:Nat}(h:fst L i=i):ncnt L (i+1)=ncnt L i+1:=by rw [ncnt_succ,if_pos h]
theorem ncnt_old {L:List (List Int)}{i:Nat}(h:fst L i≠i):ncnt L (i+1)=ncnt L i:=by rw [ncnt_succ,if_neg h];rfl
theorem closed_all {L:List (List Int)}{i:Nat}{V:List Nat}(h0:i∈V)(hc:∀ x∈V,∀ p∈L,(p.getD x 0).toNat∈V):∀ j,Rch L i j→j∈V:=fun j h=>by
 induction h with
 | refl=>exact h0
 | step _ hp ih=>exact hc _ ih _ hp
theorem nodup_len:∀ {n:Nat} {V:List Nat},V.Nodup→(∀ x∈V,x<n)→V.length≤n
 | 0,V,_,hV=>by
  cases V with
  | nil=>simp
  | cons x V=>have:=hV x (by simp);omega
 | n+1,V,hn,hV=>by
  have h1:=nodup_len (n:=n) (V:=V.erase n) (hn.erase n) fun x hx=>by
   have:=(hn.mem_erase_iff).1 hx
   have:=hV x this.2
   omega
  rw [List.length_erase] at h1
  split at h1<;>omega
end
section
open Go.Gov
open Classical
def nz (O:List Nat):List Int:=O.map fun (x:Nat)=>(x:Int)
theorem nz_len (O:List Nat):(nz O).length=O.length:=by simp [nz]
theorem nz_snoc (O:List Nat)(x:Nat):nz (O++[x])=nz O++[(x:Int)]:=by simp [nz]
structure OrbI (L:List (List Int)) (n i:Nat) (V O:List Nat) (x:Option (Nat×Nat)):Prop where
 nd:V.Nodup
 start:i∈V
 reach:∀ y∈V,y<n∧Rch L i y
 wait:∀ y∈O,y∈V
 done:∀ y∈V,y∉O→(∀ q,x=some q→y≠q.1)→∀ p∈L,(p.getD y 0).toNat∈V
 now:∀ q,x=some q→q.1∈V∧∀ j,j<q.2→((L.getD j []).getD q.1 0).toNat∈V
 short:O.length≤V.length
theorem OrbI.pop {L:List (List Int)}{n i:Nat}{V O:List Nat}{x:Nat}(h:OrbI L n i V (O++[x]) none):OrbI L n i V O (some (x,0)):=
 ⟨h.nd,h.start,h.reach,fun y hy=>h.wait y (by simp [hy]),fun y hy hno hx=>h.done y hy (by simp [hno,hx (x,0) rfl]) (fun q hq=>by cases hq),fun q hq=>by
  cases hq
  exact ⟨h.wait x (by simp),fun j hj=>absurd hj (by omega)⟩,by have:=h.short;simp at this;omega⟩
theorem OrbI.skip {L:List (List Int)}{n i:Nat}{V O:List Nat}{x k:Nat}(h:OrbI L n i V O (some (x,k)))(hy:((L.getD k []).getD x 0).toNat∈V):OrbI L n i V O (some (x,k+1)):=
 ⟨h.nd,h.start,h.reach,h.wait,fun y hy hno hx=>h.done y hy hno fun q hq=>by cases hq;exact hx (x,k+1) rfl,fun q hq=>by
  cases hq
  obtain ⟨h1,h2⟩:=h.now (x,k) rfl
  refine ⟨h1,fun j hj=>?_⟩
  rcases Nat.lt_or_ge j k with h3 | h3
  ·exact h2 j h3
  ·obtain rfl:j=k:=by dsimp only at hj;omega
   exact hy,h.short⟩
theorem OrbI.add {L : List (List Int)} {n i : Nat} {V O : List Nat} {x k : Nat} (h : OrbI L n i V O (some (x, k))) (hy : ((L.getD k []).getD x 0).toNat ∉ V) (hn : ((L.getD k []).getD x 0).toNat < n) (hr : Rch L i ((L.getD k []).getD x 0).toNat) :
    OrbI L n i (V++[((L.getD k []).getD x 0).toNat]) (O++[((L.getD k []).getD x 0).toNat]) (some (x,k+1)):=by
 generalize hz:((L.getD k []).getD x 0).toNat=z at hy hn hr
 refine ⟨?_,by simp [h.start],fun y hy' => ?_,fun y hy' => ?_,fun y hy' hno hx p hp=>?_,fun q hq=>?_,by have:=h.short;simp;omega⟩
 ·rw [List.nodup_append]
  exact ⟨h.nd,by simp,fun a ha b hb=>by simp at hb;subst hb;exact fun e=>hy (e ▸ ha)⟩
 ·rcases List.mem_append.1 hy' with h1 | h1
  ·exact h.reach y h1
  ·simp at h1;subst h1;exact ⟨hn,hr⟩
 ·rcases List.mem_append.1 hy' with h1 | h1
  ·simp [h.wait y h1]
  ·simp [List.mem_singleton.1 h1]
 ·have hyO:y∉O:=fun hm=>hno (by simp [hm])
  have hyz:y≠z:=fun e=>hno (by simp [e])
  have hyV:y∈V:=by
   rcases List.mem_append.1 hy' with h1 | h1
   ·exact h1
   ·exact absurd (List.mem_singleton.1 h1) hyz
  exact List.mem_append_left _ (h.done y hyV hyO (fun q hq=>by cases hq;exact hx (x,k+1) rfl) p hp)
 ·cases hq
  obtain ⟨h1,h2⟩:=h.now (x,k) rfl
  refine ⟨by simp [h1],fun j hj=>?_⟩
  rcases Nat.lt_or_ge j k with h3 | h3
  ·exact List.mem_append_left _ (h2 j h3)
  ·obtain rfl:j=k:=by dsimp only at hj;omega
   dsimp only
   rw [hz]
   exact List.mem_append_right _ (List.mem_singleton.2 rfl)
theorem OrbI.fin {L:List (List Int)}{n i:Nat}{V O:List Nat}{x:Nat}(h:OrbI L n i V O (some (x,L.length))):OrbI L n i V O none:=
 ⟨h.nd,h.start,h.reach,h.wait,fun y hy hno _ p hp=>by
  by_cases e:y=x
  ·subst e
   obtain ⟨j,hj,rfl⟩:=List.mem_iff_getElem.1 hp
   have:=(h.now (y,L.length) rfl).2 j hj
   simpa [hj] using this
  ·exact h.done y hy hno (fun q hq=>by cases hq;exact e) p hp,fun q hq=>(by cases hq),h.short⟩
theorem row_mem {L:List (List Int)}{k:Nat}(h:k<L.length):L.getD k []∈L:=by
 rw [show L.getD k []=L[k] by simp [h]];exact List.getElem_mem _
theorem orbitLabels_c (n:Nat)(L:List (List Int))(hL:MvOk n L)(hn:n≤1048576)(hl:L.length≤1048576):Pure Tryz.prog 46 [i64 n,mat L] (.tup [.sl 0 1 0 n,i64 (ncnt L n)]) [some (intsC (labs n L))]:=by
 refine pureVg [0] ok46 rfl ?_;unfold c46
 refine RN ?_
 refine pureC2 (repeat_c (-1) n (by omega)) (by (try simp only [go_sem,↓reduceIte,Nat.reduceEqDiff,Nat.reduceAdd,reduceCtorEq,Nat.reduceMul,List.take_succ_cons,List.take_zero,List.take_nil]);try rfl) ?_
 refine RN ?_
 rw [← lbV_start n L]
 refine V_loop (α:=Nat) (S:=fun i=>([(1,mat L),(6,.sl 0 1 0 n),(7,i64 (ncnt L i)),(17,i64 n),(18,i64 i)],[some (intsC (lbV n L i []))])) (C:=fun i=>i≤n) (μ:=fun i=>n - i) 0 (by omega) (Ref.gc [1] rfl (by simp only [go_sem,↓reduceIte,Nat.reduceEqDiff,Nat.reduceAdd,reduceCtorEq]) (by simp [sub,fget,go_sem,↓reduceIte,Nat.reduceEqDiff,Nat.reduceAdd,reduceCtorEq,ncnt])) ?_
 intro i hi
 have hlen:=lbV_len n L i []
 have hcl:=ncnt_le L i
 refine RN ?_
 refine ⟨fun hc=>?_,fun hc=>?_⟩
 ·have hi' : i<n:=by omega
  have hat:=lbV_at (n:=n) (L:=L) (i:=i) (V:=[]) hi'
  simp only [List.not_mem_nil,if_false] at hat
  obtain ⟨f1,f2,f3⟩:=fst_spec L i
  refine RN ?_
  refine ⟨fun hc1=>?_,fun hc1=>?_⟩
  ·have hne:fst L i≠i:=fun e=>by rw [hat,if_neg (by omega)] at hc1;omega
   refine RN ?_
   refine ⟨i+1,by omega,by omega,?_⟩
   rw [← lbV_old hL hne,ncnt_old hne]
   exact Ref.frame (by simp [sub,fget])
  ·have hfi : fst L i = i := by
     rcases Nat.lt_or_ge (fst L i) i with h | h
     ·rw [hat,if_pos h] at hc1;omega
     ·omega
   have hset:=lbV_set (n:=n) (L:=L) (i:=i) (V:=[]) hi' (by omega)
   simp only [List.nil_append] at hset
   refine RN ?_
   rw [hset]
   have hI0:OrbI L n i [i] [i] none:=⟨by simp,by simp,fun y hy=>by simp at hy;subst hy;exact ⟨hi', .refl⟩,fun y hy=>hy,fun y hy hno=>absurd hy hno,fun q hq=>(by cases hq),by simp⟩
   refine V_loop (α:=List Nat×List Nat) (S:=fun p=>([(1,mat L),(6,.sl 0 1 0 n),(7,i64 (ncnt L i)),(9,.sl 1 1 0 p.2.length),(17,i64 n),(18,i64 i)],[some (intsC (lbV n L i p.1)),some (intsC (nz p.2))])) (C:=fun p=>OrbI L n i p.1 p.2 none) (μ:=fun p=>2*(n - p.1.length)+p.2.length) ([i],[i]) hI0 (Ref.to (by simp [nz,intsC]) (by simp [sub,fget])) ?_
   rintro ⟨V,O⟩ hI
   have hI:OrbI L n i V O none:=hI
   have hlenV:=lbV_len n L i V
   have hnzl:=nz_len O
   have hVn:=nodup_len hI.nd fun y hy=>(hI.reach y hy).1
   have hOs:=hI.short
   refine RN ?_
   refine ⟨fun hc2=>?_,fun hc2=>?_⟩
   ·obtain ⟨O1, x, rfl⟩ : ∃ O1 x, O = O1 ++ [x] := by
      have hne:O≠[]:=by intro h;subst h;simp at hc2
      exact ⟨O.dropLast,O.getLast hne,(List.dropLast_concat_getLast hne).symm⟩
    have hx:=hI.wait x (by simp)
    obtain ⟨hxn,hxr⟩:=hI.reach x hx
    have hol:(O1++[x]).length=O1.length+1:=by simp
    have hxv:(nz (O1++[x])).getD O1.length 0=(x:Int):=by simp [nz]
    have hpop:=hI.pop
    have hct2:=ncnt_le L i
    refine RN ?_
    refine V_loop (α:=Nat×List Nat×List Nat) (S:=fun p=>([(1,mat L),(6,.sl 0 1 0 n),(7,i64 (ncnt L i)),(9,.sl 1 1 0 p.2.2.length),(10,i64 x),(17,i64 n),(18,i64 i),(46,mat L),(47,i64 L.length),(48,i64 p.1)],[some (intsC (lbV n L i p.2.1)),some (intsC (nz p.2.2))])) (C:=fun p=>p.1≤L.length∧OrbI L n i p.2.1 p.2.2 (some (x,p.1))∧2*(n - p.2.1.length)+p.2.2.length<2*(n - V.length)+(O1++[x]).length) (μ:=fun p=>L.length - p.1) (0,V,O1) ⟨Nat.zero_le _,hpop,by simp⟩ ?_ ?_
    ·refine (Ref.cut 1 O1.length 9 (cs:=intsC (nz (O1++[x]))) (k:=1) (off:=0) (len:=O1.length) rfl (by simp [intsC,nz]) (by simp [fget]) (by omega)).trans (Ref.gc [0,2] rfl ?_ ?_)
     ·simp only [go_sem,↓reduceIte,Nat.reduceEqDiff,Nat.reduceAdd,reduceCtorEq,List.cons_append,List.nil_append]
      congr 3
      rw [take_intsC,nz_snoc,List.take_append_of_le_length (by simp [nz]),← nz_len O1,List.take_length]
      exact rnmL_ints _ _
     ·simp [sub,fget,go_sem,↓reduceIte,Nat.reduceEqDiff,Nat.reduceAdd,reduceCtorEq]
      simp [nz]
    ·rintro ⟨k,V2,O2⟩ ⟨hk,hI2,hμ⟩
     dsimp only at hk hI2 hμ
     have hlenV2:=lbV_len n L i V2
     have hnzl2:=nz_len O2
     have hVn2:=nodup_len hI2.nd fun y hy=>(hI2.reach y hy).1
     have hOs2:=hI2.short
     refine RN ?_
     refine ⟨fun hc3=>?_,fun hc3=>?_⟩
     ·have hrm:=row_mem (L:=L) (k:=k) (by omega)
      obtain ⟨hrl,hrb⟩:=hL _ hrm
      obtain ⟨y1,y2,_⟩:=hrb x hxn
      have hyr:=hxr.step hrm
      have hfy:=fst_eq hL hyr hi'
      have hat3:=lbV_at (n:=n) (L:=L) (i:=i) (V:=V2) (j:=((L.getD k []).getD x 0).toNat) (by omega)
      rw [if_neg (by omega)] at hat3
      refine RN ?_
      refine ⟨fun hc4=>?_,fun hc4=>?_⟩
      ·have hno:((L.getD k []).getD x 0).toNat∉V2:=fun hm=>by rw [hat3,if_pos hm] at hc4;omega
       have hset3:=lbV_set (n:=n) (L:=L) (i:=i) (V:=V2) (j:=((L.getD k []).getD x 0).toNat) (by omega) (by omega)
       have hadd:=hI2.add hno (by omega) hyr
       have hVn3:=nodup_len hadd.nd fun y hy=>(hadd.reach y hy).1
       have hl3:(V2++[((L.getD k []).getD x 0).toNat]).length=V2.length+1:=by simp
       have hl4:(O2++[((L.getD k []).getD x 0).toNat]).length=O2.length+1:=by simp
       have hy3:((((L.getD k []).getD x 0).toNat:Nat):Int)=(L.getD k []).getD x 0:=by omega
       refine RN ?_
       refine ⟨(k+1,V2++[((L.getD k []).getD x 0).toNat],O2++[((L.getD k []).getD x 0).toNat]),⟨by dsimp only;omega,hadd,by dsimp only;omega⟩,by dsimp only;omega,?_⟩
       dsimp only
       rw [← hset3,nz_snoc,hy3]
       refine Ref.gc [0,3] rfl ?_ (by simp [sub,fget,go_sem,↓reduceIte,Nat.reduceEqDiff,Nat.reduceAdd,reduceCtorEq])
       (try simp only [go_sem,↓reduceIte,Nat.reduceEqDiff,Nat.reduceAdd,reduceCtorEq,← hnzl2,take_lenI,one_intsC,app_intsC])
      ·have hin : ((L.getD k []).getD x 0).toNat ∈ V2 := by
         rcases Classical.em (((L.getD k []).getD x 0).toNat∈V2) with h | h
         ·exact h
         ·rw [hat3,if_neg h] at hc4;omega
       refine RN ?_
       exact ⟨(k+1,V2,O2),⟨by dsimp only;omega,hI2.skip hin,by dsimp only;omega⟩,by dsimp only;omega,by exact Ref.frame (by simp [sub,fget])⟩
     ·obtain rfl:k=L.length:=by omega
      refine RN ?_
      exact ⟨(V2,O2),hI2.fin,by dsimp only;omega,by exact Ref.frame (by simp [sub,fget])⟩
   ·obtain rfl:O=[]:=List.eq_nil_of_length_eq_zero (by omega)
    have hV:∀ j,j∈V ↔ Rch L i j:=fun j=>⟨fun h=>(hI.reach j h).2,closed_all hI.start (fun y hy=>hI.done y hy (by simp) (fun q hq=>by cases hq)) j⟩
    have hnew:=lbV_new hL hi' hfi hV
    have hct:=ncnt_new hfi
    refine RN ?_
    refine ⟨i+1,by omega,by omega,?_⟩
    rw [← hnew]
    refine Ref.gc [0] rfl ?_ (by simp [sub,fget,go_sem,↓reduceIte,Nat.reduceEqDiff,Nat.reduceAdd,reduceCtorEq,hct])
    (try simp only [go_sem,↓reduceIte,Nat.reduceEqDiff,Nat.reduceAdd,reduceCtorEq])
 ·obtain rfl:i=n:=by omega
  rw [lbV_end]
  (refine RN ?_;try with_reducible exact trivial)
  (try simp only [go_sem,↓reduceIte,Nat.reduceEqDiff,Nat.reduceAdd,reduceCtorEq,and_self])
end
section
open Go.Gov
open Classical
theorem OrbI.popH {L:List (List Int)}{n i:Nat}{V O:List Nat}{x:Nat}(h:OrbI L n i V (x :: O) none):OrbI L n i V O (some (x,0)):=
 ⟨h.nd,h.start,h.reach,fun y hy=>h.wait y (by simp [hy]),fun y hy hno hx=>h.done y hy (by simp [hno,hx (x,0) rfl]) (fun q hq=>by cases hq),fun q hq=>by
  cases hq
  exact ⟨h.wait x (by simp),fun j hj=>absurd hj (by omega)⟩,by have:=h.short;simp at this;omega⟩
noncomputable def seenV (m:Nat)(V:List Nat):List Bool:=(List.range m).map fun (x:Nat)=>decide (x∈V)
theorem seenV_len (m:Nat)(V:List Nat):(seenV m V).length=m:=by simp [seenV]
theorem seenV_nil (m:Nat):List.replicate m false=seenV m []:=List.ext_getElem (by simp [seenV]) fun j h1 h2=>by simp [seenV]
theorem seenV_at {m:Nat}{V:List Nat}{x:Nat}(h:x<m):(seenV m V).getD x false=decide (x∈V):=by simp [seenV,h]
theorem seenV_set {m:Nat}{V:List Nat}{x:Nat}:(seenV m V).set x true=seenV m (V++[x]):=by
 refine List.ext_getElem (by simp [seenV]) fun j h1 h2=>?_
 by_cases e:x=j
 ·subst e;simp [seenV]
 ·rw [List.getElem_set_ne e]
  simp [seenV,show ¬ j=x from fun h=>e h.symm]
theorem l01Orbit_c (n:Nat)(L:List (List Int))(pt:Nat)(hL:MvOk n L)(hp:pt<n)(hn:n≤1048576)(hl:L.length≤1048576):PureE Tryz.prog 61 [mat L,i64 pt] (fun V:List Nat=>V.Nodup∧∀ j,j∈V ↔ Rch L pt j) (fun V=>.sl 0 1 0 V.length) (fun V=>[some (intsC (nz V))]):=by
 refine pureEV [0] ok61 rfl ?_;unfold c61
 refine RN ?_
 have hI0:OrbI L n pt [pt] [pt] none:=⟨by simp,by simp,fun y hy=>by simp at hy;subst hy;exact ⟨hp,.refl⟩,fun y hy=>hy,fun y hy hno=>absurd hy hno,fun q hq=>(by cases hq),by simp⟩
 refine ⟨fun hcl=>?_,fun hcl=>?_⟩
 ·have hl0:(L.getD 0 []).length=n:=(hL _ (row_mem (k:=0) (by omega))).1
  have hLne:L≠[]:=by intro h;subst h;simp at hcl
  have hm:(((n:Nat):Int)+(pt:Int)+1).toNat=n+pt+1:=by omega
  ·(refine RN ?_;try with_reducible exact trivial)
   simp only [hl0,hm,go_sem,↓reduceIte,Nat.reduceEqDiff,Nat.reduceAdd,reduceCtorEq]
   refine RN ?_
   rw [seenV_nil,seenV_set]
   simp only [List.nil_append]
   refine V_loop (α:=Nat×List Nat) (S:=fun p=>([(0,mat L),(5,.sl 0 1 0 p.2.length),(7,.sl 1 1 0 (n+pt+1)),(8,i64 p.1)],[some (intsC (nz p.2)),some (boolsC (seenV (n+pt+1) p.2))])) (C:=fun p=>p.1≤p.2.length∧OrbI L n pt p.2 (p.2.drop p.1) none∧(L=[]→p.2=[pt])) (μ:=fun p=>n+1 - p.1) (0,[pt]) ⟨Nat.zero_le _,hI0,fun _=>rfl⟩ (Ref.to (by simp [nz,intsC]) (by simp [sub,fget])) ?_
   rintro ⟨q,V⟩ ⟨hq,hI,hLe⟩
   dsimp only at hq hI hLe
   have hnzl:=nz_len V
   have hVn:=nodup_len hI.nd fun y hy=>(hI.reach y hy).1
   refine RN ?_
   refine ⟨fun hc2=>?_,fun hc2=>?_⟩
   ·have hq' : q<V.length:=by omega
    have hdr:V.drop q=V[q] :: V.drop (q+1):=List.drop_eq_getElem_cons hq'
    rw [hdr] at hI
    have hpop:=hI.popH
    have hxV:V[q]∈V:=List.getElem_mem _
    obtain ⟨hxn,hxr⟩:=hI.reach _ hxV
    generalize hx:V[q]=x at hpop hxV hxn hxr
    have hxat:∀ W:List Nat,(nz (V++W)).getD q 0=(x:Int):=fun W=>by simp [nz,hq', List.getElem?_append_left,hx]
    refine RN ?_
    refine V_loop (α:=Nat×List Nat) (S:=fun p=>([(0,mat L),(5,.sl 0 1 0 (V++p.2).length),(7,.sl 1 1 0 (n+pt+1)),(8,i64 q),(9,i64 p.1)],[some (intsC (nz (V++p.2))),some (boolsC (seenV (n+pt+1) (V++p.2)))])) (C:=fun p=>p.1≤L.length∧OrbI L n pt (V++p.2) (V.drop (q+1)++p.2) (some (x,p.1))∧(L=[]→p.2=[])) (μ:=fun p=>L.length - p.1) (0,[]) ⟨Nat.zero_le _,by simpa using hpop,fun _=>rfl⟩ (Ref.to (by simp) (by simp [sub,fget])) ?_
    rintro ⟨k,W⟩ ⟨hk,hI2,hLe2⟩
    dsimp only at hk hI2 hLe2
    have hnzl2:=nz_len (V++W)
    have hat1:=hxat W
    have hVn2:=nodup_len hI2.nd fun y hy=>(hI2.reach y hy).1
    have hsl:=seenV_len (n+pt+1) (V++W)
    have hVW:(V++W).length=V.length+W.length:=List.length_append
    refine RN ?_
    refine ⟨fun hc3=>?_,fun hc3=>?_⟩
    ·have hrm:=row_mem (L:=L) (k:=k) (by omega)
     obtain ⟨hrl,hrb⟩:=hL _ hrm
     obtain ⟨y1,y2,_⟩:=hrb x hxn
     have hyr:=hxr.step hrm
     have hym:((L.getD k []).getD x 0).toNat<n+pt+1:=by omega
     have hat3:=seenV_at (m:=n+pt+1) (V:=V++W) hym
     generalize hZ:V++W=Z at hnzl2 hat1 hVn2 hsl hI2 hat3 hVW ⊢
     have hxi:(((x:Nat):Int)).toNat=x:=by omega
     refine RN ?_
     simp only [hat1,hxi,go_sem,↓reduceIte,Nat.reduceEqDiff,Nat.reduceAdd,reduceCtorEq]
     refine RN ?_
     refine ⟨fun hc4=>?_,fun hc4=>?_⟩
     ·have hno : ((L.getD k []).getD x 0).toNat ∉ Z := by
        intro hm'
        rw [hat3,decide_eq_true hm'] at hc4
        cases hc4
      have hadd:=hI2.add hno (by omega) hyr
      have hst:=seenV_set (m:=n+pt+1) (V:=Z) (x:=((L.getD k []).getD x 0).toNat)
      have hy3:((((L.getD k []).getD x 0).toNat:Nat):Int)=(L.getD k []).getD x 0:=by omega
      refine RN ?_
      refine ⟨(k+1,W++[((L.getD k []).getD x 0).toNat]),⟨by dsimp only;omega,?_,fun h=>absurd h (by intro h;subst h;simp at hc3;omega)⟩,by dsimp only;omega,?_⟩
      ·dsimp only
       rw [← List.append_assoc,← List.append_assoc,hZ]
       exact hadd
      ·dsimp only
       rw [← List.append_assoc,hZ,← hst,nz_snoc,hy3]
       refine Ref.gc [3,1] rfl ?_ (by simp [sub,fget,go_sem,↓reduceIte,Nat.reduceEqDiff,Nat.reduceAdd,reduceCtorEq,Nat.add_assoc])
       have hVW' : V.length+W.length=(nz Z).length:=by omega
       (try simp only [go_sem,↓reduceIte,Nat.reduceEqDiff,Nat.reduceAdd,reduceCtorEq,hVW', take_lenI,one_intsC,app_intsC])
     ·have hin : ((L.getD k []).getD x 0).toNat ∈ Z := by
        rcases Classical.em (((L.getD k []).getD x 0).toNat∈Z) with h | h
        ·exact h
        ·rw [hat3,decide_eq_false h] at hc4;cases hc4
      refine RN ?_
      refine ⟨(k+1,W),⟨by dsimp only;omega,?_,hLe2⟩,by dsimp only;omega,?_⟩
      ·dsimp only
       rw [hZ]
       exact hI2.skip hin
      ·dsimp only
       rw [hZ]
       exact Ref.frame (by simp [sub,fget])
    ·obtain rfl:k=L.length:=by omega
     refine RN ?_
     refine ⟨(q+1,V++W),⟨by dsimp only;omega,?_,fun h=>by rw [hLe h,hLe2 h];rfl⟩,by dsimp only;omega,by exact Ref.frame (by simp [sub,fget])⟩
     dsimp only
     rw [List.drop_append_of_le_length (by omega)]
     exact hI2.fin
   ·obtain rfl:q=V.length:=by omega
    rw [List.drop_length] at hI
    refine RN ?_
    refine ⟨V,⟨hI.nd,fun j=>⟨fun h=>(hI.reach j h).2,closed_all hI.start (fun y hy=>hI.done y hy (by simp) (fun q hq=>by cases hq)) j⟩⟩,?_,?_⟩
    ·simp only [go_sem,↓reduceIte,Nat.reduceEqDiff,Nat.reduceAdd,reduceCtorEq]
    ·simp only [go_sem,↓reduceIte,Nat.reduceEqDiff,Nat.reduceAdd,reduceCtorEq]
 ·have hLe:L=[]:=by cases L with | nil=>rfl | cons a b=>exact absurd hcl (by simp;try omega)
  have hL0:L.length=0:=by rw [hLe];rfl
  have hm:((0:Int)+(pt:Int)+1).toNat=pt+1:=by omega
  ·(refine RN ?_;try with_reducible exact trivial)
   simp only [hm,go_sem,↓reduceIte,Nat.reduceEqDiff,Nat.reduceAdd,reduceCtorEq]
   refine RN ?_
   rw [seenV_nil,seenV_set]
   simp only [List.nil_append]
   refine V_loop (α:=Nat×List Nat) (S:=fun p=>([(0,mat L),(5,.sl 0 1 0 p.2.length),(7,.sl 1 1 0 (pt+1)),(8,i64 p.1)],[some (intsC (nz p.2)),some (boolsC (seenV (pt+1) p.2))])) (C:=fun p=>p.1≤p.2.length∧OrbI L n pt p.2 (p.2.drop p.1) none∧(L=[]→p.2=[pt])) (μ:=fun p=>n+1 - p.1) (0,[pt]) ⟨Nat.zero_le _,hI0,fun _=>rfl⟩ (Ref.to (by simp [nz,intsC]) (by simp [sub,fget])) ?_
   rintro ⟨q,V⟩ ⟨hq,hI,hLe1⟩
   dsimp only at hq hI hLe1
   have hnzl:=nz_len V
   have hVn:=nodup_len hI.nd fun y hy=>(hI.reach y hy).1
   refine RN ?_
   refine ⟨fun hc2=>?_,fun hc2=>?_⟩
   ·have hq' : q<V.length:=by omega
    have hdr:V.drop q=V[q] :: V.drop (q+1):=List.drop_eq_getElem_cons hq'
    rw [hdr] at hI
    have hpop:=hI.popH
    have hxV:V[q]∈V:=List.getElem_mem _
    obtain ⟨hxn,hxr⟩:=hI.reach _ hxV
    generalize hx:V[q]=x at hpop hxV hxn hxr
    have hxat:∀ W:List Nat,(nz (V++W)).getD q 0=(x:Int):=fun W=>by simp [nz,hq', List.getElem?_append_left,hx]
    refine RN ?_
    refine V_loop (α:=Nat×List Nat) (S:=fun p=>([(0,mat L),(5,.sl 0 1 0 (V++p.2).length),(7,.sl 1 1 0 (pt+1)),(8,i64 q),(9,i64 p.1)],[some (intsC (nz (V++p.2))),some (boolsC (seenV (pt+1) (V++p.2)))])) (C:=fun p=>p.1≤L.length∧OrbI L n pt (V++p.2) (V.drop (q+1)++p.2) (some (x,p.1))∧(L=[]→p.2=[])) (μ:=fun p=>L.length - p.1) (0,[]) ⟨Nat.zero_le _,by simpa using hpop,fun _=>rfl⟩ (Ref.to (by simp) (by simp [sub,fget])) ?_
    rintro ⟨k,W⟩ ⟨hk,hI2,hLe2⟩
    dsimp only at hk hI2 hLe2
    have hnzl2:=nz_len (V++W)
    have hat1:=hxat W
    have hVn2:=nodup_len hI2.nd fun y hy=>(hI2.reach y hy).1
    have hsl:=seenV_len (pt+1) (V++W)
    have hVW:(V++W).length=V.length+W.length:=List.length_append
    refine RN ?_
    intro hc3
    ·obtain rfl:k=L.length:=by omega
     refine RN ?_
     refine ⟨(q+1,V++W),⟨by dsimp only;omega,?_,fun h=>by rw [hLe1 h,hLe2 h];rfl⟩,by dsimp only;omega,by exact Ref.frame (by simp [sub,fget])⟩
     dsimp only
     rw [List.drop_append_of_le_length (by omega)]
     exact hI2.fin
   ·obtain rfl:q=V.length:=by omega
    rw [List.drop_length] at hI
    refine RN ?_
    refine ⟨V,⟨hI.nd,fun j=>⟨fun h=>(hI.reach j h).2,closed_all hI.start (fun y hy=>hI.done y hy (by simp) (fun q hq=>by cases hq)) j⟩⟩,?_,?_⟩
    ·simp only [go_sem,↓reduceIte,Nat.reduceEqDiff,Nat.reduceAdd,reduceCtorEq]
    ·simp only [go_sem,↓reduceIte,Nat.reduceEqDiff,Nat.reduceAdd,reduceCtorEq]
end
section
open Go.Gov
open Classical
theorem nz_at {V:List Nat}{j:Nat}(h:j<V.length):(nz V).getD j 0=(V[j]:Int):=by simp [nz,h]
theorem take_succN {V:List Nat}{j:Nat}(h:j<V.length):V.take (j+1)=V.take j++[V[j]]:=by rw [List.take_add_one,List.getElem?_eq_getElem h];rfl
theorem l01Orbits_c (n:Nat)(L:List (List Int))(hL:MvOk n L)(hn:n≤1048576)(hl:L.length≤1048576):Pure Tryz.prog 54 [i64 n,mat L] (.sl 0 1 0 n) [some (intsC (labs n L))]:=by
 refine pureVg [0] ok54 rfl ?_;unfold c54
 refine RN ?_
 refine V_loop (α:=Nat) (S:=fun k=>([(0,i64 n),(1,mat L),(5,.sl 0 1 0 k),(6,i64 k)],[some (intsC (List.replicate k (-1)))])) (C:=fun k=>k≤n) (μ:=fun k=>n - k) 0 (by omega) (Ref.to (by simp [intsC]) (by simp [sub,fget])) ?_
 intro k hk
 have hkl:(List.replicate k (-1:Int)).length=k:=by simp
 refine RN ?_
 refine ⟨fun hc=>?_,fun hc=>?_⟩
 ·(refine RN ?_;try with_reducible exact trivial)
  refine ⟨k+1,by omega,by omega,Ref.gc [2] rfl ?_ (by simp [sub,fget,go_sem,↓reduceIte,Nat.reduceEqDiff,Nat.reduceAdd,reduceCtorEq])⟩
  have e1:(intsC (List.replicate k (-1))).take k=intsC (List.replicate k (-1)):=List.take_of_length_le (by simp [intsC])
  (try simp only [go_sem,↓reduceIte,Nat.reduceEqDiff,Nat.reduceAdd,reduceCtorEq,e1,one_intsC,app_intsC,List.replicate_succ'])
 ·obtain rfl:k=n:=by omega
  refine RN ?_
  rw [← lbV_start k L]
  refine V_loop (α:=Nat) (S:=fun i=>([(0,i64 k),(1,mat L),(5,.sl 0 1 0 k),(7,i64 (ncnt L i)),(8,i64 i)],[some (intsC (lbV k L i []))])) (C:=fun i=>i≤k) (μ:=fun i=>k - i) 0 (by omega) (Ref.to (by simp [ncnt]) (by simp [sub,fget,ncnt])) ?_
  intro i hi
  have hlen:=lbV_len k L i []
  have hcl:=ncnt_le L i
  refine RN ?_
  refine ⟨fun hc=>?_,fun hc=>?_⟩
  ·have hi' : i<k:=by omega
   have hat:=lbV_at (n:=k) (L:=L) (i:=i) (V:=[]) hi'
   simp only [List.not_mem_nil,if_false] at hat
   obtain ⟨f1,f2,f3⟩:=fst_spec L i
   refine RN ?_
   refine ⟨fun hc1=>?_,fun hc1=>?_⟩
   ·have hne:fst L i≠i:=fun e=>by rw [hat,if_neg (by omega)] at hc1;omega
    refine RN ?_
    refine ⟨i+1,by omega,by omega,?_⟩
    rw [← lbV_old hL hne,ncnt_old hne]
    exact Ref.frame (by simp [sub,fget])
   ·have hfi : fst L i = i := by
      rcases Nat.lt_or_ge (fst L i) i with h | h
      ·rw [hat,if_pos h] at hc1;omega
      ·omega
    have hnew:=fun V=>lbV_new (n:=k) (L:=L) (i:=i) (V:=V) hL hi' hfi
    have hcnt:=ncnt_new hfi
    refine RN ?_
    refine pureEC (l01Orbit_c k L i hL hi' hn hl) (by simp only [go_sem,↓reduceIte,Nat.reduceEqDiff,Nat.reduceAdd,reduceCtorEq]<;>rfl) (fun o=>by first | rfl | simp only [go_sem,↓reduceIte,Nat.reduceEqDiff,Nat.reduceAdd,reduceCtorEq]) fun o ho=>?_
    obtain ⟨hnd,hV⟩:=ho
    have hVlt:∀ j,j∈o→j<k:=fun j hj=>((hV j).1 hj).lt hL hi'
    have hVn:=nodup_len hnd hVlt
    have hnzl:=nz_len o
    refine RN ?_
    refine V_loop (α:=Nat) (S:=fun j=>([(0,i64 k),(1,mat L),(5,.sl 0 1 0 k),(7,i64 (ncnt L i)),(8,i64 i),(9,.sl 1 1 0 o.length),(10,i64 j)],[some (intsC (lbV k L i (o.take j))),some (intsC (nz o))])) (C:=fun j=>j≤o.length) (μ:=fun j=>o.length - j) 0 (by omega) (Ref.to (by simp) (by simp [sub,fget])) ?_
    intro j hj
    have hlen2:=lbV_len k L i (o.take j)
    refine RN ?_
    refine ⟨fun hc2=>?_,fun hc2=>?_⟩
    ·have hj' : j<o.length:=by omega
     have hoj:o[j]∈o:=List.getElem_mem _
     have hlt:=hVlt _ hoj
     have hfe:=fst_eq hL ((hV _).1 hoj) hi'
     have hat2:=nz_at hj'
     have hset:=lbV_set (n:=k) (L:=L) (i:=i) (V:=o.take j) (j:=o[j]) hlt (by omega)
     rw [← take_succN hj'] at hset
     generalize hx:o[j]=x at hoj hlt hfe hat2 hset
     have hxi:((x:Nat):Int).toNat=x:=by omega
     refine RN ?_
     refine ⟨j+1,by omega,by omega,?_⟩
     simp only [hat2,hxi,hset]
     exact Ref.frame (by simp [sub,fget])
    ·obtain rfl:j=o.length:=by omega
     rw [List.take_length,hnew o hV]
     refine RN ?_
     refine ⟨i+1,by omega,by omega,?_⟩
     rw [hcnt]
     exact Ref.gc1 [0]
  ·obtain rfl:i=k:=by omega
   rw [lbV_end]
   (refine RN ?_;try with_reducible exact trivial)
   (try simp only [go_sem,↓reduceIte,Nat.reduceEqDiff,Nat.reduceAdd,reduceCtorEq,and_self])
end
end Go.Proofs.YtaekhhaaphgndaaGreat
