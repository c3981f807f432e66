/- Texts that belong together. -/
import Derived.Test.YtnompobcofhkpaaGreatDoorZg
import Derived.Test.YtnompobcofhkpaaGreatDoorZj
set_option maxHeartbeats 16000000
set_option linter.unusedSimpArgs false
set_option linter.unusedVariables false
set_option maxRecDepth 100000
namespace Go.Proofs.YtnompobcofhkpaaGreatDoor
section
open Go.Gov
open Classical
def PrK (p:List Int)(k:Nat):Prop:=∀ j,j<k→(0≤p.getD j 0∧p.getD j 0≤(p.length:Int) - 1)∧∀ i,i<j→p.getD i 0≠p.getD j 0
def IsPrm (p:List Int):Prop:=p.length≤400∧PrK p p.length
theorem PrK.succ {p:List Int}{k:Nat}(h:PrK p k)(h1:0≤p.getD k 0∧p.getD k 0≤(p.length:Int) - 1)(h2:∀ i,i<k→p.getD i 0≠p.getD k 0):PrK p (k+1):=fun j hj=>by
 rcases Nat.lt_or_ge j k with h3 | h3
 ·exact h j h3
 ·obtain rfl:j=k:=by omega
  exact ⟨h1,h2⟩
noncomputable def Fs (p:List Int)(k:Nat):List Bool:=(List.range p.length).map fun (x:Nat)=>decide (∃ i,i<k∧p.getD i 0=(x:Int))
theorem nJ (p:List Int)(k:Nat):(Fs p k).length=p.length:=by simp [Fs]
theorem nL (p:List Int):Fs p 0=List.replicate p.length false:=by
 refine List.ext_getElem (by simp [Fs]) fun j h1 h2=>by simp [Fs]
theorem nI {p:List Int}{k:Nat}{x:Int}(h0:0≤x)(h1:x≤(p.length:Int) - 1):(Fs p k).getD x.toNat false=decide (∃ i,i<k∧p.getD i 0=x):=by
 have h2:x.toNat<p.length:=by omega
 have h3:((x.toNat:Nat):Int)=x:=by omega
 rw [List.getD_eq_getElem?_getD,Fs,List.getElem?_map,List.getElem?_range h2]
 simp only [Option.map_some,Option.getD_some,h3]
theorem nK {p:List Int}{k:Nat}(h0:0≤p.getD k 0)(h1:p.getD k 0≤(p.length:Int) - 1):(Fs p k).set (p.getD k 0).toNat true=Fs p (k+1):=by
 refine List.ext_getElem (by simp [Fs]) fun j h2 h3=>?_
 have hj:j<p.length:=by simpa [Fs] using h3
 by_cases e:(p.getD k 0).toNat=j
 ·subst e
  rw [List.getElem_set_self]
  simp only [Fs,List.getElem_map,List.getElem_range]
  exact (decide_eq_true ⟨k,by omega,by omega⟩).symm
 ·rw [List.getElem_set_ne e]
  simp only [Fs,List.getElem_map,List.getElem_range]
  rw [decide_eq_decide]
  constructor
  ·rintro ⟨i,hi,h⟩;exact ⟨i,by omega,h⟩
  ·rintro ⟨i,hi,h⟩
   rcases Nat.lt_or_ge i k with h4 | h4
   ·exact ⟨i,h4,h⟩
   ·obtain rfl:i=k:=by omega
    omega
theorem wQ (p:List Int)(hl:p.length≤1099511627776):Pure Tryz.prog 122 [Ad p] (bl (decide (IsPrm p))) []:=by
 refine Ao Ab9 rfl rfl ?_;unfold Yw
 refine RN ?_
 refine ⟨fun hc=>?_,fun hc=>?_⟩
 ·(refine RN ?_;try with_reducible exact trivial)
  rw [decide_eq_false (fun h=>by have:=h.1;omega)]
 ·(refine RN ?_;try with_reducible exact trivial)
  refine Ah (α:=Nat) (S:=fun k=>([(0,Ad p),(3,.sl 0 1 0 p.length),(12,Ad p),(13,i64 p.length),(14,i64 k)],[some (Cs (Fs p k))])) (C:=fun k=>k≤p.length∧PrK p k) (μ:=fun k=>p.length - k) 0 ⟨by omega,fun j hj=>by omega⟩ (Ref.to (by simp only [nL]) (by simp [sub,Ab])) ?_
  rintro k ⟨hk,hall⟩
  have hsl:=nJ p k
  refine RN ?_
  refine ⟨fun hc1=>?_,fun hc1=>?_⟩
  ·have hat:=nI (p:=p) (k:=k) (x:=p.getD k 0)
   refine RN ?_
   refine Ag (Pq p hl) ?_
   refine RN ?_
   refine Ag (Lr (p.getD k 0) 0 (p.length - 1)) ?_
   refine RN ?_
   refine ⟨fun hc2=>?_,fun hc2=>?_⟩
   ·(refine RN ?_;try with_reducible exact trivial)
    rw [decide_eq_false (fun h=>?_)]
    obtain ⟨⟨b1,b2⟩,b3⟩:=h.2 k (by omega)
    try simp only [go_sem,↓reduceIte,Nat.reduceEqDiff,Nat.reduceAdd,reduceCtorEq] at hc2
    rcases hc2 with hc2 | hc2
    ·omega
    ·rw [hat b1 b2] at hc2
     obtain ⟨i,hi,he⟩:=of_decide_eq_true hc2
     exact b3 i hi he
   ·have hb : 0 ≤ p.getD k 0 ∧ p.getD k 0 ≤ (p.length : Int) - 1 := by
      try simp only [go_sem,↓reduceIte,Nat.reduceEqDiff,Nat.reduceAdd,reduceCtorEq] at hc2
      omega
    have hn:∀ i,i<k→p.getD i 0≠p.getD k 0:=fun i hi he=>by
     try simp only [go_sem,↓reduceIte,Nat.reduceEqDiff,Nat.reduceAdd,reduceCtorEq] at hc2
     have h5:=hc2.2
     rw [hat hb.1 hb.2,decide_eq_true ⟨i,hi,he⟩] at h5
     cases h5
    have hst:=nK hb.1 hb.2
    refine RN ?_
    exact ⟨k+1,⟨by omega,hall.succ hb hn⟩,by omega,Ref.to (by rw [hst]) (by simp [sub,Ab])⟩
  ·obtain rfl:k=p.length:=by omega
   refine RN ?_
   rw [decide_eq_true (p:=IsPrm p) ⟨by omega,hall⟩]
theorem fY (p:List Int)(hl:p.length≤1099511627776):Pure Tryz.prog 91 [Ad p] (bl (decide (IsPrm p))) []:=by
 refine Ao Ae3 rfl rfl ?_;unfold bR
 refine RN ?_
 refine ⟨fun hc=>?_,fun hc=>?_⟩
 ·(refine RN ?_;try with_reducible exact trivial)
  rw [decide_eq_false (fun h=>by have:=h.1;omega)]
 ·(refine RN ?_;try with_reducible exact trivial)
  refine Ah (α:=Nat) (S:=fun k=>([(0,Ad p),(3,.sl 0 1 0 p.length),(4,i64 k)],[some (Cs (Fs p k))])) (C:=fun k=>k≤p.length∧PrK p k) (μ:=fun k=>p.length - k) 0 ⟨by omega,fun j hj=>by omega⟩ (Ref.to (by simp only [nL]) (by simp [sub,Ab])) ?_
  rintro k ⟨hk,hall⟩
  have hsl:=nJ p k
  refine RN ?_
  refine ⟨fun hc1=>?_,fun hc1=>?_⟩
  ·have hat:=nI (p:=p) (k:=k) (x:=p.getD k 0)
   refine RN ?_
   refine Ag (Oo (p.getD k 0) 0 (p.length - 1)) ?_
   refine RN ?_
   refine ⟨fun hc2=>?_,fun hc2=>?_⟩
   ·(refine RN ?_;try with_reducible exact trivial)
    rw [decide_eq_false (fun h=>?_)]
    obtain ⟨⟨b1,b2⟩,b3⟩:=h.2 k (by omega)
    try simp only [go_sem,↓reduceIte,Nat.reduceEqDiff,Nat.reduceAdd,reduceCtorEq] at hc2
    rcases hc2 with hc2 | hc2
    ·omega
    ·rw [hat b1 b2] at hc2
     obtain ⟨i,hi,he⟩:=of_decide_eq_true hc2
     exact b3 i hi he
   ·have hb : 0 ≤ p.getD k 0 ∧ p.getD k 0 ≤ (p.length : Int) - 1 := by
      try simp only [go_sem,↓reduceIte,Nat.reduceEqDiff,Nat.reduceAdd,reduceCtorEq] at hc2
      omega
    have hn:∀ i,i<k→p.getD i 0≠p.getD k 0:=fun i hi he=>by
     try simp only [go_sem,↓reduceIte,Nat.reduceEqDiff,Nat.reduceAdd,reduceCtorEq] at hc2
     have h5:=hc2.2
     rw [hat hb.1 hb.2,decide_eq_true ⟨i,hi,he⟩] at h5
     cases h5
    have hst:=nK hb.1 hb.2
    refine RN ?_
    exact ⟨k+1,⟨by omega,hall.succ hb hn⟩,by omega,Ref.to (by rw [hst]) (by simp [sub,Ab])⟩
  ·obtain rfl:k=p.length:=by omega
   refine RN ?_
   rw [decide_eq_true (p:=IsPrm p) ⟨by omega,hall⟩]
def Nk (p:List Int)(k:Nat):Prop:=p.getD k 0≠(k:Int)∧p.getD (p.getD k 0).toNat 0=(k:Int)
def Lv (p:List Int):Prop:=∀ k,k<p.length→Nk p k
theorem IsPrm.at {p:List Int}(h:IsPrm p){k:Nat}(hk:k<p.length):0≤p.getD k 0∧p.getD k 0≤(p.length:Int) - 1:=(h.2 k hk).1
theorem xE (p:List Int)(hl:p.length≤1099511627776)(hp:IsPrm p):Pure Tryz.prog 92 [Ad p] (bl (decide (Lv p))) []:=by
 refine Ao Ae4 rfl rfl ?_;unfold bS
 refine RN ?_
 refine Ah (α:=Nat) (S:=fun k=>([(0,Ad p),(3,i64 k)],[])) (C:=fun k=>k≤p.length∧∀ j,j<k→Nk p j) (μ:=fun k=>p.length - k) 0 ⟨by omega,by omega⟩ (by exact Ref.frame (by simp [sub,Ab])) ?_
 rintro k ⟨hk,hall⟩
 refine RN ?_
 refine ⟨fun hc1=>?_,fun hc1=>?_⟩
 ·have hb:=hp.at (k:=k) (by omega)
  refine RN ?_
  refine ⟨fun hc2=>?_,fun hc2=>?_⟩
  ·(refine RN ?_;try with_reducible exact trivial)
   rw [decide_eq_false (fun h=>?_)]
   obtain ⟨b1,b2⟩:=h k (by omega)
   try simp only [go_sem,↓reduceIte,Nat.reduceEqDiff,Nat.reduceAdd,reduceCtorEq] at hc2
   rcases hc2 with hc2 | hc2
   ·exact b1 hc2
   ·exact hc2 b2
  ·have hcv : Nk p k := by
     try simp only [go_sem,↓reduceIte,Nat.reduceEqDiff,Nat.reduceAdd,reduceCtorEq] at hc2
     exact ⟨hc2.1,hc2.2⟩
   refine RN ?_
   refine ⟨k+1,⟨by omega,fun j hj=>?_⟩,by omega,by exact Ref.frame (by simp [sub,Ab])⟩
   rcases Nat.lt_or_ge j k with h | h
   ·exact hall j h
   ·obtain rfl:j=k:=by omega
    exact hcv
 ·(refine RN ?_;try with_reducible exact trivial)
  rw [decide_eq_true (p:=Lv p) (fun j hj=>hall j (by omega))]
theorem wN (p:List Int)(hl:p.length≤1099511627776):Pure Tryz.prog 81 [Ad p] (bl (decide (IsPrm p∧Lv p))) []:=by
 refine Ao Aeu rfl rfl ?_;unfold bJ
 refine RN ?_
 refine Ag (wQ p hl) ?_
 refine RN ?_
 refine ⟨fun hc=>?_,fun hc=>?_⟩
 ·(refine RN ?_;try with_reducible exact trivial)
  rw [decide_eq_false (fun h=>?_)]
  exact hc h.1
 ·have hp:IsPrm p:=by first | exact hc | simpa using hc
  refine RN ?_
  refine Ah (α:=Nat) (S:=fun k=>([(0,Ad p),(8,Ad p),(9,i64 p.length),(10,i64 k)],[])) (C:=fun k=>k≤p.length∧∀ j,j<k→Nk p j) (μ:=fun k=>p.length - k) 0 ⟨by omega,by omega⟩ (by exact Ref.frame (by simp [sub,Ab])) ?_
  rintro k ⟨hk,hall⟩
  refine RN ?_
  refine ⟨fun hc1=>?_,fun hc1=>?_⟩
  ·have hb:=hp.at (k:=k) (by omega)
   refine RN ?_
   refine ⟨fun hc2=>?_,fun hc2=>?_⟩
   ·(refine RN ?_;try with_reducible exact trivial)
    rw [decide_eq_false (fun h=>?_)]
    obtain ⟨b1,b2⟩:=h.2 k (by omega)
    try simp only [go_sem,↓reduceIte,Nat.reduceEqDiff,Nat.reduceAdd,reduceCtorEq] at hc2
    rcases hc2 with hc2 | hc2
    ·exact b1 hc2
    ·exact hc2 b2
   ·have hcv : Nk p k := by
      try simp only [go_sem,↓reduceIte,Nat.reduceEqDiff,Nat.reduceAdd,reduceCtorEq] at hc2
      exact ⟨hc2.1,hc2.2⟩
    refine RN ?_
    refine ⟨k+1,⟨by omega,fun j hj=>?_⟩,by omega,by exact Ref.frame (by simp [sub,Ab])⟩
    rcases Nat.lt_or_ge j k with h | h
    ·exact hall j h
    ·obtain rfl:j=k:=by omega
     exact hcv
  ·(refine RN ?_;try with_reducible exact trivial)
   rw [decide_eq_true (p:=IsPrm p∧Lv p) ⟨hp,fun j hj=>hall j (by omega)⟩]
end
section
open Go.Gov Go.Sort
theorem jM (x y:Nat)(hx:x<18446744073709551616)(hy:y<18446744073709551616):Pure Tryz.prog 155 [.val (.int .u64 x),.val (.int .u64 y)] (.tup [.val (.int .u64 ((x*y / 18446744073709551616:Nat):Int)),.val (.int .u64 ((x*y%18446744073709551616:Nat):Int))]) []:=by
 intro g w vals hp hl1 hr
 have h0:=hr 0 (by simp)
 have h1:=hr 1 (by simp)
 simp only [List.getElem_cons_zero,List.getElem_cons_succ] at h0 h1
 have hv:vals = #[.int .u64 x,.int .u64 y]:=by
  refine Array.ext (by simpa using hl1) fun i h2 h3=>?_
  have e0:=h0.val_inv.1
  have e1:=h1.val_inv.1
  match i,h3 with
  | 0,_=>simpa [h2] using e0
  | 1,_=>simpa [h2] using e1
 subst hv
 refine (Any.bits_Mul Tryz.mulL x y hx hy w).mono ?_
 rintro e w' ⟨rfl,rfl⟩
 refine ⟨_,g,_,[],rfl,Mv.refl hp,.tup (by simp) (fun m hm=>?_),fun _ _ _=>rfl,rfl,rfl⟩
 match m,hm with
 | 0,_=>exact .val
 | 1,_=>exact .val
theorem Xd (xs:List Int):(Aa xs).take xs.length=Aa xs:=List.take_of_length_le (by simp [Aa])
theorem Tp (n:Nat)(h:n<18446744073709551616):IntKind.wrap .u64 (n:Int)=n:=by
 show (if (false&&decide ((n:Int)%2^64 ≥ 2^(64 - 1)))=true then (n:Int)%2^64 - 2^64 else (n:Int)%2^64)=(n:Int)
 rw [Bool.false_and,if_neg (by decide)]
 omega
theorem pD (n:Nat)(h:n<9223372036854775808):IntKind.wrap .i64 (n:Int)=n:=by
 show (if (true&&decide ((n:Int)%2^64 ≥ 2^(64 - 1)))=true then (n:Int)%2^64 - 2^64 else (n:Int)%2^64)=(n:Int)
 rw [Bool.true_and,if_neg (by simp;omega)]
 omega
theorem S4 (v:Int)(n:Nat)(hn:n≤1099511627776):Pure Tryz.prog 123 [Ad [v],i64 n] (.sl 0 1 0 n) [some (Aa (List.replicate n v))]:=by
 have e1:IntKind.wrap .u64 ((1:Nat):Int)=((1:Nat):Int):=Tp 1 (by omega)
 have e2:=Tp n (by omega)
 refine Cu kM rfl ?_;unfold Uf
 refine RN ?_
 refine fun _=>?_
 refine RN ?_
 rw [e1,e2]
 have e3:1*n / 18446744073709551616=0:=by omega
 have e4:1*n%18446744073709551616=n:=by omega
 have e5:=pD n (by omega)
 have hm:=jM 1 n (by omega) (by omega)
 rw [e3,e4] at hm
 refine Ag (hm) ?_
 refine RN ?_
 refine fun _=>?_
 refine RN ?_
 have h0:Nat.min 1 n≤n:=Nat.min_le_right _ _
 have h1:0<n→0<Nat.min 1 n:=fun h=>by rw [show Nat.min 1 n=1 from Nat.min_eq_left (by omega)];omega
 have hc0:List.take (Nat.min 1 n) (Aa [v])++List.drop (Nat.min 1 n) (Aa (List.replicate n 0))=Aa (List.replicate (Nat.min 1 n) v++List.replicate (n - Nat.min 1 n) 0):=by
  rw [Lp,L9,Fb]
  congr 2
  ·rcases Nat.eq_zero_or_pos n with h | h
   ·subst h;simp
   ·rw [show Nat.min 1 n=1 from Nat.min_eq_left (by omega)];rfl
  ·simp
 rw [hc0]
 generalize Nat.min 1 n=m0 at h0 h1
 refine Ah (α:=Nat) (S:=fun m=>([(7,.sl 0 1 0 n),(8,i64 m)],[some (Aa (List.replicate m v++List.replicate (n - m) 0))])) (C:=fun m=>m≤n∧(0<n→0<m)) (μ:=fun m=>n - m) m0 ⟨h0,h1⟩ (by exact Ref.frame (by simp [sub,Ab])) ?_
 rintro m ⟨hm1,hm2⟩
 have hlen:(List.replicate m v++List.replicate (n - m) (0:Int)).length=n:=by simp;omega
 refine RN ?_
 refine ⟨fun hc=>?_,fun hc=>?_⟩
 ·have hmp:=hm2 (by omega)
  refine RN ?_
  refine Nq ?_
  refine RN ?_
  have t1:((m:Int) - 0).toNat=m:=by omega
  have t2:Int.toNat 0=0:=rfl
  have t3:((n:Int) - (m:Int)).toNat=n - m:=by omega
  have hq1:Nat.min m (n - m)≤n - m:=Nat.min_le_right _ _
  have hq3:Nat.min m (n - m)≤m:=Nat.min_le_left _ _
  have hq2:0<Nat.min m (n - m):=Nat.lt_min.2 ⟨hmp,by omega⟩
  simp only [t1,t2,t3,List.drop_zero,Lp,T3,Tz,L9,Fb,true_and]
  generalize Nat.min m (n - m)=q at hq1 hq2 hq3
  refine ⟨by omega,m+q,⟨by omega,by omega⟩,by omega,Ref.to ?_ (by simp [sub,Ab])⟩
  have u1:(List.replicate m v++List.replicate (n - m) (0:Int)).take m=List.replicate m v:=by rw [List.take_append_of_le_length (by simp)];simp
  have u2:(List.replicate m v).take q=List.replicate q v:=by rw [List.take_replicate,Nat.min_eq_left hq3]
  have u3:(List.replicate m v++List.replicate (n - m) (0:Int)).drop (m+q)=List.replicate (n - (m+q)) 0:=by
   rw [List.drop_append,List.drop_of_length_le (by simp),List.nil_append,List.drop_replicate,List.length_replicate]
   congr 1;omega
  rw [u1,u2,u3,List.replicate_append_replicate]
 ·obtain rfl:m=n:=by omega
  refine RN ?_
  simp
end
section
open Classical
def MvOk (n:Nat)(L:List (List Int)):Prop:=∀ p∈L,p.length=n∧∀ x,x<n→0≤p.getD x 0∧p.getD x 0<n∧p.getD (p.getD x 0).toNat 0=x
inductive Rch (L:List (List Int)) (x:Nat):Nat→Prop
 | refl:Rch L x x
 | step {y:Nat} {p:List Int}:Rch L x y→p∈L→Rch L x (p.getD y 0).toNat
theorem Rch.trans {L:List (List Int)}{x y z:Nat}(h:Rch L x y)(k:Rch L y z):Rch L x z:=by
 induction k with
 | refl=>exact h
 | step _ hp ih=>exact ih.step hp
theorem Rch.lt {n:Nat}{L:List (List Int)}(hL:MvOk n L){x y:Nat}(h:Rch L x y)(hx:x<n):y<n:=by
 induction h with
 | refl=>exact hx
 | step _ hp ih=>have:=(hL _ hp).2 _ ih;omega
theorem Rch.symm {n:Nat}{L:List (List Int)}(hL:MvOk n L){x y:Nat}(h:Rch L x y)(hx:x<n):Rch L y x:=by
 induction h with
 | refl=>exact .refl
 | step h1 hp ih=>
  rename_i y p
  have hy:=h1.lt hL hx
  obtain ⟨_,h2⟩:=hL _ hp
  obtain ⟨h3,h4,h5⟩:=h2 y hy
  have hb:Rch L (p.getD y 0).toNat (p.getD (p.getD y 0).toNat 0).toNat:=Rch.refl.step hp
  rw [h5] at hb
  exact Rch.trans (by simpa using hb) ih
noncomputable def Bk (L:List (List Int))(x:Nat):Nat:=((List.range (x+1)).find? fun y=>decide (Rch L y x)).getD x
theorem dV:∀ (n:Nat) (p:Nat→Bool) (y:Nat),(List.range n).find? p=some y ↔ (y<n∧p y=true∧∀ z,z<y→p z=false)
 | 0,p,y=>by simp
 | n+1,p,y=>by
  rw [List.range_succ,List.find?_append]
  cases h:(List.range n).find? p with
  | some z=>
   have hz:=(dV n p z).1 h
   simp only [Option.some_or,Option.some.injEq]
   constructor
   ·rintro rfl;exact ⟨by omega,hz.2⟩
   ·rintro ⟨h1,h2,h3⟩
    rcases Nat.lt_trichotomy z y with h4 | h4 | h4
    ·have:=h3 z h4;rw [hz.2.1] at this;cases this
    ·exact h4
    ·have:=hz.2.2 y h4;rw [h2] at this;cases this
  | none=>
   have hno:∀ z,z<n→p z=false:=fun z hz=>by
    have:=List.find?_eq_none.1 h z (List.mem_range.2 hz)
    simpa using this
   simp only [Option.none_or]
   constructor
   ·intro h1
    have h2:y=n∧p n=true:=by
     by_cases hp:p n=true
     ·simp [hp] at h1;exact ⟨h1.symm,hp⟩
     ·simp [hp] at h1
    obtain ⟨rfl,h3⟩:=h2
    exact ⟨by omega,h3,hno⟩
   ·rintro ⟨h1,h2,h3⟩
    have:y=n:=by
     rcases Nat.lt_or_ge y n with h4 | h4
     ·have:=hno y h4;rw [h2] at this;cases this
     ·omega
    subst this
    simp [h2]
theorem Io (L:List (List Int))(x:Nat):Bk L x≤x∧Rch L (Bk L x) x∧∀ z,z<Bk L x→¬ Rch L z x:=by
 unfold Bk
 cases h:(List.range (x+1)).find? fun y=>decide (Rch L y x) with
 | some y=>
  obtain ⟨h1,h2,h3⟩:=(dV _ _ _).1 h
  exact ⟨by simp;omega,by simpa using h2,fun z hz=>by have:=h3 z (by simpa using hz);simpa using this⟩
 | none=>
  have:=List.find?_eq_none.1 h x (by simp)
  simp only [decide_eq_true_eq] at this
  exact absurd Rch.refl this
theorem Oh {n:Nat}{L:List (List Int)}(hL:MvOk n L){x y:Nat}(h:Rch L x y)(hx:x<n):Bk L x=Bk L y:=by
 have hy:=h.lt hL hx
 obtain ⟨a1,a2,a3⟩:=Io L x
 obtain ⟨b1,b2,b3⟩:=Io L y
 rcases Nat.lt_trichotomy (Bk L x) (Bk L y) with h1 | h1 | h1
 ·exact absurd (a2.trans h) (b3 _ h1)
 ·exact h1
 ·exact absurd (b2.trans (h.symm hL hx)) (a3 _ h1)
theorem Ve {n:Nat}{L:List (List Int)}(hL:MvOk n L){x:Nat}(hx:x<n):Bk L (Bk L x)=Bk L x:=by
 obtain ⟨a1,a2,_⟩:=Io L x
 exact Oh hL a2 (by omega)
theorem mC {n:Nat}{L:List (List Int)}(hL:MvOk n L){i j:Nat}(hi:i<n)(hj:j<n)(hf:Bk L i=i):Rch L i j ↔ Bk L j=i:=by
 constructor
 ·intro h;rw [← Oh hL h hi,hf]
 ·intro h
  have:=(Io L j).2.1
  rwa [h] at this
noncomputable def B1 (L:List (List Int))(k:Nat):Nat:=(List.range k).countP fun m=>decide (Bk L m=m)
theorem Wc (L:List (List Int))(k:Nat):B1 L (k+1)=B1 L k+if Bk L k=k then 1 else 0:=by
 unfold B1
 rw [List.range_succ,List.countP_append]
 by_cases h:Bk L k=k<;>simp [h]
theorem O7 (L:List (List Int))(k:Nat):B1 L k≤k:=by
 have:=List.countP_le_length (p:=fun m=>decide (Bk L m=m)) (l:=List.range k)
 simpa [B1] using this
theorem Wb (L:List (List Int)){a b:Nat}(h:a≤b):B1 L a≤B1 L b:=by
 induction b with
 | zero => have : a = 0 := by omega
           subst this;exact Nat.le_refl _
 | succ b ih=>
  rcases Nat.lt_or_ge b a with h1 | h1
  ·have:a=b+1:=by omega
   subst this;exact Nat.le_refl _
  ·rw [Wc];have:=ih h1;omega
noncomputable def Hx (L:List (List Int))(x:Nat):Nat:=B1 L (Bk L x)
noncomputable def Fj (n:Nat)(L:List (List Int)):List Int:=(List.range n).map fun x=>((Hx L x:Nat):Int)
noncomputable def Cy (n:Nat)(L:List (List Int))(i:Nat)(V:List Nat):List Int:=(List.range n).map fun j=>if Bk L j<i then ((Hx L j:Nat):Int) else if j∈V then (B1 L i:Nat) else -1
theorem Ot (n:Nat)(L:List (List Int))(i:Nat)(V:List Nat):(Cy n L i V).length=n:=by simp [Cy]
theorem Vt {n:Nat}{L:List (List Int)}{i:Nat}{V:List Nat}{j:Nat}(hj:j<n):(Cy n L i V).getD j 0=if Bk L j<i then ((Hx L j:Nat):Int) else if j∈V then (B1 L i:Nat) else -1:=by
 simp [Cy,hj]
theorem Vu {n:Nat}{L:List (List Int)}{i:Nat}{V:List Nat}{j:Nat}(hj:j<n)(hf:¬ Bk L j<i):(Cy n L i V).set j (B1 L i:Nat)=Cy n L i (V++[j]):=by
 refine List.ext_getElem (by simp [Cy]) fun k h1 h2=>?_
 by_cases e:j=k
 ·subst e
  simp [Cy,hf]
 ·rw [List.getElem_set_ne e]
  simp [Cy,show ¬ k=j from fun h=>e h.symm]
theorem iK (n:Nat)(L:List (List Int)):Cy n L 0 []=List.replicate n (-1):=by
 refine List.ext_getElem (by simp [Cy]) fun k h1 h2=>?_
 simp [Cy]
theorem iJ {n:Nat}{L:List (List Int)}{i:Nat}(hL:MvOk n L)(h:Bk L i≠i):Cy n L i []=Cy n L (i+1) []:=by
 unfold Cy
 refine List.map_congr_left fun j hj=>?_
 have hj:=List.mem_range.1 hj
 have hne:Bk L j≠i:=fun e=>h (by have:=Ve hL hj;rw [e] at this;exact this)
 by_cases h1:Bk L j<i
 ·rw [if_pos h1,if_pos (by omega)]
 ·simp only [List.not_mem_nil,if_false]
  rw [if_neg h1,if_neg (by omega)]
theorem iI {n:Nat}{L:List (List Int)}{i:Nat}{V:List Nat}(hL:MvOk n L)(hi:i<n)(h:Bk L i=i)(hV:∀ j,j∈V ↔ Rch L i j):Cy n L i V=Cy n L (i+1) []:=by
 unfold Cy
 refine List.map_congr_left fun j hj=>?_
 have hj:=List.mem_range.1 hj
 by_cases h1:Bk L j<i
 ·rw [if_pos h1,if_pos (by omega)]
 ·rw [if_neg h1]
  by_cases h2:Bk L j=i
  ·rw [if_pos ((hV j).2 ((mC hL hi hj h).2 h2)),if_pos (by omega)]
   unfold Hx;rw [h2]
  ·rw [if_neg (fun hm=>h2 ((mC hL hi hj h).1 ((hV j).1 hm))),if_neg (by omega)]
   simp
theorem iH (n:Nat)(L:List (List Int)):Cy n L n []=Fj n L:=by
 unfold Cy Fj
 refine List.map_congr_left fun j hj=>?_
 have:=(Io L j).1
 rw [if_pos (by have:=List.mem_range.1 hj;omega)]
theorem Mp {L:List (List Int)}{i:Nat}(h:Bk L i=i):B1 L (i+1)=B1 L i+1:=by rw [Wc,if_pos h]
theorem Sd {L:List (List Int)}{i:Nat}(h:Bk L i≠i):B1 L (i+1)=B1 L i:=by rw [Wc,if_neg h];rfl
theorem Uv {L:List (List Int)}{i:Nat}{V:List Nat}(h0:i∈V)(hc:∀ x∈V,∀ p∈L,(p.getD x 0).toNat∈V):∀ j,Rch L i j→j∈V:=fun j h=>by
 induction h with
 | refl=>exact h0
 | step _ hp ih=>exact hc _ ih _ hp
theorem E6:∀ {n:Nat} {V:List Nat},V.Nodup→(∀ x∈V,x<n)→V.length≤n
 | 0,V,_,hV=>by
  cases V with
  | nil=>simp
  | cons x V=>have:=hV x (by simp);omega
 | n+1,V,hn,hV=>by
  have h1:=E6 (n:=n) (V:=V.erase n) (hn.erase n) fun x hx=>by
   have:=(hn.mem_erase_iff).1 hx
   have:=hV x this.2
   omega
  rw [List.length_erase] at h1
  split at h1<;>omega
end
section
open Go.Gov
open Classical
def nz (O:List Nat):List Int:=O.map fun (x:Nat)=>(x:Int)
theorem H4 (O:List Nat):(nz O).length=O.length:=by simp [nz]
theorem Sh (O:List Nat)(x:Nat):nz (O++[x])=nz O++[(x:Int)]:=by simp [nz]
structure OrbI (L:List (List Int)) (n i:Nat) (V O:List Nat) (x:Option (Nat×Nat)):Prop where
 nd:V.Nodup
 start:i∈V
 reach:∀ y∈V,y<n∧Rch L i y
 wait:∀ y∈O,y∈V
 done:∀ y∈V,y∉O→(∀ q,x=some q→y≠q.1)→∀ p∈L,(p.getD y 0).toNat∈V
 now:∀ q,x=some q→q.1∈V∧∀ j,j<q.2→((L.getD j []).getD q.1 0).toNat∈V
 short:O.length≤V.length
theorem OrbI.pop {L:List (List Int)}{n i:Nat}{V O:List Nat}{x:Nat}(h:OrbI L n i V (O++[x]) none):OrbI L n i V O (some (x,0)):=
 ⟨h.nd,h.start,h.reach,fun y hy=>h.wait y (by simp [hy]),fun y hy hno hx=>h.done y hy (by simp [hno,hx (x,0) rfl]) (fun q hq=>by cases hq),fun q hq=>by
  cases hq
  exact ⟨h.wait x (by simp),fun j hj=>absurd hj (by omega)⟩,by have:=h.short;simp at this;omega⟩
theorem OrbI.skip {L:List (List Int)}{n i:Nat}{V O:List Nat}{x k:Nat}(h:OrbI L n i V O (some (x,k)))(hy:((L.getD k []).getD x 0).toNat∈V):OrbI L n i V O (some (x,k+1)):=
 ⟨h.nd,h.start,h.reach,h.wait,fun y hy hno hx=>h.done y hy hno fun q hq=>by cases hq;exact hx (x,k+1) rfl,fun q hq=>by
  cases hq
  obtain ⟨h1,h2⟩:=h.now (x,k) rfl
  refine ⟨h1,fun j hj=>?_⟩
  rcases Nat.lt_or_ge j k with h3 | h3
  ·exact h2 j h3
  ·obtain rfl:j=k:=by dsimp only at hj;omega
   exact hy,h.short⟩
theorem OrbI.add {L : List (List Int)} {n i : Nat} {V O : List Nat} {x k : Nat} (h : OrbI L n i V O (some (x, k))) (hy : ((L.getD k []).getD x 0).toNat ∉ V) (hn : ((L.getD k []).getD x 0).toNat < n) (hr : Rch L i ((L.getD k []).getD x 0).toNat) :
    OrbI L n i (V++[((L.getD k []).getD x 0).toNat]) (O++[((L.getD k []).getD x 0).toNat]) (some (x,k+1)):=by
 generalize hz:((L.getD k []).getD x 0).toNat=z at hy hn hr
 refine ⟨?_,by simp [h.start],fun y hy' => ?_,fun y hy' => ?_,fun y hy' hno hx p hp=>?_,fun q hq=>?_,by have:=h.short;simp;omega⟩
 ·rw [List.nodup_append]
  exact ⟨h.nd,by simp,fun a ha b hb=>by simp at hb;subst hb;exact fun e=>hy (e ▸ ha)⟩
 ·rcases List.mem_append.1 hy' with h1 | h1
  ·exact h.reach y h1
  ·simp at h1;subst h1;exact ⟨hn,hr⟩
 ·rcases List.mem_append.1 hy' with h1 | h1
  ·simp [h.wait y h1]
  ·simp [List.mem_singleton.1 h1]
 ·have hyO:y∉O:=fun hm=>hno (by simp [hm])
  have hyz:y≠z:=fun e=>hno (by simp [e])
  have hyV:y∈V:=by
   rcases List.mem_append.1 hy' with h1 | h1
   ·exact h1
   ·exact absurd (List.mem_singleton.1 h1) hyz
  exact List.mem_append_left _ (h.done y hyV hyO (fun q hq=>by cases hq;exact hx (x,k+1) rfl) p hp)
 ·cases hq
  obtain ⟨h1,h2⟩:=h.now (x,k) rfl
  refine ⟨by simp [h1],fun j hj=>?_⟩
  rcases Nat.lt_or_ge j k with h3 | h3
  ·exact List.mem_append_left _ (h2 j h3)
  ·obtain rfl:j=k:=by dsimp only at hj;omega
   dsimp only
   rw [hz]
   exact List.mem_append_right _ (List.mem_singleton.2 rfl)
theorem OrbI.fin {L:List (List Int)}{n i:Nat}{V O:List Nat}{x:Nat}(h:OrbI L n i V O (some (x,L.length))):OrbI L n i V O none:=
 ⟨h.nd,h.start,h.reach,h.wait,fun y hy hno _ p hp=>by
  by_cases e:y=x
  ·subst e
   obtain ⟨j,hj,rfl⟩:=List.mem_iff_getElem.1 hp
   have:=(h.now (y,L.length) rfl).2 j hj
   simpa [hj] using this
  ·exact h.done y hy hno (fun q hq=>by cases hq;exact e) p hp,fun q hq=>(by cases hq),h.short⟩
theorem Li {L:List (List Int)}{k:Nat}(h:k<L.length):L.getD k []∈L:=by
 rw [show L.getD k []=L[k] by simp [h]];exact List.getElem_mem _
theorem lH (n:Nat)(L:List (List Int))(hL:MvOk n L)(hn:n≤1048576)(hl:L.length≤1048576):Pure Tryz.prog 83 [i64 n,Ae L] (.tup [.sl 0 1 0 n,i64 (B1 L n)]) [some (Aa (Fj n L))]:=by
 refine Ga [0] Aew rfl ?_;unfold bL
 refine RN ?_
 refine Kh (S4 (-1) n (by omega)) (by (try simp only [go_sem,↓reduceIte,Nat.reduceEqDiff,Nat.reduceAdd,reduceCtorEq,Nat.reduceMul,List.take_succ_cons,List.take_zero,List.take_nil]);try rfl) ?_
 refine RN ?_
 rw [← iK n L]
 refine Ah (α:=Nat) (S:=fun i=>([(1,Ae L),(6,.sl 0 1 0 n),(7,i64 (B1 L i)),(17,i64 n),(18,i64 i)],[some (Aa (Cy n L i []))])) (C:=fun i=>i≤n) (μ:=fun i=>n - i) 0 (by omega) (Ref.gc [1] rfl (by simp only [go_sem,↓reduceIte,Nat.reduceEqDiff,Nat.reduceAdd,reduceCtorEq]) (by simp [sub,Ab,go_sem,↓reduceIte,Nat.reduceEqDiff,Nat.reduceAdd,reduceCtorEq,B1])) ?_
 intro i hi
 have hlen:=Ot n L i []
 have hcl:=O7 L i
 refine RN ?_
 refine ⟨fun hc=>?_,fun hc=>?_⟩
 ·have hi' : i<n:=by omega
  have hat:=Vt (n:=n) (L:=L) (i:=i) (V:=[]) hi'
  simp only [List.not_mem_nil,if_false] at hat
  obtain ⟨f1,f2,f3⟩:=Io L i
  refine RN ?_
  refine ⟨fun hc1=>?_,fun hc1=>?_⟩
  ·have hne:Bk L i≠i:=fun e=>by rw [hat,if_neg (by omega)] at hc1;omega
   refine RN ?_
   refine ⟨i+1,by omega,by omega,?_⟩
   rw [← iJ hL hne,Sd hne]
   exact Ref.frame (by simp [sub,Ab])
  ·have hfi : Bk L i = i := by
     rcases Nat.lt_or_ge (Bk L i) i with h | h
     ·rw [hat,if_pos h] at hc1;omega
     ·omega
   have hset:=Vu (n:=n) (L:=L) (i:=i) (V:=[]) hi' (by omega)
   simp only [List.nil_append] at hset
   refine RN ?_
   rw [hset]
   have hI0:OrbI L n i [i] [i] none:=⟨by simp,by simp,fun y hy=>by simp at hy;subst hy;exact ⟨hi', .refl⟩,fun y hy=>hy,fun y hy hno=>absurd hy hno,fun q hq=>(by cases hq),by simp⟩
   refine Ah (α:=List Nat×List Nat) (S:=fun p=>([(1,Ae L),(6,.sl 0 1 0 n),(7,i64 (B1 L i)),(9,.sl 1 1 0 p.2.length),(17,i64 n),(18,i64 i)],[some (Aa (Cy n L i p.1)),some (Aa (nz p.2))])) (C:=fun p=>OrbI L n i p.1 p.2 none) (μ:=fun p=>2*(n - p.1.length)+p.2.length) ([i],[i]) hI0 (Ref.to (by simp [nz,Aa]) (by simp [sub,Ab])) ?_
   rintro ⟨V,O⟩ hI
   have hI:OrbI L n i V O none:=hI
   have hlenV:=Ot n L i V
   have hnzl:=H4 O
   have hVn:=E6 hI.nd fun y hy=>(hI.reach y hy).1
   have hOs:=hI.short
   refine RN ?_
   refine ⟨fun hc2=>?_,fun hc2=>?_⟩
   ·obtain ⟨O1, x, rfl⟩ : ∃ O1 x, O = O1 ++ [x] := by
      have hne:O≠[]:=by intro h;subst h;simp at hc2
      exact ⟨O.dropLast,O.getLast hne,(List.dropLast_concat_getLast hne).symm⟩
    have hx:=hI.wait x (by simp)
    obtain ⟨hxn,hxr⟩:=hI.reach x hx
    have hol:(O1++[x]).length=O1.length+1:=by simp
    have hxv:(nz (O1++[x])).getD O1.length 0=(x:Int):=by simp [nz]
    have hpop:=hI.pop
    have hct2:=O7 L i
    refine RN ?_
    refine Ah (α:=Nat×List Nat×List Nat) (S:=fun p=>([(1,Ae L),(6,.sl 0 1 0 n),(7,i64 (B1 L i)),(9,.sl 1 1 0 p.2.2.length),(10,i64 x),(17,i64 n),(18,i64 i),(46,Ae L),(47,i64 L.length),(48,i64 p.1)],[some (Aa (Cy n L i p.2.1)),some (Aa (nz p.2.2))])) (C:=fun p=>p.1≤L.length∧OrbI L n i p.2.1 p.2.2 (some (x,p.1))∧2*(n - p.2.1.length)+p.2.2.length<2*(n - V.length)+(O1++[x]).length) (μ:=fun p=>L.length - p.1) (0,V,O1) ⟨Nat.zero_le _,hpop,by simp⟩ ?_ ?_
    ·refine (Ref.cut 1 O1.length 9 (cs:=Aa (nz (O1++[x]))) (k:=1) (off:=0) (len:=O1.length) rfl (by simp [Aa,nz]) (by simp [Ab]) (by omega)).trans (Ref.gc [0,2] rfl ?_ ?_)
     ·simp only [go_sem,↓reduceIte,Nat.reduceEqDiff,Nat.reduceAdd,reduceCtorEq,List.cons_append,List.nil_append]
      congr 3
      rw [Lp,Sh,List.take_append_of_le_length (by simp [nz]),← H4 O1,List.take_length]
      exact Cr _ _
     ·simp [sub,Ab,go_sem,↓reduceIte,Nat.reduceEqDiff,Nat.reduceAdd,reduceCtorEq]
      simp [nz]
    ·rintro ⟨k,V2,O2⟩ ⟨hk,hI2,hμ⟩
     dsimp only at hk hI2 hμ
     have hlenV2:=Ot n L i V2
     have hnzl2:=H4 O2
     have hVn2:=E6 hI2.nd fun y hy=>(hI2.reach y hy).1
     have hOs2:=hI2.short
     refine RN ?_
     refine ⟨fun hc3=>?_,fun hc3=>?_⟩
     ·have hrm:=Li (L:=L) (k:=k) (by omega)
      obtain ⟨hrl,hrb⟩:=hL _ hrm
      obtain ⟨y1,y2,_⟩:=hrb x hxn
      have hyr:=hxr.step hrm
      have hfy:=Oh hL hyr hi'
      have hat3:=Vt (n:=n) (L:=L) (i:=i) (V:=V2) (j:=((L.getD k []).getD x 0).toNat) (by omega)
      rw [if_neg (by omega)] at hat3
      refine RN ?_
      refine ⟨fun hc4=>?_,fun hc4=>?_⟩
      ·have hno:((L.getD k []).getD x 0).toNat∉V2:=fun hm=>by rw [hat3,if_pos hm] at hc4;omega
       have hset3:=Vu (n:=n) (L:=L) (i:=i) (V:=V2) (j:=((L.getD k []).getD x 0).toNat) (by omega) (by omega)
       have hadd:=hI2.add hno (by omega) hyr
       have hVn3:=E6 hadd.nd fun y hy=>(hadd.reach y hy).1
       have hl3:(V2++[((L.getD k []).getD x 0).toNat]).length=V2.length+1:=by simp
       have hl4:(O2++[((L.getD k []).getD x 0).toNat]).length=O2.length+1:=by simp
       have hy3:((((L.getD k []).getD x 0).toNat:Nat):Int)=(L.getD k []).getD x 0:=by omega
       refine RN ?_
       refine ⟨(k+1,V2++[((L.getD k []).getD x 0).toNat],O2++[((L.getD k []).getD x 0).toNat]),⟨by dsimp only;omega,hadd,by dsimp only;omega⟩,by dsimp only;omega,?_⟩
       dsimp only
       rw [← hset3,Sh,hy3]
       refine Ref.gc [0,3] rfl ?_ (by simp [sub,Ab,go_sem,↓reduceIte,Nat.reduceEqDiff,Nat.reduceAdd,reduceCtorEq])
       (try simp only [go_sem,↓reduceIte,Nat.reduceEqDiff,Nat.reduceAdd,reduceCtorEq,← hnzl2,Xd,Iu,Fb])
      ·have hin : ((L.getD k []).getD x 0).toNat ∈ V2 := by
         rcases Classical.em (((L.getD k []).getD x 0).toNat∈V2) with h | h
         ·exact h
         ·rw [hat3,if_neg h] at hc4;omega
       refine RN ?_
       exact ⟨(k+1,V2,O2),⟨by dsimp only;omega,hI2.skip hin,by dsimp only;omega⟩,by dsimp only;omega,by exact Ref.frame (by simp [sub,Ab])⟩
     ·obtain rfl:k=L.length:=by omega
      refine RN ?_
      exact ⟨(V2,O2),hI2.fin,by dsimp only;omega,by exact Ref.frame (by simp [sub,Ab])⟩
   ·obtain rfl:O=[]:=List.eq_nil_of_length_eq_zero (by omega)
    have hV:∀ j,j∈V ↔ Rch L i j:=fun j=>⟨fun h=>(hI.reach j h).2,Uv hI.start (fun y hy=>hI.done y hy (by simp) (fun q hq=>by cases hq)) j⟩
    have hnew:=iI hL hi' hfi hV
    have hct:=Mp hfi
    refine RN ?_
    refine ⟨i+1,by omega,by omega,?_⟩
    rw [← hnew]
    refine Ref.gc [0] rfl ?_ (by simp [sub,Ab,go_sem,↓reduceIte,Nat.reduceEqDiff,Nat.reduceAdd,reduceCtorEq,hct])
    (try simp only [go_sem,↓reduceIte,Nat.reduceEqDiff,Nat.reduceAdd,reduceCtorEq])
 ·obtain rfl:i=n:=by omega
  rw [iH]
  (refine RN ?_;try with_reducible exact trivial)
  (try simp only [go_sem,↓reduceIte,Nat.reduceEqDiff,Nat.reduceAdd,reduceCtorEq,and_self])
end
section
open Go.Gov
open Classical
theorem OrbI.popH {L:List (List Int)}{n i:Nat}{V O:List Nat}{x:Nat}(h:OrbI L n i V (x :: O) none):OrbI L n i V O (some (x,0)):=
 ⟨h.nd,h.start,h.reach,fun y hy=>h.wait y (by simp [hy]),fun y hy hno hx=>h.done y hy (by simp [hno,hx (x,0) rfl]) (fun q hq=>by cases hq),fun q hq=>by
  cases hq
  exact ⟨h.wait x (by simp),fun j hj=>absurd hj (by omega)⟩,by have:=h.short;simp at this;omega⟩
noncomputable def Dd (m:Nat)(V:List Nat):List Bool:=(List.range m).map fun (x:Nat)=>decide (x∈V)
theorem Pn (m:Nat)(V:List Nat):(Dd m V).length=m:=by simp [Dd]
theorem Po (m:Nat):List.replicate m false=Dd m []:=List.ext_getElem (by simp [Dd]) fun j h1 h2=>by simp [Dd]
theorem Tf {m:Nat}{V:List Nat}{x:Nat}(h:x<m):(Dd m V).getD x false=decide (x∈V):=by simp [Dd,h]
theorem Jl {m:Nat}{V:List Nat}{x:Nat}:(Dd m V).set x true=Dd m (V++[x]):=by
 refine List.ext_getElem (by simp [Dd]) fun j h1 h2=>?_
 by_cases e:x=j
 ·subst e;simp [Dd]
 ·rw [List.getElem_set_ne e]
  simp [Dd,show ¬ j=x from fun h=>e h.symm]
theorem fW (n:Nat)(L:List (List Int))(pt:Nat)(hL:MvOk n L)(hp:pt<n)(hn:n≤1048576)(hl:L.length≤1048576):Ea Tryz.prog 72 [Ae L,i64 pt] (fun V:List Nat=>V.Nodup∧∀ j,j∈V ↔ Rch L pt j) (fun V=>.sl 0 1 0 V.length) (fun V=>[some (Aa (nz V))]):=by
 refine lT [0] Wm rfl ?_;unfold Qj
 refine RN ?_
 have hI0:OrbI L n pt [pt] [pt] none:=⟨by simp,by simp,fun y hy=>by simp at hy;subst hy;exact ⟨hp,.refl⟩,fun y hy=>hy,fun y hy hno=>absurd hy hno,fun q hq=>(by cases hq),by simp⟩
 refine ⟨fun hcl=>?_,fun hcl=>?_⟩
 ·have hl0:(L.getD 0 []).length=n:=(hL _ (Li (k:=0) (by omega))).1
  have hLne:L≠[]:=by intro h;subst h;simp at hcl
  have hm:(((n:Nat):Int)+(pt:Int)+1).toNat=n+pt+1:=by omega
  ·(refine RN ?_;try with_reducible exact trivial)
   simp only [hl0,hm,go_sem,↓reduceIte,Nat.reduceEqDiff,Nat.reduceAdd,reduceCtorEq]
   refine RN ?_
   rw [Po,Jl]
   simp only [List.nil_append]
   refine Ah (α:=Nat×List Nat) (S:=fun p=>([(0,Ae L),(5,.sl 0 1 0 p.2.length),(7,.sl 1 1 0 (n+pt+1)),(8,i64 p.1)],[some (Aa (nz p.2)),some (Cs (Dd (n+pt+1) p.2))])) (C:=fun p=>p.1≤p.2.length∧OrbI L n pt p.2 (p.2.drop p.1) none∧(L=[]→p.2=[pt])) (μ:=fun p=>n+1 - p.1) (0,[pt]) ⟨Nat.zero_le _,hI0,fun _=>rfl⟩ (Ref.to (by simp [nz,Aa]) (by simp [sub,Ab])) ?_
   rintro ⟨q,V⟩ ⟨hq,hI,hLe⟩
   dsimp only at hq hI hLe
   have hnzl:=H4 V
   have hVn:=E6 hI.nd fun y hy=>(hI.reach y hy).1
   refine RN ?_
   refine ⟨fun hc2=>?_,fun hc2=>?_⟩
   ·have hq' : q<V.length:=by omega
    have hdr:V.drop q=V[q] :: V.drop (q+1):=List.drop_eq_getElem_cons hq'
    rw [hdr] at hI
    have hpop:=hI.popH
    have hxV:V[q]∈V:=List.getElem_mem _
    obtain ⟨hxn,hxr⟩:=hI.reach _ hxV
    generalize hx:V[q]=x at hpop hxV hxn hxr
    have hxat:∀ W:List Nat,(nz (V++W)).getD q 0=(x:Int):=fun W=>by simp [nz,hq', List.getElem?_append_left,hx]
    refine RN ?_
    refine Ah (α:=Nat×List Nat) (S:=fun p=>([(0,Ae L),(5,.sl 0 1 0 (V++p.2).length),(7,.sl 1 1 0 (n+pt+1)),(8,i64 q),(9,i64 p.1)],[some (Aa (nz (V++p.2))),some (Cs (Dd (n+pt+1) (V++p.2)))])) (C:=fun p=>p.1≤L.length∧OrbI L n pt (V++p.2) (V.drop (q+1)++p.2) (some (x,p.1))∧(L=[]→p.2=[])) (μ:=fun p=>L.length - p.1) (0,[]) ⟨Nat.zero_le _,by simpa using hpop,fun _=>rfl⟩ (Ref.to (by simp) (by simp [sub,Ab])) ?_
    rintro ⟨k,W⟩ ⟨hk,hI2,hLe2⟩
    dsimp only at hk hI2 hLe2
    have hnzl2:=H4 (V++W)
    have hat1:=hxat W
    have hVn2:=E6 hI2.nd fun y hy=>(hI2.reach y hy).1
    have hsl:=Pn (n+pt+1) (V++W)
    have hVW:(V++W).length=V.length+W.length:=List.length_append
    refine RN ?_
    refine ⟨fun hc3=>?_,fun hc3=>?_⟩
    ·have hrm:=Li (L:=L) (k:=k) (by omega)
     obtain ⟨hrl,hrb⟩:=hL _ hrm
     obtain ⟨y1,y2,_⟩:=hrb x hxn
     have hyr:=hxr.step hrm
     have hym:((L.getD k []).getD x 0).toNat<n+pt+1:=by omega
     have hat3:=Tf (m:=n+pt+1) (V:=V++W) hym
     generalize hZ:V++W=Z at hnzl2 hat1 hVn2 hsl hI2 hat3 hVW ⊢
     have hxi:(((x:Nat):Int)).toNat=x:=by omega
     refine RN ?_
     simp only [hat1,hxi,go_sem,↓reduceIte,Nat.reduceEqDiff,Nat.reduceAdd,reduceCtorEq]
     refine RN ?_
     refine ⟨fun hc4=>?_,fun hc4=>?_⟩
     ·have hno : ((L.getD k []).getD x 0).toNat ∉ Z := by
        intro hm'
        rw [hat3,decide_eq_true hm'] at hc4
        cases hc4
      have hadd:=hI2.add hno (by omega) hyr
      have hst:=Jl (m:=n+pt+1) (V:=Z) (x:=((L.getD k []).getD x 0).toNat)
      have hy3:((((L.getD k []).getD x 0).toNat:Nat):Int)=(L.getD k []).getD x 0:=by omega
      refine RN ?_
      refine ⟨(k+1,W++[((L.getD k []).getD x 0).toNat]),⟨by dsimp only;omega,?_,fun h=>absurd h (by intro h;subst h;simp at hc3;omega)⟩,by dsimp only;omega,?_⟩
      ·dsimp only
       rw [← List.append_assoc,← List.append_assoc,hZ]
       exact hadd
      ·dsimp only
       rw [← List.append_assoc,hZ,← hst,Sh,hy3]
       refine Ref.gc [3,1] rfl ?_ (by simp [sub,Ab,go_sem,↓reduceIte,Nat.reduceEqDiff,Nat.reduceAdd,reduceCtorEq,Nat.add_assoc])
       have hVW' : V.length+W.length=(nz Z).length:=by omega
       (try simp only [go_sem,↓reduceIte,Nat.reduceEqDiff,Nat.reduceAdd,reduceCtorEq,hVW', Xd,Iu,Fb])
     ·have hin : ((L.getD k []).getD x 0).toNat ∈ Z := by
        rcases Classical.em (((L.getD k []).getD x 0).toNat∈Z) with h | h
        ·exact h
        ·rw [hat3,decide_eq_false h] at hc4;cases hc4
      refine RN ?_
      refine ⟨(k+1,W),⟨by dsimp only;omega,?_,hLe2⟩,by dsimp only;omega,?_⟩
      ·dsimp only
       rw [hZ]
       exact hI2.skip hin
      ·dsimp only
       rw [hZ]
       exact Ref.frame (by simp [sub,Ab])
    ·obtain rfl:k=L.length:=by omega
     refine RN ?_
     refine ⟨(q+1,V++W),⟨by dsimp only;omega,?_,fun h=>by rw [hLe h,hLe2 h];rfl⟩,by dsimp only;omega,by exact Ref.frame (by simp [sub,Ab])⟩
     dsimp only
     rw [List.drop_append_of_le_length (by omega)]
     exact hI2.fin
   ·obtain rfl:q=V.length:=by omega
    rw [List.drop_length] at hI
    refine RN ?_
    refine ⟨V,⟨hI.nd,fun j=>⟨fun h=>(hI.reach j h).2,Uv hI.start (fun y hy=>hI.done y hy (by simp) (fun q hq=>by cases hq)) j⟩⟩,?_,?_⟩
    ·simp only [go_sem,↓reduceIte,Nat.reduceEqDiff,Nat.reduceAdd,reduceCtorEq]
    ·simp only [go_sem,↓reduceIte,Nat.reduceEqDiff,Nat.reduceAdd,reduceCtorEq]
 ·have hLe:L=[]:=by cases L with | nil=>rfl | cons a b=>exact absurd hcl (by simp;try omega)
  have hL0:L.length=0:=by rw [hLe];rfl
  have hm:((0:Int)+(pt:Int)+1).toNat=pt+1:=by omega
  ·(refine RN ?_;try with_reducible exact trivial)
   simp only [hm,go_sem,↓reduceIte,Nat.reduceEqDiff,Nat.reduceAdd,reduceCtorEq]
   refine RN ?_
   rw [Po,Jl]
   simp only [List.nil_append]
   refine Ah (α:=Nat×List Nat) (S:=fun p=>([(0,Ae L),(5,.sl 0 1 0 p.2.length),(7,.sl 1 1 0 (pt+1)),(8,i64 p.1)],[some (Aa (nz p.2)),some (Cs (Dd (pt+1) p.2))])) (C:=fun p=>p.1≤p.2.length∧OrbI L n pt p.2 (p.2.drop p.1) none∧(L=[]→p.2=[pt])) (μ:=fun p=>n+1 - p.1) (0,[pt]) ⟨Nat.zero_le _,hI0,fun _=>rfl⟩ (Ref.to (by simp [nz,Aa]) (by simp [sub,Ab])) ?_
   rintro ⟨q,V⟩ ⟨hq,hI,hLe1⟩
   dsimp only at hq hI hLe1
   have hnzl:=H4 V
   have hVn:=E6 hI.nd fun y hy=>(hI.reach y hy).1
   refine RN ?_
   refine ⟨fun hc2=>?_,fun hc2=>?_⟩
   ·have hq' : q<V.length:=by omega
    have hdr:V.drop q=V[q] :: V.drop (q+1):=List.drop_eq_getElem_cons hq'
    rw [hdr] at hI
    have hpop:=hI.popH
    have hxV:V[q]∈V:=List.getElem_mem _
    obtain ⟨hxn,hxr⟩:=hI.reach _ hxV
    generalize hx:V[q]=x at hpop hxV hxn hxr
    have hxat:∀ W:List Nat,(nz (V++W)).getD q 0=(x:Int):=fun W=>by simp [nz,hq', List.getElem?_append_left,hx]
    refine RN ?_
    refine Ah (α:=Nat×List Nat) (S:=fun p=>([(0,Ae L),(5,.sl 0 1 0 (V++p.2).length),(7,.sl 1 1 0 (pt+1)),(8,i64 q),(9,i64 p.1)],[some (Aa (nz (V++p.2))),some (Cs (Dd (pt+1) (V++p.2)))])) (C:=fun p=>p.1≤L.length∧OrbI L n pt (V++p.2) (V.drop (q+1)++p.2) (some (x,p.1))∧(L=[]→p.2=[])) (μ:=fun p=>L.length - p.1) (0,[]) ⟨Nat.zero_le _,by simpa using hpop,fun _=>rfl⟩ (Ref.to (by simp) (by simp [sub,Ab])) ?_
    rintro ⟨k,W⟩ ⟨hk,hI2,hLe2⟩
    dsimp only at hk hI2 hLe2
    have hnzl2:=H4 (V++W)
    have hat1:=hxat W
    have hVn2:=E6 hI2.nd fun y hy=>(hI2.reach y hy).1
    have hsl:=Pn (pt+1) (V++W)
    have hVW:(V++W).length=V.length+W.length:=List.length_append
    refine RN ?_
    intro hc3
    ·obtain rfl:k=L.length:=by omega
     refine RN ?_
     refine ⟨(q+1,V++W),⟨by dsimp only;omega,?_,fun h=>by rw [hLe1 h,hLe2 h];rfl⟩,by dsimp only;omega,by exact Ref.frame (by simp [sub,Ab])⟩
     dsimp only
     rw [List.drop_append_of_le_length (by omega)]
     exact hI2.fin
   ·obtain rfl:q=V.length:=by omega
    rw [List.drop_length] at hI
    refine RN ?_
    refine ⟨V,⟨hI.nd,fun j=>⟨fun h=>(hI.reach j h).2,Uv hI.start (fun y hy=>hI.done y hy (by simp) (fun q hq=>by cases hq)) j⟩⟩,?_,?_⟩
    ·simp only [go_sem,↓reduceIte,Nat.reduceEqDiff,Nat.reduceAdd,reduceCtorEq]
    ·simp only [go_sem,↓reduceIte,Nat.reduceEqDiff,Nat.reduceAdd,reduceCtorEq]
end
section
open Go.Gov
open Classical
theorem Abt {V:List Nat}{j:Nat}(h:j<V.length):(nz V).getD j 0=(V[j]:Int):=by simp [nz,h]
theorem Aky {V:List Nat}{j:Nat}(h:j<V.length):V.take (j+1)=V.take j++[V[j]]:=by rw [List.take_add_one,List.getElem?_eq_getElem h];rfl
theorem fX (n:Nat)(L:List (List Int))(hL:MvOk n L)(hn:n≤1048576)(hl:L.length≤1048576):Pure Tryz.prog 93 [i64 n,Ae L] (.sl 0 1 0 n) [some (Aa (Fj n L))]:=by
 refine Ga [0] Ae5 rfl ?_;unfold bU
 refine RN ?_
 refine Ah (α:=Nat) (S:=fun k=>([(0,i64 n),(1,Ae L),(5,.sl 0 1 0 k),(6,i64 k)],[some (Aa (List.replicate k (-1)))])) (C:=fun k=>k≤n) (μ:=fun k=>n - k) 0 (by omega) (Ref.to (by simp [Aa]) (by simp [sub,Ab])) ?_
 intro k hk
 have hkl:(List.replicate k (-1:Int)).length=k:=by simp
 refine RN ?_
 refine ⟨fun hc=>?_,fun hc=>?_⟩
 ·(refine RN ?_;try with_reducible exact trivial)
  refine ⟨k+1,by omega,by omega,Ref.gc [2] rfl ?_ (by simp [sub,Ab,go_sem,↓reduceIte,Nat.reduceEqDiff,Nat.reduceAdd,reduceCtorEq])⟩
  have e1:(Aa (List.replicate k (-1))).take k=Aa (List.replicate k (-1)):=List.take_of_length_le (by simp [Aa])
  (try simp only [go_sem,↓reduceIte,Nat.reduceEqDiff,Nat.reduceAdd,reduceCtorEq,e1,Iu,Fb,List.replicate_succ'])
 ·obtain rfl:k=n:=by omega
  refine RN ?_
  rw [← iK k L]
  refine Ah (α:=Nat) (S:=fun i=>([(0,i64 k),(1,Ae L),(5,.sl 0 1 0 k),(7,i64 (B1 L i)),(8,i64 i)],[some (Aa (Cy k L i []))])) (C:=fun i=>i≤k) (μ:=fun i=>k - i) 0 (by omega) (Ref.to (by simp [B1]) (by simp [sub,Ab,B1])) ?_
  intro i hi
  have hlen:=Ot k L i []
  have hcl:=O7 L i
  refine RN ?_
  refine ⟨fun hc=>?_,fun hc=>?_⟩
  ·have hi' : i<k:=by omega
   have hat:=Vt (n:=k) (L:=L) (i:=i) (V:=[]) hi'
   simp only [List.not_mem_nil,if_false] at hat
   obtain ⟨f1,f2,f3⟩:=Io L i
   refine RN ?_
   refine ⟨fun hc1=>?_,fun hc1=>?_⟩
   ·have hne:Bk L i≠i:=fun e=>by rw [hat,if_neg (by omega)] at hc1;omega
    refine RN ?_
    refine ⟨i+1,by omega,by omega,?_⟩
    rw [← iJ hL hne,Sd hne]
    exact Ref.frame (by simp [sub,Ab])
   ·have hfi : Bk L i = i := by
      rcases Nat.lt_or_ge (Bk L i) i with h | h
      ·rw [hat,if_pos h] at hc1;omega
      ·omega
    have hnew:=fun V=>iI (n:=k) (L:=L) (i:=i) (V:=V) hL hi' hfi
    have hcnt:=Mp hfi
    refine RN ?_
    refine Hj (fW k L i hL hi' hn hl) (by simp only [go_sem,↓reduceIte,Nat.reduceEqDiff,Nat.reduceAdd,reduceCtorEq]<;>rfl) (fun o=>by first | rfl | simp only [go_sem,↓reduceIte,Nat.reduceEqDiff,Nat.reduceAdd,reduceCtorEq]) fun o ho=>?_
    obtain ⟨hnd,hV⟩:=ho
    have hVlt:∀ j,j∈o→j<k:=fun j hj=>((hV j).1 hj).lt hL hi'
    have hVn:=E6 hnd hVlt
    have hnzl:=H4 o
    refine RN ?_
    refine Ah (α:=Nat) (S:=fun j=>([(0,i64 k),(1,Ae L),(5,.sl 0 1 0 k),(7,i64 (B1 L i)),(8,i64 i),(9,.sl 1 1 0 o.length),(10,i64 j)],[some (Aa (Cy k L i (o.take j))),some (Aa (nz o))])) (C:=fun j=>j≤o.length) (μ:=fun j=>o.length - j) 0 (by omega) (Ref.to (by simp) (by simp [sub,Ab])) ?_
    intro j hj
    have hlen2:=Ot k L i (o.take j)
    refine RN ?_
    refine ⟨fun hc2=>?_,fun hc2=>?_⟩
    ·have hj' : j<o.length:=by omega
     have hoj:o[j]∈o:=List.getElem_mem _
     have hlt:=hVlt _ hoj
     have hfe:=Oh hL ((hV _).1 hoj) hi'
     have hat2:=Abt hj'
     have hset:=Vu (n:=k) (L:=L) (i:=i) (V:=o.take j) (j:=o[j]) hlt (by omega)
     rw [← Aky hj'] at hset
     generalize hx:o[j]=x at hoj hlt hfe hat2 hset
     have hxi:((x:Nat):Int).toNat=x:=by omega
     refine RN ?_
     refine ⟨j+1,by omega,by omega,?_⟩
     simp only [hat2,hxi,hset]
     exact Ref.frame (by simp [sub,Ab])
    ·obtain rfl:j=o.length:=by omega
     rw [List.take_length,hnew o hV]
     refine RN ?_
     refine ⟨i+1,by omega,by omega,?_⟩
     rw [hcnt]
     exact Ref.gc1 [0]
  ·obtain rfl:i=k:=by omega
   rw [iH]
   (refine RN ?_;try with_reducible exact trivial)
   (try simp only [go_sem,↓reduceIte,Nat.reduceEqDiff,Nat.reduceAdd,reduceCtorEq,and_self])
end
end Go.Proofs.YtnompobcofhkpaaGreatDoor
