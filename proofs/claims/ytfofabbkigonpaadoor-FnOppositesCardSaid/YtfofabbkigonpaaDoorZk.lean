/- Texts that belong together. -/
import Derived.Test.YtfofabbkigonpaaDoorZg
import Derived.Test.YtfofabbkigonpaaDoorZj
set_option linter.unusedSimpArgs false
set_option linter.unusedVariables false
set_option maxRecDepth 100000
namespace Go.Proofs.YtfofabbkigonpaaDoor
section
open Go.Gov
open Classical
def cC (p:List Int)(k:Nat):Prop:=∀ j,j<k→(0≤p.getD j 0∧p.getD j 0≤(p.length:Int) - 1)∧∀ i,i<j→p.getD i 0≠p.getD j 0
def IsPrm (p:List Int):Prop:=p.length≤400∧cC p p.length
def bR (p:List Int)(k:Nat):Prop:=p.getD k 0≠(k:Int)∧p.getD (p.getD k 0).toNat 0=(k:Int)
def Aae (p:List Int):Prop:=∀ k,k<p.length→bR p k
theorem IsPrm.at {p:List Int}(h:IsPrm p){k:Nat}(hk:k<p.length):0≤p.getD k 0∧p.getD k 0≤(p.length:Int) - 1:=(h.2 k hk).1
end
section
open Go.Gov Go.Sort
theorem nL (x y:Nat)(hx:x<18446744073709551616)(hy:y<18446744073709551616):Ao Tryd.prog 120 [.val (.int .u64 x),.val (.int .u64 y)] (.tup [.val (.int .u64 ((x*y / 18446744073709551616:Nat):Int)),.val (.int .u64 ((x*y%18446744073709551616:Nat):Int))]) []:=by
 intro g w vals hp hl1 hr
 have h0:=hr 0 (by simp)
 have h1:=hr 1 (by simp)
 simp only [List.getElem_cons_zero,List.getElem_cons_succ] at h0 h1
 have hv:vals = #[.int .u64 x,.int .u64 y]:=by
  refine Array.ext (by simpa using hl1) fun i h2 h3=>?_
  have e0:=h0.val_inv.1
  have e1:=h1.val_inv.1
  match i,h3 with
  | 0,_=>simpa [h2] using e0
  | 1,_=>simpa [h2] using e1
 subst hv
 refine (Any.bits_Mul Tryd.mulL x y hx hy w).mono ?_
 rintro e w' ⟨rfl,rfl⟩
 refine ⟨_,g,_,[],rfl,Mv.refl hp,.tup (by simp) (fun m hm=>?_),fun _ _ _=>rfl,rfl,rfl⟩
 match m,hm with
 | 0,_=>exact .val
 | 1,_=>exact .val
theorem xW (xs:List Int):(Aa xs).take xs.length=Aa xs:=List.take_of_length_le (by simp [Aa])
theorem aX (n:Nat)(h:n<18446744073709551616):IntKind.wrap .u64 (n:Int)=n:=by
 show (if (false&&decide ((n:Int)%2^64 ≥ 2^(64 - 1)))=true then (n:Int)%2^64 - 2^64 else (n:Int)%2^64)=(n:Int)
 rw [Bool.false_and,if_neg (by decide)]
 omega
theorem zP (n:Nat)(h:n<9223372036854775808):IntKind.wrap .i64 (n:Int)=n:=by
 show (if (true&&decide ((n:Int)%2^64 ≥ 2^(64 - 1)))=true then (n:Int)%2^64 - 2^64 else (n:Int)%2^64)=(n:Int)
 rw [Bool.true_and,if_neg (by simp;omega)]
 omega
theorem uX (v:Int)(n:Nat)(hn:n≤1099511627776):Ao Tryd.prog 109 [Ad [v],i64 n] (.sl 0 1 0 n) [some (Aa (List.replicate n v))]:=by
 have e1:IntKind.wrap .u64 ((1:Nat):Int)=((1:Nat):Int):=aX 1 (by omega)
 have e2:=aX n (by omega)
 refine Cm oJ rfl ?_;unfold Ty
 refine RN ?_
 refine fun _=>?_
 refine RN ?_
 rw [e1,e2]
 have e3:1*n / 18446744073709551616=0:=by omega
 have e4:1*n%18446744073709551616=n:=by omega
 have e5:=zP n (by omega)
 have hm:=nL 1 n (by omega) (by omega)
 rw [e3,e4] at hm
 refine An (hm) ?_
 refine RN ?_
 refine fun _=>?_
 refine RN ?_
 have h0:Nat.min 1 n≤n:=Nat.min_le_right _ _
 have h1:0<n→0<Nat.min 1 n:=fun h=>by rw [show Nat.min 1 n=1 from Nat.min_eq_left (by omega)];omega
 have hc0:List.take (Nat.min 1 n) (Aa [v])++List.drop (Nat.min 1 n) (Aa (List.replicate n 0))=Aa (List.replicate (Nat.min 1 n) v++List.replicate (n - Nat.min 1 n) 0):=by
  rw [aI,Vs,La]
  congr 2
  ·rcases Nat.eq_zero_or_pos n with h | h
   ·subst h;simp
   ·rw [show Nat.min 1 n=1 from Nat.min_eq_left (by omega)];rfl
  ·simp
 rw [hc0]
 generalize Nat.min 1 n=m0 at h0 h1
 refine Ak (α:=Nat) (S:=fun m=>([(7,.sl 0 1 0 n),(8,i64 m)],[some (Aa (List.replicate m v++List.replicate (n - m) 0))])) (C:=fun m=>m≤n∧(0<n→0<m)) (μ:=fun m=>n - m) m0 ⟨h0,h1⟩ (by exact Ref.frame (by simp [sub,Ac])) ?_
 rintro m ⟨hm1,hm2⟩
 have hlen:(List.replicate m v++List.replicate (n - m) (0:Int)).length=n:=by simp;omega
 refine RN ?_
 refine ⟨fun hc=>?_,fun hc=>?_⟩
 ·have hmp:=hm2 (by omega)
  refine RN ?_
  refine cE ?_
  refine RN ?_
  have t1:((m:Int) - 0).toNat=m:=by omega
  have t2:Int.toNat 0=0:=rfl
  have t3:((n:Int) - (m:Int)).toNat=n - m:=by omega
  have hq1:Nat.min m (n - m)≤n - m:=Nat.min_le_right _ _
  have hq3:Nat.min m (n - m)≤m:=Nat.min_le_left _ _
  have hq2:0<Nat.min m (n - m):=Nat.lt_min.2 ⟨hmp,by omega⟩
  simp only [t1,t2,t3,List.drop_zero,aI,Tb,Ta,Vs,La,true_and]
  generalize Nat.min m (n - m)=q at hq1 hq2 hq3
  refine ⟨by omega,m+q,⟨by omega,by omega⟩,by omega,Ref.to ?_ (by simp [sub,Ac])⟩
  have u1:(List.replicate m v++List.replicate (n - m) (0:Int)).take m=List.replicate m v:=by rw [List.take_append_of_le_length (by simp)];simp
  have u2:(List.replicate m v).take q=List.replicate q v:=by rw [List.take_replicate,Nat.min_eq_left hq3]
  have u3:(List.replicate m v++List.replicate (n - m) (0:Int)).drop (m+q)=List.replicate (n - (m+q)) 0:=by
   rw [List.drop_append,List.drop_of_length_le (by simp),List.nil_append,List.drop_replicate,List.length_replicate]
   congr 1;omega
  rw [u1,u2,u3,List.replicate_append_replicate]
 ·obtain rfl:m=n:=by omega
  refine RN ?_
  simp
end
section
open Classical
def MvOk (n:Nat)(L:List (List Int)):Prop:=∀ p∈L,p.length=n∧∀ x,x<n→0≤p.getD x 0∧p.getD x 0<n∧p.getD (p.getD x 0).toNat 0=x
inductive Rch (L:List (List Int)) (x:Nat):Nat→Prop
 | refl:Rch L x x
 | step {y:Nat} {p:List Int}:Rch L x y→p∈L→Rch L x (p.getD y 0).toNat
theorem Rch.trans {L:List (List Int)}{x y z:Nat}(h:Rch L x y)(k:Rch L y z):Rch L x z:=by
 induction k with
 | refl=>exact h
 | step _ hp ih=>exact ih.step hp
theorem Rch.lt {n:Nat}{L:List (List Int)}(hL:MvOk n L){x y:Nat}(h:Rch L x y)(hx:x<n):y<n:=by
 induction h with
 | refl=>exact hx
 | step _ hp ih=>have:=(hL _ hp).2 _ ih;omega
theorem Rch.symm {n:Nat}{L:List (List Int)}(hL:MvOk n L){x y:Nat}(h:Rch L x y)(hx:x<n):Rch L y x:=by
 induction h with
 | refl=>exact .refl
 | step h1 hp ih=>
  rename_i y p
  have hy:=h1.lt hL hx
  obtain ⟨_,h2⟩:=hL _ hp
  obtain ⟨h3,h4,h5⟩:=h2 y hy
  have hb:Rch L (p.getD y 0).toNat (p.getD (p.getD y 0).toNat 0).toNat:=Rch.refl.step hp
  rw [h5] at hb
  exact Rch.trans (by simpa using hb) ih
noncomputable def Wj (L:List (List Int))(x:Nat):Nat:=((List.range (x+1)).find? fun y=>decide (Rch L y x)).getD x
noncomputable def nN (L:List (List Int))(k:Nat):Nat:=(List.range k).countP fun m=>decide (Wj L m=m)
noncomputable def lab (L:List (List Int))(x:Nat):Nat:=nN L (Wj L x)
theorem Vi {L:List (List Int)}{i:Nat}{V:List Nat}(h0:i∈V)(hc:∀ x∈V,∀ p∈L,(p.getD x 0).toNat∈V):∀ j,Rch L i j→j∈V:=fun j h=>by
 induction h with
 | refl=>exact h0
 | step _ hp ih=>exact hc _ ih _ hp
theorem Gu:∀ {n:Nat} {V:List Nat},V.Nodup→(∀ x∈V,x<n)→V.length≤n
 | 0,V,_,hV=>by
  cases V with
  | nil=>simp
  | cons x V=>have:=hV x (by simp);omega
 | n+1,V,hn,hV=>by
  have h1:=Gu (n:=n) (V:=V.erase n) (hn.erase n) fun x hx=>by
   have:=(hn.mem_erase_iff).1 hx
   have:=hV x this.2
   omega
  rw [List.length_erase] at h1
  split at h1<;>omega
end
section
open Go.Gov
open Classical
def nz (O:List Nat):List Int:=O.map fun (x:Nat)=>(x:Int)
theorem Ki (O:List Nat):(nz O).length=O.length:=by simp [nz]
theorem nW (O:List Nat)(x:Nat):nz (O++[x])=nz O++[(x:Int)]:=by simp [nz]
structure OrbI (L:List (List Int)) (n i:Nat) (V O:List Nat) (x:Option (Nat×Nat)):Prop where
 nd:V.Nodup
 start:i∈V
 reach:∀ y∈V,y<n∧Rch L i y
 wait:∀ y∈O,y∈V
 done:∀ y∈V,y∉O→(∀ q,x=some q→y≠q.1)→∀ p∈L,(p.getD y 0).toNat∈V
 now:∀ q,x=some q→q.1∈V∧∀ j,j<q.2→((L.getD j []).getD q.1 0).toNat∈V
 short:O.length≤V.length
theorem OrbI.skip {L:List (List Int)}{n i:Nat}{V O:List Nat}{x k:Nat}(h:OrbI L n i V O (some (x,k)))(hy:((L.getD k []).getD x 0).toNat∈V):OrbI L n i V O (some (x,k+1)):=
 ⟨h.nd,h.start,h.reach,h.wait,fun y hy hno hx=>h.done y hy hno fun q hq=>by cases hq;exact hx (x,k+1) rfl,fun q hq=>by
  cases hq
  obtain ⟨h1,h2⟩:=h.now (x,k) rfl
  refine ⟨h1,fun j hj=>?_⟩
  rcases Nat.lt_or_ge j k with h3 | h3
  ·exact h2 j h3
  ·obtain rfl:j=k:=by dsimp only at hj;omega
   exact hy,h.short⟩
theorem OrbI.add {L : List (List Int)} {n i : Nat} {V O : List Nat} {x k : Nat} (h : OrbI L n i V O (some (x, k))) (hy : ((L.getD k []).getD x 0).toNat ∉ V) (hn : ((L.getD k []).getD x 0).toNat < n) (hr : Rch L i ((L.getD k []).getD x 0).toNat) :
    OrbI L n i (V++[((L.getD k []).getD x 0).toNat]) (O++[((L.getD k []).getD x 0).toNat]) (some (x,k+1)):=by
 generalize hz:((L.getD k []).getD x 0).toNat=z at hy hn hr
 refine ⟨?_,by simp [h.start],fun y hy' => ?_,fun y hy' => ?_,fun y hy' hno hx p hp=>?_,fun q hq=>?_,by have:=h.short;simp;omega⟩
 ·rw [List.nodup_append]
  exact ⟨h.nd,by simp,fun a ha b hb=>by simp at hb;subst hb;exact fun e=>hy (e ▸ ha)⟩
 ·rcases List.mem_append.1 hy' with h1 | h1
  ·exact h.reach y h1
  ·simp at h1;subst h1;exact ⟨hn,hr⟩
 ·rcases List.mem_append.1 hy' with h1 | h1
  ·simp [h.wait y h1]
  ·simp [List.mem_singleton.1 h1]
 ·have hyO:y∉O:=fun hm=>hno (by simp [hm])
  have hyz:y≠z:=fun e=>hno (by simp [e])
  have hyV:y∈V:=by
   rcases List.mem_append.1 hy' with h1 | h1
   ·exact h1
   ·exact absurd (List.mem_singleton.1 h1) hyz
  exact List.mem_append_left _ (h.done y hyV hyO (fun q hq=>by cases hq;exact hx (x,k+1) rfl) p hp)
 ·cases hq
  obtain ⟨h1,h2⟩:=h.now (x,k) rfl
  refine ⟨by simp [h1],fun j hj=>?_⟩
  rcases Nat.lt_or_ge j k with h3 | h3
  ·exact List.mem_append_left _ (h2 j h3)
  ·obtain rfl:j=k:=by dsimp only at hj;omega
   dsimp only
   rw [hz]
   exact List.mem_append_right _ (List.mem_singleton.2 rfl)
theorem OrbI.fin {L:List (List Int)}{n i:Nat}{V O:List Nat}{x:Nat}(h:OrbI L n i V O (some (x,L.length))):OrbI L n i V O none:=
 ⟨h.nd,h.start,h.reach,h.wait,fun y hy hno _ p hp=>by
  by_cases e:y=x
  ·subst e
   obtain ⟨j,hj,rfl⟩:=List.mem_iff_getElem.1 hp
   have:=(h.now (y,L.length) rfl).2 j hj
   simpa [hj] using this
  ·exact h.done y hy hno (fun q hq=>by cases hq;exact e) p hp,fun q hq=>(by cases hq),h.short⟩
theorem O1 {L:List (List Int)}{k:Nat}(h:k<L.length):L.getD k []∈L:=by
 rw [show L.getD k []=L[k] by simp [h]];exact List.getElem_mem _
end
section
open Go.Gov
open Classical
theorem OrbI.popH {L:List (List Int)}{n i:Nat}{V O:List Nat}{x:Nat}(h:OrbI L n i V (x :: O) none):OrbI L n i V O (some (x,0)):=
 ⟨h.nd,h.start,h.reach,fun y hy=>h.wait y (by simp [hy]),fun y hy hno hx=>h.done y hy (by simp [hno,hx (x,0) rfl]) (fun q hq=>by cases hq),fun q hq=>by
  cases hq
  exact ⟨h.wait x (by simp),fun j hj=>absurd hj (by omega)⟩,by have:=h.short;simp at this;omega⟩
noncomputable def Dy (m:Nat)(V:List Nat):List Bool:=(List.range m).map fun (x:Nat)=>decide (x∈V)
theorem Z3 (m:Nat)(V:List Nat):(Dy m V).length=m:=by simp [Dy]
theorem Z4 (m:Nat):List.replicate m false=Dy m []:=List.ext_getElem (by simp [Dy]) fun j h1 h2=>by simp [Dy]
theorem vR {m:Nat}{V:List Nat}{x:Nat}(h:x<m):(Dy m V).getD x false=decide (x∈V):=by simp [Dy,h]
theorem R6 {m:Nat}{V:List Nat}{x:Nat}:(Dy m V).set x true=Dy m (V++[x]):=by
 refine List.ext_getElem (by simp [Dy]) fun j h1 h2=>?_
 by_cases e:x=j
 ·subst e;simp [Dy]
 ·rw [List.getElem_set_ne e]
  simp [Dy,show ¬ j=x from fun h=>e h.symm]
def RgOk (n:Nat)(L:List (List Int)):Prop:=∀ p∈L,p.length=n∧∀ x,x<n→0≤p.getD x 0∧p.getD x 0<n
theorem Rch.ltR {L:List (List Int)}{n x y:Nat}(hL:RgOk n L)(h:Rch L x y)(hx:x<n):y<n:=by
 induction h with
 | refl=>exact hx
 | step _ hp ih=>have:=(hL _ hp).2 _ ih;omega
set_option maxHeartbeats 4000000 in
theorem Xf (n:Nat)(L:List (List Int))(pt:Nat)(hL:RgOk n L)(hp:pt<n)(hn:n≤1048576)(hl:L.length≤1048576):Cr Tryd.prog 117 [Ae L,i64 pt] (fun V:List Nat=>V.Nodup∧∀ j,j∈V ↔ Rch L pt j) (fun V=>.sl 0 1 0 V.length) (fun V=>[some (Aa (nz V))]):=by
 refine sN [0] oN rfl ?_;unfold T3
 refine RN ?_
 have hI0:OrbI L n pt [pt] [pt] none:=⟨by simp,by simp,fun y hy=>by simp at hy;subst hy;exact ⟨hp,.refl⟩,fun y hy=>hy,fun y hy hno=>absurd hy hno,fun q hq=>(by cases hq),by simp⟩
 refine ⟨fun hcl=>?_,fun hcl=>?_⟩
 ·have hl0:(L.getD 0 []).length=n:=(hL _ (O1 (k:=0) (by omega))).1
  have hLne:L≠[]:=by intro h;subst h;simp at hcl
  have hm:(((n:Nat):Int)+(pt:Int)+1).toNat=n+pt+1:=by omega
  ·(refine RN ?_;try with_reducible exact trivial)
   simp only [hl0,hm,go_sem,↓reduceIte,Nat.reduceEqDiff,Nat.reduceAdd,reduceCtorEq]
   refine RN ?_
   rw [Z4,R6]
   simp only [List.nil_append]
   refine Ak (α:=Nat×List Nat) (S:=fun p=>([(0,Ae L),(5,.sl 0 1 0 p.2.length),(7,.sl 1 1 0 (n+pt+1)),(8,i64 p.1)],[some (Aa (nz p.2)),some (Bc (Dy (n+pt+1) p.2))])) (C:=fun p=>p.1≤p.2.length∧OrbI L n pt p.2 (p.2.drop p.1) none∧(L=[]→p.2=[pt])) (μ:=fun p=>n+1 - p.1) (0,[pt]) ⟨Nat.zero_le _,hI0,fun _=>rfl⟩ (Ref.to (by simp [nz,Aa]) (by simp [sub,Ac])) ?_
   rintro ⟨q,V⟩ ⟨hq,hI,hLe⟩
   dsimp only at hq hI hLe
   have hnzl:=Ki V
   have hVn:=Gu hI.nd fun y hy=>(hI.reach y hy).1
   refine RN ?_
   refine ⟨fun hc2=>?_,fun hc2=>?_⟩
   ·have hq' : q<V.length:=by omega
    have hdr:V.drop q=V[q] :: V.drop (q+1):=List.drop_eq_getElem_cons hq'
    rw [hdr] at hI
    have hpop:=hI.popH
    have hxV:V[q]∈V:=List.getElem_mem _
    obtain ⟨hxn,hxr⟩:=hI.reach _ hxV
    generalize hx:V[q]=x at hpop hxV hxn hxr
    have hxat:∀ W:List Nat,(nz (V++W)).getD q 0=(x:Int):=fun W=>by simp [nz,hq', List.getElem?_append_left,hx]
    refine RN ?_
    refine Ak (α:=Nat×List Nat) (S:=fun p=>([(0,Ae L),(5,.sl 0 1 0 (V++p.2).length),(7,.sl 1 1 0 (n+pt+1)),(8,i64 q),(9,i64 p.1)],[some (Aa (nz (V++p.2))),some (Bc (Dy (n+pt+1) (V++p.2)))])) (C:=fun p=>p.1≤L.length∧OrbI L n pt (V++p.2) (V.drop (q+1)++p.2) (some (x,p.1))∧(L=[]→p.2=[])) (μ:=fun p=>L.length - p.1) (0,[]) ⟨Nat.zero_le _,by simpa using hpop,fun _=>rfl⟩ (Ref.to (by simp) (by simp [sub,Ac])) ?_
    rintro ⟨k,W⟩ ⟨hk,hI2,hLe2⟩
    dsimp only at hk hI2 hLe2
    have hnzl2:=Ki (V++W)
    have hat1:=hxat W
    have hVn2:=Gu hI2.nd fun y hy=>(hI2.reach y hy).1
    have hsl:=Z3 (n+pt+1) (V++W)
    have hVW:(V++W).length=V.length+W.length:=List.length_append
    refine RN ?_
    refine ⟨fun hc3=>?_,fun hc3=>?_⟩
    ·have hrm:=O1 (L:=L) (k:=k) (by omega)
     obtain ⟨hrl,hrb⟩:=hL _ hrm
     obtain ⟨y1,y2⟩:=hrb x hxn
     have hyr:=hxr.step hrm
     have hym:((L.getD k []).getD x 0).toNat<n+pt+1:=by omega
     have hat3:=vR (m:=n+pt+1) (V:=V++W) hym
     generalize hZ:V++W=Z at hnzl2 hat1 hVn2 hsl hI2 hat3 hVW ⊢
     have hxi:(((x:Nat):Int)).toNat=x:=by omega
     refine RN ?_
     simp only [hat1,hxi,go_sem,↓reduceIte,Nat.reduceEqDiff,Nat.reduceAdd,reduceCtorEq]
     refine RN ?_
     refine ⟨fun hc4=>?_,fun hc4=>?_⟩
     ·have hno : ((L.getD k []).getD x 0).toNat ∉ Z := by
        intro hm'
        rw [hat3,decide_eq_true hm'] at hc4
        cases hc4
      have hadd:=hI2.add hno (by omega) hyr
      have hst:=R6 (m:=n+pt+1) (V:=Z) (x:=((L.getD k []).getD x 0).toNat)
      have hy3:((((L.getD k []).getD x 0).toNat:Nat):Int)=(L.getD k []).getD x 0:=by omega
      refine RN ?_
      refine ⟨(k+1,W++[((L.getD k []).getD x 0).toNat]),⟨by dsimp only;omega,?_,fun h=>absurd h (by intro h;subst h;simp at hc3;omega)⟩,by dsimp only;omega,?_⟩
      ·dsimp only
       rw [← List.append_assoc,← List.append_assoc,hZ]
       exact hadd
      ·dsimp only
       rw [← List.append_assoc,hZ,← hst,nW,hy3]
       refine Ref.gc [3,1] rfl ?_ (by simp [sub,Ac,go_sem,↓reduceIte,Nat.reduceEqDiff,Nat.reduceAdd,reduceCtorEq,Nat.add_assoc])
       have hVW' : V.length+W.length=(nz Z).length:=by omega
       (try simp only [go_sem,↓reduceIte,Nat.reduceEqDiff,Nat.reduceAdd,reduceCtorEq,hVW', xW,Rr,La])
     ·have hin : ((L.getD k []).getD x 0).toNat ∈ Z := by
        rcases Classical.em (((L.getD k []).getD x 0).toNat∈Z) with h | h
        ·exact h
        ·rw [hat3,decide_eq_false h] at hc4;cases hc4
      refine RN ?_
      refine ⟨(k+1,W),⟨by dsimp only;omega,?_,hLe2⟩,by dsimp only;omega,?_⟩
      ·dsimp only
       rw [hZ]
       exact hI2.skip hin
      ·dsimp only
       rw [hZ]
       exact Ref.frame (by simp [sub,Ac])
    ·obtain rfl:k=L.length:=by omega
     refine RN ?_
     refine ⟨(q+1,V++W),⟨by dsimp only;omega,?_,fun h=>by rw [hLe h,hLe2 h];rfl⟩,by dsimp only;omega,by exact Ref.frame (by simp [sub,Ac])⟩
     dsimp only
     rw [List.drop_append_of_le_length (by omega)]
     exact hI2.fin
   ·obtain rfl:q=V.length:=by omega
    rw [List.drop_length] at hI
    refine RN ?_
    refine ⟨V,⟨hI.nd,fun j=>⟨fun h=>(hI.reach j h).2,Vi hI.start (fun y hy=>hI.done y hy (by simp) (fun q hq=>by cases hq)) j⟩⟩,?_,?_⟩
    ·simp only [go_sem,↓reduceIte,Nat.reduceEqDiff,Nat.reduceAdd,reduceCtorEq]
    ·simp only [go_sem,↓reduceIte,Nat.reduceEqDiff,Nat.reduceAdd,reduceCtorEq]
 ·have hLe:L=[]:=by cases L with | nil=>rfl | cons a b=>exact absurd hcl (by simp;try omega)
  have hL0:L.length=0:=by rw [hLe];rfl
  have hm:((0:Int)+(pt:Int)+1).toNat=pt+1:=by omega
  ·(refine RN ?_;try with_reducible exact trivial)
   simp only [hm,go_sem,↓reduceIte,Nat.reduceEqDiff,Nat.reduceAdd,reduceCtorEq]
   refine RN ?_
   rw [Z4,R6]
   simp only [List.nil_append]
   refine Ak (α:=Nat×List Nat) (S:=fun p=>([(0,Ae L),(5,.sl 0 1 0 p.2.length),(7,.sl 1 1 0 (pt+1)),(8,i64 p.1)],[some (Aa (nz p.2)),some (Bc (Dy (pt+1) p.2))])) (C:=fun p=>p.1≤p.2.length∧OrbI L n pt p.2 (p.2.drop p.1) none∧(L=[]→p.2=[pt])) (μ:=fun p=>n+1 - p.1) (0,[pt]) ⟨Nat.zero_le _,hI0,fun _=>rfl⟩ (Ref.to (by simp [nz,Aa]) (by simp [sub,Ac])) ?_
   rintro ⟨q,V⟩ ⟨hq,hI,hLe1⟩
   dsimp only at hq hI hLe1
   have hnzl:=Ki V
   have hVn:=Gu hI.nd fun y hy=>(hI.reach y hy).1
   refine RN ?_
   refine ⟨fun hc2=>?_,fun hc2=>?_⟩
   ·have hq' : q<V.length:=by omega
    have hdr:V.drop q=V[q] :: V.drop (q+1):=List.drop_eq_getElem_cons hq'
    rw [hdr] at hI
    have hpop:=hI.popH
    have hxV:V[q]∈V:=List.getElem_mem _
    obtain ⟨hxn,hxr⟩:=hI.reach _ hxV
    generalize hx:V[q]=x at hpop hxV hxn hxr
    have hxat:∀ W:List Nat,(nz (V++W)).getD q 0=(x:Int):=fun W=>by simp [nz,hq', List.getElem?_append_left,hx]
    refine RN ?_
    refine Ak (α:=Nat×List Nat) (S:=fun p=>([(0,Ae L),(5,.sl 0 1 0 (V++p.2).length),(7,.sl 1 1 0 (pt+1)),(8,i64 q),(9,i64 p.1)],[some (Aa (nz (V++p.2))),some (Bc (Dy (pt+1) (V++p.2)))])) (C:=fun p=>p.1≤L.length∧OrbI L n pt (V++p.2) (V.drop (q+1)++p.2) (some (x,p.1))∧(L=[]→p.2=[])) (μ:=fun p=>L.length - p.1) (0,[]) ⟨Nat.zero_le _,by simpa using hpop,fun _=>rfl⟩ (Ref.to (by simp) (by simp [sub,Ac])) ?_
    rintro ⟨k,W⟩ ⟨hk,hI2,hLe2⟩
    dsimp only at hk hI2 hLe2
    have hnzl2:=Ki (V++W)
    have hat1:=hxat W
    have hVn2:=Gu hI2.nd fun y hy=>(hI2.reach y hy).1
    have hsl:=Z3 (pt+1) (V++W)
    have hVW:(V++W).length=V.length+W.length:=List.length_append
    refine RN ?_
    intro hc3
    ·obtain rfl:k=L.length:=by omega
     refine RN ?_
     refine ⟨(q+1,V++W),⟨by dsimp only;omega,?_,fun h=>by rw [hLe1 h,hLe2 h];rfl⟩,by dsimp only;omega,by exact Ref.frame (by simp [sub,Ac])⟩
     dsimp only
     rw [List.drop_append_of_le_length (by omega)]
     exact hI2.fin
   ·obtain rfl:q=V.length:=by omega
    rw [List.drop_length] at hI
    refine RN ?_
    refine ⟨V,⟨hI.nd,fun j=>⟨fun h=>(hI.reach j h).2,Vi hI.start (fun y hy=>hI.done y hy (by simp) (fun q hq=>by cases hq)) j⟩⟩,?_,?_⟩
    ·simp only [go_sem,↓reduceIte,Nat.reduceEqDiff,Nat.reduceAdd,reduceCtorEq]
    ·simp only [go_sem,↓reduceIte,Nat.reduceEqDiff,Nat.reduceAdd,reduceCtorEq]
end
section
open Go.Gov
open Classical
theorem nV {V:List Nat}{j:Nat}(h:j<V.length):(nz V).getD j 0=(V[j]:Int):=by simp [nz,h]
end
end Go.Proofs.YtfofabbkigonpaaDoor
