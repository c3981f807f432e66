/- Texts that belong together. -/
import Derived.Test.YtnompobcofhkpaaGreatDoorZq
import Derived.Test.YtnompobcofhkpaaGreatDoorR5
import Derived.Test.YtnompobcofhkpaaGreatDoorR9
set_option maxHeartbeats 16000000
set_option linter.unusedSimpArgs false
set_option linter.unusedVariables false
set_option maxRecDepth 100000
namespace Go.Proofs.YtnompobcofhkpaaGreatDoor
section
open Go.Gov Go.Ce
open Classical
noncomputable def bG (M:List (List Int))(O:List Nat)(x:Nat):Nat→List Nat
 | 0=>O
 | k+1=>C6 (bG M O x k) (mv M k x)
noncomputable def bF (M:List (List Int)):Nat→List Nat→Nat→List Nat
 | 0,O,_=>O
 | k+1,O,i=>if i<O.length then bF M k (bG M O (O.getD i 0) M.length) (i+1) else O
noncomputable def Cg (M:List (List Int))(n f:Nat):List Nat:=bF M (n+1) [f] 0
theorem Qb (M:List (List Int))(O:List Nat)(x:Nat):∀ k:Nat,∃ L,bG M O x k=O++L
 | 0=>⟨[],by simp [bG]⟩
 | k+1=>by
  obtain ⟨L,h⟩:=Qb M O x k
  obtain ⟨L2,h2⟩:=My (bG M O x k) (mv M k x)
  exact ⟨L++L2,by rw [bG,h2,h,List.append_assoc]⟩
structure Jr (n:Nat) (M:List (List Int)):Prop where
 row:∀ k,k<M.length→(M.getD k []).length=n
 val:∀ k x,k<M.length→x<n→(M.getD k []).getD x 0=(mv M k x:Nat)
 lt:∀ k x,k<M.length→x<n→mv M k x<n
structure Bd (n:Nat) (O:List Nat):Prop where
 nd:O.Nodup
 lt:∀ d∈O,d<n
theorem Bd.psh {n:Nat}{O:List Nat}(h:Bd n O){d:Nat}(hd:d<n):Bd n (C6 O d):=by
 unfold C6
 split
 ·exact h
 ·rename_i hn
  refine ⟨List.nodup_append.2 ⟨h.nd,by simp,fun a ha b hb e=>by obtain rfl:=List.mem_singleton.1 hb;exact hn (e ▸ ha)⟩,fun e he=>?_⟩
  rcases List.mem_append.1 he with he | he
  ·exact h.lt e he
  ·rw [List.mem_singleton.1 he];exact hd
theorem Jv {n:Nat}{O:List Nat}(h:Bd n O):O.length≤n:=E6 h.nd h.lt
theorem Qa {n:Nat}{M:List (List Int)}(hM:Jr n M){O:List Nat}(ho:Bd n O){x:Nat}(hx:x<n):∀ k:Nat,k≤M.length→Bd n (bG M O x k)∧∀ j,j<k→mv M j x∈bG M O x k
 | 0,_=>⟨ho,fun j hj=>by omega⟩
 | k+1,hk=>by
  obtain ⟨h1,h2⟩:=Qa hM ho hx k (by omega)
  refine ⟨h1.psh (hM.lt k x (by omega) hx),fun j hj=>?_⟩
  rw [bG]
  by_cases e:j=k
  ·subst e;exact Wv _ _
  ·obtain ⟨L,hL⟩:=My (bG M O x k) (mv M k x)
   rw [hL]
   exact List.mem_append.2 (.inl (h2 j (by omega)))
structure Bi (n:Nat) (M:List (List Int)) (f:Nat) (O:List Nat) (i:Nat):Prop where
 bd:Bd n O
 zero:f∈O
 le:i≤O.length
 cl:∀ j,j<i→∀ k,k<M.length→mv M k (O.getD j 0)∈O
 res:bF M (n+1 - i) O i=Cg M n f
theorem Ua {n f:Nat}{M:List (List Int)}(hf:f<n):Bi n M f [f] 0:=
 ⟨⟨by simp,fun d hd=>by obtain rfl:=List.mem_singleton.1 hd;exact hf⟩,by simp,Nat.zero_le _,fun j hj=>by omega,rfl⟩
theorem Bi.step {n f:Nat}{M:List (List Int)}(hM:Jr n M){O:List Nat}{i:Nat}(ho:Bi n M f O i)(hi:i<O.length):Bi n M f (bG M O (O.getD i 0) M.length) (i+1):=by
 have hmem:=Et hi
 obtain ⟨h1,h2⟩:=Qa hM ho.bd (ho.bd.lt _ hmem) M.length (Nat.le_refl _)
 obtain ⟨L,hL⟩:=Qb M O (O.getD i 0) M.length
 have hol:=Jv ho.bd
 refine ⟨h1,by rw [hL];exact List.mem_append.2 (.inl ho.zero),by rw [hL,List.length_append];omega,fun j hj k hk=>?_,?_⟩
 ·rw [hL,J6 (by omega),← hL]
  by_cases e:j=i
  ·subst e;exact h2 k hk
  ·rw [hL]
   exact List.mem_append.2 (.inl (ho.cl j (by omega) k hk))
 ·rw [← ho.res,show n+1 - i=(n+1 - (i+1))+1 by omega,bF,if_pos hi]
theorem Bi.done {n f:Nat}{M:List (List Int)}{O:List Nat}{i:Nat}(ho:Bi n M f O i)(hi:¬ i<O.length):O=Cg M n f:=by
 have hol:=Jv ho.bd
 have:=ho.le
 rw [← ho.res,show n+1 - i=(n - i)+1 by omega,bF,if_neg hi]
theorem Ye {n f:Nat}{M:List (List Int)}(hM:Jr n M):∀ (k:Nat) {O:List Nat} {i:Nat},n≤i+k→Bi n M f O i→Bi n M f (Cg M n f) (Cg M n f).length
 | 0,O,i,hk,ho=>by
  have hol:=Jv ho.bd
  have:=ho.le
  have e:=ho.done (by omega)
  rw [← e,show O.length=i by omega]
  exact ho
 | k+1,O,i,hk,ho=>by
  by_cases hi:i<O.length
  ·exact Ye hM k (by omega) (ho.step hM hi)
  ·have:=ho.le
   have e:=ho.done hi
   rw [← e,show O.length=i by omega]
   exact ho
theorem Nz {n f:Nat}{M:List (List Int)}(hM:Jr n M)(hf:f<n):Bi n M f (Cg M n f) (Cg M n f).length:=Ye hM n (by omega) (Ua hf)
theorem O6 {M:List (List Int)}(h:IsMap M):Jr (fl M) M:=by
 have hI:=h.mvi
 have h3:=h.2
 exact ⟨fun k hk=>hI.row k (by omega),fun k x hk hx=>hI.val k x (by omega) hx,fun k x hk hx=>hI.lt k x (by omega) hx⟩
theorem Ny {M:List (List Int)}(h:IsMap M){f:Nat}(hf:f<fl M):(∀ x,x<fl M→x∈Cg M (fl M) f)∧(Cg M (fl M) f).length=fl M:=by
 have hB:=Nz (O6 h) hf
 have hcl:∀ x∈Cg M (fl M) f,∀ k,k<M.length→mv M k x∈Cg M (fl M) f:=fun x hx k hk=>by
  obtain ⟨j,hj,rfl⟩:=List.mem_iff_getElem.1 hx
  have:=hB.cl j hj k hk
  rwa [List.getD_eq_getElem?_getD,List.getElem?_eq_getElem hj,Option.getD_some] at this
 have hrch:∀ {x y:Nat},Rch M x y→x∈Cg M (fl M) f→y∈Cg M (fl M) f:=fun {x y} hr hx=>by
  induction hr with
  | refl=>exact hx
  | step _ hp ih=>
   obtain ⟨k,hk,rfl⟩:=List.mem_iff_getElem.1 hp
   have:=hcl _ ih k hk
   unfold mv at this
   rwa [List.getD_eq_getElem?_getD (l:=M),List.getElem?_eq_getElem hk,Option.getD_some] at this
 have hall:∀ x,x<fl M→x∈Cg M (fl M) f:=fun x hx=>
  hrch (((h.1.con f hf).symm h.1.mv (by have:=h.1.f2;omega)).trans (h.1.con x hx)) hB.zero
 refine ⟨hall,Nat.le_antisymm (Jv hB.bd) ?_⟩
 have:=E6 (V:=List.range (fl M)) (n:=(Cg M (fl M) f).length) List.nodup_range
 refine Classical.byContradiction fun hn=>?_
 have hlt:(Cg M (fl M) f).length<fl M:=by omega
 have key:∀ (m:Nat) (V:List Nat),(∀ x,x<m→x∈V)→m≤V.length:=by
  intro m
  induction m with
  | zero=>intro V _;omega
  | succ m ih=>
   intro V hV
   have h1:=ih (V.erase m) fun x hx=>(List.mem_erase_of_ne (by omega)).2 (hV x (by omega))
   have h2:=List.length_erase_of_mem (hV m (by omega))
   have h3:0<V.length:=List.length_pos_of_mem (hV m (by omega))
   omega
 have:=key (fl M) _ hall
 omega
noncomputable def Gn (M:List (List Int))(O:List Nat)(k j:Nat):List Int:=(List.range j).map fun j=>(A4 O (mv M k (O.getD j 0)):Int)
noncomputable def Dw (M:List (List Int))(O:List Nat)(k:Nat):List (List Int):=(List.range k).map fun k=>Gn M O k O.length
noncomputable def Bx (M:List (List Int))(f:Nat):List (List Int):=Dw M (Cg M (fl M) f) M.length
theorem Vd (M:List (List Int))(O:List Nat)(k j:Nat):(Gn M O k j).length=j:=by simp [Gn]
theorem uU (M:List (List Int))(O:List Nat)(k j:Nat):Gn M O k (j+1)=Gn M O k j++[(A4 O (mv M k (O.getD j 0)):Int)]:=by simp [Gn,List.range_succ]
theorem Vc (M:List (List Int))(O:List Nat)(k:Nat):(Dw M O k).length=k:=by simp [Dw]
theorem eC (M:List (List Int))(O:List Nat)(k:Nat):Dw M O (k+1)=Dw M O k++[Gn M O k O.length]:=by simp [Dw,List.range_succ]
theorem Ky {M:List (List Int)}(h:IsMap M){f:Nat}(hf:f<fl M):(Bx M f).length=3∧∀ k,k<3→((Bx M f).getD k []).length=fl M:=by
 have h3:=h.2
 have hl:=(Ny h hf).2
 refine ⟨by unfold Bx;rw [Vc,h3],fun k hk=>?_⟩
 unfold Bx Dw
 rw [List.getD_eq_getElem?_getD,List.getElem?_map,List.getElem?_range (by omega)]
 simp [Vd,hl]
def Cf:List (List Int)→List (List Int)→Bool
 | [],[]=>false
 | [],_ :: _=>true
 | _ :: _,[]=>false
 | a :: A,b :: B=>if a=b then Cf A B else B6 a b
theorem Vy:∀ A:List (List Int),Cf A A=false
 | []=>rfl
 | a :: A=>by unfold Cf;rw [if_pos rfl];exact Vy A
noncomputable def C4 (M:List (List Int)):Nat→List (List Int)
 | 0=>Bx M 0
 | k+1=>if Cf (Bx M k) (C4 M k)=true then Bx M k else C4 M k
noncomputable def Ct (M:List (List Int)):List (List Int):=C4 M (fl M)
theorem iR (M:List (List Int)):C4 M 1=Bx M 0:=by
 unfold C4
 split<;>rfl
theorem Mi {M:List (List Int)}(h:IsMap M):∀ k:Nat,k≤fl M→(C4 M k).length=3∧∀ j,j<3→((C4 M k).getD j []).length=fl M
 | 0,_=>Ky h (by have:=h.1.f2;omega)
 | k+1,hk=>by
  unfold C4
  split
  ·exact Ky h (by omega)
  ·exact Mi h k (by omega)
theorem Lc {O:List Nat}{d:Nat}(h:d∈O):O.getD (A4 O d) 0=d:=by
 have hl:=Jg h
 unfold A4 at *
 rw [List.getD_eq_getElem?_getD,List.getElem?_eq_getElem hl,Option.getD_some]
 exact List.getElem_idxOf hl
theorem vR {O:List Nat}(h:O.Nodup){i j:Nat}(hi:i<O.length)(hj:j<O.length)(e:O.getD i 0=O.getD j 0):i=j:=by
 rw [List.getD_eq_getElem?_getD,List.getD_eq_getElem?_getD,List.getElem?_eq_getElem hi,List.getElem?_eq_getElem hj,Option.getD_some,Option.getD_some] at e
 exact (List.getElem_inj h).1 e
theorem Sw {O:List Nat}(h:O.Nodup){i:Nat}(hi:i<O.length):A4 O (O.getD i 0)=i:=by
 have hm:=Et hi
 exact vR h (Jg hm) hi (Lc hm)
noncomputable def Dn (O:List Nat)(n k:Nat):List Int:=(List.range n).map fun d=>if d∈O∧A4 O d<k then (A4 O d:Int) else 0
theorem O8 (O:List Nat)(n k:Nat):(Dn O n k).length=n:=by simp [Dn]
theorem kB (O:List Nat)(n:Nat):Dn O n 0=List.replicate n 0:=by
 refine List.ext_getElem (by simp [Dn]) fun j h1 h2=>?_
 simp [Dn]
theorem kA {O:List Nat}(h:O.Nodup){n k:Nat}(hk:k<O.length):(Dn O n k).set (O.getD k 0) (k:Int)=Dn O n (k+1):=by
 refine List.ext_getElem (by simp [Dn]) fun j h1 h2=>?_
 rw [List.getElem_set]
 simp only [Dn,List.getElem_map,List.getElem_range]
 have hp:=Sw h hk
 by_cases e:O.getD k 0=j
 ·rw [if_pos e,← e,if_pos ⟨Et hk,by omega⟩,hp]
 ·rw [if_neg e]
  by_cases hj:j∈O
  ·have hne:A4 O j≠k:=fun h2=>e (by rw [← h2];exact Lc hj)
   by_cases hl:A4 O j<k
   ·rw [if_pos ⟨hj,hl⟩,if_pos ⟨hj,by omega⟩]
   ·rw [if_neg (fun h=>hl h.2),if_neg (fun h=>by have:=h.2;omega)]
  ·rw [if_neg (fun h=>hj h.1),if_neg (fun h=>hj h.1)]
theorem jZ {O:List Nat}{n d:Nat}(hd:d<n)(hm:d∈O):(Dn O n O.length).getD d 0=(A4 O d:Int):=by
 simp [Dn,hd,hm,Jg hm]
noncomputable def Gv (M:List (List Int))(O:List Nat)(k f:Nat):List Int:=(List.range O.length).map fun j=>if O.getD j 0<f then (A4 O (mv M k (O.getD j 0)):Int) else 0
theorem Ait (M:List (List Int))(O:List Nat)(k f:Nat):(Gv M O k f).length=O.length:=by simp [Gv]
theorem Aiv (M:List (List Int))(O:List Nat)(k:Nat):Gv M O k 0=List.replicate O.length 0:=by
 refine List.ext_getElem (by simp [Gv]) fun j h1 h2=>?_
 simp [Gv]
theorem Aiu {M:List (List Int)}{O:List Nat}(h:O.Nodup){k f:Nat}(hf:f∈O):(Gv M O k f).set (A4 O f) (A4 O (mv M k f):Int)=Gv M O k (f+1):=by
 refine List.ext_getElem (by simp [Gv]) fun j h1 h2=>?_
 have hj:j<O.length:=by simpa [Gv] using h2
 rw [List.getElem_set]
 simp only [Gv,List.getElem_map,List.getElem_range]
 by_cases e:A4 O f=j
 ·have:O.getD j 0=f:=by rw [← e];exact Lc hf
  rw [if_pos e,this,if_pos (by omega)]
 ·have hne:O.getD j 0≠f:=fun h2=>e (by rw [← h2];exact Sw h hj)
  rw [if_neg e]
  by_cases hl:O.getD j 0<f
  ·rw [if_pos hl,if_pos (by omega)]
  ·rw [if_neg hl,if_neg (by omega)]
theorem Ais {M:List (List Int)}{O:List Nat}{n:Nat}(h:∀ d∈O,d<n)(k:Nat):Gv M O k n=Gn M O k O.length:=by
 unfold Gv Gn
 refine List.map_congr_left fun j hj=>?_
 rw [if_pos (h _ (Et (List.mem_range.1 hj)))]
def Ff:List (List Int)→List (List Int)→Int
 | [],[]=>0
 | [],_ :: _ => -1
 | _ :: _,[]=>1
 | a :: A,b :: B=>if F0 a b=0 then Ff A B else F0 a b
theorem cP (a b:List Int):F0 a b=0 ↔ a=b:=by
 constructor
 ·intro h
  unfold F0 at h
  split at h
  ·omega
  ·rename_i h1
   split at h
   ·omega
   ·rename_i h2
    exact iP (by simpa using h1) (by simpa using h2)
 ·rintro rfl
  unfold F0
  rw [Rz]
  rfl
theorem cN:∀ A B:List (List Int),Ff A B<0 ↔ Cf A B=true
 | [],[]=>by simp [Ff,Cf]
 | [],_ :: _=>by simp [Ff,Cf]
 | _ :: _,[]=>by simp [Ff,Cf]
 | a :: A,b :: B=>by
  unfold Ff Cf
  by_cases e:a=b
  ·rw [if_pos ((cP a b).2 e),if_pos e]
   exact cN A B
  ·rw [if_neg (fun h=>e ((cP a b).1 h)),if_neg e]
   exact sZ a b
end
section
open Go.Gov Go.Ce
open Classical
theorem Abs (n:Nat)(M:List (List Int))(hM:Jr n M)(h1:1≤M.length)(hl:M.length≤1024)(hn:n≤1048576)(f:Nat)(hf:f<n):Pure Tryz.prog 125 [Ae M,i64 (f:Int)] (.sl 0 1 0 (Cg M n f).length) [some (Aa (oz (Cg M n f)))]:=by
 have hr0:=hM.row 0 (by omega)
 refine Bh Acb rfl ?_;unfold Yy
 refine RN ?_
 rw [hr0]
 rw [Po,Jl]
 simp only [List.nil_append]
 refine Ah (α:=List Nat×Nat) (S:=fun p=>([(0,Ae M),(5,.sl 0 1 0 n),(6,.sl 1 1 0 p.1.length),(7,i64 (p.2:Int))],[some (Cs (Dd n p.1)),some (Aa (oz p.1))]))
  (C:=fun p=>Bi n M f p.1 p.2) (μ:=fun p=>n+1 - p.2) ([f],0) (Ua hf) (Ref.to (by simp [oz,Aa]) (by simp [sub,Ab])) ?_
 rintro ⟨O,i⟩ hO
 dsimp only at hO ⊢
 have hol:=Jv hO.bd
 have hoz:=H6 O
 have hle:=hO.le
 refine RN ?_
 refine ⟨fun hc2=>?_,fun hc2=>?_⟩
 ·have hiO:i<O.length:=by omega
  have hmem:=Et hiO
  have hxn:=hO.bd.lt _ hmem
  have hgok:=fun m hm=>Qa hM hO.bd hxn m (hm:m≤M.length)
  have hgp:=Qb M O (O.getD i 0)
  have hOs:=hO.step hM hiO
  refine RN ?_
  refine Ah (α:=Nat) (S:=fun m=>([(0,Ae M),(5,.sl 0 1 0 n),(6,.sl 1 1 0 (bG M O (O.getD i 0) m).length),(7,i64 (i:Int)),(27,Ae M),(28,i64 (M.length:Int)),(29,i64 (m:Int))],[some (Cs (Dd n (bG M O (O.getD i 0) m))),some (Aa (oz (bG M O (O.getD i 0) m)))]))
   (C:=fun m=>m≤M.length) (μ:=fun m=>M.length - m) 0 (Nat.zero_le _) (Ref.to rfl (by simp [sub,Ab,bG])) ?_
  intro m hm
  obtain ⟨v1,v2⟩:=hgok m hm
  obtain ⟨L,hL⟩:=hgp m
  have hst:bG M O (O.getD i 0) (m+1)=C6 (bG M O (O.getD i 0) m) (mv M m (O.getD i 0)):=rfl
  by_cases hend:m=M.length
  ·subst hend
   refine RN ?_
   intro _
   refine RN ?_
   exact ⟨(bG M O (O.getD i 0) M.length,i+1),hOs,by dsimp only;omega,Ref.to1⟩
  obtain ⟨x,hx⟩:∃ x,x=O.getD i 0:=⟨_,rfl⟩
  rw [← hx] at hxn hst hL v1 v2 ⊢
  have hat:(bG M O x m).getD i 0=x:=by rw [hL,J6 hiO,hx]
  obtain ⟨V,hV⟩:∃ V,V=bG M O x m:=⟨_,rfl⟩
  obtain ⟨W,hW⟩:∃ W,W=bG M O x (m+1):=⟨_,rfl⟩
  rw [← hV] at v1 v2 hst hL hat ⊢
  rw [← hW] at hst
  have hvl:=Jv v1
  have hvz:=H6 V
  have hiV:i<V.length:=by rw [hL,List.length_append];omega
  have hoa:=Kg hiV
  rw [hat] at hoa
  have hrm:=hM.row m (by omega)
  have hvm:=hM.val m x (by omega) hxn
  have hlm:=hM.lt m x (by omega) hxn
  have hsl:=Pn n V
  have hsa:=Tf (m:=n) (V:=V) (x:=mv M m x) hlm
  have hss:=Jl (m:=n) (V:=V) (x:=mv M m x)
  obtain ⟨d,hd⟩:∃ d,d=mv M m x:=⟨_,rfl⟩
  rw [← hd] at hst hvm hlm hsa hss
  have hxi:((x:Nat):Int).toNat=x:=by omega
  have hdi:((d:Nat):Int).toNat=d:=by omega
  refine RN ?_
  refine ⟨fun _=>?_,fun h=>absurd h (by omega)⟩
  (repeat first | simp only [hoa,hvm,hxi,hdi,go_sem,↓reduceIte,Nat.reduceEqDiff,Nat.reduceAdd,reduceCtorEq] | refine RX ?_ | decide)
  refine ⟨fun hc4=>?_,fun hc4=>?_⟩
  ·have hdV:d∉V:=fun h=>by rw [hsa,decide_eq_true h] at hc4;cases hc4
   have hWV:W=V++[d]:=by rw [hst];unfold C6;rw [if_neg hdV]
   have hwl:W.length=V.length+1:=by rw [hWV];simp
   rw [hss]
   refine RN ?_
   refine ⟨m+1,by omega,by omega,?_⟩
   rw [← hW]
   have tk1:(Aa (oz V)).take V.length=Aa (oz V):=List.take_of_length_le (by rw [A2,hvz];exact Nat.le_refl _)
   refine Ref.gc [0,3] rfl ?_ (by simp [sub,Ab,hwl,go_sem,↓reduceIte,Nat.reduceEqDiff,Nat.reduceAdd,reduceCtorEq])
   simp only [go_sem,↓reduceIte,Nat.reduceEqDiff,Nat.reduceAdd,reduceCtorEq]
   rw [tk1,Cr,hWV]
   simp [Aa,oz]
  ·have hdV:d∈V:=Classical.byContradiction fun h=>by rw [hsa,decide_eq_false h] at hc4;cases hc4
   have hWV:W=V:=by rw [hst];unfold C6;rw [if_pos hdV]
   refine RN ?_
   refine ⟨m+1,by omega,by omega,?_⟩
   rw [← hW,hWV]
   exact Ref.to1
 ·have hdo:=hO.done (by omega)
  rw [← hdo]
  refine RN ?_
  exact Ref.gc1 [1]
theorem eG (M:List (List Int))(h:IsMap M)(f:Nat)(hf:f<fl M):Pure Tryz.prog 85 [Ae M,i64 (f:Int)] (.agg [.sl 0 1 0 3]) [some ((Bx M f).map Ac)]:=by
 have hM:=O6 h
 have h3:=h.2
 have h4:=h.1.f4
 have hnf:=Abs (fl M) M hM (by omega) (by omega) (by omega) f hf
 obtain ⟨hall,hlen⟩:=Ny h hf
 have hbd:=(Nz hM hf).bd
 have hr0:=hM.row 0 (by omega)
 have hfr:Bx M f=Dw M (Cg M (fl M) f) 3:=by unfold Bx;rw [h3]
 rw [hfr]
 generalize Cg M (fl M) f=O at *
 generalize fl M=n at *
 have hoz:=H6 O
 refine Bh Aey rfl ?_;unfold c85
 refine RN ?_
 refine Ag (hnf) ?_
 refine RN ?_
 rw [hr0]
 refine Ah (α:=Nat) (S:=fun k=>([(0,Ae M),(4,.ref 0 0),(5,.sl 1 1 0 n),(6,.sl 2 1 0 n),(23,.sl 1 1 0 n),(24,i64 (n:Int)),(25,i64 (k:Int))],[some [Ai],some (Aa (oz O)),some (Aa (Dn O n k))]))
  (C:=fun k=>k≤n) (μ:=fun k=>n - k) 0 (Nat.zero_le _) (Ref.to (by rw [kB]) (by simp [sub,Ab,hlen])) ?_
 intro k hk
 have hnl:=O8 O n k
 refine RN ?_
 refine ⟨fun hc=>?_,fun hc=>?_⟩
 ·have hkO:k<O.length:=by omega
  have hoa:=Kg hkO
  have hlt:=hbd.lt _ (Et hkO)
  have hset:=kA hbd.nd (n:=n) hkO
  have e1:((O.getD k 0:Nat):Int).toNat=O.getD k 0:=by omega
  (repeat first | simp only [hoa,e1,go_sem,↓reduceIte,Nat.reduceEqDiff,Nat.reduceAdd,reduceCtorEq] | refine RX ?_ | decide)
  refine ⟨k+1,by omega,by omega,?_⟩
  rw [← hset]
  exact Ref.to1
 ·obtain rfl:k=n:=by omega
  refine RN ?_
  refine Ah (α:=Nat) (S:=fun m=>([(0,Ae M),(4,.ref 0 0),(5,.sl 1 1 0 k),(6,.sl 2 1 0 k),(9,.ref 3 0),(35,Ae M),(36,i64 3),(37,i64 (m:Int))],[some [Ai],some (Aa (oz O)),some (Aa (Dn O k k)),some [.sl 4 1 0 m],some ((Dw M O m).map Ac)]))
   (C:=fun m=>m≤3) (μ:=fun m=>3 - m) 0 (Nat.zero_le _) ((Ref.nilC 3 0 1 rfl rfl).trans (Ref.to (by simp [Dw]) (by simp [sub,Ab,h3]))) ?_
  intro m hm
  have hkl:=Vc M O m
  refine RN ?_
  refine ⟨fun hc=>?_,fun hc=>?_⟩
  ·have hrm:=hM.row m (by omega)
   have hvm:=fun x hx=>hM.val m x (by omega) hx
   have hlm:=fun x hx=>hM.lt m x (by omega) hx
   have hks:=eC M O m
   rw [hlen] at hks
   refine RN ?_
   refine Ah (α:=Nat) (S:=fun j=>([(0,Ae M),(4,.ref 0 0),(5,.sl 1 1 0 k),(6,.sl 2 1 0 k),(9,.ref 3 0),(35,Ae M),(36,i64 3),(37,i64 (m:Int)),(11,Ad (M.getD m [])),(12,.sl 5 1 0 j),(41,.sl 1 1 0 k),(42,i64 (k:Int)),(43,i64 (j:Int))],[some [Ai],some (Aa (oz O)),some (Aa (Dn O k k)),some [.sl 4 1 0 m],some ((Dw M O m).map Ac),some (Aa (Gn M O m j))]))
    (C:=fun j=>j≤k) (μ:=fun j=>k - j) 0 (Nat.zero_le _) ((Ref.nil 12 1 rfl).trans (Ref.to (by simp [Gn,Aa]) (by simp [sub,Ab]))) ?_
   intro j hj
   have hfl:=Vd M O m j
   refine RN ?_
   refine ⟨fun hc2=>?_,fun hc2=>?_⟩
   ·have hjO:j<O.length:=by omega
    have hoa:=Kg hjO
    have hxn:=hbd.lt _ (Et hjO)
    have hv:=hvm _ hxn
    have hl:=hlm _ hxn
    have hna:=jZ (O:=O) hl (hall _ hl)
    rw [hlen] at hna
    have hnl:=O8 O k k
    have hfs:=uU M O m j
    obtain ⟨x,hx⟩:∃ x,x=O.getD j 0:=⟨_,rfl⟩
    rw [← hx] at hoa hxn hv hl hna hfs
    obtain ⟨d,hd⟩:∃ d,d=mv M m x:=⟨_,rfl⟩
    rw [← hd] at hv hl hna hfs
    have e1:((x:Nat):Int).toNat=x:=by omega
    have e2:((d:Nat):Int).toNat=d:=by omega
    obtain ⟨R,hR⟩:∃ R,R=Gn M O m j:=⟨_,rfl⟩
    rw [← hR] at hfl hfs ⊢
    (repeat first | simp only [hoa,hv,hna,e1,e2,go_sem,↓reduceIte,Nat.reduceEqDiff,Nat.reduceAdd,reduceCtorEq] | refine RX ?_ | decide)
    refine ⟨j+1,by omega,by omega,?_⟩
    rw [hfs]
    have tk1:(Aa R).take j=Aa R:=List.take_of_length_le (by rw [A2,hfl];exact Nat.le_refl _)
    refine Ref.gc [0,1,2,3,4,7] rfl ?_ (by simp [sub,Ab,go_sem,↓reduceIte,Nat.reduceEqDiff,Nat.reduceAdd,reduceCtorEq])
    simp only [go_sem,↓reduceIte,Nat.reduceEqDiff,Nat.reduceAdd,reduceCtorEq]
    rw [tk1,Cr]
    simp [Aa]
   ·obtain rfl:j=k:=by omega
    refine RN ?_
    refine ⟨m+1,by omega,by omega,?_⟩
    rw [hks]
    refine (Ref.row 7 5 (L:=Dw M O m) rfl hkl rfl hfl (by decide)).trans ?_
    exact Ref.gc1 [0,1,2,3,7]
  ·obtain rfl:m=3:=by omega
   refine RN ?_
   exact Ref.gc1 [4]
end
section
open Go.Gov Go.Ce
open Classical
theorem sW {A B:List (List Int)}{i:Nat}(h1:i<A.length)(h2:i<B.length):Ff (A.drop i) (B.drop i)=if F0 (A.getD i []) (B.getD i [])=0 then Ff (A.drop (i+1)) (B.drop (i+1)) else F0 (A.getD i []) (B.getD i []):=by
 rw [List.drop_eq_getElem_cons h1,List.drop_eq_getElem_cons h2,Ff,List.getD_eq_getElem?_getD,List.getD_eq_getElem?_getD,List.getElem?_eq_getElem h1,List.getElem?_eq_getElem h2]
 rfl
theorem tE (A B : List (List Int)) (hl : A.length = B.length) (hA : A.length ≤ 1048576) (ha : ∀ k, k < A.length → (A.getD k []).length ≤ 1048576) (hb : ∀ k, k < B.length → (B.getD k []).length ≤ 1048576) :
    Pure Tryz.prog 126 [Ae A,Ae B,.clo 127 [] []] (i64 (Ff A B)) []:=by
 refine Ao Acd rfl rfl ?_;unfold Yz
 refine RN ?_
 refine Ah (α:=Nat) (S:=fun i=>([(0,Ae A),(1,Ae B),(2,.clo 127 [] []),(11,Ae A),(12,i64 (A.length:Int)),(13,i64 (i:Int))],[])) (C:=fun i=>i≤A.length∧Ff (A.drop i) (B.drop i)=Ff A B) (μ:=fun i=>A.length - i) 0 ⟨Nat.zero_le _,rfl⟩ (Ref.to1) ?_
 rintro i ⟨hi,hr⟩
 refine RN ?_
 refine ⟨fun hc=>?_,fun hc=>?_⟩
 ·have hcm:=tG (A.getD i []) (B.getD i []) (by have:=ha i (by omega);omega) (by have:=hb i (by omega);omega)
  rw [sW (by omega) (by omega)] at hr
  generalize F0 (A.getD i []) (B.getD i [])=c at *
  refine RN ?_
  intro _
  refine RN ?_
  refine Ag (hcm) ?_
  refine RN ?_
  refine ⟨fun hc3=>?_,fun hc3=>?_⟩
  ·rw [if_neg hc3] at hr
   refine RN ?_
   rw [hr]
  ·rw [if_pos hc3] at hr
   refine RN ?_
   exact ⟨i+1,⟨by omega,hr⟩,by omega,Ref.to1⟩
 ·obtain rfl:i=A.length:=by omega
  have h0:Ff A B=0:=by
   rw [← hr,List.drop_length,List.drop_of_length_le (by omega)]
   rfl
  rw [h0]
  refine RN ?_
  intro _
  (refine RN ?_;try with_reducible exact trivial)
theorem tF (A B:List (List Int))(hl:A.length=B.length)(hA:A.length≤1048576)(ha:∀ k,k<A.length→(A.getD k []).length≤1048576)(hb:∀ k,k<B.length→(B.getD k []).length≤1048576):Pure Tryz.prog 86 [Ak A,Ak B] (i64 (Ff A B)) []:=by
 have h:=tE A B hl hA ha hb
 refine Ao Aez rfl rfl ?_;unfold bN
 refine RN ?_
 refine Ag (h) ?_
 (refine RN ?_;try with_reducible exact trivial)
theorem uJ (A B : List (List Int)) (hl : A.length = B.length) (hA : A.length ≤ 1048576) (ha : ∀ k, k < A.length → (A.getD k []).length ≤ 1048576) (hb : ∀ k, k < B.length → (B.getD k []).length ≤ 1048576) :
    Pure Tryz.prog 90 [Ae A,Ae B,.clo 46 [] []] (bl (decide (A=B))) []:=by
 have key:∀ i,i≤A.length→(∀ j,j<i→A.getD j []=B.getD j [])→i=A.length→A=B:=fun i hi h e=>by
  refine List.ext_getElem hl fun j h1 h2=>?_
  have:=h j (by omega)
  rwa [List.getD_eq_getElem?_getD,List.getD_eq_getElem?_getD,List.getElem?_eq_getElem h1,List.getElem?_eq_getElem h2] at this
 refine Ao Ae2 rfl rfl ?_;unfold bQ
 refine RN ?_
 intro _
 refine RN ?_
 refine Ah (α:=Nat) (S:=fun i=>([(0,Ae A),(1,Ae B),(2,.clo 46 [] []),(15,Ae A),(16,i64 (A.length:Int)),(17,i64 (i:Int))],[])) (C:=fun i=>i≤A.length∧∀ j,j<i→A.getD j []=B.getD j []) (μ:=fun i=>A.length - i) 0 ⟨Nat.zero_le _,fun j hj=>by omega⟩ (Ref.to1) ?_
 rintro i ⟨hi,hr⟩
 refine RN ?_
 refine ⟨fun hc=>?_,fun hc=>?_⟩
 ·have heq:=dL (A.getD i []) (B.getD i []) (by have:=ha i (by omega);omega) (by have:=hb i (by omega);omega)
  have hne:A.getD i []≠B.getD i []→A≠B:=fun h e=>h (by rw [e])
  have hnx:A.getD i []=B.getD i []→∀ j,j<i+1→A.getD j []=B.getD j []:=fun h j hj=>by
   by_cases e:j=i
   ·subst e;exact h
   ·exact hr j (by omega)
  refine RN ?_
  refine Ag (heq) ?_
  refine RN ?_
  refine ⟨fun hc3=>?_,fun hc3=>?_⟩
  ·rw [decide_eq_false (hne hc3)]
   (refine RN ?_;try with_reducible exact trivial)
  ·(refine RN ?_;try with_reducible exact trivial)
   exact ⟨i+1,⟨by omega,hnx hc3⟩,by omega,Ref.to1⟩
 ·rw [decide_eq_true (key i hi hr (by omega))]
  (refine RN ?_;try with_reducible exact trivial)
theorem Ajg (A B:List (List Int))(hl:A.length=B.length)(hA:A.length≤1048576)(ha:∀ k,k<A.length→(A.getD k []).length≤1048576)(hb:∀ k,k<B.length→(B.getD k []).length≤1048576):Pure Tryz.prog 48 [Ak A,Ak B] (bl (decide (A=B))) []:=by
 have h:=uJ A B hl hA ha hb
 refine Ao Ad4 rfl rfl ?_;unfold aJ
 refine RN ?_
 refine Ag (h) ?_
 (refine RN ?_;try with_reducible exact trivial)
theorem iL (M:List (List Int))(h:IsMap M):Pure Tryz.prog 44 [Ak M] (.agg [.sl 0 1 0 3]) [some ((Ct M).map Ac)]:=by
 have h3:=h.2
 have h4:=h.1.f4
 have h2:=h.1.f2
 have hf0:=eG M h 0 (by omega)
 have hfl:=Jb M (by omega) (by omega) (by unfold fl at h4;omega)
 have hfe:(M.getD 0 []).length=fl M:=rfl
 rw [hfe] at hfl
 rw [show Bx M 0=C4 M 0 from rfl] at hf0
 refine Bh Ad0 rfl ?_;unfold aG
 refine RN ?_
 refine Ag (hf0) ?_
 refine RN ?_
 refine Ag (hfl) ?_
 refine RN ?_
 refine Ah (α:=Nat) (S:=fun k=>([(1,.ref 0 0),(2,.ref 1 0),(3,.ref 2 0),(9,i64 (fl M:Int)),(10,i64 (k:Int))],[some [Ae M],some [Ai],some [.sl 3 1 0 3],some ((C4 M k).map Ac)])) (C:=fun k=>k≤fl M) (μ:=fun k=>fl M - k) 0 (Nat.zero_le _) (Ref.gc2 [0,1,3,2]) ?_
 intro k hk
 have hlk:=Mi h k hk
 have hst:C4 M (k+1)=if Cf (Bx M k) (C4 M k)=true then Bx M k else C4 M k:=rfl
 obtain ⟨Lk,hLk⟩:∃ Lk,Lk=C4 M k:=⟨_,rfl⟩
 rw [← hLk] at hlk hst ⊢
 refine RN ?_
 refine ⟨fun hc=>?_,fun hc=>?_⟩
 ·have hfk:=eG M h k (by omega)
  have hfo:=Ky h (f:=k) (by omega)
  generalize Bx M k=Fk at *
  have hcm:=tF Fk Lk (by omega) (by omega) (fun j hj=>by have:=hfo.2 j (by omega);omega) (fun j hj=>by have:=hlk.2 j (by omega);omega)
  have hlt:=cN Fk Lk
  have hF3:=hfo.1
  have hL3:=hlk.1
  generalize Ff Fk Lk=c at *
  refine RN ?_
  refine Ag (hfk) ?_
  refine RN ?_
  refine A9 hcm (by simp only [go_sem,↓reduceIte,Nat.reduceEqDiff,Nat.reduceAdd,reduceCtorEq,Bl _ _ Fk 3 hF3,Bl _ _ Lk 3 hL3];first | done | (simp only [Ak,Ae,hF3,hL3];done) | (simp only [Ak,Ae,hF3,hL3];rfl)) (by first | rfl | simp only [go_sem,↓reduceIte,Nat.reduceEqDiff,Nat.reduceAdd,reduceCtorEq]) ?_
  refine RN ?_
  refine ⟨fun hc3=>?_,fun hc3=>?_⟩
  ·rw [if_pos (hlt.1 hc3)] at hst
   refine RN ?_
   refine ⟨k+1,by omega,by omega,?_⟩
   rw [hst]
   exact Ref.gc2 [0,1,2,4]
  ·rw [if_neg (fun h=>by have:=hlt.2 h;omega)] at hst
   refine RN ?_
   refine ⟨k+1,by omega,by omega,?_⟩
   rw [hst]
   exact Ref.gc2 [0,1,2,3]
 ·obtain rfl:k=fl M:=by omega
  rw [hLk]
  refine RN ?_
  exact Ref.gc2 [3]
end
section
open Go.Gov Go.Ce
open Classical
theorem xJ (n:Nat)(M:List (List Int))(hM:Jr n M)(h1:1≤M.length)(hl:M.length≤1024)(hn:n≤100000)(f:Nat)(hf:f<n):Pure Tryz.prog 72 [Ae M,i64 (f:Int)] (.sl 0 1 0 (Cg M n f).length) [some (Aa (oz (Cg M n f)))]:=by
 have hr0:=hM.row 0 (by omega)
 have hm:(((n:Nat):Int)+(f:Int)+1).toNat=n+f+1:=by omega
 refine Bh Wm rfl ?_;unfold Qj
 refine RN ?_
 refine ⟨fun hcl=>?_,fun hcl=>absurd hcl (by omega)⟩
 refine RN ?_
 simp only [hr0,hm,go_sem,↓reduceIte,Nat.reduceEqDiff,Nat.reduceAdd,reduceCtorEq]
 refine RN ?_
 rw [Po,Jl]
 simp only [List.nil_append]
 refine Ah (α:=List Nat×Nat) (S:=fun p=>([(0,Ae M),(5,.sl 0 1 0 p.1.length),(7,.sl 1 1 0 (n+f+1)),(8,i64 (p.2:Int))],[some (Aa (oz p.1)),some (Cs (Dd (n+f+1) p.1))]))
  (C:=fun p=>Bi n M f p.1 p.2) (μ:=fun p=>n+1 - p.2) ([f],0) (Ua hf) (Ref.to (by simp [oz,Aa]) (by simp [sub,Ab])) ?_
 rintro ⟨O,i⟩ hO
 dsimp only at hO ⊢
 have hol:=Jv hO.bd
 have hoz:=H6 O
 have hle:=hO.le
 refine RN ?_
 refine ⟨fun hc2=>?_,fun hc2=>?_⟩
 ·have hiO:i<O.length:=by omega
  have hmem:=Et hiO
  have hxn:=hO.bd.lt _ hmem
  have hgok:=fun m hm=>Qa hM hO.bd hxn m (hm:m≤M.length)
  have hgp:=Qb M O (O.getD i 0)
  have hOs:=hO.step hM hiO
  refine RN ?_
  refine Ah (α:=Nat) (S:=fun m=>([(0,Ae M),(5,.sl 0 1 0 (bG M O (O.getD i 0) m).length),(7,.sl 1 1 0 (n+f+1)),(8,i64 (i:Int)),(9,i64 (m:Int))],[some (Aa (oz (bG M O (O.getD i 0) m))),some (Cs (Dd (n+f+1) (bG M O (O.getD i 0) m)))]))
   (C:=fun m=>m≤M.length) (μ:=fun m=>M.length - m) 0 (Nat.zero_le _) (Ref.to rfl (by simp [sub,Ab,bG])) ?_
  intro m hm
  obtain ⟨v1,v2⟩:=hgok m hm
  obtain ⟨L,hL⟩:=hgp m
  have hst:bG M O (O.getD i 0) (m+1)=C6 (bG M O (O.getD i 0) m) (mv M m (O.getD i 0)):=rfl
  by_cases hend:m=M.length
  ·subst hend
   refine RN ?_
   intro _
   refine RN ?_
   exact ⟨(bG M O (O.getD i 0) M.length,i+1),hOs,by dsimp only;omega,Ref.to1⟩
  obtain ⟨x,hx⟩:∃ x,x=O.getD i 0:=⟨_,rfl⟩
  rw [← hx] at hxn hst hL v1 v2 ⊢
  have hat:(bG M O x m).getD i 0=x:=by rw [hL,J6 hiO,hx]
  obtain ⟨V,hV⟩:∃ V,V=bG M O x m:=⟨_,rfl⟩
  obtain ⟨W,hW⟩:∃ W,W=bG M O x (m+1):=⟨_,rfl⟩
  rw [← hV] at v1 v2 hst hL hat ⊢
  rw [← hW] at hst
  have hvl:=Jv v1
  have hvz:=H6 V
  have hiV:i<V.length:=by rw [hL,List.length_append];omega
  have hoa:=Kg hiV
  rw [hat] at hoa
  have hrm:=hM.row m (by omega)
  have hvm:=hM.val m x (by omega) hxn
  have hlm:=hM.lt m x (by omega) hxn
  have hsl:=Pn (n+f+1) V
  have hsa:=Tf (m:=n+f+1) (V:=V) (x:=mv M m x) (by omega)
  have hss:=Jl (m:=n+f+1) (V:=V) (x:=mv M m x)
  obtain ⟨d,hd⟩:∃ d,d=mv M m x:=⟨_,rfl⟩
  rw [← hd] at hst hvm hlm hsa hss
  have hxi:((x:Nat):Int).toNat=x:=by omega
  have hdi:((d:Nat):Int).toNat=d:=by omega
  refine RN ?_
  refine ⟨fun _=>?_,fun h=>absurd h (by omega)⟩
  (repeat first | simp only [hoa,hvm,hxi,hdi,go_sem,↓reduceIte,Nat.reduceEqDiff,Nat.reduceAdd,reduceCtorEq] | refine RX ?_ | decide)
  refine ⟨fun hc4=>?_,fun hc4=>?_⟩
  ·have hdV:d∉V:=fun h=>by rw [hsa,decide_eq_true h] at hc4;cases hc4
   have hWV:W=V++[d]:=by rw [hst];unfold C6;rw [if_neg hdV]
   have hwl:W.length=V.length+1:=by rw [hWV];simp
   rw [hss]
   refine RN ?_
   refine ⟨m+1,by omega,by omega,?_⟩
   rw [← hW]
   have tk1:(Aa (oz V)).take V.length=Aa (oz V):=List.take_of_length_le (by rw [A2,hvz];exact Nat.le_refl _)
   refine Ref.gc [3,1] rfl ?_ (by simp [sub,Ab,hwl,go_sem,↓reduceIte,Nat.reduceEqDiff,Nat.reduceAdd,reduceCtorEq])
   simp only [go_sem,↓reduceIte,Nat.reduceEqDiff,Nat.reduceAdd,reduceCtorEq]
   rw [tk1,Cr,hWV]
   simp [Aa,oz]
  ·have hdV:d∈V:=Classical.byContradiction fun h=>by rw [hsa,decide_eq_false h] at hc4;cases hc4
   have hWV:W=V:=by rw [hst];unfold C6;rw [if_pos hdV]
   refine RN ?_
   refine ⟨m+1,by omega,by omega,?_⟩
   rw [← hW,hWV]
   exact Ref.to1
 ·have hdo:=hO.done (by omega)
  rw [← hdo]
  refine RN ?_
  exact Ref.gc1 [0]
theorem xD (O:List Nat)(n:Nat)(hnd:O.Nodup)(hlt:∀ d∈O,d<n)(hlen:O.length=n)(hn:n≤1048576):Pure Tryz.prog 73 [Ad (oz O)] (.sl 0 1 0 n) [some (Aa (Dn O n n))]:=by
 have hoz:=H6 O
 refine Bh Aem rfl ?_;unfold bB
 refine RN ?_
 rw [hoz,hlen]
 refine Ah (α:=Nat) (S:=fun k=>([(0,Ad (oz O)),(3,.sl 0 1 0 n),(4,i64 (k:Int))],[some (Aa (Dn O n k))])) (C:=fun k=>k≤n) (μ:=fun k=>n - k) 0 (Nat.zero_le _) (Ref.to (by rw [kB]) (by simp [sub,Ab])) ?_
 intro k hk
 have hnl:=O8 O n k
 refine RN ?_
 refine ⟨fun hc=>?_,fun hc=>?_⟩
 ·have hkO:k<O.length:=by omega
  have hoa:=Kg hkO
  have hl:=hlt _ (Et hkO)
  have hset:=kA hnd (n:=n) hkO
  have e1:((O.getD k 0:Nat):Int).toNat=O.getD k 0:=by omega
  (repeat first | simp only [hoa,e1,go_sem,↓reduceIte,Nat.reduceEqDiff,Nat.reduceAdd,reduceCtorEq] | refine RX ?_ | decide)
  refine ⟨k+1,by omega,by omega,?_⟩
  rw [← hset]
  exact Ref.to1
 ·obtain rfl:k=n:=by omega
  refine RN ?_
  exact Ref.to1
theorem xV (n : Nat) (M : List (List Int)) (hM : Jr n M) (h3 : M.length = 3) (O : List Nat) (hnd : O.Nodup) (hlt : ∀ d ∈ O, d < n) (hall : ∀ d, d < n → d ∈ O) (hlen : O.length = n) (hn : n ≤ 100000) :
    Pure Tryz.prog 38 [Ak M,Ad (Dn O n n)] (.agg [.sl 0 1 0 3]) [some ((Dw M O 3).map Ac)]:=by
 have hpl:=O8 O n n
 have hpa:∀ d,d<n→(Dn O n n).getD d 0=(A4 O d:Int):=fun d hd=>by
  have:=jZ (O:=O) hd (hall d hd)
  rwa [hlen] at this
 have hpb:∀ d,d<n→A4 O d<n:=fun d hd=>by have:=Jg (hall d hd);omega
 generalize Dn O n n=p at *
 refine Bh kZ rfl ?_;unfold Uq
 refine RN ?_
 refine Ah (α:=Nat) (S:=fun k=>([(1,Ad p),(2,.ref 0 0),(4,.ref 1 0),(5,.ref 2 0),(6,i64 (k:Int))],[some [Ae M],some [Ai],some [.sl 3 1 0 k],some ((Dw M O k).map Ac)])) (C:=fun k=>k≤3) (μ:=fun k=>3 - k) 0 (Nat.zero_le _) ((Ref.nilC 2 0 1 rfl rfl).trans (Ref.to (by simp [Dw]) (by simp [sub,Ab]))) ?_
 intro k hk
 have hkl:=Vc M O k
 have hks:=eC M O k
 rw [hlen] at hks
 refine RN ?_
 refine ⟨fun hc=>?_,fun hc=>?_⟩
 ·have hrk:=hM.row k (by omega)
  have hvk:=fun x hx=>hM.val k x (by omega) hx
  have hlk:=fun x hx=>hM.lt k x (by omega) hx
  refine RN ?_
  rw [hpl]
  refine Ah (α:=Nat) (S:=fun f=>([(1,Ad p),(2,.ref 0 0),(4,.ref 1 0),(5,.ref 2 0),(6,i64 (k:Int)),(7,.sl 4 1 0 n),(8,i64 (f:Int))],[some [Ae M],some [Ai],some [.sl 3 1 0 k],some ((Dw M O k).map Ac),some (Aa (Gv M O k f))])) (C:=fun f=>f≤n) (μ:=fun f=>n - f) 0 (Nat.zero_le _) (Ref.to (by rw [Aiv,hlen]) (by simp [sub,Ab])) ?_
  intro f hf
  have hrl:=Ait M O k f
  refine RN ?_
  refine ⟨fun hc2=>?_,fun hc2=>?_⟩
  ·have hfn:f<n:=by omega
   have hv:=hvk f hfn
   have hl:=hlk f hfn
   have q1:=hpa f hfn
   have q2:=hpa _ hl
   have b1:=hpb f hfn
   have hset:=Aiu (M:=M) hnd (k:=k) (hall f hfn)
   obtain ⟨d,hd⟩:∃ d,d=mv M k f:=⟨_,rfl⟩
   rw [← hd] at hv hl q2 hset
   obtain ⟨e,he⟩:∃ e,e=A4 O f:=⟨_,rfl⟩
   rw [← he] at q1 hset b1
   have e1:((d:Nat):Int).toNat=d:=by omega
   have e2:((e:Nat):Int).toNat=e:=by omega
   (repeat first | simp only [hv,q1,q2,e1,e2,go_sem,↓reduceIte,Nat.reduceEqDiff,Nat.reduceAdd,reduceCtorEq] | refine RX ?_ | decide)
   refine ⟨f+1,by omega,by omega,?_⟩
   rw [← hset]
   exact Ref.to1
  ·obtain rfl:f=n:=by omega
   rw [Ais hlt,hlen]
   have hfl:=Vd M O k f
   refine RN ?_
   refine ⟨k+1,by omega,by omega,?_⟩
   rw [hks]
   refine (Ref.row 6 4 (L:=Dw M O k) rfl hkl rfl hfl (by decide)).trans ?_
   exact Ref.gc1 [0,1,2,6]
 ·obtain rfl:k=3:=by omega
  refine RN ?_
  exact Ref.gc1 [3]
end
section
open Go.Gov Go.Ce
open Classical
theorem Vq (M:List (List Int))(h:IsMap M)(f:Nat)(hf:f<fl M):Pure Tryz.prog 16 [Ak M,i64 (f:Int)] (.agg [.sl 0 1 0 3]) [some ((Bx M f).map Ac)]:=by
 have hM:=O6 h
 have h3:=h.2
 have h4:=h.1.f4
 obtain ⟨hall,hlen⟩:=Ny h hf
 have hbd:=(Nz hM hf).bd
 have hor:=xJ (fl M) M hM (by omega) (by omega) (by omega) f hf
 have hfr:Bx M f=Dw M (Cg M (fl M) f) 3:=by unfold Bx;rw [h3]
 rw [hfr]
 generalize Cg M (fl M) f=O at *
 have hbk:=xD O (fl M) hbd.nd hbd.lt hlen (by omega)
 have hrn:=xV (fl M) M hM h3 O hbd.nd hbd.lt hall hlen (by omega)
 have hoz:=H6 O
 have hnl:=O8 O (fl M) (fl M)
 have hnum:Pure Tryz.prog 39 [Ak M,i64 (f:Int)] (.sl 0 1 0 (fl M)) [some (Aa (Dn O (fl M) (fl M)))]:=by
  rw [hlen] at hoz
  simp only [Ad,hoz] at hbk
  rw [hlen] at hor
  generalize oz O=Z at *
  refine Bh Adv rfl ?_;unfold aB
  refine RN ?_
  refine Ag (hor) ?_
  refine RN ?_
  refine A9 hbk (by simp only [go_sem,↓reduceIte,Nat.reduceEqDiff,Nat.reduceAdd,reduceCtorEq,Hu _ _ Z (fl M) hoz]) (by first | rfl | simp only [go_sem,↓reduceIte,Nat.reduceEqDiff,Nat.reduceAdd,reduceCtorEq]) ?_
  refine RN ?_
  exact Ref.gc1 [2]
 generalize Dn O (fl M) (fl M)=p at *
 generalize fl M=n at *
 simp only [Ad,hnl] at hrn
 refine Bh Ac0 rfl ?_;unfold Zk
 refine RN ?_
 refine Ag (hnum) ?_
 refine RN ?_
 refine A9 hrn (by simp only [go_sem,↓reduceIte,Nat.reduceEqDiff,Nat.reduceAdd,reduceCtorEq,Hu _ _ p n hnl]) (by first | rfl | simp only [go_sem,↓reduceIte,Nat.reduceEqDiff,Nat.reduceAdd,reduceCtorEq]) ?_
 refine RN ?_
 exact Ref.gc1 [3]
theorem Ajf (A B:List (List Int))(hl:A.length=B.length)(hA:A.length≤1048576)(ha:∀ k,k<A.length→(A.getD k []).length≤1048576)(hb:∀ k,k<B.length→(B.getD k []).length≤1048576):Pure Tryz.prog 55 [Ae A,Ae B] (bl (decide (A=B))) []:=by
 have key:∀ i,i≤A.length→(∀ j,j<i→A.getD j []=B.getD j [])→i=A.length→A=B:=fun i hi h e=>by
  refine List.ext_getElem hl fun j h1 h2=>?_
  have:=h j (by omega)
  rwa [List.getD_eq_getElem?_getD,List.getD_eq_getElem?_getD,List.getElem?_eq_getElem h1,List.getElem?_eq_getElem h2] at this
 refine Ao Aea rfl rfl ?_;unfold aO
 refine RN ?_
 intro _
 refine RN ?_
 refine Ah (α:=Nat) (S:=fun i=>([(0,Ae A),(1,Ae B),(5,i64 (i:Int))],[])) (C:=fun i=>i≤A.length∧∀ j,j<i→A.getD j []=B.getD j []) (μ:=fun i=>A.length - i) 0 ⟨Nat.zero_le _,fun j hj=>by omega⟩ (Ref.to1) ?_
 rintro i ⟨hi,hr⟩
 refine RN ?_
 refine ⟨fun hc=>?_,fun hc=>?_⟩
 ·have heq:=W3 (A.getD i []) (B.getD i []) (by have:=ha i (by omega);omega) (by have:=hb i (by omega);omega)
  have hne:A.getD i []≠B.getD i []→A≠B:=fun h e=>h (by rw [e])
  have hnx:A.getD i []=B.getD i []→∀ j,j<i+1→A.getD j []=B.getD j []:=fun h j hj=>by
   by_cases e:j=i
   ·subst e;exact h
   ·exact hr j (by omega)
  refine RN ?_
  refine Ag (heq) ?_
  refine RN ?_
  refine ⟨fun hc3=>?_,fun hc3=>?_⟩
  ·rw [decide_eq_false (hne hc3)]
   (refine RN ?_;try with_reducible exact trivial)
  ·(refine RN ?_;try with_reducible exact trivial)
   exact ⟨i+1,⟨by omega,hnx hc3⟩,by omega,Ref.to1⟩
 ·rw [decide_eq_true (key i hi hr (by omega))]
  (refine RN ?_;try with_reducible exact trivial)
theorem zW {A B:List (List Int)}{i:Nat}(h1:i<A.length)(h2:i<B.length):Cf (A.drop i) (B.drop i)=if A.getD i []=B.getD i [] then Cf (A.drop (i+1)) (B.drop (i+1)) else B6 (A.getD i []) (B.getD i []):=by
 rw [List.drop_eq_getElem_cons h1,List.drop_eq_getElem_cons h2,Cf,List.getD_eq_getElem?_getD,List.getD_eq_getElem?_getD,List.getElem?_eq_getElem h1,List.getElem?_eq_getElem h2]
 rfl
theorem zU (A B:List (List Int))(hl:A.length=B.length)(hA:A.length≤1048576)(ha:∀ k,k<A.length→(A.getD k []).length≤1048576)(hb:∀ k,k<B.length→(B.getD k []).length≤1048576):Pure Tryz.prog 52 [Ae A,Ae B] (bl (Cf A B)) []:=by
 refine Ao Ad8 rfl rfl ?_;unfold aM
 refine RN ?_
 refine Ah (α:=Nat) (S:=fun i=>([(0,Ae A),(1,Ae B),(5,i64 (i:Int))],[])) (C:=fun i=>i≤A.length∧Cf (A.drop i) (B.drop i)=Cf A B) (μ:=fun i=>A.length - i) 0 ⟨Nat.zero_le _,rfl⟩ (Ref.to1) ?_
 rintro i ⟨hi,hr⟩
 refine RN ?_
 refine ⟨fun hc=>?_,fun hc=>?_⟩
 ·have heq:=W3 (A.getD i []) (B.getD i []) (by have:=ha i (by omega);omega) (by have:=hb i (by omega);omega)
  have hle:=zV (A.getD i []) (B.getD i []) (by have:=ha i (by omega);omega) (by have:=hb i (by omega);omega)
  rw [zW (by omega) (by omega)] at hr
  refine RN ?_
  refine Ag (heq) ?_
  refine RN ?_
  refine ⟨fun hc3=>?_,fun hc3=>?_⟩
  ·rw [if_neg hc3] at hr
   refine RN ?_
   refine Ag (hle) ?_
   refine RN ?_
   rw [hr]
  ·rw [if_pos hc3] at hr
   refine RN ?_
   exact ⟨i+1,⟨by omega,hr⟩,by omega,Ref.to1⟩
 ·obtain rfl:i=A.length:=by omega
  have h0:Cf A B=false:=by
   rw [← hr,List.drop_length,List.drop_of_length_le (by omega)]
   rfl
  rw [h0]
  refine RN ?_
  rw [decide_eq_false (show ¬ ((A.length:Int)<B.length) by omega)]
theorem xW (A B:List (List Int))(hl:A.length=B.length)(hA:A.length≤1048576)(ha:∀ k,k<A.length→(A.getD k []).length≤1048576)(hb:∀ k,k<B.length→(B.getD k []).length≤1048576):Pure Tryz.prog 28 [Ak A,Ak B] (bl (decide (A=B))) []:=by
 have h:=Ajf A B hl hA ha hb
 refine Ao Adp rfl rfl ?_;unfold Z5
 refine RN ?_
 refine Ag (h) ?_
 (refine RN ?_;try with_reducible exact trivial)
theorem gM (M:List (List Int))(h:IsMap M):Pure Tryz.prog 22 [Ak M] (.agg [.sl 0 1 0 3]) [some ((Ct M).map Ac)]:=by
 have h3:=h.2
 have h4:=h.1.f4
 have h2:=h.1.f2
 have hf0:=Vq M h 0 (by omega)
 have hfl:=Hw M (by omega) (by omega) (by unfold fl at h4;omega)
 have hfe:(M.getD 0 []).length=fl M:=rfl
 rw [hfe] at hfl
 rw [show Bx M 0=C4 M 1 from (iR M).symm] at hf0
 refine Bh Adj rfl ?_;unfold Zz
 refine RN ?_
 refine Ag (hf0) ?_
 refine RN ?_
 refine Ah (α:=Nat) (S:=fun k=>([(1,.ref 0 0),(2,.ref 1 0),(3,.ref 2 0),(4,i64 (k:Int))],[some [Ae M],some [Ai],some [.sl 3 1 0 3],some ((C4 M k).map Ac)])) (C:=fun k=>1≤k∧k≤fl M) (μ:=fun k=>fl M - k) 1 ⟨Nat.le_refl _,by omega⟩ (Ref.gc2 [0,1,3,2]) ?_
 rintro k ⟨hk1,hk⟩
 have hlk:=Mi h k hk
 have hst:C4 M (k+1)=if Cf (Bx M k) (C4 M k)=true then Bx M k else C4 M k:=rfl
 obtain ⟨Lk,hLk⟩:∃ Lk,Lk=C4 M k:=⟨_,rfl⟩
 rw [← hLk] at hlk hst ⊢
 refine RN ?_
 refine Ag (hfl) ?_
 refine RN ?_
 refine ⟨fun hc=>?_,fun hc=>?_⟩
 ·have hfk:=Vq M h k (by omega)
  have hfo:=Ky h (f:=k) (by omega)
  generalize Bx M k=Fk at *
  have hcm:=zU Fk Lk (by omega) (by omega) (fun j hj=>by have:=hfo.2 j (by omega);omega) (fun j hj=>by have:=hlk.2 j (by omega);omega)
  have hF3:=hfo.1
  have hL3:=hlk.1
  generalize Cf Fk Lk=c at *
  refine RN ?_
  refine Ag (hfk) ?_
  refine RN ?_
  refine A9 hcm (by simp only [go_sem,↓reduceIte,Nat.reduceEqDiff,Nat.reduceAdd,reduceCtorEq,Bl _ _ Fk 3 hF3,Bl _ _ Lk 3 hL3];first | done | (simp only [Ak,Ae,hF3,hL3];done) | (simp only [Ak,Ae,hF3,hL3];rfl)) (by first | rfl | simp only [go_sem,↓reduceIte,Nat.reduceEqDiff,Nat.reduceAdd,reduceCtorEq]) ?_
  refine RN ?_
  refine ⟨fun hc3=>?_,fun hc3=>?_⟩
  ·rw [if_pos hc3] at hst
   refine RN ?_
   refine ⟨k+1,⟨by omega,by omega⟩,by omega,?_⟩
   rw [hst]
   exact Ref.gc2 [0,1,2,4]
  ·rw [if_neg (by rw [hc3];decide)] at hst
   refine RN ?_
   refine ⟨k+1,⟨by omega,by omega⟩,by omega,?_⟩
   rw [hst]
   exact Ref.gc2 [0,1,2,3]
 ·obtain rfl:k=fl M:=by omega
  rw [hLk]
  refine RN ?_
  exact Ref.gc2 [3]
end
end Go.Proofs.YtnompobcofhkpaaGreatDoor
