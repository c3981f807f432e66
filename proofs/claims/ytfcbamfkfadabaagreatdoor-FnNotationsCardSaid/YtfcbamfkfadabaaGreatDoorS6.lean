/- Texts that belong together. -/
import Derived.Test.YtfcbamfkfadabaaGreatDoorZq
import Derived.Test.YtfcbamfkfadabaaGreatDoorR5
import Derived.Test.YtfcbamfkfadabaaGreatDoorR9
set_option maxHeartbeats 16000000
set_option linter.unusedSimpArgs false
set_option linter.unusedVariables false
set_option maxRecDepth 100000
namespace Go.Proofs.YtfcbamfkfadabaaGreatDoor
section
open Go.Gov Go.Ce
open Classical
noncomputable def bG (M:List (List Int))(O:List Nat)(x:Nat):Nat→List Nat
 | 0=>O
 | k+1=>psN (bG M O x k) (mv M k x)
noncomputable def bF (M:List (List Int)):Nat→List Nat→Nat→List Nat
 | 0,O,_=>O
 | k+1,O,i=>if i<O.length then bF M k (bG M O (O.getD i 0) M.length) (i+1) else O
noncomputable def bfs (M:List (List Int))(n f:Nat):List Nat:=bF M (n+1) [f] 0
theorem bG_pre (M:List (List Int))(O:List Nat)(x:Nat):∀ k:Nat,∃ L,bG M O x k=O++L
 | 0=>⟨[],by simp [bG]⟩
 | k+1=>by
  obtain ⟨L,h⟩:=bG_pre M O x k
  obtain ⟨L2,h2⟩:=psN_pre (bG M O x k) (mv M k x)
  exact ⟨L++L2,by rw [bG,h2,h,List.append_assoc]⟩
structure Mvr (n:Nat) (M:List (List Int)):Prop where
 row:∀ k,k<M.length→(M.getD k []).length=n
 val:∀ k x,k<M.length→x<n→(M.getD k []).getD x 0=(mv M k x:Nat)
 lt:∀ k x,k<M.length→x<n→mv M k x<n
structure Bd (n:Nat) (O:List Nat):Prop where
 nd:O.Nodup
 lt:∀ d∈O,d<n
theorem Bd.psh {n:Nat}{O:List Nat}(h:Bd n O){d:Nat}(hd:d<n):Bd n (psN O d):=by
 unfold psN
 split
 ·exact h
 ·rename_i hn
  refine ⟨List.nodup_append.2 ⟨h.nd,by simp,fun a ha b hb e=>by obtain rfl:=List.mem_singleton.1 hb;exact hn (e ▸ ha)⟩,fun e he=>?_⟩
  rcases List.mem_append.1 he with he | he
  ·exact h.lt e he
  ·rw [List.mem_singleton.1 he];exact hd
theorem bd_len {n:Nat}{O:List Nat}(h:Bd n O):O.length≤n:=nodup_len h.nd h.lt
theorem bG_ok {n:Nat}{M:List (List Int)}(hM:Mvr n M){O:List Nat}(ho:Bd n O){x:Nat}(hx:x<n):∀ k:Nat,k≤M.length→Bd n (bG M O x k)∧∀ j,j<k→mv M j x∈bG M O x k
 | 0,_=>⟨ho,fun j hj=>by omega⟩
 | k+1,hk=>by
  obtain ⟨h1,h2⟩:=bG_ok hM ho hx k (by omega)
  refine ⟨h1.psh (hM.lt k x (by omega) hx),fun j hj=>?_⟩
  rw [bG]
  by_cases e:j=k
  ·subst e;exact psN_mem _ _
  ·obtain ⟨L,hL⟩:=psN_pre (bG M O x k) (mv M k x)
   rw [hL]
   exact List.mem_append.2 (.inl (h2 j (by omega)))
structure Bi (n:Nat) (M:List (List Int)) (f:Nat) (O:List Nat) (i:Nat):Prop where
 bd:Bd n O
 zero:f∈O
 le:i≤O.length
 cl:∀ j,j<i→∀ k,k<M.length→mv M k (O.getD j 0)∈O
 res:bF M (n+1 - i) O i=bfs M n f
theorem bi_start {n f:Nat}{M:List (List Int)}(hf:f<n):Bi n M f [f] 0:=
 ⟨⟨by simp,fun d hd=>by obtain rfl:=List.mem_singleton.1 hd;exact hf⟩,by simp,Nat.zero_le _,fun j hj=>by omega,rfl⟩
theorem Bi.step {n f:Nat}{M:List (List Int)}(hM:Mvr n M){O:List Nat}{i:Nat}(ho:Bi n M f O i)(hi:i<O.length):Bi n M f (bG M O (O.getD i 0) M.length) (i+1):=by
 have hmem:=getD_memN hi
 obtain ⟨h1,h2⟩:=bG_ok hM ho.bd (ho.bd.lt _ hmem) M.length (Nat.le_refl _)
 obtain ⟨L,hL⟩:=bG_pre M O (O.getD i 0) M.length
 have hol:=bd_len ho.bd
 refine ⟨h1,by rw [hL];exact List.mem_append.2 (.inl ho.zero),by rw [hL,List.length_append];omega,fun j hj k hk=>?_,?_⟩
 ·rw [hL,getD_pre (by omega),← hL]
  by_cases e:j=i
  ·subst e;exact h2 k hk
  ·rw [hL]
   exact List.mem_append.2 (.inl (ho.cl j (by omega) k hk))
 ·rw [← ho.res,show n+1 - i=(n+1 - (i+1))+1 by omega,bF,if_pos hi]
theorem Bi.done {n f:Nat}{M:List (List Int)}{O:List Nat}{i:Nat}(ho:Bi n M f O i)(hi:¬ i<O.length):O=bfs M n f:=by
 have hol:=bd_len ho.bd
 have:=ho.le
 rw [← ho.res,show n+1 - i=(n - i)+1 by omega,bF,if_neg hi]
theorem bi_end {n f:Nat}{M:List (List Int)}(hM:Mvr n M):∀ (k:Nat) {O:List Nat} {i:Nat},n≤i+k→Bi n M f O i→Bi n M f (bfs M n f) (bfs M n f).length
 | 0,O,i,hk,ho=>by
  have hol:=bd_len ho.bd
  have:=ho.le
  have e:=ho.done (by omega)
  rw [← e,show O.length=i by omega]
  exact ho
 | k+1,O,i,hk,ho=>by
  by_cases hi:i<O.length
  ·exact bi_end hM k (by omega) (ho.step hM hi)
  ·have:=ho.le
   have e:=ho.done hi
   rw [← e,show O.length=i by omega]
   exact ho
theorem bfs_ok {n f:Nat}{M:List (List Int)}(hM:Mvr n M)(hf:f<n):Bi n M f (bfs M n f) (bfs M n f).length:=bi_end hM n (by omega) (bi_start hf)
theorem mvr_of {M:List (List Int)}(h:IsMap M):Mvr (fl M) M:=by
 have hI:=h.mvi
 have h3:=h.2
 exact ⟨fun k hk=>hI.row k (by omega),fun k x hk hx=>hI.val k x (by omega) hx,fun k x hk hx=>hI.lt k x (by omega) hx⟩
theorem bfs_all {M:List (List Int)}(h:IsMap M){f:Nat}(hf:f<fl M):(∀ x,x<fl M→x∈bfs M (fl M) f)∧(bfs M (fl M) f).length=fl M:=by
 have hB:=bfs_ok (mvr_of h) hf
 have hcl:∀ x∈bfs M (fl M) f,∀ k,k<M.length→mv M k x∈bfs M (fl M) f:=fun x hx k hk=>by
  obtain ⟨j,hj,rfl⟩:=List.mem_iff_getElem.1 hx
  have:=hB.cl j hj k hk
  rwa [List.getD_eq_getElem?_getD,List.getElem?_eq_getElem hj,Option.getD_some] at this
 have hrch:∀ {x y:Nat},Rch M x y→x∈bfs M (fl M) f→y∈bfs M (fl M) f:=fun {x y} hr hx=>by
  induction hr with
  | refl=>exact hx
  | step _ hp ih=>
   obtain ⟨k,hk,rfl⟩:=List.mem_iff_getElem.1 hp
   have:=hcl _ ih k hk
   unfold mv at this
   rwa [List.getD_eq_getElem?_getD (l:=M),List.getElem?_eq_getElem hk,Option.getD_some] at this
 have hall:∀ x,x<fl M→x∈bfs M (fl M) f:=fun x hx=>
  hrch (((h.1.con f hf).symm h.1.mv (by have:=h.1.f2;omega)).trans (h.1.con x hx)) hB.zero
 refine ⟨hall,Nat.le_antisymm (bd_len hB.bd) ?_⟩
 have:=nodup_len (V:=List.range (fl M)) (n:=(bfs M (fl M) f).length) List.nodup_range
 refine Classical.byContradiction fun hn=>?_
 have hlt:(bfs M (fl M) f).length<fl M:=by omega
 have key:∀ (m:Nat) (V:List Nat),(∀ x,x<m→x∈V)→m≤V.length:=by
  intro m
  induction m with
  | zero=>intro V _;omega
  | succ m ih=>
   intro V hV
   have h1:=ih (V.erase m) fun x hx=>(List.mem_erase_of_ne (by omega)).2 (hV x (by omega))
   have h2:=List.length_erase_of_mem (hV m (by omega))
   have h3:0<V.length:=List.length_pos_of_mem (hV m (by omega))
   omega
 have:=key (fl M) _ hall
 omega
noncomputable def fmR (M:List (List Int))(O:List Nat)(k j:Nat):List Int:=(List.range j).map fun j=>(plc O (mv M k (O.getD j 0)):Int)
noncomputable def fmK (M:List (List Int))(O:List Nat)(k:Nat):List (List Int):=(List.range k).map fun k=>fmR M O k O.length
noncomputable def frm (M:List (List Int))(f:Nat):List (List Int):=fmK M (bfs M (fl M) f) M.length
theorem fmR_len (M:List (List Int))(O:List Nat)(k j:Nat):(fmR M O k j).length=j:=by simp [fmR]
theorem fmR_succ (M:List (List Int))(O:List Nat)(k j:Nat):fmR M O k (j+1)=fmR M O k j++[(plc O (mv M k (O.getD j 0)):Int)]:=by simp [fmR,List.range_succ]
theorem fmK_len (M:List (List Int))(O:List Nat)(k:Nat):(fmK M O k).length=k:=by simp [fmK]
theorem fmK_succ (M:List (List Int))(O:List Nat)(k:Nat):fmK M O (k+1)=fmK M O k++[fmR M O k O.length]:=by simp [fmK,List.range_succ]
theorem frm_ok {M:List (List Int)}(h:IsMap M){f:Nat}(hf:f<fl M):(frm M f).length=3∧∀ k,k<3→((frm M f).getD k []).length=fl M:=by
 have h3:=h.2
 have hl:=(bfs_all h hf).2
 refine ⟨by unfold frm;rw [fmK_len,h3],fun k hk=>?_⟩
 unfold frm fmK
 rw [List.getD_eq_getElem?_getD,List.getElem?_map,List.getElem?_range (by omega)]
 simp [fmR_len,hl]
def lexM:List (List Int)→List (List Int)→Bool
 | [],[]=>false
 | [],_ :: _=>true
 | _ :: _,[]=>false
 | a :: A,b :: B=>if a=b then lexM A B else lexL a b
theorem lexM_self:∀ A:List (List Int),lexM A A=false
 | []=>rfl
 | a :: A=>by unfold lexM;rw [if_pos rfl];exact lexM_self A
noncomputable def lfK (M:List (List Int)):Nat→List (List Int)
 | 0=>frm M 0
 | k+1=>if lexM (frm M k) (lfK M k)=true then frm M k else lfK M k
noncomputable def lsF (M:List (List Int)):List (List Int):=lfK M (fl M)
theorem lfK_one (M:List (List Int)):lfK M 1=frm M 0:=by
 unfold lfK
 split<;>rfl
theorem lfK_ok {M:List (List Int)}(h:IsMap M):∀ k:Nat,k≤fl M→(lfK M k).length=3∧∀ j,j<3→((lfK M k).getD j []).length=fl M
 | 0,_=>frm_ok h (by have:=h.1.f2;omega)
 | k+1,hk=>by
  unfold lfK
  split
  ·exact frm_ok h (by omega)
  ·exact lfK_ok h k (by omega)
theorem plc_get {O:List Nat}{d:Nat}(h:d∈O):O.getD (plc O d) 0=d:=by
 have hl:=plc_lt h
 unfold plc at *
 rw [List.getD_eq_getElem?_getD,List.getElem?_eq_getElem hl,Option.getD_some]
 exact List.getElem_idxOf hl
theorem get_inj {O:List Nat}(h:O.Nodup){i j:Nat}(hi:i<O.length)(hj:j<O.length)(e:O.getD i 0=O.getD j 0):i=j:=by
 rw [List.getD_eq_getElem?_getD,List.getD_eq_getElem?_getD,List.getElem?_eq_getElem hi,List.getElem?_eq_getElem hj,Option.getD_some,Option.getD_some] at e
 exact (List.getElem_inj h).1 e
theorem plc_at {O:List Nat}(h:O.Nodup){i:Nat}(hi:i<O.length):plc O (O.getD i 0)=i:=by
 have hm:=getD_memN hi
 exact get_inj h (plc_lt hm) hi (plc_get hm)
noncomputable def nuV (O:List Nat)(n k:Nat):List Int:=(List.range n).map fun d=>if d∈O∧plc O d<k then (plc O d:Int) else 0
theorem nuV_len (O:List Nat)(n k:Nat):(nuV O n k).length=n:=by simp [nuV]
theorem nuV_zero (O:List Nat)(n:Nat):nuV O n 0=List.replicate n 0:=by
 refine List.ext_getElem (by simp [nuV]) fun j h1 h2=>?_
 simp [nuV]
theorem nuV_set {O:List Nat}(h:O.Nodup){n k:Nat}(hk:k<O.length):(nuV O n k).set (O.getD k 0) (k:Int)=nuV O n (k+1):=by
 refine List.ext_getElem (by simp [nuV]) fun j h1 h2=>?_
 rw [List.getElem_set]
 simp only [nuV,List.getElem_map,List.getElem_range]
 have hp:=plc_at h hk
 by_cases e:O.getD k 0=j
 ·rw [if_pos e,← e,if_pos ⟨getD_memN hk,by omega⟩,hp]
 ·rw [if_neg e]
  by_cases hj:j∈O
  ·have hne:plc O j≠k:=fun h2=>e (by rw [← h2];exact plc_get hj)
   by_cases hl:plc O j<k
   ·rw [if_pos ⟨hj,hl⟩,if_pos ⟨hj,by omega⟩]
   ·rw [if_neg (fun h=>hl h.2),if_neg (fun h=>by have:=h.2;omega)]
  ·rw [if_neg (fun h=>hj h.1),if_neg (fun h=>hj h.1)]
theorem nuV_at {O:List Nat}{n d:Nat}(hd:d<n)(hm:d∈O):(nuV O n O.length).getD d 0=(plc O d:Int):=by
 simp [nuV,hd,hm,plc_lt hm]
def cmM:List (List Int)→List (List Int)→Int
 | [],[]=>0
 | [],_ :: _ => -1
 | _ :: _,[]=>1
 | a :: A,b :: B=>if cmpL a b=0 then cmM A B else cmpL a b
theorem cmpL_zero (a b:List Int):cmpL a b=0 ↔ a=b:=by
 constructor
 ·intro h
  unfold cmpL at h
  split at h
  ·omega
  ·rename_i h1
   split at h
   ·omega
   ·rename_i h2
    exact lexL_tri (by simpa using h1) (by simpa using h2)
 ·rintro rfl
  unfold cmpL
  rw [lexL_irr]
  rfl
theorem cmM_lt:∀ A B:List (List Int),cmM A B<0 ↔ lexM A B=true
 | [],[]=>by simp [cmM,lexM]
 | [],_ :: _=>by simp [cmM,lexM]
 | _ :: _,[]=>by simp [cmM,lexM]
 | a :: A,b :: B=>by
  unfold cmM lexM
  by_cases e:a=b
  ·rw [if_pos ((cmpL_zero a b).2 e),if_pos e]
   exact cmM_lt A B
  ·rw [if_neg (fun h=>e ((cmpL_zero a b).1 h)),if_neg e]
   exact cmpL_lt a b
end
section
open Go.Gov Go.Ce
open Classical
theorem numberedFrom_p (n:Nat)(M:List (List Int))(hM:Mvr n M)(h1:1≤M.length)(hl:M.length≤1024)(hn:n≤1048576)(f:Nat)(hf:f<n):Pure Tryz.prog 151 [mat M,i64 (f:Int)] (.sl 0 1 0 (bfs M n f).length) [some (intsC (oz (bfs M n f)))]:=by
 have hr0:=hM.row 0 (by omega)
 refine pureRV ok151 rfl ?_;unfold c151
 refine RN ?_
 rw [hr0]
 rw [seenV_nil,seenV_set]
 simp only [List.nil_append]
 refine V_loop (α:=List Nat×Nat) (S:=fun p=>([(0,mat M),(5,.sl 0 1 0 n),(6,.sl 1 1 0 p.1.length),(7,i64 (p.2:Int))],[some (boolsC (seenV n p.1)),some (intsC (oz p.1))]))
  (C:=fun p=>Bi n M f p.1 p.2) (μ:=fun p=>n+1 - p.2) ([f],0) (bi_start hf) (Ref.to (by simp [oz,intsC]) (by simp [sub,fget])) ?_
 rintro ⟨O,i⟩ hO
 dsimp only at hO ⊢
 have hol:=bd_len hO.bd
 have hoz:=oz_len O
 have hle:=hO.le
 refine RN ?_
 refine ⟨fun hc2=>?_,fun hc2=>?_⟩
 ·have hiO:i<O.length:=by omega
  have hmem:=getD_memN hiO
  have hxn:=hO.bd.lt _ hmem
  have hgok:=fun m hm=>bG_ok hM hO.bd hxn m (hm:m≤M.length)
  have hgp:=bG_pre M O (O.getD i 0)
  have hOs:=hO.step hM hiO
  refine RN ?_
  refine V_loop (α:=Nat) (S:=fun m=>([(0,mat M),(5,.sl 0 1 0 n),(6,.sl 1 1 0 (bG M O (O.getD i 0) m).length),(7,i64 (i:Int)),(27,mat M),(28,i64 (M.length:Int)),(29,i64 (m:Int))],[some (boolsC (seenV n (bG M O (O.getD i 0) m))),some (intsC (oz (bG M O (O.getD i 0) m)))]))
   (C:=fun m=>m≤M.length) (μ:=fun m=>M.length - m) 0 (Nat.zero_le _) (Ref.to rfl (by simp [sub,fget,bG])) ?_
  intro m hm
  obtain ⟨v1,v2⟩:=hgok m hm
  obtain ⟨L,hL⟩:=hgp m
  have hst:bG M O (O.getD i 0) (m+1)=psN (bG M O (O.getD i 0) m) (mv M m (O.getD i 0)):=rfl
  by_cases hend:m=M.length
  ·subst hend
   refine RN ?_
   intro _
   refine RN ?_
   exact ⟨(bG M O (O.getD i 0) M.length,i+1),hOs,by dsimp only;omega,Ref.to1⟩
  obtain ⟨x,hx⟩:∃ x,x=O.getD i 0:=⟨_,rfl⟩
  rw [← hx] at hxn hst hL v1 v2 ⊢
  have hat:(bG M O x m).getD i 0=x:=by rw [hL,getD_pre hiO,hx]
  obtain ⟨V,hV⟩:∃ V,V=bG M O x m:=⟨_,rfl⟩
  obtain ⟨W,hW⟩:∃ W,W=bG M O x (m+1):=⟨_,rfl⟩
  rw [← hV] at v1 v2 hst hL hat ⊢
  rw [← hW] at hst
  have hvl:=bd_len v1
  have hvz:=oz_len V
  have hiV:i<V.length:=by rw [hL,List.length_append];omega
  have hoa:=oz_at hiV
  rw [hat] at hoa
  have hrm:=hM.row m (by omega)
  have hvm:=hM.val m x (by omega) hxn
  have hlm:=hM.lt m x (by omega) hxn
  have hsl:=seenV_len n V
  have hsa:=seenV_at (m:=n) (V:=V) (x:=mv M m x) hlm
  have hss:=seenV_set (m:=n) (V:=V) (x:=mv M m x)
  obtain ⟨d,hd⟩:∃ d,d=mv M m x:=⟨_,rfl⟩
  rw [← hd] at hst hvm hlm hsa hss
  have hxi:((x:Nat):Int).toNat=x:=by omega
  have hdi:((d:Nat):Int).toNat=d:=by omega
  refine RN ?_
  refine ⟨fun _=>?_,fun h=>absurd h (by omega)⟩
  (repeat first | simp only [hoa,hvm,hxi,hdi,go_sem,↓reduceIte,Nat.reduceEqDiff,Nat.reduceAdd,reduceCtorEq] | refine RX ?_ | decide)
  refine ⟨fun hc4=>?_,fun hc4=>?_⟩
  ·have hdV:d∉V:=fun h=>by rw [hsa,decide_eq_true h] at hc4;cases hc4
   have hWV:W=V++[d]:=by rw [hst];unfold psN;rw [if_neg hdV]
   have hwl:W.length=V.length+1:=by rw [hWV];simp
   rw [hss]
   refine RN ?_
   refine ⟨m+1,by omega,by omega,?_⟩
   rw [← hW]
   have tk1:(intsC (oz V)).take V.length=intsC (oz V):=List.take_of_length_le (by rw [len_intsC,hvz];exact Nat.le_refl _)
   refine Ref.gc [0,3] rfl ?_ (by simp [sub,fget,hwl,go_sem,↓reduceIte,Nat.reduceEqDiff,Nat.reduceAdd,reduceCtorEq])
   simp only [go_sem,↓reduceIte,Nat.reduceEqDiff,Nat.reduceAdd,reduceCtorEq]
   rw [tk1,rnmL_ints,hWV]
   simp [intsC,oz]
  ·have hdV:d∈V:=Classical.byContradiction fun h=>by rw [hsa,decide_eq_false h] at hc4;cases hc4
   have hWV:W=V:=by rw [hst];unfold psN;rw [if_pos hdV]
   refine RN ?_
   refine ⟨m+1,by omega,by omega,?_⟩
   rw [← hW,hWV]
   exact Ref.to1
 ·have hdo:=hO.done (by omega)
  rw [← hdo]
  refine RN ?_
  exact Ref.gc1 [1]
theorem formFrom_p (M:List (List Int))(h:IsMap M)(f:Nat)(hf:f<fl M):Pure Tryz.prog 94 [mat M,i64 (f:Int)] (.agg [.sl 0 1 0 3]) [some ((frm M f).map oints)]:=by
 have hM:=mvr_of h
 have h3:=h.2
 have h4:=h.1.f4
 have hnf:=numberedFrom_p (fl M) M hM (by omega) (by omega) (by omega) f hf
 obtain ⟨hall,hlen⟩:=bfs_all h hf
 have hbd:=(bfs_ok hM hf).bd
 have hr0:=hM.row 0 (by omega)
 have hfr:frm M f=fmK M (bfs M (fl M) f) 3:=by unfold frm;rw [h3]
 rw [hfr]
 generalize bfs M (fl M) f=O at *
 generalize fl M=n at *
 have hoz:=oz_len O
 refine pureRV ok94 rfl ?_;unfold c94
 refine RN ?_
 refine pureC1 (hnf) ?_
 refine RN ?_
 rw [hr0]
 refine V_loop (α:=Nat) (S:=fun k=>([(0,mat M),(4,.ref 0 0),(5,.sl 1 1 0 n),(6,.sl 2 1 0 n),(23,.sl 1 1 0 n),(24,i64 (n:Int)),(25,i64 (k:Int))],[some [nilS],some (intsC (oz O)),some (intsC (nuV O n k))]))
  (C:=fun k=>k≤n) (μ:=fun k=>n - k) 0 (Nat.zero_le _) (Ref.to (by rw [nuV_zero]) (by simp [sub,fget,hlen])) ?_
 intro k hk
 have hnl:=nuV_len O n k
 refine RN ?_
 refine ⟨fun hc=>?_,fun hc=>?_⟩
 ·have hkO:k<O.length:=by omega
  have hoa:=oz_at hkO
  have hlt:=hbd.lt _ (getD_memN hkO)
  have hset:=nuV_set hbd.nd (n:=n) hkO
  have e1:((O.getD k 0:Nat):Int).toNat=O.getD k 0:=by omega
  (repeat first | simp only [hoa,e1,go_sem,↓reduceIte,Nat.reduceEqDiff,Nat.reduceAdd,reduceCtorEq] | refine RX ?_ | decide)
  refine ⟨k+1,by omega,by omega,?_⟩
  rw [← hset]
  exact Ref.to1
 ·obtain rfl:k=n:=by omega
  refine RN ?_
  refine V_loop (α:=Nat) (S:=fun m=>([(0,mat M),(4,.ref 0 0),(5,.sl 1 1 0 k),(6,.sl 2 1 0 k),(9,.ref 3 0),(35,mat M),(36,i64 3),(37,i64 (m:Int))],[some [nilS],some (intsC (oz O)),some (intsC (nuV O k k)),some [.sl 4 1 0 m],some ((fmK M O m).map oints)]))
   (C:=fun m=>m≤3) (μ:=fun m=>3 - m) 0 (Nat.zero_le _) ((Ref.nilC 3 0 1 rfl rfl).trans (Ref.to (by simp [fmK]) (by simp [sub,fget,h3]))) ?_
  intro m hm
  have hkl:=fmK_len M O m
  refine RN ?_
  refine ⟨fun hc=>?_,fun hc=>?_⟩
  ·have hrm:=hM.row m (by omega)
   have hvm:=fun x hx=>hM.val m x (by omega) hx
   have hlm:=fun x hx=>hM.lt m x (by omega) hx
   have hks:=fmK_succ M O m
   rw [hlen] at hks
   refine RN ?_
   refine V_loop (α:=Nat) (S:=fun j=>([(0,mat M),(4,.ref 0 0),(5,.sl 1 1 0 k),(6,.sl 2 1 0 k),(9,.ref 3 0),(35,mat M),(36,i64 3),(37,i64 (m:Int)),(11,ints (M.getD m [])),(12,.sl 5 1 0 j),(41,.sl 1 1 0 k),(42,i64 (k:Int)),(43,i64 (j:Int))],[some [nilS],some (intsC (oz O)),some (intsC (nuV O k k)),some [.sl 4 1 0 m],some ((fmK M O m).map oints),some (intsC (fmR M O m j))]))
    (C:=fun j=>j≤k) (μ:=fun j=>k - j) 0 (Nat.zero_le _) ((Ref.nil 12 1 rfl).trans (Ref.to (by simp [fmR,intsC]) (by simp [sub,fget]))) ?_
   intro j hj
   have hfl:=fmR_len M O m j
   refine RN ?_
   refine ⟨fun hc2=>?_,fun hc2=>?_⟩
   ·have hjO:j<O.length:=by omega
    have hoa:=oz_at hjO
    have hxn:=hbd.lt _ (getD_memN hjO)
    have hv:=hvm _ hxn
    have hl:=hlm _ hxn
    have hna:=nuV_at (O:=O) hl (hall _ hl)
    rw [hlen] at hna
    have hnl:=nuV_len O k k
    have hfs:=fmR_succ M O m j
    obtain ⟨x,hx⟩:∃ x,x=O.getD j 0:=⟨_,rfl⟩
    rw [← hx] at hoa hxn hv hl hna hfs
    obtain ⟨d,hd⟩:∃ d,d=mv M m x:=⟨_,rfl⟩
    rw [← hd] at hv hl hna hfs
    have e1:((x:Nat):Int).toNat=x:=by omega
    have e2:((d:Nat):Int).toNat=d:=by omega
    obtain ⟨R,hR⟩:∃ R,R=fmR M O m j:=⟨_,rfl⟩
    rw [← hR] at hfl hfs ⊢
    (repeat first | simp only [hoa,hv,hna,e1,e2,go_sem,↓reduceIte,Nat.reduceEqDiff,Nat.reduceAdd,reduceCtorEq] | refine RX ?_ | decide)
    refine ⟨j+1,by omega,by omega,?_⟩
    rw [hfs]
    have tk1:(intsC R).take j=intsC R:=List.take_of_length_le (by rw [len_intsC,hfl];exact Nat.le_refl _)
    refine Ref.gc [0,1,2,3,4,7] rfl ?_ (by simp [sub,fget,go_sem,↓reduceIte,Nat.reduceEqDiff,Nat.reduceAdd,reduceCtorEq])
    simp only [go_sem,↓reduceIte,Nat.reduceEqDiff,Nat.reduceAdd,reduceCtorEq]
    rw [tk1,rnmL_ints]
    simp [intsC]
   ·obtain rfl:j=k:=by omega
    refine RN ?_
    refine ⟨m+1,by omega,by omega,?_⟩
    rw [hks]
    refine (Ref.row 7 5 (L:=fmK M O m) rfl hkl rfl hfl (by decide)).trans ?_
    exact Ref.gc1 [0,1,2,3,7]
  ·obtain rfl:m=3:=by omega
   refine RN ?_
   exact Ref.gc1 [4]
end
section
open Go.Gov Go.Ce
open Classical
theorem cmM_drop {A B:List (List Int)}{i:Nat}(h1:i<A.length)(h2:i<B.length):cmM (A.drop i) (B.drop i)=if cmpL (A.getD i []) (B.getD i [])=0 then cmM (A.drop (i+1)) (B.drop (i+1)) else cmpL (A.getD i []) (B.getD i []):=by
 rw [List.drop_eq_getElem_cons h1,List.drop_eq_getElem_cons h2,cmM,List.getD_eq_getElem?_getD,List.getD_eq_getElem?_getD,List.getElem?_eq_getElem h1,List.getElem?_eq_getElem h2]
 rfl
theorem compareFunc_c (A B : List (List Int)) (hl : A.length = B.length) (hA : A.length ≤ 1048576) (ha : ∀ k, k < A.length → (A.getD k []).length ≤ 1048576) (hb : ∀ k, k < B.length → (B.getD k []).length ≤ 1048576) :
    Pure Tryz.prog 152 [mat A,mat B,.clo 153 [] []] (i64 (cmM A B)) []:=by
 refine pureV0 ok152 rfl rfl ?_;unfold c152
 refine RN ?_
 refine V_loop (α:=Nat) (S:=fun i=>([(0,mat A),(1,mat B),(2,.clo 153 [] []),(11,mat A),(12,i64 (A.length:Int)),(13,i64 (i:Int))],[])) (C:=fun i=>i≤A.length∧cmM (A.drop i) (B.drop i)=cmM A B) (μ:=fun i=>A.length - i) 0 ⟨Nat.zero_le _,rfl⟩ (Ref.to1) ?_
 rintro i ⟨hi,hr⟩
 refine RN ?_
 refine ⟨fun hc=>?_,fun hc=>?_⟩
 ·have hcm:=compare_c (A.getD i []) (B.getD i []) (by have:=ha i (by omega);omega) (by have:=hb i (by omega);omega)
  rw [cmM_drop (by omega) (by omega)] at hr
  generalize cmpL (A.getD i []) (B.getD i [])=c at *
  refine RN ?_
  intro _
  refine RN ?_
  refine pureC1 (hcm) ?_
  refine RN ?_
  refine ⟨fun hc3=>?_,fun hc3=>?_⟩
  ·rw [if_neg hc3] at hr
   refine RN ?_
   rw [hr]
  ·rw [if_pos hc3] at hr
   refine RN ?_
   exact ⟨i+1,⟨by omega,hr⟩,by omega,Ref.to1⟩
 ·obtain rfl:i=A.length:=by omega
  have h0:cmM A B=0:=by
   rw [← hr,List.drop_length,List.drop_of_length_le (by omega)]
   rfl
  rw [h0]
  refine RN ?_
  intro _
  (refine RN ?_;try with_reducible exact trivial)
theorem compareMan_c (A B:List (List Int))(hl:A.length=B.length)(hA:A.length≤1048576)(ha:∀ k,k<A.length→(A.getD k []).length≤1048576)(hb:∀ k,k<B.length→(B.getD k []).length≤1048576):Pure Tryz.prog 96 [maniA A,maniA B] (i64 (cmM A B)) []:=by
 have h:=compareFunc_c A B hl hA ha hb
 refine pureV0 ok96 rfl rfl ?_;unfold c96
 refine RN ?_
 refine pureC1 (h) ?_
 (refine RN ?_;try with_reducible exact trivial)
theorem equalFunc_c (A B : List (List Int)) (hl : A.length = B.length) (hA : A.length ≤ 1048576) (ha : ∀ k, k < A.length → (A.getD k []).length ≤ 1048576) (hb : ∀ k, k < B.length → (B.getD k []).length ≤ 1048576) :
    Pure Tryz.prog 92 [mat A,mat B,.clo 93 [] []] (bl (decide (A=B))) []:=by
 have key:∀ i,i≤A.length→(∀ j,j<i→A.getD j []=B.getD j [])→i=A.length→A=B:=fun i hi h e=>by
  refine List.ext_getElem hl fun j h1 h2=>?_
  have:=h j (by omega)
  rwa [List.getD_eq_getElem?_getD,List.getD_eq_getElem?_getD,List.getElem?_eq_getElem h1,List.getElem?_eq_getElem h2] at this
 refine pureV0 ok92 rfl rfl ?_;unfold c92
 refine RN ?_
 intro _
 refine RN ?_
 refine V_loop (α:=Nat) (S:=fun i=>([(0,mat A),(1,mat B),(2,.clo 93 [] []),(15,mat A),(16,i64 (A.length:Int)),(17,i64 (i:Int))],[])) (C:=fun i=>i≤A.length∧∀ j,j<i→A.getD j []=B.getD j []) (μ:=fun i=>A.length - i) 0 ⟨Nat.zero_le _,fun j hj=>by omega⟩ (Ref.to1) ?_
 rintro i ⟨hi,hr⟩
 refine RN ?_
 refine ⟨fun hc=>?_,fun hc=>?_⟩
 ·have heq:=equal_c (A.getD i []) (B.getD i []) (by have:=ha i (by omega);omega) (by have:=hb i (by omega);omega)
  have hne:A.getD i []≠B.getD i []→A≠B:=fun h e=>h (by rw [e])
  have hnx:A.getD i []=B.getD i []→∀ j,j<i+1→A.getD j []=B.getD j []:=fun h j hj=>by
   by_cases e:j=i
   ·subst e;exact h
   ·exact hr j (by omega)
  refine RN ?_
  refine pureC1 (heq) ?_
  refine RN ?_
  refine ⟨fun hc3=>?_,fun hc3=>?_⟩
  ·rw [decide_eq_false (hne hc3)]
   (refine RN ?_;try with_reducible exact trivial)
  ·(refine RN ?_;try with_reducible exact trivial)
   exact ⟨i+1,⟨by omega,hnx hc3⟩,by omega,Ref.to1⟩
 ·rw [decide_eq_true (key i hi hr (by omega))]
  (refine RN ?_;try with_reducible exact trivial)
theorem sameMan_c (A B:List (List Int))(hl:A.length=B.length)(hA:A.length≤1048576)(ha:∀ k,k<A.length→(A.getD k []).length≤1048576)(hb:∀ k,k<B.length→(B.getD k []).length≤1048576):Pure Tryz.prog 43 [maniA A,maniA B] (bl (decide (A=B))) []:=by
 have h:=equalFunc_c A B hl hA ha hb
 refine pureV0 ok43 rfl rfl ?_;unfold c43
 refine RN ?_
 refine pureC1 (h) ?_
 (refine RN ?_;try with_reducible exact trivial)
theorem leastForm_p (M:List (List Int))(h:IsMap M):Pure Tryz.prog 44 [maniA M] (.agg [.sl 0 1 0 3]) [some ((lsF M).map oints)]:=by
 have h3:=h.2
 have h4:=h.1.f4
 have h2:=h.1.f2
 have hf0:=formFrom_p M h 0 (by omega)
 have hfl:=flags_c M (by omega) (by omega) (by unfold fl at h4;omega)
 have hfe:(M.getD 0 []).length=fl M:=rfl
 rw [hfe] at hfl
 rw [show frm M 0=lfK M 0 from rfl] at hf0
 refine pureRV ok44 rfl ?_;unfold c44
 refine RN ?_
 refine pureC1 (hf0) ?_
 refine RN ?_
 refine pureC1 (hfl) ?_
 refine RN ?_
 refine V_loop (α:=Nat) (S:=fun k=>([(1,.ref 0 0),(2,.ref 1 0),(3,.ref 2 0),(9,i64 (fl M:Int)),(10,i64 (k:Int))],[some [mat M],some [nilS],some [.sl 3 1 0 3],some ((lfK M k).map oints)])) (C:=fun k=>k≤fl M) (μ:=fun k=>fl M - k) 0 (Nat.zero_le _) (Ref.gc2 [0,1,3,2]) ?_
 intro k hk
 have hlk:=lfK_ok h k hk
 have hst:lfK M (k+1)=if lexM (frm M k) (lfK M k)=true then frm M k else lfK M k:=rfl
 obtain ⟨Lk,hLk⟩:∃ Lk,Lk=lfK M k:=⟨_,rfl⟩
 rw [← hLk] at hlk hst ⊢
 refine RN ?_
 refine ⟨fun hc=>?_,fun hc=>?_⟩
 ·have hfk:=formFrom_p M h k (by omega)
  have hfo:=frm_ok h (f:=k) (by omega)
  generalize frm M k=Fk at *
  have hcm:=compareMan_c Fk Lk (by omega) (by omega) (fun j hj=>by have:=hfo.2 j (by omega);omega) (fun j hj=>by have:=hlk.2 j (by omega);omega)
  have hlt:=cmM_lt Fk Lk
  have hF3:=hfo.1
  have hL3:=hlk.1
  generalize cmM Fk Lk=c at *
  refine RN ?_
  refine pureC1 (hfk) ?_
  refine RN ?_
  refine pureC hcm (by simp only [go_sem,↓reduceIte,Nat.reduceEqDiff,Nat.reduceAdd,reduceCtorEq,frz_im _ _ Fk 3 hF3,frz_im _ _ Lk 3 hL3];first | done | (simp only [maniA,mat,hF3,hL3];done) | (simp only [maniA,mat,hF3,hL3];rfl)) (by first | rfl | simp only [go_sem,↓reduceIte,Nat.reduceEqDiff,Nat.reduceAdd,reduceCtorEq]) ?_
  refine RN ?_
  refine ⟨fun hc3=>?_,fun hc3=>?_⟩
  ·rw [if_pos (hlt.1 hc3)] at hst
   refine RN ?_
   refine ⟨k+1,by omega,by omega,?_⟩
   rw [hst]
   exact Ref.gc2 [0,1,2,4]
  ·rw [if_neg (fun h=>by have:=hlt.2 h;omega)] at hst
   refine RN ?_
   refine ⟨k+1,by omega,by omega,?_⟩
   rw [hst]
   exact Ref.gc2 [0,1,2,3]
 ·obtain rfl:k=fl M:=by omega
  rw [hLk]
  refine RN ?_
  exact Ref.gc2 [3]
end
end Go.Proofs.YtfcbamfkfadabaaGreatDoor
