/- Texts that belong together. -/
import Derived.Test.YtaekhhaaphgndaaGreatZq
import Derived.Test.YtaekhhaaphgndaaGreatR1
import Derived.Test.YtaekhhaaphgndaaGreatR9
set_option linter.unusedSimpArgs false
set_option linter.unusedVariables false
set_option maxRecDepth 100000
namespace Go.Proofs.YtaekhhaaphgndaaGreat
open Go.Gov Go.Ce
open Classical
noncomputable def bG (M:List (List Int))(O:List Nat)(x:Nat):Nat→List Nat
 | 0=>O
 | k+1=>psN (bG M O x k) (mv M k x)
noncomputable def bF (M:List (List Int)):Nat→List Nat→Nat→List Nat
 | 0,O,_=>O
 | k+1,O,i=>if i<O.length then bF M k (bG M O (O.getD i 0) M.length) (i+1) else O
noncomputable def bfs (M:List (List Int))(n f:Nat):List Nat:=bF M (n+1) [f] 0
theorem bG_pre (M:List (List Int))(O:List Nat)(x:Nat):∀ k:Nat,∃ L,bG M O x k=O++L
 | 0=>⟨[],by simp [bG]⟩
 | k+1=>by
  obtain ⟨L,h⟩:=bG_pre M O x k
  obtain ⟨L2,h2⟩:=psN_pre (bG M O x k) (mv M k x)
  exact ⟨L++L2,by rw [bG,h2,h,List.append_assoc]⟩
structure Mvr (n:Nat) (M:List (List Int)):Prop where
 row:∀ k,k<M.length→(M.getD k []).length=n
 val:∀ k x,k<M.length→x<n→(M.getD k []).getD x 0=(mv M k x:Nat)
 lt:∀ k x,k<M.length→x<n→mv M k x<n
structure Bd (n:Nat) (O:List Nat):Prop where
 nd:O.Nodup
 lt:∀ d∈O,d<n
theorem Bd.psh {n:Nat}{O:List Nat}(h:Bd n O){d:Nat}(hd:d<n):Bd n (psN O d):=by
 unfold psN
 split
 ·exact h
 ·rename_i hn
  refine ⟨List.nodup_append.2 ⟨h.nd,by simp,fun a ha b hb e=>by obtain rfl:=List.mem_singleton.1 hb;exact hn (e ▸ ha)⟩,fun e he=>?_⟩
  rcases List.mem_append.1 he with he | he
  ·exact h.lt e he
  ·rw [List.mem_singleton.1 he];exact hd
theorem bd_len {n:Nat}{O:List Nat}(h:Bd n O):O.length≤n:=nodup_len h.nd h.lt
theorem bG_ok {n:Nat}{M:List (List Int)}(hM:Mvr n M){O:List Nat}(ho:Bd n O){x:Nat}(hx:x<n):∀ k:Nat,k≤M.length→Bd n (bG M O x k)∧∀ j,j<k→mv M j x∈bG M O x k
 | 0,_=>⟨ho,fun j hj=>by omega⟩
 | k+1,hk=>by
  obtain ⟨h1,h2⟩:=bG_ok hM ho hx k (by omega)
  refine ⟨h1.psh (hM.lt k x (by omega) hx),fun j hj=>?_⟩
  rw [bG]
  by_cases e:j=k
  ·subst e;exact psN_mem _ _
  ·obtain ⟨L,hL⟩:=psN_pre (bG M O x k) (mv M k x)
   rw [hL]
   exact List.mem_append.2 (.inl (h2 j (by omega)))
structure Bi (n:Nat) (M:List (List Int)) (f:Nat) (O:List Nat) (i:Nat):Prop where
 bd:Bd n O
 zero:f∈O
 le:i≤O.length
 cl:∀ j,j<i→∀ k,k<M.length→mv M k (O.getD j 0)∈O
 res:bF M (n+1 - i) O i=bfs M n f
theorem Bi.step {n f:Nat}{M:List (List Int)}(hM:Mvr n M){O:List Nat}{i:Nat}(ho:Bi n M f O i)(hi:i<O.length):Bi n M f (bG M O (O.getD i 0) M.length) (i+1):=by
 have hmem:=getD_memN hi
 obtain ⟨h1,h2⟩:=bG_ok hM ho.bd (ho.bd.lt _ hmem) M.length (Nat.le_refl _)
 obtain ⟨L,hL⟩:=bG_pre M O (O.getD i 0) M.length
 have hol:=bd_len ho.bd
 refine ⟨h1,by rw [hL];exact List.mem_append.2 (.inl ho.zero),by rw [hL,List.length_append];omega,fun j hj k hk=>?_,?_⟩
 ·rw [hL,getD_pre (by omega),← hL]
  by_cases e:j=i
  ·subst e;exact h2 k hk
  ·rw [hL]
   exact List.mem_append.2 (.inl (ho.cl j (by omega) k hk))
 ·rw [← ho.res,show n+1 - i=(n+1 - (i+1))+1 by omega,bF,if_pos hi]
theorem Bi.done {n f:Nat}{M:List (List Int)}{O:List Nat}{i:Nat}(ho:Bi n M f O i)(hi:¬ i<O.length):O=bfs M n f:=by
 have hol:=bd_len ho.bd
 have:=ho.le
 rw [← ho.res,show n+1 - i=(n - i)+1 by omega,bF,if_neg hi]
end Go.Proofs.YtaekhhaaphgndaaGreat
