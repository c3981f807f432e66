/- Texts that belong together. -/
import Derived.Test.YtaekhhaaphgndaaGreatDoorZm
set_option linter.unusedSimpArgs false
set_option linter.unusedVariables false
set_option maxRecDepth 100000
namespace Go.Proofs.YtaekhhaaphgndaaGreatDoor
section
open Classical
def Bip (n:Nat)(M:List (List Int))(c:Nat→Int):Prop:=c 0=0∧(∀ x,x<n→c x=0∨c x=1)∧∀ x,x<n→∀ p∈M,c (p.getD x 0).toNat≠c x
def BipE (n:Nat)(M:List (List Int)):Prop:=∃ c,Bip n M c
theorem Bip.uniq {n:Nat}{M:List (List Int)}(hM:MvOk n M)(h0:0<n){c c' : Nat→Int}(h:Bip n M c)(h' : Bip n M c'){x:Nat}(hx:Rch M 0 x):c x=c' x:=by
 induction hx with
 | refl=>rw [h.1,h'.1]
 | step hy hp ih=>
  rename_i y p
  have hlt:=hy.lt hM h0
  have hlt2:=(hy.step hp).lt hM h0
  have a1:=h.2.2 y hlt p hp
  have a2:=h'.2.2 y hlt p hp
  have b1:=h.2.1 _ hlt2
  have b2:=h'.2.1 _ hlt2
  have b3:=h.2.1 _ hlt
  omega
def unc (l:List Int):Nat:=l.countP fun x=>decide (x<0)
structure ColI (n:Nat) (M:List (List Int)) (col:List Int) (O:List Nat) (b:Bool) (x:Option (Nat×Nat)):Prop where
 len:col.length=n
 start:col.getD 0 0=0
 vals:∀ y,y<n→col.getD y 0 = -1∨col.getD y 0=0∨col.getD y 0=1
 forced:∀ c,Bip n M c→∀ y,y<n→0≤col.getD y 0→col.getD y 0=c y
 wait:∀ y∈O,y<n∧0≤col.getD y 0
 done:∀ y,y<n→0≤col.getD y 0→y∉O→(∀ q,x=some q→y≠q.1)→∀ p∈M,0≤col.getD (p.getD y 0).toNat 0∧(b=true→col.getD (p.getD y 0).toNat 0≠col.getD y 0)
 now:∀ q,x=some q→q.1<n∧0≤col.getD q.1 0∧∀ j,j<q.2→0≤col.getD ((M.getD j []).getD q.1 0).toNat 0∧(b=true→col.getD ((M.getD j []).getD q.1 0).toNat 0≠col.getD q.1 0)
 bad:b=false→¬ BipE n M
 few:O.length+unc col≤n
section
variable {n:Nat} {M:List (List Int)} {col:List Int} {O:List Nat} {b:Bool}
theorem ColI.pop {x:Nat}(h:ColI n M col (x :: O) b none):ColI n M col O b (some (x,0)):=
 ⟨h.len,h.start,h.vals,h.forced,fun y hy=>h.wait y (by simp [hy]),fun y hy h1 hno hx=>h.done y hy h1 (by simp [hno,hx (x,0) rfl]) fun q hq=>(by cases hq),fun q hq=>by
  cases hq
  exact ⟨(h.wait x (by simp)).1,(h.wait x (by simp)).2,fun j hj=>absurd hj (by omega)⟩,h.bad,by have:=h.few;simp at this;omega⟩
theorem ColI.fin {x:Nat}(h:ColI n M col O b (some (x,M.length))):ColI n M col O b none:=
 ⟨h.len,h.start,h.vals,h.forced,h.wait,fun y hy h1 hno _ p hp=>by
  by_cases e:y=x
  ·subst e
   obtain ⟨j,hj,rfl⟩:=List.mem_iff_getElem.1 hp
   have:=(h.now _ rfl).2.2 j hj
   simpa [hj] using this
  ·exact h.done y hy h1 hno (fun q hq=>by cases hq;exact e) p hp,fun q hq=>(by cases hq),h.bad,h.few⟩
end
structure DisI (n:Nat) (M:List (List Int)) (d:List Int) (R:List Nat) (i k:Nat):Prop where
 len:d.length=n
 start:d.getD 0 0=0
 vals:∀ y,y<n → -1≤d.getD y 0∧d.getD y 0≤R.length
 forced:∀ c,Bip n M c→∀ y,y<n→0≤d.getD y 0→d.getD y 0%2=c y
 inR:∀ y∈R,y<n∧0≤d.getD y 0
 ofR:∀ y,y<n→0≤d.getD y 0→y∈R
 done:∀ j (h:j<R.length),j<i→∀ p∈M,0≤d.getD (p.getD R[j] 0).toNat 0
 now:∀ (h:i<R.length),∀ q,q<k→0≤d.getD ((M.getD q []).getD R[i] 0).toNat 0
 few:R.length+unc d=n
section
variable {n:Nat} {M:List (List Int)} {d:List Int} {R:List Nat} {i k:Nat}
end
end
section
open Go.Gov
open Classical
noncomputable def fcV (n:Nat)(M:List (List Int))(k:Nat):List Int:=(List.range k).map fun i=>((ncnt (oth M i M.length) n:Nat):Int)
theorem fcV_len (n:Nat)(M:List (List Int))(k:Nat):(fcV n M k).length=k:=by simp [fcV]
theorem fcV_succ (n:Nat)(M:List (List Int))(k:Nat):fcV n M (k+1)=fcV n M k++[((ncnt (oth M k M.length) n:Nat):Int)]:=by simp [fcV,List.range_succ]
theorem take_fc (n:Nat)(M:List (List Int))(k:Nat):(intsC (fcV n M k)).take k=intsC (fcV n M k):=List.take_of_length_le (by simp [intsC,fcV])
theorem faceCounts_c (n:Nat)(M:List (List Int))(hM:MvOk n M)(hr:(M.getD 0 []).length=n)(hn:n≤1048576)(hl:M.length≤1048576):Pure Tryz.prog 65 [maniP M] (.sl 0 1 0 M.length) [some (intsC (fcV n M M.length))]:=by
 refine pureVg [0] ok65 rfl ?_;unfold c65
 refine RN ?_
 refine pureC1 (rank_c M hl) ?_
 refine RN ?_
 refine V_loop (α:=Nat) (S:=fun k=>([(0,maniP M),(3,.sl 0 1 0 k),(8,i64 M.length),(9,i64 k)],[some (intsC (fcV n M k))])) (C:=fun k=>k≤M.length) (μ:=fun k=>M.length - k) 0 (by omega) ((Ref.nil 3 1 (by simp [fget])).trans (Ref.to (by simp [fcV,intsC]) (by simp [sub,fget]))) ?_
 intro k hk
 have hfl:=fcV_len n M k
 refine RN ?_
 refine ⟨fun hc=>?_,fun hc=>?_⟩
 ·(refine RN ?_;try with_reducible exact trivial)
  refine pureC1 (faces_c n M k hM (by omega) hr hn hl) ?_
  refine RN ?_
  refine ⟨k+1,by omega,by omega,Ref.gc [3] rfl ?_ (by simp [sub,fget,go_sem,↓reduceIte,Nat.reduceEqDiff,Nat.reduceAdd,reduceCtorEq])⟩
  simp only [go_sem,↓reduceIte,Nat.reduceEqDiff,Nat.reduceAdd,reduceCtorEq,take_fc,one_intsC,app_intsC,fcV_succ]
 ·obtain rfl:k=M.length:=by omega
  (refine RN ?_;try with_reducible exact trivial)
end
end Go.Proofs.YtaekhhaaphgndaaGreatDoor
