/- Texts that belong together. -/
import Derived.Test.YtcneanpkpmfaiaaGreatZm
set_option linter.unusedSimpArgs false
set_option linter.unusedVariables false
set_option maxRecDepth 100000
namespace Go.Proofs.YtcneanpkpmfaiaaGreat
open Classical
def Bip (n:Nat)(M:List (List Int))(c:Nat→Int):Prop:=c 0=0∧(∀ x,x<n→c x=0∨c x=1)∧∀ x,x<n→∀ p∈M,c (p.getD x 0).toNat≠c x
def fT (n:Nat)(M:List (List Int)):Prop:=∃ c,Bip n M c
theorem Bip.uniq {n:Nat}{M:List (List Int)}(hM:MvOk n M)(h0:0<n){c c' : Nat→Int}(h:Bip n M c)(h' : Bip n M c'){x:Nat}(hx:Rch M 0 x):c x=c' x:=by
 induction hx with
 | refl=>rw [h.1,h'.1]
 | step hy hp ih=>
  rename_i y p
  have hlt:=hy.lt hM h0
  have hlt2:=(hy.step hp).lt hM h0
  have a1:=h.2.2 y hlt p hp
  have a2:=h'.2.2 y hlt p hp
  have b1:=h.2.1 _ hlt2
  have b2:=h'.2.1 _ hlt2
  have b3:=h.2.1 _ hlt
  omega
def fD (l:List Int):Nat:=l.countP fun x=>decide (x<0)
structure ColI (n:Nat) (M:List (List Int)) (col:List Int) (O:List Nat) (b:Bool) (x:Option (Nat×Nat)):Prop where
 len:col.length=n
 start:col.getD 0 0=0
 vals:∀ y,y<n→col.getD y 0 = -1∨col.getD y 0=0∨col.getD y 0=1
 forced:∀ c,Bip n M c→∀ y,y<n→0≤col.getD y 0→col.getD y 0=c y
 wait:∀ y∈O,y<n∧0≤col.getD y 0
 done:∀ y,y<n→0≤col.getD y 0→y∉O→(∀ q,x=some q→y≠q.1)→∀ p∈M,0≤col.getD (p.getD y 0).toNat 0∧(b=true→col.getD (p.getD y 0).toNat 0≠col.getD y 0)
 now:∀ q,x=some q→q.1<n∧0≤col.getD q.1 0∧∀ j,j<q.2→0≤col.getD ((M.getD j []).getD q.1 0).toNat 0∧(b=true→col.getD ((M.getD j []).getD q.1 0).toNat 0≠col.getD q.1 0)
 bad:b=false→¬ fT n M
 few:O.length+fD col≤n
section
variable {n:Nat} {M:List (List Int)} {col:List Int} {O:List Nat} {b:Bool}
theorem ColI.fin {x:Nat}(h:ColI n M col O b (some (x,M.length))):ColI n M col O b none:=
 ⟨h.len,h.start,h.vals,h.forced,h.wait,fun y hy h1 hno _ p hp=>by
  by_cases e:y=x
  ·subst e
   obtain ⟨j,hj,rfl⟩:=List.mem_iff_getElem.1 hp
   have:=(h.now _ rfl).2.2 j hj
   simpa [hj] using this
  ·exact h.done y hy h1 hno (fun q hq=>by cases hq;exact e) p hp,fun q hq=>(by cases hq),h.bad,h.few⟩
end
structure Aei (n:Nat) (M:List (List Int)) (d:List Int) (R:List Nat) (i k:Nat):Prop where
 len:d.length=n
 start:d.getD 0 0=0
 vals:∀ y,y<n → -1≤d.getD y 0∧d.getD y 0≤R.length
 forced:∀ c,Bip n M c→∀ y,y<n→0≤d.getD y 0→d.getD y 0%2=c y
 inR:∀ y∈R,y<n∧0≤d.getD y 0
 ofR:∀ y,y<n→0≤d.getD y 0→y∈R
 done:∀ j (h:j<R.length),j<i→∀ p∈M,0≤d.getD (p.getD R[j] 0).toNat 0
 now:∀ (h:i<R.length),∀ q,q<k→0≤d.getD ((M.getD q []).getD R[i] 0).toNat 0
 few:R.length+fD d=n
section
variable {n:Nat} {M:List (List Int)} {d:List Int} {R:List Nat} {i k:Nat}
end
end Go.Proofs.YtcneanpkpmfaiaaGreat
