/- Texts that belong together. -/
import Derived.Test.YtaekhhaaphgndaaGreatZq
import Derived.Test.YtaekhhaaphgndaaGreatR9
set_option linter.unusedSimpArgs false
set_option linter.unusedVariables false
set_option maxRecDepth 100000
namespace Go.Proofs.YtaekhhaaphgndaaGreat
open Classical
structure Dih (n:Nat) (a b:Nat→Nat):Prop where
 al:∀ x,x<n→a x<n
 bl:∀ x,x<n→b x<n
 aa:∀ x,x<n→a (a x)=x
 bb:∀ x,x<n→b (b x)=x
 af:∀ x,x<n→a x≠x
 bf:∀ x,x<n→b x≠x
inductive Two (a b:Nat→Nat) (x:Nat):Nat→Prop
 | refl:Two a b x x
 | sa {y:Nat}:Two a b x y→Two a b x (a y)
 | sb {y:Nat}:Two a b x y→Two a b x (b y)
namespace Dih
variable {n:Nat} {a b:Nat→Nat} {x y:Nat}
def rd (a b:Nat→Nat)(x:Nat):Nat:=b (a x)
theorem lt (h:Dih n a b)(hx:x<n):rd a b x<n:=h.bl _ (h.al _ hx)
theorem inj (h:Dih n a b)(hx:x<n)(hy:y<n)(e:rd a b x=rd a b y):x=y:=by
 have e1:=congrArg b e
 unfold rd at e1
 rw [h.bb _ (h.al _ hx),h.bb _ (h.al _ hy)] at e1
 have e2:=congrArg a e1
 rwa [h.aa _ hx,h.aa _ hy] at e2
theorem spec (h:Dih n a b)(hx:x<n):0<per (rd a b) n x∧per (rd a b) n x≤n∧itr (rd a b) x (per (rd a b) n x)=x∧∀ j,0<j→j<per (rd a b) n x→itr (rd a b) x j≠x:=per_spec (s:=rd a b) (n:=n) (fun _=>h.lt) (fun _ _ hy hz=>h.inj hy hz) hx
theorem ilt (h:Dih n a b)(hx:x<n)(k:Nat):itr (rd a b) x k<n:=itr_lt (fun _=>h.lt) hx k
theorem iinj (h:Dih n a b)(k:Nat)(hx:x<n)(hy:y<n)(e:itr (rd a b) x k=itr (rd a b) y k):x=y:=itr_inj (fun _=>h.lt) (fun _ _ hy hz=>h.inj hy hz) k x y hx hy e
theorem flip (h:Dih n a b)(hx:x<n):∀ k,itr (rd a b) (a (itr (rd a b) x k)) k=a x
 | 0=>rfl
 | k+1=>by
  have hk:=h.ilt hx k
  have e:itr (rd a b) x (k+1)=rd a b (itr (rd a b) x k):=rfl
  rw [show k+1=1+k from by omega,itr_add,show 1+k=k+1 from by omega,e]
  have e1:itr (rd a b) (a (rd a b (itr (rd a b) x k))) 1=a (itr (rd a b) x k):=by
   show rd a b (a (rd a b (itr (rd a b) x k)))=_
   generalize itr (rd a b) x k=z at hk
   unfold rd
   rw [h.aa _ (h.bl _ (h.al _ hk)),h.bb _ (h.al _ hk)]
  rw [e1]
  exact h.flip hx k
theorem apart (h:Dih n a b)(hx:x<n)(m:Nat):a x≠itr (rd a b) x m:=by
 intro e
 rcases Nat.mod_two_eq_zero_or_one m with h2 | h2
 ·obtain ⟨t,rfl⟩:∃ t,m=t+t:=⟨m / 2,by omega⟩
  rw [itr_add,← h.flip hx t] at e
  exact h.af _ (h.ilt hx t) (h.iinj t (h.al _ (h.ilt hx t)) (h.ilt hx t) e)
 ·obtain ⟨t,rfl⟩:∃ t,m=(t+1)+t:=⟨m / 2,by omega⟩
  rw [itr_add,← h.flip hx t] at e
  have e2:=h.iinj t (h.al _ (h.ilt hx t)) (h.ilt hx (t+1)) e
  have e3:itr (rd a b) x (t+1)=b (a (itr (rd a b) x t)):=rfl
  rw [e3] at e2
  exact h.bf _ (h.al _ (h.ilt hx t)) e2.symm
theorem mod (h:Dih n a b)(hx:x<n)(k:Nat):itr (rd a b) x k=itr (rd a b) x (k%per (rd a b) n x):=by
 have hp:=h.spec hx
 have key:∀ q r:Nat,itr (rd a b) x (per (rd a b) n x*q+r)=itr (rd a b) x r:=fun q r=>by
  induction q with
  | zero=>simp
  | succ q ih=>rw [Nat.mul_succ,Nat.add_comm _ (per (rd a b) n x),Nat.add_assoc,itr_add,hp.2.2.1,ih]
 conv=>lhs;rw [← Nat.div_add_mod k (per (rd a b) n x)]
 exact key _ _
theorem cls (h:Dih n a b)(hx:x<n):Two a b x y ↔ ∃ i,i<per (rd a b) n x∧(y=itr (rd a b) x i∨y=a (itr (rd a b) x i)):=by
 have hp:=h.spec hx
 have red:(∃ i,y=itr (rd a b) x i∨y=a (itr (rd a b) x i))→∃ i,i<per (rd a b) n x∧(y=itr (rd a b) x i∨y=a (itr (rd a b) x i)):=fun ⟨i,hi⟩=>by
  rw [h.mod hx i] at hi
  exact ⟨_,Nat.mod_lt _ hp.1,hi⟩
 constructor
 ·intro hy
  refine red ?_
  clear red
  induction hy with
  | refl=>exact ⟨0,.inl rfl⟩
  | @sa y _ ih=>
   obtain ⟨i,rfl | rfl⟩:=ih
   ·exact ⟨i,.inr rfl⟩
   ·exact ⟨i,.inl (h.aa _ (h.ilt hx i))⟩
  | @sb y _ ih=>
   obtain ⟨i,rfl | rfl⟩:=ih
   ·refine ⟨i+(per (rd a b) n x - 1),.inr ?_⟩
    have hi:=h.ilt hx i
    rw [Nat.add_comm,itr_add]
    have e:itr (rd a b) (itr (rd a b) x (per (rd a b) n x - 1)) i=a (b (itr (rd a b) x i)):=by
     have hb:=h.lt (h.ilt hx (per (rd a b) n x - 1))
     refine h.inj (h.ilt (h.ilt hx _) _) (h.al _ (h.bl _ hi)) ?_
     have e1:rd a b (a (b (itr (rd a b) x i)))=itr (rd a b) x i:=by
      generalize itr (rd a b) x i=z at hi
      unfold rd
      rw [h.aa _ (h.bl _ hi),h.bb _ hi]
     rw [e1]
     show itr (rd a b) (itr (rd a b) x (per (rd a b) n x - 1)) (i+1)=_
     rw [← itr_add,show per (rd a b) n x - 1+(i+1)=per (rd a b) n x+i by omega,itr_add,hp.2.2.1]
    rw [e,h.aa _ (h.bl _ hi)]
   ·exact ⟨i+1,.inl rfl⟩
 ·have turn : ∀ i, Two a b x (itr (rd a b) x i) := fun i => by
    induction i with
    | zero=>exact .refl
    | succ i ih=>exact .sb (.sa ih)
  rintro ⟨i,_,rfl | rfl⟩
  ·exact turn i
  ·exact .sa (turn i)
end Dih
end Go.Proofs.YtaekhhaaphgndaaGreat
