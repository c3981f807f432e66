/- Texts that belong together. -/
import Derived.Test.YtfofabbkigonpaaDoorV1
import Derived.Test.YtfofabbkigonpaaDoorZj
import Derived.Test.YtfofabbkigonpaaDoorZt
set_option linter.unusedSimpArgs false
set_option linter.unusedVariables false
set_option maxRecDepth 100000
namespace Go.Proofs.YtfofabbkigonpaaDoor
section
open Go.Gov
def Desc (l:List Rw):Prop:=l.Pairwise fun a b=>b.length≤a.length
theorem Desc.last {A:List Rw}{z:Rw}{n:Nat}(h:Desc (A++[z]))(hz:n≤z.length):∀ x∈A++[z],n≤x.length:=fun x hx=>by
 rcases List.mem_append.1 hx with hx | hx
 ·have:=(List.pairwise_append.1 h).2.2 x hx z (List.mem_singleton.2 rfl)
  omega
 ·obtain rfl:=List.mem_singleton.1 hx
  exact hz
end
section
open Go.Gov
theorem Desc.take {l:List Rw}(h:Desc l)(u:Nat):Desc (l.take u):=List.Pairwise.sublist (List.take_sublist u l) h
theorem Desc.drop {l:List Rw}(h:Desc l)(u:Nat):Desc (l.drop u):=List.Pairwise.sublist (List.drop_sublist u l) h
theorem Desc.app {A B:List Rw}(hA:Desc A)(hB:Desc B)(h:A=[]∨B=[]):Desc (A++B):=by
 rcases h with rfl | rfl
 ·exact hB
 ·rw [List.append_nil];exact hA
end
section
open Go.Gov
open Classical
inductive Fl (n:Nat):List Rw→Prop
 | nil:Fl n []
 | snoc (D S:List Rw):Fl n D→Desc S→S.length=n→Fl n (D++S)
inductive Bk (n:Nat):List Rw→Prop
 | last (A:List Rw):Desc A→A.length≤n→Bk n A
 | cons (A R:List Rw):Desc A→A.length=n→Bk n R→Bk n (A++R)
theorem Bk.desc {n:Nat}{R:List Rw}(h:Bk n R)(hR:R.length≤n):Desc R:=by
 cases h with
 | last _ h _=>exact h
 | cons A R hA hl hB=>
  have:R=[]:=List.length_eq_zero_iff.1 (by rw [List.length_append] at hR;omega)
  rw [this,List.append_nil]
  exact hA
theorem Bk.un {n:Nat}{R:List Rw}(h:Bk n R)(hR:n<R.length):∃ A R', R=A++R' ∧ A.length=n∧Desc A∧Bk n R' := by
 cases h with
 | last _ _ h=>omega
 | cons A R hA hl hB=>exact ⟨A,R,rfl,hl,hA,hB⟩
theorem Bk.at {n:Nat}{R:List Rw}(h:Bk n R)(hR:n≤R.length):∃ A R', R=A++R' ∧ A.length=n∧Desc A∧Bk n R' := by
 rcases Nat.eq_or_lt_of_le hR with e | e
 ·exact ⟨R,[],(List.append_nil R).symm,e.symm,h.desc (by omega),.last [] .nil (Nat.zero_le _)⟩
 ·exact h.un e
end
end Go.Proofs.YtfofabbkigonpaaDoor
