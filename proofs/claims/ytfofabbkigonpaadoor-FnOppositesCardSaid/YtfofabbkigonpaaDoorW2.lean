/- Texts that belong together. -/
import Derived.Test.YtfofabbkigonpaaDoorY8
import Derived.Test.YtfofabbkigonpaaDoorX8
import Derived.Test.YtfofabbkigonpaaDoorW1
set_option linter.unusedSimpArgs false
set_option linter.unusedVariables false
set_option maxRecDepth 100000
namespace Go.Proofs.YtfofabbkigonpaaDoor
open Go.Gov Go.Fl
open Classical
noncomputable def Rk (X:List (List Int))(i a k:Nat):List Int:=((List.range k).filter fun b=>decide (Adj (Ah X a) (Ah X b) i)).map fun b:Nat=>(b:Int)
theorem neL_mem {X:List (List Int)}{i a k:Nat}{z:Int}:z∈Rk X i a k ↔ ∃ b:Nat,z=b∧b<k∧Adj (Ah X a) (Ah X b) i:=by
 unfold Rk
 simp only [List.mem_map,List.mem_filter,List.mem_range,decide_eq_true_eq]
 constructor
 ·rintro ⟨b,⟨h1,h2⟩,rfl⟩;exact ⟨b,rfl,h1,h2⟩
 ·rintro ⟨b,rfl,h1,h2⟩;exact ⟨b,⟨h1,h2⟩,rfl⟩
def gG (r N:Nat)(f:Nat→Nat→List Int):List AV:=(List.range r).map fun i=>.osl 1 N ((List.range N).map fun a=>Af (f i a))
theorem Rn (τ:Nat→Option Nat)(L:List Int):Al τ (Af L)=Af L:=by simp [Al,Ej]
theorem gM (d:Nat)(r N:Nat)(f:Nat→Nat→List Int):(gG r N f).all (nf (d+3))=true:=List.all_eq_true.2 fun x hx=>by
 obtain ⟨i,_,rfl⟩:=List.mem_map.1 hx
 simp only [nf]
 refine List.all_eq_true.2 fun y hy=>?_
 obtain ⟨a,_,rfl⟩:=List.mem_map.1 hy
 simp only [nf]
 refine List.all_eq_true.2 fun z hz=>?_
 obtain ⟨n,_,rfl⟩:=List.mem_map.1 hz
 rfl
attribute [go_sem] gM
noncomputable def Yl (X:List (List Int))(i a:Nat):List Int:=Rk X i a X.length
end Go.Proofs.YtfofabbkigonpaaDoor
namespace Go.Fl
open Go.Proofs.YtfofabbkigonpaaDoor
open Classical
def G3 (V:List Nat)(x:Nat)(z _y:Nat):Prop:=∃ k,x≤k∧V[k]? = some z
def Mr (X:List (List Int))(m:Nat→Bool)(V:List Nat)(x t:Nat)(z y:Nat):Prop:=(∃ k,x<k∧V[k]? = some z)∨(V[x]? = some z∧∃ s,t≤s∧m s=false∧Adj (Ah X z) (Ah X y) s)
def Js (X:List (List Int))(m:Nat→Bool)(V:List Nat)(x t:Nat)(L:List Int)(j:Nat)(z y:Nat):Prop:=(∃ k,x<k∧V[k]? = some z)∨(V[x]? = some z∧((∃ s,t<s∧m s=false∧Adj (Ah X z) (Ah X y) s)∨∃ c,j≤c∧L[c]? = some (y:Int)))
section
variable {r:Nat} {X:List (List Int)} {m:Nat→Bool} {i:Nat} {V:List Nat}
theorem FI.a0 (hi:i<X.length):FI (Em X m) X.length i [i] (G3 [i] 0):=FI.start hi fun y _=>⟨0,Nat.le_refl _,rfl⟩
theorem FI.ab {x:Nat}(h:FI (Em X m) X.length i V (G3 V x)):FI (Em X m) X.length i V (Mr X m V x 0):=h.mono fun z _ y he hp=>by
 obtain ⟨k,hk,hz⟩:=hp
 obtain ⟨_,_,s,h1,h2⟩:=he
 by_cases e:k=x
 ·subst e;exact .inr (.inr ⟨hz,s,Nat.zero_le _,h1,h2⟩)
 ·exact .inr (.inl ⟨k,by omega,hz⟩)
theorem FI.bc {x t z:Nat}(h:FI (Em X m) X.length i V (Mr X m V x t))(hz:V[x]? = some z):FI (Em X m) X.length i V (Js X m V x t (Yl X t z) 0):=h.mono fun u _ y he hp=>by
 rcases hp with hp | ⟨hu,s,h1,h2,h3⟩
 ·exact .inr (.inl hp)
 ·by_cases e:s=t
  ·subst e
   rw [hz] at hu
   cases hu
   have hm:(y:Int)∈Yl X s z:=neL_mem.2 ⟨y,rfl,he.2.1,h3⟩
   obtain ⟨c,hc⟩:=List.mem_iff_getElem?.1 hm
   exact .inr (.inr ⟨hz,.inr ⟨c,Nat.zero_le _,hc⟩⟩)
  ·exact .inr (.inr ⟨hu,.inl ⟨s,by omega,h2,h3⟩⟩)
theorem FI.chave {x t:Nat}{L:List Int}{j y:Nat}(h:FI (Em X m) X.length i V (Js X m V x t L j))(hj:L[j]? = some (y:Int))(hy:y∈V):FI (Em X m) X.length i V (Js X m V x t L (j+1)):=h.mono fun z _ u _ hp=>by
 rcases hp with hp | ⟨hz,hp | ⟨c,h1,h2⟩⟩
 ·exact .inr (.inl hp)
 ·exact .inr (.inr ⟨hz,.inl hp⟩)
 ·by_cases e:c=j
  ·subst e
   rw [hj] at h2
   have:y=u:=by have:=Option.some.inj h2;omega
   exact .inl (this ▸ hy)
  ·exact .inr (.inr ⟨hz,.inr ⟨c,by omega,h2⟩⟩)
theorem FI.cadd {x t z:Nat}{L:List Int}{j y:Nat}(h:FI (Em X m) X.length i V (Js X m V x t L j))(hx:V[x]? = some z)(hj:L[j]? = some (y:Int))(he:Em X m z y)(hn:y∉V):FI (Em X m) X.length i (V++[y]) (Js X m (V++[y]) x t L (j+1)):=by
 have hxl:=(List.getElem?_eq_some_iff.1 hx).1
 have up:∀ {k w:Nat},V[k]? = some w→(V++[y])[k]? = some w:=fun {k w} hk=>by
  rw [List.getElem?_append_left (List.getElem?_eq_some_iff.1 hk).1];exact hk
 refine h.add (List.mem_iff_getElem?.2 ⟨x,hx⟩) he he.2.1 hn (fun u _ w _ hp=>?_) fun w _=>.inr (.inl ⟨V.length,hxl,by simp⟩)
 rcases hp with ⟨k,hk,hz⟩ | ⟨hz,hp | ⟨c,h1,h2⟩⟩
 ·exact .inr (.inl ⟨k,hk,up hz⟩)
 ·exact .inr (.inr ⟨up hz,.inl hp⟩)
 ·by_cases e:c=j
  ·subst e
   rw [hj] at h2
   have:y=w:=by have:=Option.some.inj h2;omega
   exact .inl (by rw [← this];simp)
  ·exact .inr (.inr ⟨up hz,.inr ⟨c,by omega,h2⟩⟩)
theorem FI.cb {x t:Nat}{L:List Int}(h:FI (Em X m) X.length i V (Js X m V x t L L.length)):FI (Em X m) X.length i V (Mr X m V x (t+1)):=h.mono fun z _ y _ hp=>by
 rcases hp with hp | ⟨hz,⟨s,h1,h2,h3⟩ | ⟨c,h1,h2⟩⟩
 ·exact .inr (.inl hp)
 ·exact .inr (.inr ⟨hz,s,by omega,h2,h3⟩)
 ·have:=(List.getElem?_eq_some_iff.1 h2).1
  omega
theorem FI.ba {x:Nat}(h:FI (Em X m) X.length i V (Mr X m V x r))(hX:Fs r X):FI (Em X m) X.length i V (G3 V (x+1)):=h.mono fun z _ y he hp=>by
 rcases hp with ⟨k,hk,hz⟩ | ⟨hz,s,h1,h2,h3⟩
 ·exact .inr ⟨k,by omega,hz⟩
 ·have:=h3.1
  rw [hX.at_len he.1] at this
  omega
theorem FI.ad (h:FI (Em X m) X.length i V (G3 V V.length)):∀ j,j∈V ↔ Rt (Em X m) i j:=h.done fun z _ y _ hp=>by
 obtain ⟨k,hk,hz⟩:=hp
 have:=(List.getElem?_eq_some_iff.1 hz).1
 omega
end
end Go.Fl
namespace Go.Proofs.YtfofabbkigonpaaDoor
open Go.Gov Go.Fl
open Classical
theorem jQ (τ:Nat→Option Nat)(L:List Int):Al τ (Ad L)=Ad L:=by simp [Al,Ad,Ej]
def nI (V:List Nat):List Int:=V.map fun x:Nat=>(x:Int)
theorem Rj (V:List Nat):(nI V).length=V.length:=by simp [nI]
theorem nM {V:List Nat}{k:Nat}(h:k<V.length):(nI V).getD k 0=(V.getD k 0:Nat):=by simp [nI,h]
theorem Yk (V:List Nat)(y:Nat):nI (V++[y])=nI V++[(y:Int)]:=by simp [nI]
end Go.Proofs.YtfofabbkigonpaaDoor
