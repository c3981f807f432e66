/- Texts that belong together. -/
import Derived.Test.YtfofabbkigonpaaDoorY2
set_option linter.unusedSimpArgs false
set_option linter.unusedVariables false
set_option maxRecDepth 100000
namespace Go.Proofs.YtfofabbkigonpaaDoor
section
open Go.Gov
open Classical
inductive C5 (r:Int) (R:List Int) (B:List (List Int)):Nat→Prop
 | top {x:Nat}:x<R.length→R.getD x 0=r - 1→C5 r R B x
 | up {x f:Nat}:f<R.length→C5 r R B f→R.getD x 0=R.getD f 0 - 1→(x:Int)∈B.getD f []→C5 r R B x
section
variable (r:Int) (R:List Int) (B:List (List Int))
noncomputable def nxt (start:List Int):List Nat:=(List.range R.length).filter fun e=>decide (R.getD e 0=start.length∧C5 r R B e∧(start=[]∨start.getLastD 0∈B.getD e []))
noncomputable def Cv:Nat→List Int→List (List Int)
 | 0,start=>[start]
 | k+1,start=>(nxt r R B start).flatMap fun e:Nat=>Cv k (start++[(e:Int)])
end
theorem Md {α:Type}(n:Nat)(l a b:List α):((l++a).take n++b).take n=(l++a++b).take n:=by
 rw [List.take_append (l₁:=(l++a).take n),List.take_append (l₁:=l++a),List.take_take,Nat.min_self]
 congr 1
 rcases Nat.lt_or_ge n (l++a).length with h | h
 ·rw [List.length_take,Nat.min_eq_left (by omega),Nat.sub_self,Nat.sub_eq_zero_of_le (by omega)]
 ·rw [List.take_of_length_le h]
theorem xT {α:Type}{n:Nat}{l:List α}(h:l.length=n)(a:List α):(l++a).take n=l:=by
 rw [← h,List.take_left']
 rfl
end
section
open Go.Gov
open Classical
theorem vT (Y:List Bool)(x e:Nat)(h:x<Y.length):(Y.set x true).getD e false=(decide (e=x) || Y.getD e false):=by
 rw [List.getD_eq_getElem?_getD,List.getD_eq_getElem?_getD,List.getElem?_set]
 by_cases he:x=e
 ·subst he;simp [h]
 ·simp [he,show ¬ e=x from fun h=>he h.symm]
theorem IsPos.low {r:Int}{R:List Int}{B:List (List Int)}(hp:IsPos r R B)(f x:Nat)(hf:f<R.length)(h:(x:Int)∈B.getD f []):x<f:=by
 obtain ⟨j,hj,he⟩:=List.mem_iff_getElem.1 h
 have:=((hp.2 f hf).2 j hj).1
 unfold Ep at this
 rw [B6 _ j hj,he] at this
 omega
end
section
open Go.Gov
open Classical
section
variable (r:Int) (R:List Int) (B:List (List Int))
def Rl (start:List Int)(e:Nat):Prop:=R.getD e 0=start.length∧C5 r R B e∧(start=[]∨start.getLastD 0∈B.getD e [])
noncomputable def Nn (k:Nat)(start:List Int)(j:Nat):List (List Int):=((List.range j).filter fun e=>decide (Rl r R B start e)).flatMap fun e:Nat=>Cv r R B k (start++[(e:Int)])
noncomputable def Ax:List (List Int):=Cv r R B r.toNat []
end
variable {r:Int} {R:List Int} {B:List (List Int)}
theorem Qo (k:Nat)(start:List Int):Cv r R B (k+1) start=Nn r R B k start R.length:=by
 show (nxt r R B start).flatMap _=_
 unfold nxt Nn
 congr 1
 exact List.filter_congr fun e _=>decide_eq_decide.2 Iff.rfl
theorem V7:∀ (k:Nat) (start f:List Int),f∈Cv r R B k start→f.length=start.length+k∧∀ x∈f,x∈start∨(0≤x∧x≤(R.length:Int) - 1)
 | 0,start,f,h=>by
  obtain rfl:f=start:=by simpa [Cv] using h
  exact ⟨rfl,fun x hx=>.inl hx⟩
 | k+1,start,f,h=>by
  rw [Qo] at h
  obtain ⟨e,he,hf⟩:=List.mem_flatMap.1 h
  have h1:=List.mem_range.1 (List.mem_filter.1 he).1
  obtain ⟨h2,h3⟩:=V7 k _ f hf
  refine ⟨by rw [h2];simp;omega,fun x hx=>?_⟩
  rcases h3 x hx with h | h
  ·rcases List.mem_append.1 h with h | h
   ·exact .inl h
   ·obtain rfl:x=(e:Int):=by simpa using h
    exact .inr ⟨by omega,by omega⟩
  ·exact .inr h
theorem S7 {f:List Int}(h:f∈Ax r R B):(f.length:Int)=r.toNat∧∀ k,k<f.length→0≤f.getD k 0∧f.getD k 0≤(R.length:Int) - 1:=by
 obtain ⟨h1,h2⟩:=V7 _ _ f h
 refine ⟨by rw [h1];simp,fun k hk=>?_⟩
 rw [B6 _ k hk]
 rcases h2 _ (List.getElem_mem hk) with h | h
 ·simp at h
 ·exact h
end
section
open Go.Gov
open Classical
def Jn (R:List Int)(F:List (List Int)):Prop:=∀ e:Nat,e<R.length→∃ f∈F,(e:Int)∈f
def Sn (F:List (List Int))(i k e:Nat):Prop:=(∃ i', i' < i∧(e:Int)∈F.getD i' [])∨∃ k', k' < k∧(F.getD i []).getD k' 0=(e:Int)
theorem wQ (F:List (List Int))(e:Nat):¬ Sn F 0 0 e:=by
 rintro (⟨_,h,_⟩ | ⟨_,h,_⟩)<;>omega
theorem wR (F:List (List Int))(i k e:Nat):Sn F i (k+1) e ↔ Sn F i k e∨(F.getD i []).getD k 0=(e:Int):=by
 unfold Sn
 constructor
 ·rintro (h | ⟨k', h1,h2⟩)
  ·exact .inl (.inl h)
  ·rcases Nat.lt_or_ge k' k with h | h
   ·exact .inl (.inr ⟨k', h,h2⟩)
   ·obtain rfl:k' = k:=by omega
    exact .inr h2
 ·rintro ((h | ⟨k', h1,h2⟩) | h)
  ·exact .inl h
  ·exact .inr ⟨k', by omega,h2⟩
  ·exact .inr ⟨k,by omega,h⟩
theorem wP (F:List (List Int))(i e:Nat):Sn F i (F.getD i []).length e ↔ Sn F (i+1) 0 e:=by
 unfold Sn
 constructor
 ·rintro (⟨i', h1,h2⟩ | ⟨k', h1,h2⟩)
  ·exact .inl ⟨i', by omega,h2⟩
  ·refine .inl ⟨i,by omega,?_⟩
   rw [← h2,B6 _ _ h1]
   exact List.getElem_mem h1
 ·rintro (⟨i', h1,h2⟩ | ⟨k', h1,h2⟩)
  ·rcases Nat.lt_or_ge i' i with h | h
   ·exact .inl ⟨i', h,h2⟩
   ·obtain rfl:i' = i:=by omega
    obtain ⟨k,h3,h4⟩:=List.mem_iff_getElem.1 h2
    exact .inr ⟨k,h3,by rw [B6 _ _ h3,h4]⟩
  ·omega
theorem wO (F:List (List Int))(e:Nat):Sn F F.length 0 e ↔ ∃ f∈F,(e:Int)∈f:=by
 unfold Sn
 constructor
 ·rintro (⟨i', h1,h2⟩ | ⟨k', h1,h2⟩)
  ·refine ⟨F.getD i' [],?_,h2⟩
   rw [show F.getD i' []=F[i'] by simp [h1]]
   exact List.getElem_mem h1
  ·omega
 ·rintro ⟨f,h1,h2⟩
  obtain ⟨i,h3,rfl⟩:=List.mem_iff_getElem.1 h1
  exact .inl ⟨i,h3,by rwa [show F.getD i []=F[i] by simp [h3]]⟩
theorem dH {Y:List Bool}{n:Nat}{p:Nat→Prop}(hl:Y.length=n)(h:∀ e,e<n→Y.getD e false=decide (p e)):(∀ b∈Y,true=b) ↔ ∀ e,e<n→p e:=by
 constructor
 ·intro hb e he
  have h1:=h e he
  rw [show Y.getD e false=Y[e]'(by omega) by simp [show e<Y.length by omega],← hb _ (List.getElem_mem _)] at h1
  exact of_decide_eq_true h1.symm
 ·intro hp b hb
  obtain ⟨e,he,rfl⟩:=List.mem_iff_getElem.1 hb
  have h1:=h e (by omega)
  rw [decide_eq_true (hp e (by omega)),show Y.getD e false=Y[e] by simp [he]] at h1
  exact h1.symm
theorem fY {R:List Int}{F:List (List Int)}{Y:List Bool}(hl:Y.length=R.length)(h:∀ e,e<R.length→Y.getD e false=decide (Sn F F.length 0 e)):false∉Y ↔ Jn R F:=by
 have:false∉Y ↔ ∀ b∈Y,true=b:=by
  constructor
  ·intro h b hb
   cases b
   ·exact absurd hb h
   ·rfl
  ·intro h hb
   exact absurd (h _ hb) (by decide)
 rw [this,dH hl h]
 exact forall_congr' fun e=>imp_congr_right fun _=>wO F e
end
end Go.Proofs.YtfofabbkigonpaaDoor
