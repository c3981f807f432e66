/- Texts that belong together. -/
import Derived.Test.YtaekhhaaphgndaaGreatDoorX6
import Derived.Test.YtaekhhaaphgndaaGreatDoorX7
set_option linter.unusedSimpArgs false
set_option linter.unusedVariables false
set_option maxRecDepth 100000
namespace Go.Proofs.YtaekhhaaphgndaaGreatDoor
open Go.Gov
open Classical
def DescL (l:List (List Int)):Prop:=l.Pairwise fun a b=>b.length≤a.length
structure GrI (T:List (List Int)) (j:Nat) (O:List (List Int)):Prop where
 mem:∀ x∈O,x≠[]∧x∈T.take j
 cov:∀ x∈T.take j,x≠[]→∃ y∈O,x.Sublist y
 apart:O.Pairwise fun a b=>b.length≤a.length∧¬ b.Sublist a
theorem take_one {T:List (List Int)}{j:Nat}(hj:j<T.length):T.take (j+1)=T.take j++[T.getD j []]:=by
 rw [List.take_succ_eq_append_getElem hj]
 simp [hj]
theorem GrI.skip {T O:List (List Int)}{j:Nat}(h:GrI T j O)(hj:j<T.length)(hs:T.getD j []=[]∨∃ y∈O,(T.getD j []).Sublist y):GrI T (j+1) O:=by
 refine ⟨fun x hx=>⟨(h.mem x hx).1,?_⟩,fun x hx hx0=>?_,h.apart⟩
 ·rw [take_one hj];exact List.mem_append_left _ (h.mem x hx).2
 ·rw [take_one hj] at hx
  rcases List.mem_append.1 hx with hx | hx
  ·exact h.cov x hx hx0
  ·obtain rfl:=List.mem_singleton.1 hx
   rcases hs with hs | hs
   ·exact absurd hs hx0
   ·exact hs
theorem desc_take {T:List (List Int)}(hD:DescL T){j:Nat}(hj:j<T.length){x:List Int}(hx:x∈T.take j):(T.getD j []).length≤x.length:=by
 obtain ⟨i,hi,rfl⟩:=List.mem_iff_getElem.1 hx
 have hil:i<j:=by rw [List.length_take] at hi;omega
 have:=(List.pairwise_iff_getElem.1 hD) i j (by omega) hj hil
 rw [List.getElem_take]
 simpa [hj] using this
theorem GrI.put {T O:List (List Int)}{j:Nat}(h:GrI T j O)(hD:DescL T)(hj:j<T.length)(h0:T.getD j []≠[])(hs:¬ ∃ y∈O,(T.getD j []).Sublist y):GrI T (j+1) (O++[T.getD j []]):=by
 refine ⟨fun x hx=>?_,fun x hx hx0=>?_,?_⟩
 ·rw [take_one hj]
  rcases List.mem_append.1 hx with hx | hx
  ·exact ⟨(h.mem x hx).1,List.mem_append_left _ (h.mem x hx).2⟩
  ·obtain rfl:=List.mem_singleton.1 hx
   exact ⟨h0,List.mem_append_right _ (by simp)⟩
 ·rw [take_one hj] at hx
  rcases List.mem_append.1 hx with hx | hx
  ·obtain ⟨y,hy,hxy⟩:=h.cov x hx hx0
   exact ⟨y,List.mem_append_left _ hy,hxy⟩
  ·obtain rfl:=List.mem_singleton.1 hx
   exact ⟨_,List.mem_append_right _ (by simp),List.Sublist.refl _⟩
 ·refine List.pairwise_append.2 ⟨h.apart,by simp,fun a ha b hb=>?_⟩
  obtain rfl:=List.mem_singleton.1 hb
  exact ⟨desc_take hD hj (h.mem a ha).2,fun hab=>hs ⟨a,ha,hab⟩⟩
def Seen (O:List (List Int))(n:ByteArray):Prop:=∃ x∈O,∃ p:List Int,p.Sublist x∧n=kT p
def SeenK (O:List (List Int))(x:List Int)(k i:Nat)(n:ByteArray):Prop:=Seen O n∨(∃ p:List Int,p.Sublist x∧p.length<k∧n=kT p)∨∃ p∈(prt k x).take i,n=kT p
theorem SeenK.zero (O:List (List Int))(x:List Int)(n:ByteArray):Seen O n ↔ SeenK O x 0 0 n:=by simp [SeenK]
theorem SeenK.step {O:List (List Int)}{x:List Int}{k i:Nat}(hi:i<(prt k x).length)(n:ByteArray):(SeenK O x k i n∨n=kT ((prt k x).getD i [])) ↔ SeenK O x k (i+1) n:=by
 unfold SeenK
 rw [take_one hi]
 simp only [List.mem_append,List.mem_singleton]
 constructor
 ·rintro ((h | h | ⟨p,hp,h⟩) | h)
  ·exact .inl h
  ·exact .inr (.inl h)
  ·exact .inr (.inr ⟨p,.inl hp,h⟩)
  ·exact .inr (.inr ⟨_,.inr rfl,h⟩)
 ·rintro (h | h | ⟨p,hp | hp,h⟩)
  ·exact .inl (.inl h)
  ·exact .inl (.inr (.inl h))
  ·exact .inl (.inr (.inr ⟨p,hp,h⟩))
  ·exact .inr (by rw [h,hp])
end Go.Proofs.YtaekhhaaphgndaaGreatDoor
