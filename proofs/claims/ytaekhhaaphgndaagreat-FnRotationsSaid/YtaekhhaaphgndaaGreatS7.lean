/- Texts that belong together. -/
import Derived.Test.YtaekhhaaphgndaaGreatS6
set_option linter.unusedSimpArgs false
set_option linter.unusedVariables false
set_option maxRecDepth 100000
namespace Go.Proofs.YtaekhhaaphgndaaGreat
open Go.Gov Go.Ce
open Classical
structure IsoM (M N:List (List Int)) (φ:Nat→Nat):Prop where
 n:fl M=fl N
 lt:∀ x,x<fl M→φ x<fl M
 inj:∀ x y,x<fl M→y<fl M→φ x=φ y→x=y
 mv:∀ k x,k<3→x<fl M→mv N k (φ x)=φ (mv M k x)
def Iso (M N:List (List Int)):Prop:=∃ φ,IsoM M N φ
theorem onto_of {φ:Nat→Nat}:∀ n,(∀ x,x<n→φ x<n)→(∀ x y,x<n→y<n→φ x=φ y→x=y)→∀ y,y<n→∃ x,x<n∧φ x=y:=fun n hl hi y hy=>by
 have hnd:((List.range n).map φ).Nodup:=List.pairwise_map.2 (List.nodup_range.imp_of_mem fun {a b} ha hb hne e=>hne (hi a b (List.mem_range.1 ha) (List.mem_range.1 hb) e))
 refine Classical.byContradiction fun hn=>?_
 have hnd2:(y :: (List.range n).map φ).Nodup:=List.nodup_cons.2 ⟨fun h=>by
  obtain ⟨x,hx,e⟩:=List.mem_map.1 h
  exact hn ⟨x,List.mem_range.1 hx,e⟩,hnd⟩
 have:=nodup_len (n:=n) hnd2 fun d hd=>by
  rcases List.mem_cons.1 hd with rfl | h
  ·exact hy
  ·obtain ⟨x,hx,rfl⟩:=List.mem_map.1 h
   exact hl x (List.mem_range.1 hx)
 simp at this
 omega
theorem IsoM.inv {M N:List (List Int)}{φ:Nat→Nat}(hM:IsMap M)(h:IsoM M N φ):Iso N M:=by
 have hs:=onto_of (fl M) h.lt h.inj
 let ψ:Nat→Nat:=fun y=>if hy:y<fl M then (hs y hy).choose else 0
 have p1:∀ y,(hy:y<fl M)→ψ y<fl M∧φ (ψ y)=y:=fun y hy=>by
  show (if hy:y<fl M then (hs y hy).choose else 0)<fl M∧φ (if hy:y<fl M then (hs y hy).choose else 0)=y
  rw [dif_pos hy]
  exact (hs y hy).choose_spec
 refine ⟨ψ,h.n.symm,fun y hy=>by rw [← h.n] at hy ⊢;exact (p1 y hy).1,fun x y hx hy e=>?_,fun k y hk hy=>?_⟩
 ·rw [← h.n] at hx hy
  rw [← (p1 x hx).2,← (p1 y hy).2,e]
 ·rw [← h.n] at hy
  obtain ⟨q1,q2⟩:=p1 y hy
  have h3:=h.mv k (ψ y) hk q1
  rw [q2] at h3
  have h4:=hM.mvi.lt k (ψ y) hk q1
  have h5:=h.lt _ h4
  rw [← h3] at h5
  refine h.inj _ _ h4 (p1 _ h5).1 ?_
  rw [(p1 _ h5).2,h3]
theorem IsoM.trans {M N K:List (List Int)}{φ ψ:Nat→Nat}(hM:IsMap M)(h1:IsoM M N φ)(h2:IsoM N K ψ):IsoM M K (fun x=>ψ (φ x)):=
 ⟨h1.n.trans h2.n,fun x hx=>by rw [h1.n];exact h2.lt _ (by rw [← h1.n];exact h1.lt x hx),fun x y hx hy e=>h1.inj x y hx hy (h2.inj _ _ (by rw [← h1.n];exact h1.lt x hx) (by rw [← h1.n];exact h1.lt y hy) e),
  fun k x hk hx=>by rw [h2.mv k _ hk (by rw [← h1.n];exact h1.lt x hx),h1.mv k x hk hx]⟩
theorem Iso.refl (M:List (List Int)):Iso M M:=⟨id,rfl,fun _ h=>h,fun _ _ _ _ e=>e,fun _ _ _ _=>rfl⟩
theorem Iso.trans {M N K:List (List Int)}(hM:IsMap M)(h1:Iso M N)(h2:Iso N K):Iso M K:=by
 obtain ⟨_,a⟩:=h1
 obtain ⟨_,b⟩:=h2
 exact ⟨_,a.trans hM b⟩
end Go.Proofs.YtaekhhaaphgndaaGreat
