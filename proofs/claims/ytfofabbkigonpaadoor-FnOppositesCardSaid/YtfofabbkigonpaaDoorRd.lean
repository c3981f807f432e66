/- Texts that belong together. -/
import Derived.OpenShut
import Derived.Test.YtfofabbkigonpaaDoorR5
set_option linter.unusedSimpArgs false
set_option linter.unusedVariables false
set_option maxRecDepth 100000
namespace Go.Gov
open Go.ChangeShapes Go.WideShapes
theorem uN {K : Type} {enc : TypeId × Value → K} {P : Program} {w : World} {base : Nat} {spare : Nat → Bool} {held : Bool} {t e : TypeId} {fuel : Nat} {cs : List Value} {x : DataW K × List MemPlace} (ht : P.underlying t = some (.slice e)) (he : P.underlying e = some (.int .u8)) (hc : P.cellsOf e = 1)
    (h:DataW.trod enc P w base spare held fuel t cs=some x):∃ v xs,cs=[v]∧xs.length≤maxLen∧(∀ k,k<xs.length→0≤xs.getD k 0∧xs.getD k 0≤255)∧∀ tr,Rd w tr (fun b=>b<w.heap.size) (Ds xs) v []:=by
 rcases open_ints ht he hc h with ⟨rfl,_⟩ | ⟨a,len,cap,zs,rfl,hb,hl,hm,hz,_,hcell,hw⟩
 ·exact ⟨_,[],rfl,Nat.zero_le _,fun k hk=>by simp at hk,fun tr=>.slc0 (Nat.zero_le _)⟩
 ·have hlz:len≤zs.length:=by rw [hz];split<;>omega
  refine ⟨_,zs.take len,rfl,by rw [List.length_take];omega,fun k hk=>?_,fun tr=>?_⟩
  ·rw [List.length_take] at hk
   have h1:(zs.take len).getD k 0=zs[k]'(by omega):=by simp [List.getElem?_take,show k<len by omega,show k<zs.length by omega]
   rw [h1]
   have h2:=range_u8 hw k
   simpa [show k<zs.length by omega] using h2
  show Rd w tr _ (.slc 1 (zs.take len).length (Cg (zs.take len))) _ []
  rw [show (zs.take len).length=len by rw [List.length_take];omega]
  by_cases h0:len=0
  ·subst h0
   simp only [List.take_zero,Cg,List.map_nil]
   exact .slc0 hm
  ·obtain ⟨h1,h2⟩:=eR (by simpa [Addr.add] using hcell 0 (by omega))
   obtain ⟨b,off,s⟩:=a
   dsimp only at h1 h2
   subst h1
   refine .slc (fun m=>.int .u8 (zs.getD m 0)) (by simp [Cg];omega) hl hm h2 (fun m hm' => ?_) (fun m hm' => ?_)
   ·simp only [Cg,List.length_map,List.length_take] at hm'
    exact eQ rfl (hcell m (by omega))
   ·simp only [Cg,List.length_map,List.length_take] at hm'
    have:(Cg (zs.take len))[m] = .val (.int .u8 (zs.getD m 0)):=by simp [Cg,show m<zs.length by omega]
    rw [this]
    exact .val
end Go.Gov
