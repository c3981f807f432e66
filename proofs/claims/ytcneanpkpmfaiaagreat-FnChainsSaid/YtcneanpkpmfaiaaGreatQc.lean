/- Texts that belong together. -/
import Derived.Test.YtcneanpkpmfaiaaGreatY6
set_option linter.unusedSimpArgs false
set_option linter.unusedVariables false
set_option maxRecDepth 100000
namespace Go.Proofs.YtcneanpkpmfaiaaGreat
section
open Classical
section
variable {f:Int→List Int} {es:List Int}
theorem Acj {E2:List Int}(hf:∀ e,sst (f e))(hcyc:∀ g∈E2,bd f (f g)=[]∧∀ e∈f g,e∈es){v:List Int}(h:Sp (fun g=>∃ e∈E2,g=f e) v):sst v∧bd f v=[]∧∀ e∈v,e∈es:=by
 induction h with
 | zero=>exact ⟨Es,Rn,by simp⟩
 | add hg _ ih=>
  obtain ⟨e,he,rfl⟩:=hg
  obtain ⟨i1,i2,i3⟩:=ih
  obtain ⟨h1,h2⟩:=hcyc e he
  refine ⟨Bt (hf e) i1,by rw [Ob hf,h1,i2,H4],fun x hx=>?_⟩
  have h3:=(Dt (hf e) i1 x).1 hx
  by_cases h4:x∈f e
  ·exact h2 x h4
  ·exact i3 x (Classical.byContradiction fun h5=>h3 (iff_of_false h4 h5))
end
end
section
open Go.Gov
open Classical
theorem mem_plc {R:List Int}{i e:Int}:e∈Ba R i ↔ 0≤e∧e<R.length∧R.getD e.toNat 0=i:=mem_plcN
theorem mC {r:Int}{R:List Int}{B:List (List Int)}(hp:IsPos r R B)(he:Gf R B){i:Int}(hi:1<i):∀ g∈Ba R i,bd (At R B) (At R B g)=[]∧∀ e∈At R B g,e∈Ba R (i - 1):=fun g hg=>by
 obtain ⟨g1,g2,g3⟩:=mem_plc.1 hg
 have hg4:((g.toNat:Nat):Int)=g:=by omega
 refine ⟨?_,fun e hm=>?_⟩
 ·have:=(he g.toNat (by omega)).2 (by omega)
  rw [hg4] at this
  exact this
 ·have hm2:=List.mem_filter.1 hm
  have hbl:=Ru hp g e hm
  obtain ⟨k,hk,hke⟩:=List.mem_iff_getElem.1 hm2.1
  have h1:=hp.rows.1 g.toNat (by have:=hp.1.2.2.2;omega) k hk
  rw [Dj _ k hk,hke] at h1
  have h2:R.getD e.toNat 0=R.getD g.toNat 0 - 1:=by
   have:=hm2.2
   unfold B6 at this
   simpa using this
  exact mem_plc.2 ⟨h1.1,by omega,by omega⟩
end
end Go.Proofs.YtcneanpkpmfaiaaGreat
