/- Texts that belong together. -/
import Derived.Test.YtfofabbkigonpaaDoorZq
import Derived.Test.YtfofabbkigonpaaDoorZr
set_option linter.unusedSimpArgs false
set_option linter.unusedVariables false
set_option maxRecDepth 100000
namespace Go.Proofs.YtfofabbkigonpaaDoor
section
open Go.Gov
open Classical
def cD (R:List Int)(B:List (List Int)):Prop:=∀ x,x<B.length→∀ k,k<(B.getD x []).length→0≤(B.getD x []).getD k 0∧(B.getD x []).getD k 0≤(R.length:Int) - 1
theorem IsPos.rows {r:Int}{R:List Int}{B:List (List Int)}(h:IsPos r R B):cD R B∧∀ x,Gz (B.getD x []):=by
 obtain ⟨⟨a1,a2,a3,a4⟩,a5⟩:=h
 refine ⟨fun x hx k hk=>?_,fun x=>xC fun j hj=>?_⟩
 ·obtain ⟨b1,b2,b3,b4⟩:=((a5 x (by omega)).2 k hk).1
  omega
 ·by_cases hx:x<B.length
  ·have:=(((a5 x (by omega)).2 (j+1) hj).1).2.2.2 (by omega)
   simpa using this
  ·simp [hx] at hj
end
section
open Go.Gov
open Classical
section
variable (r:Int) (R:List Int) (B:List (List Int)) (i:Int) (c:List Int)
end
end
end Go.Proofs.YtfofabbkigonpaaDoor
