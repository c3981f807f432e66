/- Texts that belong together. -/
import Derived.Test.YtnompobcofhkpaaGreatDoorRs
set_option linter.unusedSimpArgs false
set_option linter.unusedVariables false
set_option maxRecDepth 100000
namespace Go.Proofs.YtnompobcofhkpaaGreatDoor
open Go.Gov Go.Nt
open Classical
variable (tp tq:TypeId) (p q:Value)
theorem wF (l:List UInt8)(hs:l.length≤1048576):PureG Tryz.prog (LV tp tq p q) 8 [sV l] (.tup [.agg [.sl 0 1 0 (Bz l).length],i64 (B3 l)]) [some ((Bz l).map Ac)]:=by
 have h:=iY tp tq p q l hs
 generalize Bz l=M at *
 generalize B3 l=c at *
 refine Hk ok8 rfl ?_;unfold c8
 refine RN ?_
 refine Gs (h) ?_
 refine RN ?_
 exact Ref.gc2 [2]
end Go.Proofs.YtnompobcofhkpaaGreatDoor
