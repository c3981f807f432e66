/- Texts that belong together. -/
import Derived.Test.YtnncgfapobilaaaGreatDoorZk
set_option linter.unusedSimpArgs false
set_option linter.unusedVariables false
set_option maxRecDepth 100000
namespace Go.Proofs.YtnncgfapobilaaaGreatDoor
section
open Go.Gov
abbrev maniA (M : List (List Int)) : AV := .agg [mat M]
abbrev maniP (M : List (List Int)) : AV := .pto [mat M] 0
end
section
open Go.Gov
theorem sizeRows_c (M : List (List Int)) (hl : M.length ≤ 1048576) : Pure Tryz.prog 153 [mat M] (i64 M.length) [] := by
 refine pureV ok153 rfl ?_; unfold c153
 (refine RN ?_; try with_reducible exact trivial)
theorem rank_c (M : List (List Int)) (hl : M.length ≤ 1048576) : Pure Tryz.prog 125 [maniP M] (i64 M.length) [] := by
 refine pureV ok125 rfl ?_; unfold c125
 refine RN ?_
 refine pureC1 (sizeRows_c M hl) ?_
 (refine RN ?_; try with_reducible exact trivial)
theorem flags_c (M : List (List Int)) (h0 : 0 < M.length) (hl : M.length ≤ 1048576) (hr : (M.getD 0 []).length ≤ 1048576) : Pure Tryz.prog 50 [maniP M] (i64 (M.getD 0 []).length) [] := by
 refine pureV ok50 rfl ?_; unfold c50
 (refine RN ?_; try with_reducible exact trivial)
 (try simp only [show Int.toNat 0 = 0 from rfl])
 refine pureC1 (size_c (M.getD 0 []) (by omega)) ?_
 (refine RN ?_; try with_reducible exact trivial)
theorem l02Flags_c (M : List (List Int)) (h0 : 0 < M.length) (hl : M.length ≤ 1048576) (hr : (M.getD 0 []).length ≤ 1048576) : Pure Tryz.prog 45 [maniA M] (i64 (M.getD 0 []).length) [] := by
 refine pureV0 ok45 rfl rfl ?_; unfold c45
 (refine RN ?_; try with_reducible exact trivial)
 try rfl
end
end Go.Proofs.YtnncgfapobilaaaGreatDoor
