/- Texts that belong together. -/
import Derived.Test.YtfcbamfkfadabaaGreatDoorZk
import Derived.Test.YtfcbamfkfadabaaGreatDoorZq
import Derived.Test.YtfcbamfkfadabaaGreatDoorZr
import Derived.Test.YtfcbamfkfadabaaGreatDoorZt
import Derived.Test.YtfcbamfkfadabaaGreatDoorX2
import Derived.Test.YtfcbamfkfadabaaGreatDoorR4
import Derived.Test.YtfcbamfkfadabaaGreatDoorRn
set_option linter.unusedSimpArgs false
set_option linter.unusedVariables false
set_option maxRecDepth 100000
namespace Go.Proofs.YtfcbamfkfadabaaGreatDoor
open Go.Gov
open Classical

end Go.Proofs.YtfcbamfkfadabaaGreatDoor
set_option maxRecDepth 100000
namespace Go.Proofs.YtfcbamfkfadabaaGreatDoor
open Go.Gov
open Classical

end Go.Proofs.YtfcbamfkfadabaaGreatDoor
set_option maxRecDepth 100000
namespace Go.Proofs.YtfcbamfkfadabaaGreatDoor
open Go.Gov Go.Ce
open Classical

theorem isDiagram1_c (p : Int) (h : 2 ≤ p ∧ p ≤ 32) : Pure Tryz.prog 121 [i64 p] (bl false) [] := by
  have hw := within_c p 2 32
  rw [decide_eq_true h.1, decide_eq_true h.2] at hw
  have hne : (p != 0) = true := bne_iff_ne.2 (by omega)
  refine pureV0 ok121 rfl rfl ?_; unfold c121
  refine RN ?_
  rw [hne]
  refine GC1 (bl true ) (fun hg =>  hw) ?_
  (refine RN ?_; try with_reducible exact trivial)
theorem isDiagram_c (a b : Nat) (ha : 2 ≤ a ∧ a ≤ 32) (hb : 2 ≤ b ∧ b ≤ 32) : Pure Tryz.prog 69 [ints [(a : Int), (b : Int)]] (bl true) [] := by
  have hcf := containsFuncM_c [(a : Int), (b : Int)] 121 [] [] (fun _ => false) (by simp) (fun i hi => by
    have : i = 0 ∨ i = 1 := by simp at hi; omega
    rcases this with rfl | rfl
    · exact isDiagram1_c (a : Int) (by omega)
    · exact isDiagram1_c (b : Int) (by omega)) (by kernel_rfl) rfl rfl rfl rfl
  rw [show ([(a : Int), (b : Int)].any fun _ => false) = false by simp] at hcf
  refine pureV0 ok69 rfl rfl ?_; unfold c69
  refine RN ?_
  rw [show decide (((2 : Nat) : Int) < 5) = true from rfl]
  refine GC1 (bl false ) (fun hg =>  hcf) ?_
  (refine RN ?_; try with_reducible exact trivial)
end Go.Proofs.YtfcbamfkfadabaaGreatDoor
