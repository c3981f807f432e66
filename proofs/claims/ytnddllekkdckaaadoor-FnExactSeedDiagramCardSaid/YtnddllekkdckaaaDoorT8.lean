/- Texts that belong together. -/
import Derived.Test.YtnddllekkdckaaaDoorZj
import Derived.Test.YtnddllekkdckaaaDoorT5
set_option linter.unusedSimpArgs false
set_option linter.unusedVariables false
set_option maxRecDepth 100000
namespace Go.Proofs.YtnddllekkdckaaaDoor
open Go.Gov Go.Nt
open Classical
variable (tp tq : TypeId) (p q : Value)

set_option maxHeartbeats 2000000 in
theorem lawLSg_c (l : List UInt8) (hs : l.length ≤ 9223372036854775807) : PureG Tryd.prog (LV tp tq p q) 6 [sV l] (bl true) [] := by
  refine pureGV ok6 rfl ?_; unfold c6
  (repeat first | simp only [go_sem, ↓reduceIte, Nat.reduceEqDiff, Nat.reduceAdd, reduceCtorEq] | with_reducible refine V_W ?_ | (with_reducible refine And.intro ?_ ?_; focus first | assumption | omega | decide | grind) | (with_reducible refine Br.mk ?_ ?_; focus (intros; omega)) | decide)
  refine ⟨fun hc => ?_, fun hc => ?_⟩
  · (repeat first | simp only [go_sem, ↓reduceIte, Nat.reduceEqDiff, Nat.reduceAdd, reduceCtorEq] | with_reducible refine V_W ?_ | (with_reducible refine And.intro ?_ ?_; focus first | assumption | omega | decide | grind) | (with_reducible refine Br.mk ?_ ?_; focus (intros; omega)) | decide)
    exact Ref.gc [] rfl (by simp only [go_sem, ↓reduceIte, Nat.reduceEqDiff, Nat.reduceAdd, reduceCtorEq]) (by simp [sub, fget, go_sem, ↓reduceIte, Nat.reduceEqDiff, Nat.reduceAdd, reduceCtorEq])
  have gv0 : (dgA l).length ≤ 1099511627776 := by have := dgA_len l; omega
  have hS := specSd_c l (by omega)
  have hI := implSd_c tp tq p q l (by omega)
  generalize dgA l = Z0 at hS hI gv0
  generalize ntK l = Z1 at hS hI
  (repeat first | simp only [go_sem, ↓reduceIte, Nat.reduceEqDiff, Nat.reduceAdd, reduceCtorEq] | with_reducible refine V_W ?_ | (with_reducible refine And.intro ?_ ?_; focus first | assumption | omega | decide | grind) | (with_reducible refine Br.mk ?_ ?_; focus (intros; omega)) | decide)
  refine pureC (hS) (by simp only [go_sem, ↓reduceIte, Nat.reduceEqDiff, Nat.reduceAdd, reduceCtorEq] <;> rfl) (by first | rfl | simp only [go_sem, ↓reduceIte, Nat.reduceEqDiff, Nat.reduceAdd, reduceCtorEq]) ?_
  (repeat first | simp only [go_sem, ↓reduceIte, Nat.reduceEqDiff, Nat.reduceAdd, reduceCtorEq] | with_reducible refine V_W ?_ | (with_reducible refine And.intro ?_ ?_; focus first | assumption | omega | decide | grind) | (with_reducible refine Br.mk ?_ ?_; focus (intros; omega)) | decide)
  refine pureGC 0 (hI) rfl (by simp only [go_sem, ↓reduceIte, Nat.reduceEqDiff, Nat.reduceAdd, reduceCtorEq] <;> rfl) (by first | rfl | simp only [go_sem, ↓reduceIte, Nat.reduceEqDiff, Nat.reduceAdd, reduceCtorEq]) ?_
  (repeat first | simp only [go_sem, ↓reduceIte, Nat.reduceEqDiff, Nat.reduceAdd, reduceCtorEq] | with_reducible refine V_W ?_ | (with_reducible refine And.intro ?_ ?_; focus first | assumption | omega | decide | grind) | (with_reducible refine Br.mk ?_ ?_; focus (intros; omega)) | decide)
  refine pureC (eqInt64S_c Z0 Z0 gv0 gv0) (by simp only [go_sem, ↓reduceIte, Nat.reduceEqDiff, Nat.reduceAdd, reduceCtorEq] <;> rfl) (by first | rfl | simp only [go_sem, ↓reduceIte, Nat.reduceEqDiff, Nat.reduceAdd, reduceCtorEq]) ?_
  (repeat first | simp only [go_sem, ↓reduceIte, Nat.reduceEqDiff, Nat.reduceAdd, reduceCtorEq] | with_reducible refine V_W ?_ | (with_reducible refine And.intro ?_ ?_; focus first | assumption | omega | decide | grind) | (with_reducible refine Br.mk ?_ ?_; focus (intros; omega)) | decide)
  (try with_reducible refine fun _ => ?_)
  (repeat first | simp only [go_sem, ↓reduceIte, Nat.reduceEqDiff, Nat.reduceAdd, reduceCtorEq] | with_reducible refine V_W ?_ | (with_reducible refine And.intro ?_ ?_; focus first | assumption | omega | decide | grind) | (with_reducible refine Br.mk ?_ ?_; focus (intros; omega)) | decide)
  refine wriC (markInt64S_c Z0 (1) gv0 (by omega) (by omega)) [2] (by first | rfl | simp) (by simp only [go_sem, ↓reduceIte, Nat.reduceEqDiff, Nat.reduceAdd, reduceCtorEq] <;> rfl) (by simp only [go_sem, ↓reduceIte, Nat.reduceEqDiff, Nat.reduceAdd, reduceCtorEq] <;> rfl) (by first | rfl | simp only [go_sem, ↓reduceIte, Nat.reduceEqDiff, Nat.reduceAdd, reduceCtorEq]) ?_
  (repeat first | simp only [go_sem, ↓reduceIte, Nat.reduceEqDiff, Nat.reduceAdd, reduceCtorEq] | with_reducible refine V_W ?_ | (with_reducible refine And.intro ?_ ?_; focus first | assumption | omega | decide | grind) | (with_reducible refine Br.mk ?_ ?_; focus (intros; omega)) | decide)
  refine pureC (heldS_c Z0.length (1) gv0 (by omega) (by omega)) (by simp only [go_sem, ↓reduceIte, Nat.reduceEqDiff, Nat.reduceAdd, reduceCtorEq, take_up, take_upR]) (by first | rfl | simp only [go_sem, ↓reduceIte, Nat.reduceEqDiff, Nat.reduceAdd, reduceCtorEq]) ?_
  (repeat first | simp only [go_sem, ↓reduceIte, Nat.reduceEqDiff, Nat.reduceAdd, reduceCtorEq] | with_reducible refine V_W ?_ | (with_reducible refine And.intro ?_ ?_; focus first | assumption | omega | decide | grind) | (with_reducible refine Br.mk ?_ ?_; focus (intros; omega)) | decide)
  (try with_reducible refine fun _ => ?_)
  (repeat first | simp only [go_sem, ↓reduceIte, Nat.reduceEqDiff, Nat.reduceAdd, reduceCtorEq] | with_reducible refine V_W ?_ | (with_reducible refine And.intro ?_ ?_; focus first | assumption | omega | decide | grind) | (with_reducible refine Br.mk ?_ ?_; focus (intros; omega)) | decide)
  (try with_reducible refine fun _ => ?_)
  (repeat first | simp only [go_sem, ↓reduceIte, Nat.reduceEqDiff, Nat.reduceAdd, reduceCtorEq] | with_reducible refine V_W ?_ | (with_reducible refine And.intro ?_ ?_; focus first | assumption | omega | decide | grind) | (with_reducible refine Br.mk ?_ ?_; focus (intros; omega)) | decide)
  refine pureGC 0 (hI) rfl (by simp only [go_sem, ↓reduceIte, Nat.reduceEqDiff, Nat.reduceAdd, reduceCtorEq] <;> rfl) (by first | rfl | simp only [go_sem, ↓reduceIte, Nat.reduceEqDiff, Nat.reduceAdd, reduceCtorEq]) ?_
  (repeat first | simp only [go_sem, ↓reduceIte, Nat.reduceEqDiff, Nat.reduceAdd, reduceCtorEq] | with_reducible refine V_W ?_ | (with_reducible refine And.intro ?_ ?_; focus first | assumption | omega | decide | grind) | (with_reducible refine Br.mk ?_ ?_; focus (intros; omega)) | decide)
  refine pureC (eqInt64S_c Z0 Z0 gv0 gv0) (by simp only [go_sem, ↓reduceIte, Nat.reduceEqDiff, Nat.reduceAdd, reduceCtorEq] <;> rfl) (by first | rfl | simp only [go_sem, ↓reduceIte, Nat.reduceEqDiff, Nat.reduceAdd, reduceCtorEq]) ?_
  (repeat first | simp only [go_sem, ↓reduceIte, Nat.reduceEqDiff, Nat.reduceAdd, reduceCtorEq] | with_reducible refine V_W ?_ | (with_reducible refine And.intro ?_ ?_; focus first | assumption | omega | decide | grind) | (with_reducible refine Br.mk ?_ ?_; focus (intros; omega)) | decide)
  (try with_reducible refine fun _ => ?_)
  (repeat first | simp only [go_sem, ↓reduceIte, Nat.reduceEqDiff, Nat.reduceAdd, reduceCtorEq] | with_reducible refine V_W ?_ | (with_reducible refine And.intro ?_ ?_; focus first | assumption | omega | decide | grind) | (with_reducible refine Br.mk ?_ ?_; focus (intros; omega)) | decide)
  refine pureC (heldS_c Z0.length (1) gv0 (by omega) (by omega)) (by simp only [go_sem, ↓reduceIte, Nat.reduceEqDiff, Nat.reduceAdd, reduceCtorEq, take_up, take_upR]) (by first | rfl | simp only [go_sem, ↓reduceIte, Nat.reduceEqDiff, Nat.reduceAdd, reduceCtorEq]) ?_
  (repeat first | simp only [go_sem, ↓reduceIte, Nat.reduceEqDiff, Nat.reduceAdd, reduceCtorEq] | with_reducible refine V_W ?_ | (with_reducible refine And.intro ?_ ?_; focus first | assumption | omega | decide | grind) | (with_reducible refine Br.mk ?_ ?_; focus (intros; omega)) | decide)
  (try with_reducible refine fun _ => ?_)
  (repeat first | simp only [go_sem, ↓reduceIte, Nat.reduceEqDiff, Nat.reduceAdd, reduceCtorEq] | with_reducible refine V_W ?_ | (with_reducible refine And.intro ?_ ?_; focus first | assumption | omega | decide | grind) | (with_reducible refine Br.mk ?_ ?_; focus (intros; omega)) | decide)
  (try with_reducible refine fun _ => ?_)
  (repeat first | simp only [go_sem, ↓reduceIte, Nat.reduceEqDiff, Nat.reduceAdd, reduceCtorEq] | with_reducible refine V_W ?_ | (with_reducible refine And.intro ?_ ?_; focus first | assumption | omega | decide | grind) | (with_reducible refine Br.mk ?_ ?_; focus (intros; omega)) | decide)
  exact Ref.gc [] rfl (by simp only [go_sem, ↓reduceIte, Nat.reduceEqDiff, Nat.reduceAdd, reduceCtorEq]) (by simp [sub, fget, go_sem, ↓reduceIte, Nat.reduceEqDiff, Nat.reduceAdd, reduceCtorEq])
end Go.Proofs.YtnddllekkdckaaaDoor
