/- FnExactJoinComplexes: the given statement. -/
import Derived.Test.YtgdijhchndjhlaaGreatDoorRows
import Derived.Test.YtgdijhchndjhlaaGreatDoorCards
import Derived.Test.YtgdijhchndjhlaaGreatDoorTie
import Derived.ProofKit
import Derived.LaidMore
import Derived.SevenTiedAt
import Derived.Lib.SmallJoins
import Derived.OpenShut
import Derived.Test.YtgdijhchndjhlaaGreatDoorZp
import Derived.Test.YtgdijhchndjhlaaGreatDoorX9
import Derived.Test.YtgdijhchndjhlaaGreatDoorU8
set_option linter.unusedSimpArgs false
set_option linter.unusedVariables false
set_option maxRecDepth 100000
namespace Go.Proofs.YtgdijhchndjhlaaGreatDoor
open Go.Gov
open Classical

set_option maxHeartbeats 8000000 in
theorem lawLJo_c (v0 : Int) (M0 : List (List Int)) (v1 : Int) (M1 : List (List Int)) (ha0 : M0.length ≤ 9223372036854775807) (hr0 : ∀ xs ∈ M0, xs.length ≤ 9223372036854775807) (ha1 : M1.length ≤ 9223372036854775807) (hr1 : ∀ xs ∈ M1, xs.length ≤ 9223372036854775807) : Pure Tryz.prog 5 [cpxA v0 M0, cpxA v1 M1] (bl true) [] := by
  refine pureV0 ok5 rfl rfl ?_; unfold c5
  (repeat first | simp only [go_sem, ↓reduceIte, Nat.reduceEqDiff, Nat.reduceAdd, reduceCtorEq] | with_reducible refine V_W ?_ | (with_reducible refine And.intro ?_ ?_; focus first | assumption | omega | decide | grind) | (with_reducible refine Br.mk ?_ ?_; focus (intros; omega)) | decide)
  refine pureC (szCpx_c v0 M0 (1048576) (by omega) (by omega) ha0 hr0) (by simp only [go_sem, ↓reduceIte, Nat.reduceEqDiff, Nat.reduceAdd, reduceCtorEq] <;> rfl) (by first | rfl | simp only [go_sem, ↓reduceIte, Nat.reduceEqDiff, Nat.reduceAdd, reduceCtorEq]) ?_
  (repeat first | simp only [go_sem, ↓reduceIte, Nat.reduceEqDiff, Nat.reduceAdd, reduceCtorEq] | with_reducible refine V_W ?_ | (with_reducible refine And.intro ?_ ?_; focus first | assumption | omega | decide | grind) | (with_reducible refine Br.mk ?_ ?_; focus (intros; omega)) | decide)
  refine ⟨fun hs0 => ?_, fun hs0 => ?_⟩
  · (repeat first | simp only [go_sem, ↓reduceIte, Nat.reduceEqDiff, Nat.reduceAdd, reduceCtorEq] | with_reducible refine V_W ?_ | (with_reducible refine And.intro ?_ ?_; focus first | assumption | omega | decide | grind) | (with_reducible refine Br.mk ?_ ?_; focus (intros; omega)) | decide)
  obtain ⟨e0, e02⟩ := left_pos (b := 1048576) (n := M0.length + tot M0) (by omega) (by omega)
  obtain ⟨qa0, qt0, qr0⟩ := mat_b (n := 1048576) (B := M0) (by omega)
  have ga0 : M0.length ≤ 1099511627776 := by omega
  have gr0 : ∀ xs ∈ M0, xs.length ≤ 1099511627776 := fun xs hx => by have := qr0 xs hx; omega
  rw [e02]
  (repeat first | simp only [go_sem, ↓reduceIte, Nat.reduceEqDiff, Nat.reduceAdd, reduceCtorEq] | with_reducible refine V_W ?_ | (with_reducible refine And.intro ?_ ?_; focus first | assumption | omega | decide | grind) | (with_reducible refine Br.mk ?_ ?_; focus (intros; omega)) | decide)
  refine pureC (szCpx_c v1 M1 (1048576 - ((M0.length + tot M0 : Nat) : Int)) (by omega) (by omega) ha1 hr1) (by simp only [go_sem, ↓reduceIte, Nat.reduceEqDiff, Nat.reduceAdd, reduceCtorEq] <;> rfl) (by first | rfl | simp only [go_sem, ↓reduceIte, Nat.reduceEqDiff, Nat.reduceAdd, reduceCtorEq]) ?_
  (repeat first | simp only [go_sem, ↓reduceIte, Nat.reduceEqDiff, Nat.reduceAdd, reduceCtorEq] | with_reducible refine V_W ?_ | (with_reducible refine And.intro ?_ ?_; focus first | assumption | omega | decide | grind) | (with_reducible refine Br.mk ?_ ?_; focus (intros; omega)) | decide)
  refine ⟨fun hs1 => ?_, fun hs1 => ?_⟩
  · (repeat first | simp only [go_sem, ↓reduceIte, Nat.reduceEqDiff, Nat.reduceAdd, reduceCtorEq] | with_reducible refine V_W ?_ | (with_reducible refine And.intro ?_ ?_; focus first | assumption | omega | decide | grind) | (with_reducible refine Br.mk ?_ ?_; focus (intros; omega)) | decide)
  obtain ⟨e1, e12⟩ := left_pos (b := 1048576 - ((M0.length + tot M0 : Nat) : Int)) (n := M1.length + tot M1) (by omega) (by omega)
  obtain ⟨qa1, qt1, qr1⟩ := mat_b (n := 1048576) (B := M1) (by omega)
  have ga1 : M1.length ≤ 1099511627776 := by omega
  have gr1 : ∀ xs ∈ M1, xs.length ≤ 1099511627776 := fun xs hx => by have := qr1 xs hx; omega
  (repeat first | simp only [go_sem, ↓reduceIte, Nat.reduceEqDiff, Nat.reduceAdd, reduceCtorEq] | with_reducible refine V_W ?_ | (with_reducible refine And.intro ?_ ?_; focus first | assumption | omega | decide | grind) | (with_reducible refine Br.mk ?_ ?_; focus (intros; omega)) | decide)
  obtain ⟨b1, b2⟩ := joF_b v0 M0 v1 M1
  have gl0 : (joF v0 M0 v1 M1).length ≤ 1099511627776 := by omega
  have gt0 : tot (joF v0 M0 v1 M1) ≤ 1099511627776 := by have := tot_6 b2; omega
  have gr_0 : ∀ xs ∈ joF v0 M0 v1 M1, xs.length ≤ 1099511627776 := fun xs hx => by have := b2 xs hx; omega
  clear b1 b2
  have hS := specJo_c v0 M0 v1 M1 ga0 gr0 ga1 gr1
  have hI := implJo_c v0 M0 v1 M1 ga0 gr0 ga1 gr1
  generalize joV v0 M0 v1 M1 = Y0 at hS hI
  generalize joF v0 M0 v1 M1 = Z0 at hS hI gl0 gt0 gr_0
  generalize joK v0 M0 v1 M1 = Z1 at hS hI
  refine V_altsS [(2, .ref 0 0), (3, .ref 1 0), (6, .ref 2 0), (7, i64 Z1)] [some [i64 v0, mat M0], some [i64 v1, mat M1], some [i64 Y0, .sl 3 1 0 Z0.length], some (Z0.map oints)] ?_ ?_
  · repeat' first
      | simp only [go_sem, ↓reduceIte, Nat.reduceEqDiff, Nat.reduceAdd, reduceCtorEq]
      | with_reducible refine LT_reg ?_
      | with_reducible refine LT_fin ?_
      | with_reducible exact LT_tt
      | with_reducible refine LT_alt ?_ ?_
      | (with_reducible refine And.intro ?_ ?_; focus first | assumption | omega | grind)
      | (refine pureC (toCpx_c v0 M0 ga0 gr0) ?_ ?_ ?_; (focus (simp only [go_sem, ↓reduceIte, Nat.reduceEqDiff, Nat.reduceAdd, reduceCtorEq] <;> rfl)); (focus first | rfl | simp only [go_sem, ↓reduceIte, Nat.reduceEqDiff, Nat.reduceAdd, reduceCtorEq]))
      | (refine pureC (toCpx_c v1 M1 ga1 gr1) ?_ ?_ ?_; (focus (simp only [go_sem, ↓reduceIte, Nat.reduceEqDiff, Nat.reduceAdd, reduceCtorEq] <;> rfl)); (focus first | rfl | simp only [go_sem, ↓reduceIte, Nat.reduceEqDiff, Nat.reduceAdd, reduceCtorEq]))
      | (refine pureC (hS) ?_ ?_ ?_; (focus (simp only [go_sem, ↓reduceIte, Nat.reduceEqDiff, Nat.reduceAdd, reduceCtorEq] <;> rfl)); (focus first | rfl | simp only [go_sem, ↓reduceIte, Nat.reduceEqDiff, Nat.reduceAdd, reduceCtorEq]))
    all_goals first
      | (refine Ref.gc [0, 1, 5, 4] rfl ?_ ?_ <;> first | (simp only [go_sem, ↓reduceIte, Nat.reduceEqDiff, Nat.reduceAdd, reduceCtorEq]; done) | (simp [sub, fget, go_sem, ↓reduceIte, Nat.reduceEqDiff, Nat.reduceAdd, reduceCtorEq]; done))
      | (refine Ref.gc [0, 1, 4, 5] rfl ?_ ?_ <;> first | (simp only [go_sem, ↓reduceIte, Nat.reduceEqDiff, Nat.reduceAdd, reduceCtorEq]; done) | (simp [sub, fget, go_sem, ↓reduceIte, Nat.reduceEqDiff, Nat.reduceAdd, reduceCtorEq]; done))
      | (refine Ref.gc [0, 1, 3, 5] rfl ?_ ?_ <;> first | (simp only [go_sem, ↓reduceIte, Nat.reduceEqDiff, Nat.reduceAdd, reduceCtorEq]; done) | (simp [sub, fget, go_sem, ↓reduceIte, Nat.reduceEqDiff, Nat.reduceAdd, reduceCtorEq]; done))
      | (refine Ref.gc [0, 1, 5, 3] rfl ?_ ?_ <;> first | (simp only [go_sem, ↓reduceIte, Nat.reduceEqDiff, Nat.reduceAdd, reduceCtorEq]; done) | (simp [sub, fget, go_sem, ↓reduceIte, Nat.reduceEqDiff, Nat.reduceAdd, reduceCtorEq]; done))
      | (refine Ref.gc [0, 1, 2, 5] rfl ?_ ?_ <;> first | (simp only [go_sem, ↓reduceIte, Nat.reduceEqDiff, Nat.reduceAdd, reduceCtorEq]; done) | (simp [sub, fget, go_sem, ↓reduceIte, Nat.reduceEqDiff, Nat.reduceAdd, reduceCtorEq]; done))
  (repeat first | simp only [go_sem, ↓reduceIte, Nat.reduceEqDiff, Nat.reduceAdd, reduceCtorEq] | with_reducible refine V_W ?_ | (with_reducible refine And.intro ?_ ?_; focus first | assumption | omega | decide | grind) | (with_reducible refine Br.mk ?_ ?_; focus (intros; omega)) | decide)
  refine pureC (toCpx_c v0 M0 ga0 gr0) (by simp only [go_sem, ↓reduceIte, Nat.reduceEqDiff, Nat.reduceAdd, reduceCtorEq] <;> rfl) (by first | rfl | simp only [go_sem, ↓reduceIte, Nat.reduceEqDiff, Nat.reduceAdd, reduceCtorEq]) ?_
  (repeat first | simp only [go_sem, ↓reduceIte, Nat.reduceEqDiff, Nat.reduceAdd, reduceCtorEq] | with_reducible refine V_W ?_ | (with_reducible refine And.intro ?_ ?_; focus first | assumption | omega | decide | grind) | (with_reducible refine Br.mk ?_ ?_; focus (intros; omega)) | decide)
  refine pureC (toCpx_c v1 M1 ga1 gr1) (by simp only [go_sem, ↓reduceIte, Nat.reduceEqDiff, Nat.reduceAdd, reduceCtorEq] <;> rfl) (by first | rfl | simp only [go_sem, ↓reduceIte, Nat.reduceEqDiff, Nat.reduceAdd, reduceCtorEq]) ?_
  (repeat first | simp only [go_sem, ↓reduceIte, Nat.reduceEqDiff, Nat.reduceAdd, reduceCtorEq] | with_reducible refine V_W ?_ | (with_reducible refine And.intro ?_ ?_; focus first | assumption | omega | decide | grind) | (with_reducible refine Br.mk ?_ ?_; focus (intros; omega)) | decide)
  refine pureC (hI) (by simp only [go_sem, ↓reduceIte, Nat.reduceEqDiff, Nat.reduceAdd, reduceCtorEq] <;> rfl) (by first | rfl | simp only [go_sem, ↓reduceIte, Nat.reduceEqDiff, Nat.reduceAdd, reduceCtorEq]) ?_
  (repeat first | simp only [go_sem, ↓reduceIte, Nat.reduceEqDiff, Nat.reduceAdd, reduceCtorEq] | with_reducible refine V_W ?_ | (with_reducible refine And.intro ?_ ?_; focus first | assumption | omega | decide | grind) | (with_reducible refine Br.mk ?_ ?_; focus (intros; omega)) | decide)
  refine pureC (eqCpx_c Y0 Y0 Z0 Z0 gl0 gr_0 gl0 gr_0) (by simp only [go_sem, ↓reduceIte, Nat.reduceEqDiff, Nat.reduceAdd, reduceCtorEq] <;> rfl) (by first | rfl | simp only [go_sem, ↓reduceIte, Nat.reduceEqDiff, Nat.reduceAdd, reduceCtorEq]) ?_
  (repeat first | simp only [go_sem, ↓reduceIte, Nat.reduceEqDiff, Nat.reduceAdd, reduceCtorEq] | with_reducible refine V_W ?_ | (with_reducible refine And.intro ?_ ?_; focus first | assumption | omega | decide | grind) | (with_reducible refine Br.mk ?_ ?_; focus (intros; omega)) | decide)
  (try with_reducible refine fun _ => ?_)
  (repeat first | simp only [go_sem, ↓reduceIte, Nat.reduceEqDiff, Nat.reduceAdd, reduceCtorEq] | with_reducible refine V_W ?_ | (with_reducible refine And.intro ?_ ?_; focus first | assumption | omega | decide | grind) | (with_reducible refine Br.mk ?_ ?_; focus (intros; omega)) | decide)
  refine pureC (toCpx_c v0 M0 ga0 gr0) (by simp only [go_sem, ↓reduceIte, Nat.reduceEqDiff, Nat.reduceAdd, reduceCtorEq] <;> rfl) (by first | rfl | simp only [go_sem, ↓reduceIte, Nat.reduceEqDiff, Nat.reduceAdd, reduceCtorEq]) ?_
  (repeat first | simp only [go_sem, ↓reduceIte, Nat.reduceEqDiff, Nat.reduceAdd, reduceCtorEq] | with_reducible refine V_W ?_ | (with_reducible refine And.intro ?_ ?_; focus first | assumption | omega | decide | grind) | (with_reducible refine Br.mk ?_ ?_; focus (intros; omega)) | decide)
  refine pureC (eqCpx_c v0 v0 M0 M0 ga0 gr0 ga0 gr0) (by simp only [go_sem, ↓reduceIte, Nat.reduceEqDiff, Nat.reduceAdd, reduceCtorEq] <;> rfl) (by first | rfl | simp only [go_sem, ↓reduceIte, Nat.reduceEqDiff, Nat.reduceAdd, reduceCtorEq]) ?_
  (repeat first | simp only [go_sem, ↓reduceIte, Nat.reduceEqDiff, Nat.reduceAdd, reduceCtorEq] | with_reducible refine V_W ?_ | (with_reducible refine And.intro ?_ ?_; focus first | assumption | omega | decide | grind) | (with_reducible refine Br.mk ?_ ?_; focus (intros; omega)) | decide)
  (try with_reducible refine fun _ => ?_)
  (repeat first | simp only [go_sem, ↓reduceIte, Nat.reduceEqDiff, Nat.reduceAdd, reduceCtorEq] | with_reducible refine V_W ?_ | (with_reducible refine And.intro ?_ ?_; focus first | assumption | omega | decide | grind) | (with_reducible refine Br.mk ?_ ?_; focus (intros; omega)) | decide)
  refine pureC (toCpx_c v1 M1 ga1 gr1) (by simp only [go_sem, ↓reduceIte, Nat.reduceEqDiff, Nat.reduceAdd, reduceCtorEq] <;> rfl) (by first | rfl | simp only [go_sem, ↓reduceIte, Nat.reduceEqDiff, Nat.reduceAdd, reduceCtorEq]) ?_
  (repeat first | simp only [go_sem, ↓reduceIte, Nat.reduceEqDiff, Nat.reduceAdd, reduceCtorEq] | with_reducible refine V_W ?_ | (with_reducible refine And.intro ?_ ?_; focus first | assumption | omega | decide | grind) | (with_reducible refine Br.mk ?_ ?_; focus (intros; omega)) | decide)
  refine pureC (eqCpx_c v1 v1 M1 M1 ga1 gr1 ga1 gr1) (by simp only [go_sem, ↓reduceIte, Nat.reduceEqDiff, Nat.reduceAdd, reduceCtorEq] <;> rfl) (by first | rfl | simp only [go_sem, ↓reduceIte, Nat.reduceEqDiff, Nat.reduceAdd, reduceCtorEq]) ?_
  (repeat first | simp only [go_sem, ↓reduceIte, Nat.reduceEqDiff, Nat.reduceAdd, reduceCtorEq] | with_reducible refine V_W ?_ | (with_reducible refine And.intro ?_ ?_; focus first | assumption | omega | decide | grind) | (with_reducible refine Br.mk ?_ ?_; focus (intros; omega)) | decide)
  (try with_reducible refine fun _ => ?_)
  (repeat first | simp only [go_sem, ↓reduceIte, Nat.reduceEqDiff, Nat.reduceAdd, reduceCtorEq] | with_reducible refine V_W ?_ | (with_reducible refine And.intro ?_ ?_; focus first | assumption | omega | decide | grind) | (with_reducible refine Br.mk ?_ ?_; focus (intros; omega)) | decide)
  refine wriC (markCpx_c v0 M0 (1) ga0 (by omega) (by omega) (by omega)) [4] (by first | rfl | simp) (by simp only [go_sem, ↓reduceIte, Nat.reduceEqDiff, Nat.reduceAdd, reduceCtorEq] <;> rfl) (by simp only [go_sem, ↓reduceIte, Nat.reduceEqDiff, Nat.reduceAdd, reduceCtorEq] <;> rfl) (by first | rfl | simp only [go_sem, ↓reduceIte, Nat.reduceEqDiff, Nat.reduceAdd, reduceCtorEq]) ?_
  (repeat first | simp only [go_sem, ↓reduceIte, Nat.reduceEqDiff, Nat.reduceAdd, reduceCtorEq] | with_reducible refine V_W ?_ | (with_reducible refine And.intro ?_ ?_; focus first | assumption | omega | decide | grind) | (with_reducible refine Br.mk ?_ ?_; focus (intros; omega)) | decide)
  refine wriC (markCpx_c v1 M1 (1 + tot M0) ga1 (by omega) (by omega) (by omega)) [6] (by first | rfl | simp) (by simp only [go_sem, ↓reduceIte, Nat.reduceEqDiff, Nat.reduceAdd, reduceCtorEq] <;> rfl) (by simp only [go_sem, ↓reduceIte, Nat.reduceEqDiff, Nat.reduceAdd, reduceCtorEq] <;> rfl) (by first | rfl | simp only [go_sem, ↓reduceIte, Nat.reduceEqDiff, Nat.reduceAdd, reduceCtorEq]) ?_
  (repeat first | simp only [go_sem, ↓reduceIte, Nat.reduceEqDiff, Nat.reduceAdd, reduceCtorEq] | with_reducible refine V_W ?_ | (with_reducible refine And.intro ?_ ?_; focus first | assumption | omega | decide | grind) | (with_reducible refine Br.mk ?_ ?_; focus (intros; omega)) | decide)
  refine GCall.mk (bl (decide (Y0 = Y0 ∧ Z0 = Z0)) ) (fun hg => by first | exact pureC ( eqCpx_c Y0 Y0 Z0 Z0 gl0 gr_0 gl0 gr_0) (by simp only [go_sem, ↓reduceIte, Nat.reduceEqDiff, Nat.reduceAdd, reduceCtorEq] <;> rfl) (by first | rfl | simp only [go_sem, ↓reduceIte, Nat.reduceEqDiff, Nat.reduceAdd, reduceCtorEq]) (by first | exact ⟨rfl, rfl⟩ | simp only [go_sem, ↓reduceIte, Nat.reduceEqDiff, Nat.reduceAdd, reduceCtorEq]) | exact ⟨hg, pureC ( eqCpx_c Y0 Y0 Z0 Z0 gl0 gr_0 gl0 gr_0) (by simp only [go_sem, ↓reduceIte, Nat.reduceEqDiff, Nat.reduceAdd, reduceCtorEq] <;> rfl) (by first | rfl | simp only [go_sem, ↓reduceIte, Nat.reduceEqDiff, Nat.reduceAdd, reduceCtorEq]) (by first | exact ⟨rfl, rfl⟩ | simp only [go_sem, ↓reduceIte, Nat.reduceEqDiff, Nat.reduceAdd, reduceCtorEq])⟩ | exact ⟨by grind, pureC ( eqCpx_c Y0 Y0 Z0 Z0 gl0 gr_0 gl0 gr_0) (by simp only [go_sem, ↓reduceIte, Nat.reduceEqDiff, Nat.reduceAdd, reduceCtorEq] <;> rfl) (by first | rfl | simp only [go_sem, ↓reduceIte, Nat.reduceEqDiff, Nat.reduceAdd, reduceCtorEq]) (by first | exact ⟨rfl, rfl⟩ | simp only [go_sem, ↓reduceIte, Nat.reduceEqDiff, Nat.reduceAdd, reduceCtorEq])⟩) ?_
  (repeat first | simp only [go_sem, ↓reduceIte, Nat.reduceEqDiff, Nat.reduceAdd, reduceCtorEq] | with_reducible refine V_W ?_ | (with_reducible refine And.intro ?_ ?_; focus first | assumption | omega | decide | grind) | (with_reducible refine Br.mk ?_ ?_; focus (intros; omega)) | decide)
  (try with_reducible refine fun _ => ?_)
  (repeat first | simp only [go_sem, ↓reduceIte, Nat.reduceEqDiff, Nat.reduceAdd, reduceCtorEq] | with_reducible refine V_W ?_ | (with_reducible refine And.intro ?_ ?_; focus first | assumption | omega | decide | grind) | (with_reducible refine Br.mk ?_ ?_; focus (intros; omega)) | decide)
  refine wriC (markCpx_c Y0 Z0 (1) gl0 gt0 (by omega) (by omega)) [8] (by first | rfl | simp) (by simp only [go_sem, ↓reduceIte, Nat.reduceEqDiff, Nat.reduceAdd, reduceCtorEq] <;> rfl) (by simp only [go_sem, ↓reduceIte, Nat.reduceEqDiff, Nat.reduceAdd, reduceCtorEq] <;> rfl) (by first | rfl | simp only [go_sem, ↓reduceIte, Nat.reduceEqDiff, Nat.reduceAdd, reduceCtorEq]) ?_
  (repeat first | simp only [go_sem, ↓reduceIte, Nat.reduceEqDiff, Nat.reduceAdd, reduceCtorEq] | with_reducible refine V_W ?_ | (with_reducible refine And.intro ?_ ?_; focus first | assumption | omega | decide | grind) | (with_reducible refine Br.mk ?_ ?_; focus (intros; omega)) | decide)
  refine pureC (heldCpx_c Y0 Z0 (1) gl0 gt0 (by omega) (by omega)) (by simp only [go_sem, ↓reduceIte, Nat.reduceEqDiff, Nat.reduceAdd, reduceCtorEq, take_up, take_upR]) (by first | rfl | simp only [go_sem, ↓reduceIte, Nat.reduceEqDiff, Nat.reduceAdd, reduceCtorEq]) ?_
  (repeat first | simp only [go_sem, ↓reduceIte, Nat.reduceEqDiff, Nat.reduceAdd, reduceCtorEq] | with_reducible refine V_W ?_ | (with_reducible refine And.intro ?_ ?_; focus first | assumption | omega | decide | grind) | (with_reducible refine Br.mk ?_ ?_; focus (intros; omega)) | decide)
  (try with_reducible refine fun _ => ?_)
  (repeat first | simp only [go_sem, ↓reduceIte, Nat.reduceEqDiff, Nat.reduceAdd, reduceCtorEq] | with_reducible refine V_W ?_ | (with_reducible refine And.intro ?_ ?_; focus first | assumption | omega | decide | grind) | (with_reducible refine Br.mk ?_ ?_; focus (intros; omega)) | decide)
  (try with_reducible refine fun _ => ?_)
  (repeat first | simp only [go_sem, ↓reduceIte, Nat.reduceEqDiff, Nat.reduceAdd, reduceCtorEq] | with_reducible refine V_W ?_ | (with_reducible refine And.intro ?_ ?_; focus first | assumption | omega | decide | grind) | (with_reducible refine Br.mk ?_ ?_; focus (intros; omega)) | decide)
  refine V_altsS [(6, .ref 0 0), (7, i64 Z1), (10, .ref 2 0), (13, i64 (1 + tot Z0)), (15, .ref 4 0), (16, i64 Z1)] [some [i64 Y0, .sl 1 1 0 Z0.length], some (Z0.map oints), some [i64 Y0, .sl 3 1 0 Z0.length], some ((upR 1 Z0).map oints), some [i64 Y0, .sl 5 1 0 Z0.length], some (Z0.map oints)] ?_ ?_
  · repeat' first
      | simp only [go_sem, ↓reduceIte, Nat.reduceEqDiff, Nat.reduceAdd, reduceCtorEq]
      | with_reducible refine LT_reg ?_
      | with_reducible refine LT_fin ?_
      | with_reducible exact LT_tt
      | with_reducible refine LT_alt ?_ ?_
      | (with_reducible refine And.intro ?_ ?_; focus first | assumption | omega | grind)
      | (refine pureC (toCpx_c v0 M0 ga0 gr0) ?_ ?_ ?_; (focus (simp only [go_sem, ↓reduceIte, Nat.reduceEqDiff, Nat.reduceAdd, reduceCtorEq] <;> rfl)); (focus first | rfl | simp only [go_sem, ↓reduceIte, Nat.reduceEqDiff, Nat.reduceAdd, reduceCtorEq]))
      | (refine pureC (toCpx_c v1 M1 ga1 gr1) ?_ ?_ ?_; (focus (simp only [go_sem, ↓reduceIte, Nat.reduceEqDiff, Nat.reduceAdd, reduceCtorEq] <;> rfl)); (focus first | rfl | simp only [go_sem, ↓reduceIte, Nat.reduceEqDiff, Nat.reduceAdd, reduceCtorEq]))
      | (refine pureC (hI) ?_ ?_ ?_; (focus (simp only [go_sem, ↓reduceIte, Nat.reduceEqDiff, Nat.reduceAdd, reduceCtorEq] <;> rfl)); (focus first | rfl | simp only [go_sem, ↓reduceIte, Nat.reduceEqDiff, Nat.reduceAdd, reduceCtorEq]))
    all_goals first
      | (refine Ref.gc [2, 3, 9, 8, 16, 15] rfl ?_ ?_ <;> first | (simp only [go_sem, ↓reduceIte, Nat.reduceEqDiff, Nat.reduceAdd, reduceCtorEq]; done) | (simp [sub, fget, go_sem, ↓reduceIte, Nat.reduceEqDiff, Nat.reduceAdd, reduceCtorEq]; done))
      | (refine Ref.gc [2, 3, 9, 8, 16, 14] rfl ?_ ?_ <;> first | (simp only [go_sem, ↓reduceIte, Nat.reduceEqDiff, Nat.reduceAdd, reduceCtorEq]; done) | (simp [sub, fget, go_sem, ↓reduceIte, Nat.reduceEqDiff, Nat.reduceAdd, reduceCtorEq]; done))
      | (refine Ref.gc [2, 3, 9, 8, 16, 13] rfl ?_ ?_ <;> first | (simp only [go_sem, ↓reduceIte, Nat.reduceEqDiff, Nat.reduceAdd, reduceCtorEq]; done) | (simp [sub, fget, go_sem, ↓reduceIte, Nat.reduceEqDiff, Nat.reduceAdd, reduceCtorEq]; done))
      | (refine Ref.gc [2, 3, 9, 8, 16, 12] rfl ?_ ?_ <;> first | (simp only [go_sem, ↓reduceIte, Nat.reduceEqDiff, Nat.reduceAdd, reduceCtorEq]; done) | (simp [sub, fget, go_sem, ↓reduceIte, Nat.reduceEqDiff, Nat.reduceAdd, reduceCtorEq]; done))
      | (refine Ref.gc [2, 3, 9, 8, 15, 16] rfl ?_ ?_ <;> first | (simp only [go_sem, ↓reduceIte, Nat.reduceEqDiff, Nat.reduceAdd, reduceCtorEq]; done) | (simp [sub, fget, go_sem, ↓reduceIte, Nat.reduceEqDiff, Nat.reduceAdd, reduceCtorEq]; done))
      | (refine Ref.gc [2, 3, 9, 8, 15, 14] rfl ?_ ?_ <;> first | (simp only [go_sem, ↓reduceIte, Nat.reduceEqDiff, Nat.reduceAdd, reduceCtorEq]; done) | (simp [sub, fget, go_sem, ↓reduceIte, Nat.reduceEqDiff, Nat.reduceAdd, reduceCtorEq]; done))
      | (refine Ref.gc [2, 3, 9, 8, 15, 13] rfl ?_ ?_ <;> first | (simp only [go_sem, ↓reduceIte, Nat.reduceEqDiff, Nat.reduceAdd, reduceCtorEq]; done) | (simp [sub, fget, go_sem, ↓reduceIte, Nat.reduceEqDiff, Nat.reduceAdd, reduceCtorEq]; done))
      | (refine Ref.gc [2, 3, 9, 8, 15, 12] rfl ?_ ?_ <;> first | (simp only [go_sem, ↓reduceIte, Nat.reduceEqDiff, Nat.reduceAdd, reduceCtorEq]; done) | (simp [sub, fget, go_sem, ↓reduceIte, Nat.reduceEqDiff, Nat.reduceAdd, reduceCtorEq]; done))
      | (refine Ref.gc [2, 3, 9, 8, 14, 16] rfl ?_ ?_ <;> first | (simp only [go_sem, ↓reduceIte, Nat.reduceEqDiff, Nat.reduceAdd, reduceCtorEq]; done) | (simp [sub, fget, go_sem, ↓reduceIte, Nat.reduceEqDiff, Nat.reduceAdd, reduceCtorEq]; done))
      | (refine Ref.gc [2, 3, 9, 8, 14, 15] rfl ?_ ?_ <;> first | (simp only [go_sem, ↓reduceIte, Nat.reduceEqDiff, Nat.reduceAdd, reduceCtorEq]; done) | (simp [sub, fget, go_sem, ↓reduceIte, Nat.reduceEqDiff, Nat.reduceAdd, reduceCtorEq]; done))
      | (refine Ref.gc [2, 3, 9, 8, 14, 13] rfl ?_ ?_ <;> first | (simp only [go_sem, ↓reduceIte, Nat.reduceEqDiff, Nat.reduceAdd, reduceCtorEq]; done) | (simp [sub, fget, go_sem, ↓reduceIte, Nat.reduceEqDiff, Nat.reduceAdd, reduceCtorEq]; done))
      | (refine Ref.gc [2, 3, 9, 8, 14, 12] rfl ?_ ?_ <;> first | (simp only [go_sem, ↓reduceIte, Nat.reduceEqDiff, Nat.reduceAdd, reduceCtorEq]; done) | (simp [sub, fget, go_sem, ↓reduceIte, Nat.reduceEqDiff, Nat.reduceAdd, reduceCtorEq]; done))
      | (refine Ref.gc [2, 3, 9, 8, 13, 16] rfl ?_ ?_ <;> first | (simp only [go_sem, ↓reduceIte, Nat.reduceEqDiff, Nat.reduceAdd, reduceCtorEq]; done) | (simp [sub, fget, go_sem, ↓reduceIte, Nat.reduceEqDiff, Nat.reduceAdd, reduceCtorEq]; done))
      | (refine Ref.gc [2, 3, 9, 8, 13, 15] rfl ?_ ?_ <;> first | (simp only [go_sem, ↓reduceIte, Nat.reduceEqDiff, Nat.reduceAdd, reduceCtorEq]; done) | (simp [sub, fget, go_sem, ↓reduceIte, Nat.reduceEqDiff, Nat.reduceAdd, reduceCtorEq]; done))
      | (refine Ref.gc [2, 3, 9, 8, 13, 14] rfl ?_ ?_ <;> first | (simp only [go_sem, ↓reduceIte, Nat.reduceEqDiff, Nat.reduceAdd, reduceCtorEq]; done) | (simp [sub, fget, go_sem, ↓reduceIte, Nat.reduceEqDiff, Nat.reduceAdd, reduceCtorEq]; done))
      | (refine Ref.gc [2, 3, 9, 8, 13, 12] rfl ?_ ?_ <;> first | (simp only [go_sem, ↓reduceIte, Nat.reduceEqDiff, Nat.reduceAdd, reduceCtorEq]; done) | (simp [sub, fget, go_sem, ↓reduceIte, Nat.reduceEqDiff, Nat.reduceAdd, reduceCtorEq]; done))
      | (refine Ref.gc [2, 3, 9, 8, 12, 16] rfl ?_ ?_ <;> first | (simp only [go_sem, ↓reduceIte, Nat.reduceEqDiff, Nat.reduceAdd, reduceCtorEq]; done) | (simp [sub, fget, go_sem, ↓reduceIte, Nat.reduceEqDiff, Nat.reduceAdd, reduceCtorEq]; done))
      | (refine Ref.gc [2, 3, 9, 8, 12, 15] rfl ?_ ?_ <;> first | (simp only [go_sem, ↓reduceIte, Nat.reduceEqDiff, Nat.reduceAdd, reduceCtorEq]; done) | (simp [sub, fget, go_sem, ↓reduceIte, Nat.reduceEqDiff, Nat.reduceAdd, reduceCtorEq]; done))
      | (refine Ref.gc [2, 3, 9, 8, 12, 14] rfl ?_ ?_ <;> first | (simp only [go_sem, ↓reduceIte, Nat.reduceEqDiff, Nat.reduceAdd, reduceCtorEq]; done) | (simp [sub, fget, go_sem, ↓reduceIte, Nat.reduceEqDiff, Nat.reduceAdd, reduceCtorEq]; done))
      | (refine Ref.gc [2, 3, 9, 8, 12, 13] rfl ?_ ?_ <;> first | (simp only [go_sem, ↓reduceIte, Nat.reduceEqDiff, Nat.reduceAdd, reduceCtorEq]; done) | (simp [sub, fget, go_sem, ↓reduceIte, Nat.reduceEqDiff, Nat.reduceAdd, reduceCtorEq]; done))
  (repeat first | simp only [go_sem, ↓reduceIte, Nat.reduceEqDiff, Nat.reduceAdd, reduceCtorEq] | with_reducible refine V_W ?_ | (with_reducible refine And.intro ?_ ?_; focus first | assumption | omega | decide | grind) | (with_reducible refine Br.mk ?_ ?_; focus (intros; omega)) | decide)
  refine pureC (eqCpx_c Y0 Y0 Z0 Z0 gl0 gr_0 gl0 gr_0) (by simp only [go_sem, ↓reduceIte, Nat.reduceEqDiff, Nat.reduceAdd, reduceCtorEq] <;> rfl) (by first | rfl | simp only [go_sem, ↓reduceIte, Nat.reduceEqDiff, Nat.reduceAdd, reduceCtorEq]) ?_
  (repeat first | simp only [go_sem, ↓reduceIte, Nat.reduceEqDiff, Nat.reduceAdd, reduceCtorEq] | with_reducible refine V_W ?_ | (with_reducible refine And.intro ?_ ?_; focus first | assumption | omega | decide | grind) | (with_reducible refine Br.mk ?_ ?_; focus (intros; omega)) | decide)
  (try with_reducible refine fun _ => ?_)
  (repeat first | simp only [go_sem, ↓reduceIte, Nat.reduceEqDiff, Nat.reduceAdd, reduceCtorEq] | with_reducible refine V_W ?_ | (with_reducible refine And.intro ?_ ?_; focus first | assumption | omega | decide | grind) | (with_reducible refine Br.mk ?_ ?_; focus (intros; omega)) | decide)
  refine pureC (heldCpx_c Y0 Z0 (1) gl0 gt0 (by omega) (by omega)) (by simp only [go_sem, ↓reduceIte, Nat.reduceEqDiff, Nat.reduceAdd, reduceCtorEq, take_up, take_upR]) (by first | rfl | simp only [go_sem, ↓reduceIte, Nat.reduceEqDiff, Nat.reduceAdd, reduceCtorEq]) ?_
  (repeat first | simp only [go_sem, ↓reduceIte, Nat.reduceEqDiff, Nat.reduceAdd, reduceCtorEq] | with_reducible refine V_W ?_ | (with_reducible refine And.intro ?_ ?_; focus first | assumption | omega | decide | grind) | (with_reducible refine Br.mk ?_ ?_; focus (intros; omega)) | decide)
  (try with_reducible refine fun _ => ?_)
  (repeat first | simp only [go_sem, ↓reduceIte, Nat.reduceEqDiff, Nat.reduceAdd, reduceCtorEq] | with_reducible refine V_W ?_ | (with_reducible refine And.intro ?_ ?_; focus first | assumption | omega | decide | grind) | (with_reducible refine Br.mk ?_ ?_; focus (intros; omega)) | decide)
  (try with_reducible refine fun _ => ?_)
  (repeat first | simp only [go_sem, ↓reduceIte, Nat.reduceEqDiff, Nat.reduceAdd, reduceCtorEq] | with_reducible refine V_W ?_ | (with_reducible refine And.intro ?_ ?_; focus first | assumption | omega | decide | grind) | (with_reducible refine Br.mk ?_ ?_; focus (intros; omega)) | decide)

end Go.Proofs.YtgdijhchndjhlaaGreatDoor
set_option maxRecDepth 100000
namespace Go.Proofs.YtgdijhchndjhlaaGreatDoor.JJo
open Go.Proofs.YtgdijhchndjhlaaGreatDoor
open Go.ChangeShapes Go.WideShapes Go.ChangeAt Go.RowKit Go.Gov

theorem door_met (os : Os) (args : Array Value) : laidMetH Tryz.prog Rows.fnExactJoinComplexesRow.laid ((World.doorLaid Tryz.prog 400 os).forCall (fun _ _ => 0) ⟨#[], args, []⟩).memory :=
  laidMetH_of_parts3 (fuel := 8) (laidMet_of_run' 8 (by kernel_rfl) (by kernel_rfl)) (by kernel_rfl) (by kernel_rfl)
set_option maxRecDepth 100000 in
set_option maxHeartbeats 2000000 in
theorem lifted (os : Os) (started : os.Started) (H : Type) (enc : TypeId × Value → H) :
    ReturnsInHanded {} Tryz.checked os 5 .any (fun w args => (Rows.fnExactJoinComplexesSpec.pre enc Tryz.prog Tryz.f5 [] false w args ∧ laidMetH Tryz.prog Rows.fnExactJoinComplexesRow.laid w) ∧ sizedMet enc Tryz.prog Tryz.f5 (OpenSpec.ofChange Rows.fnExactJoinComplexesSpec) false w args) (Rows.fnExactJoinComplexesSpec.post enc Tryz.prog Tryz.f5 false true false false) := by
  refine returnsInHanded_of_change_and (C := Tryz.checked) (X := fun w _ => laidMetH Tryz.prog Rows.fnExactJoinComplexesRow.laid w) (fun _ _ _ hh h => h.of_heap hh) Tryz.own started (by kernel_rfl) Tryz.func5
    (ChangeSpec.witness_shaped (enc := enc) (C := Tryz.checked) (os := os) (X := fun w _ => laidMetH Tryz.prog Rows.fnExactJoinComplexesRow.laid w) false (World.doorLaid Tryz.prog 400 os) #[.agg #[.int .i64 0, .slice none 0 0], .agg #[.int .i64 0, .slice none 0 0]] 8 rfl (World.shaped_of_RefB (by kernel_rfl) (by kernel_rfl)) (by kernel_rfl) (by kernel_rfl) (by kernel_rfl) (door_met os _)) ?_
  intro W base args ds gs before hval0 hW hcnd _ hLaid _
  have hval : ∀ (j : Nat) t v, Tryz.f5.params[j]? = some t → args[j]? = some v → Value.okWide Tryz.prog W .any base t v := hval0
  have hW' := hW
  obtain ⟨p, q, hA0, hV, rfl, hfz, hnd⟩ := hW
  have hA : DataW.TrodAll enc Tryz.prog W 0 (fun _ => true) true Tryz.f5.params.toList args.toList ds p := hA0
  rw [Tryz.params5] at hA hval
  obtain ⟨v0, l0, d0, e0, p0, q0, ha0, rfl, rfl, h0, hA1⟩ := trodAll_cons hA
  obtain ⟨v1, l1, d1, e1, p1, q1, rfl, rfl, rfl, h1, hA2⟩ := trodAll_cons hA1
  obtain ⟨rfl, rfl, rfl⟩ := trodAll_nil hA2
  obtain rfl : args = #[v0, v1] := by rw [← Array.toArray_toList (xs := args), ha0]
  have hv0 := hval 0 24 v0 rfl rfl
  have hv1 := hval 1 24 v1 rfl rfl
  obtain ⟨rfl, rfl⟩ := trodVars_none hV
  obtain ⟨a0, b0, x0, y0, m0, rfl, rfl, hp0, ta0, tb0⟩ := Go.Joins.open_agg2 Tryz.underlying24 (by kernel_rfl) (by kernel_rfl) hv0 h0
  obtain ⟨r0, hr0, _, _⟩ := DataW.trod_int Tryz.underlying2 ta0
  obtain ⟨u0, B0, hu0, hB0, hBr0, rdB0⟩ := rd_rows Tryz.underlying22 Tryz.underlying40 Tryz.underlying2 (by kernel_rfl) (by kernel_rfl) tb0
  simp only [List.cons.injEq, and_true] at hr0 hu0
  subst hr0 hu0
  obtain ⟨a1, b1, x1, y1, m1, rfl, rfl, hp1, ta1, tb1⟩ := Go.Joins.open_agg2 Tryz.underlying24 (by kernel_rfl) (by kernel_rfl) hv1 h1
  obtain ⟨r1, hr1, _, _⟩ := DataW.trod_int Tryz.underlying2 ta1
  obtain ⟨u1, B1, hu1, hB1, hBr1, rdB1⟩ := rd_rows Tryz.underlying22 Tryz.underlying40 Tryz.underlying2 (by kernel_rfl) (by kernel_rfl) tb1
  simp only [List.cons.injEq, and_true] at hr1 hu1
  subst hr1 hu1
  have hrd : ∀ m (h : m < ([cpxA r0 B0, cpxA r1 B1] : List AV).length), Rd W ((g0 W).tr []) (g0 W).G ([cpxA r0 B0, cpxA r1 B1] : List AV)[m] ((#[Value.agg #[.int .i64 r0, b0], Value.agg #[.int .i64 r1, b1]] : Array Value).getD m undef) [] := fun m h => by
    match m, h with
    | 0, _ => exact .agg rfl fun k hk => match k, hk with
      | 0, _ => .val
      | 1, _ => rdB0 _
    | 1, _ => exact .agg rfl fun k hk => match k, hk with
      | 0, _ => .val
      | 1, _ => rdB1 _
  refine (below_of (lawLJo_c r0 B0 r1 B1 hB0 hBr0 hB1 hBr1) rfl hrd).mono fun e W' ⟨he, hb, hz⟩ => ?_
  simp only [List.append_nil] at hW'
  have hS0 : ∀ sp : Nat → Bool, (∀ x ∈ (p0 ++ p1), sp x.block = true) → DataW.Trod enc Tryz.prog W' 0 sp true 24 (.agg #[.int .i64 r0, b0]) _ p0 := fun sp hsp =>
    WideElems.Trod_stays Tryz.laidOut (by kernel_rfl) (of_decide_eq_true (by kernel_rfl)) h0 (fun x hx => hb.same (hW'.lt x (by simp [hx]))) (fun x hx => hsp x (by simp [hx]))
  have hS1 : ∀ sp : Nat → Bool, (∀ x ∈ (p0 ++ p1), sp x.block = true) → DataW.Trod enc Tryz.prog W' 0 sp true 24 (.agg #[.int .i64 r1, b1]) _ p1 := fun sp hsp =>
    WideElems.Trod_stays Tryz.laidOut (by kernel_rfl) (of_decide_eq_true (by kernel_rfl)) h1 (fun x hx => hb.same (hW'.lt x (by simp [hx]))) (fun x hx => hsp x (by simp [hx]))
  have hR1 : ∀ (b : Nat) (sp : Nat → Bool) (hd : Bool), DataW.Trod enc Tryz.prog W' b sp hd 4 (.bool true) (.lit (.bool true)) [] := fun _ _ _ => shut_bool Tryz.underlying4 true
  refine ⟨_, he, post_of_new (pa := (p0 ++ p1)) (pv := []) hW' (fun b sp hd => trodAll_mk1 (hR1 b sp hd)) (fun sp hsp => trodAll_cons_mk (hS0 sp hsp) (trodAll_mk1 (hS1 sp hsp))) (fun _ _ => ?_) ?_ ?_ hz ?_⟩
  · rfl
  · simp
  · exact hb.frame _
  · exact ok_one (by kernel_rfl) rfl (okWide_bool_mk Tryz.underlying4 true)

theorem holds : Rows.FnExactJoinComplexesSaid :=
  OpenClaim.holds_of_wide 5 Tryz.f5 rfl rfl rfl rfl rfl rfl rfl ⟨rfl, rfl, rfl, rfl, rfl⟩ rfl rfl rfl rfl rfl (by kernel_rfl) Tryz.func5 (by kernel_rfl)
    (of_decide_eq_true (by kernel_rfl)) (by unfold Func.isWrapper; first | (rw [if_pos (by decide +kernel)]; kernel_rfl) | (rw [if_neg (by decide +kernel)]; exact ⟨rfl, rfl⟩))
    (fun os started H enc _ => lifted os started H enc)

theorem card_holds : Rows.FnExactJoinComplexesCardSaid :=
  Claim7.holds_tied_plain_at .later [] [.data, .data, .data] true Rows.fnExactJoinComplexesCard.stood.harness Rows.fnExactJoinComplexesCard.stood.looks
    holds (fun _ h => by cases h) (by kernel_rfl) (fun _ h => by cases h) fnExactJoinComplexes_row_tie rfl ⟨rfl, rfl⟩ (by kernel_rfl) rfl
    (fun f fn hf hfn => by
      obtain rfl : f = 5 := Option.some.inj ((show Tryz.prog.funcNamed "loop.example/g01108/laws.FnExactJoinComplexes" = some 5 by kernel_rfl).symm.trans hf) |>.symm
      obtain rfl : fn = Tryz.f5 := (Option.some.inj (Tryz.func5.symm.trans hfn)).symm
      exact ⟨by kernel_rfl, fun j t ht => by
        rw [Tryz.params5] at ht
        have hm : t ∈ [24, 24] := by simpa using Array.mem_of_getElem? ht
        have hall : ([24, 24].all fun u => !Tryz.prog.wantsStandIn u) = true := by kernel_rfl
        exact (show Tryz.prog.wantsStandIn t = false by simpa using List.all_eq_true.1 hall t hm)⟩)
    (by kernel_rfl)

end Go.Proofs.YtgdijhchndjhlaaGreatDoor.JJo
