/- Texts that belong together. -/
import Derived.Test.YtmiapnfhlhgefaaY3
set_option linter.unusedSimpArgs false
set_option linter.unusedVariables false
set_option maxRecDepth 100000
namespace Go.Proofs.Ytmiapnfhlhgefaa
open Go.Gov
open Classical

noncomputable def brA (r : Int) (R : List Int) (B : List (List Int)) : List Int := if IsPos r R B then brV R B (r.toNat - 1) else []
noncomputable def brC (r : Int) (R : List Int) (B : List (List Int)) : Int := if IsPos r R B then 0 else 1
theorem brA_len (r : Int) (R : List Int) (B : List (List Int)) : (brA r R B).length ≤ 1048576 := by
  unfold brA
  split
  · rename_i hp
    obtain ⟨_, a2, _⟩ := hp.rank
    rw [brV_len]; omega
  · simp
theorem mid_rk (R : List Int) (B : List (List Int)) (k : Nat) : ((intsC (rkL R B k ++ [0])).drop 1).take k = intsC (brV R B k) := by
  rw [rkL, List.cons_append]
  simp only [intsC, List.map_cons, List.map_append, List.drop_succ_cons, List.drop_zero]
  exact List.take_left' (by rw [List.length_map, brV_len])

set_option maxHeartbeats 2000000 in
theorem specBR_c (r : Int) (R : List Int) (B : List (List Int)) (h1 : R.length ≤ 1048576) (hl : B.length ≤ 1048576) (hr : ∀ xs ∈ B, xs.length ≤ 1048576) : Pure Try.prog 17 [posetA r R B] (.tup [.sl 0 1 0 (brA r R B).length, i64 (brC r R B)]) [some (intsC (brA r R B))] := by
  have gr : ∀ xs ∈ B, xs.length ≤ 1099511627776 := fun xs hx => by have := hr xs hx; omega
  unfold brA brC
  by_cases hp : IsPos r R B
  · rw [if_pos hp, if_pos hp]
    obtain ⟨a1, a2, a3, a4, hrk⟩ := hp.rank
    have hpd : decide (IsPos r R B) = true := decide_eq_true hp
    have hln := rkL_len R B (r.toNat - 1)
    have hbl := brV_len R B (r.toNat - 1)
    have hmd := mid_rk R B (r.toNat - 1)
    have hown := own_c (brV R B (r.toNat - 1)) (by omega)
    have hrks := l16Ranks_p r R B hp hr
    generalize brV R B (r.toNat - 1) = V at hbl hmd hown ⊢
    generalize rkL R B (r.toNat - 1) = L at hln hmd hrks
    have hLl : (L ++ [0]).length = r.toNat + 1 := by rw [List.length_append, hln]; simp; omega
    generalize L ++ [(0 : Int)] = L0 at hmd hrks hLl
    refine pureVg [2] ok17 rfl ?_; unfold c17
    (repeat first | simp only [go_sem, ↓reduceIte, Nat.reduceEqDiff, Nat.reduceAdd, reduceCtorEq] | with_reducible refine V_W ?_ | (with_reducible refine And.intro ?_ ?_; focus first | assumption | omega | decide | grind) | (with_reducible refine Br.mk ?_ ?_; focus (intros; omega)) | decide)
    refine pureC (l03Is_c r R B (by omega) (by omega) gr) (by simp only [go_sem, ↓reduceIte, Nat.reduceEqDiff, Nat.reduceAdd, reduceCtorEq] <;> rfl) (by first | rfl | simp only [go_sem, ↓reduceIte, Nat.reduceEqDiff, Nat.reduceAdd, reduceCtorEq]) ?_
    simp only [hpd, go_sem, ↓reduceIte, Nat.reduceEqDiff, Nat.reduceAdd, reduceCtorEq]
    (repeat first | simp only [go_sem, ↓reduceIte, Nat.reduceEqDiff, Nat.reduceAdd, reduceCtorEq] | with_reducible refine V_W ?_ | (with_reducible refine And.intro ?_ ?_; focus first | assumption | omega | decide | grind) | (with_reducible refine Br.mk ?_ ?_; focus (intros; omega)) | decide)
    refine pureC (hrks) (by simp only [go_sem, ↓reduceIte, Nat.reduceEqDiff, Nat.reduceAdd, reduceCtorEq] <;> rfl) (by first | rfl | simp only [go_sem, ↓reduceIte, Nat.reduceEqDiff, Nat.reduceAdd, reduceCtorEq]) ?_
    (repeat first | simp only [go_sem, ↓reduceIte, Nat.reduceEqDiff, Nat.reduceAdd, reduceCtorEq] | with_reducible refine V_W ?_ | (with_reducible refine And.intro ?_ ?_; focus first | assumption | omega | decide | grind) | (with_reducible refine Br.mk ?_ ?_; focus (intros; omega)) | decide)
    have hiv : ints V = .slc 1 (r.toNat - 1) (intsC V) := by rw [ints, hbl]
    rw [hiv] at hown
    rw [show (r - 1).toNat = r.toNat - 1 by omega]
    refine pureC hown (by simp only [frz, List.map_cons, List.map_nil, List.getElem?_cons_succ, List.getElem?_cons_zero, Nat.mul_one, hmd, map_frz_ints]) (by first | rfl | simp only [go_sem, ↓reduceIte, Nat.reduceEqDiff, Nat.reduceAdd, reduceCtorEq]) ?_
    (repeat first | simp only [go_sem, ↓reduceIte, Nat.reduceEqDiff, Nat.reduceAdd, reduceCtorEq] | with_reducible refine V_W ?_ | (with_reducible refine And.intro ?_ ?_; focus first | assumption | omega | decide | grind) | (with_reducible refine Br.mk ?_ ?_; focus (intros; omega)) | decide)
    (try simp only [go_sem, ↓reduceIte, Nat.reduceEqDiff, Nat.reduceAdd, reduceCtorEq, and_self])
  · rw [if_neg hp, if_neg hp]
    refine pure_nil 1 ?_
    have hpd : decide (IsPos r R B) = false := decide_eq_false hp
    refine pureV0 ok17 rfl rfl ?_; unfold c17
    (repeat first | simp only [go_sem, ↓reduceIte, Nat.reduceEqDiff, Nat.reduceAdd, reduceCtorEq] | with_reducible refine V_W ?_ | (with_reducible refine And.intro ?_ ?_; focus first | assumption | omega | decide | grind) | (with_reducible refine Br.mk ?_ ?_; focus (intros; omega)) | decide)
    refine pureC (l03Is_c r R B (by omega) (by omega) gr) (by simp only [go_sem, ↓reduceIte, Nat.reduceEqDiff, Nat.reduceAdd, reduceCtorEq] <;> rfl) (by first | rfl | simp only [go_sem, ↓reduceIte, Nat.reduceEqDiff, Nat.reduceAdd, reduceCtorEq]) ?_
    simp only [hpd, go_sem, ↓reduceIte, Nat.reduceEqDiff, Nat.reduceAdd, reduceCtorEq]
    (repeat first | simp only [go_sem, ↓reduceIte, Nat.reduceEqDiff, Nat.reduceAdd, reduceCtorEq] | with_reducible refine V_W ?_ | (with_reducible refine And.intro ?_ ?_; focus first | assumption | omega | decide | grind) | (with_reducible refine Br.mk ?_ ?_; focus (intros; omega)) | decide)

theorem implBR_c (r : Int) (R : List Int) (B : List (List Int)) (h1 : R.length ≤ 1048576) (hl : B.length ≤ 1048576) (hr : ∀ xs ∈ B, xs.length ≤ 1048576) : Pure Try.prog 18 [posetA r R B] (.tup [.sl 0 1 0 (brA r R B).length, i64 (brC r R B)]) [some (intsC (brA r R B))] := by
  have gr : ∀ xs ∈ B, xs.length ≤ 1099511627776 := fun xs hx => by have := hr xs hx; omega
  unfold brA brC
  by_cases hp : IsPos r R B
  · rw [if_pos hp, if_pos hp]
    have hpd : decide (IsPos r R B) = true := decide_eq_true hp
    refine pureVg [1] ok18 rfl ?_; unfold c18
    (repeat first | simp only [go_sem, ↓reduceIte, Nat.reduceEqDiff, Nat.reduceAdd, reduceCtorEq] | with_reducible refine V_W ?_ | (with_reducible refine And.intro ?_ ?_; focus first | assumption | omega | decide | grind) | (with_reducible refine Br.mk ?_ ?_; focus (intros; omega)) | decide)
    refine pureC (isPoset_c r R B (by omega) (by omega) gr) (by simp only [go_sem, ↓reduceIte, Nat.reduceEqDiff, Nat.reduceAdd, reduceCtorEq] <;> rfl) (by first | rfl | simp only [go_sem, ↓reduceIte, Nat.reduceEqDiff, Nat.reduceAdd, reduceCtorEq]) ?_
    simp only [hpd, go_sem, ↓reduceIte, Nat.reduceEqDiff, Nat.reduceAdd, reduceCtorEq]
    (repeat first | simp only [go_sem, ↓reduceIte, Nat.reduceEqDiff, Nat.reduceAdd, reduceCtorEq] | with_reducible refine V_W ?_ | (with_reducible refine And.intro ?_ ?_; focus first | assumption | omega | decide | grind) | (with_reducible refine Br.mk ?_ ?_; focus (intros; omega)) | decide)
    refine pureC (boundaryRanks_p r R B hp hr) (by simp only [go_sem, ↓reduceIte, Nat.reduceEqDiff, Nat.reduceAdd, reduceCtorEq] <;> rfl) (by first | rfl | simp only [go_sem, ↓reduceIte, Nat.reduceEqDiff, Nat.reduceAdd, reduceCtorEq]) ?_
    (repeat first | simp only [go_sem, ↓reduceIte, Nat.reduceEqDiff, Nat.reduceAdd, reduceCtorEq] | with_reducible refine V_W ?_ | (with_reducible refine And.intro ?_ ?_; focus first | assumption | omega | decide | grind) | (with_reducible refine Br.mk ?_ ?_; focus (intros; omega)) | decide)
    (try simp only [go_sem, ↓reduceIte, Nat.reduceEqDiff, Nat.reduceAdd, reduceCtorEq, and_self])
  · rw [if_neg hp, if_neg hp]
    refine pure_nil 1 ?_
    have hpd : decide (IsPos r R B) = false := decide_eq_false hp
    refine pureV0 ok18 rfl rfl ?_; unfold c18
    (repeat first | simp only [go_sem, ↓reduceIte, Nat.reduceEqDiff, Nat.reduceAdd, reduceCtorEq] | with_reducible refine V_W ?_ | (with_reducible refine And.intro ?_ ?_; focus first | assumption | omega | decide | grind) | (with_reducible refine Br.mk ?_ ?_; focus (intros; omega)) | decide)
    refine pureC (isPoset_c r R B (by omega) (by omega) gr) (by simp only [go_sem, ↓reduceIte, Nat.reduceEqDiff, Nat.reduceAdd, reduceCtorEq] <;> rfl) (by first | rfl | simp only [go_sem, ↓reduceIte, Nat.reduceEqDiff, Nat.reduceAdd, reduceCtorEq]) ?_
    simp only [hpd, go_sem, ↓reduceIte, Nat.reduceEqDiff, Nat.reduceAdd, reduceCtorEq]
    (repeat first | simp only [go_sem, ↓reduceIte, Nat.reduceEqDiff, Nat.reduceAdd, reduceCtorEq] | with_reducible refine V_W ?_ | (with_reducible refine And.intro ?_ ?_; focus first | assumption | omega | decide | grind) | (with_reducible refine Br.mk ?_ ?_; focus (intros; omega)) | decide)

end Go.Proofs.Ytmiapnfhlhgefaa
