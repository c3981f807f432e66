/- Maps: what a map is; the degrees of its vertices; copies of a maniplex. -/
import Derived.Test.YtkolabjcmephaaaMa2
import Derived.Test.YtkolabjcmephaaaCodeG
set_option linter.unusedSimpArgs false
set_option linter.unusedVariables false
set_option maxRecDepth 100000
namespace Go.Proofs.Ytkolabjcmephaaa
open Go.Gov
open Classical

def IsMap (M : List (List Int)) : Prop := IsMan M ∧ M.length = 3

theorem isMap_c (M : List (List Int)) (hl : M.length ≤ 1048576) (hr : ∀ p ∈ M, p.length ≤ 1048576) : Pure Try.prog 37 [maniA M] (bl (decide (IsMap M))) [] := by
  refine pureV0 ok37 rfl rfl ?_; unfold c37
  (repeat first | simp only [go_sem, ↓reduceIte, Nat.reduceEqDiff, Nat.reduceAdd, reduceCtorEq] | (with_reducible refine And.intro ?_ ?_; focus first | omega | decide | grind) | (with_reducible refine Br.mk ?_ ?_; focus (intros; omega)) | decide)
  refine ⟨bl (decide (IsMan M)) , fun hg => by first | exact pureC ( isManiplex_c M hl hr) (by simp only [go_sem, ↓reduceIte, Nat.reduceEqDiff, Nat.reduceAdd, reduceCtorEq] <;> rfl) (by first | rfl | simp only [go_sem, ↓reduceIte, Nat.reduceEqDiff, Nat.reduceAdd, reduceCtorEq]) (by first | exact ⟨rfl, rfl⟩ | simp only [go_sem, ↓reduceIte, Nat.reduceEqDiff, Nat.reduceAdd, reduceCtorEq]) | exact ⟨hg, pureC ( isManiplex_c M hl hr) (by simp only [go_sem, ↓reduceIte, Nat.reduceEqDiff, Nat.reduceAdd, reduceCtorEq] <;> rfl) (by first | rfl | simp only [go_sem, ↓reduceIte, Nat.reduceEqDiff, Nat.reduceAdd, reduceCtorEq]) (by first | exact ⟨rfl, rfl⟩ | simp only [go_sem, ↓reduceIte, Nat.reduceEqDiff, Nat.reduceAdd, reduceCtorEq])⟩ | exact ⟨by grind, pureC ( isManiplex_c M hl hr) (by simp only [go_sem, ↓reduceIte, Nat.reduceEqDiff, Nat.reduceAdd, reduceCtorEq] <;> rfl) (by first | rfl | simp only [go_sem, ↓reduceIte, Nat.reduceEqDiff, Nat.reduceAdd, reduceCtorEq]) (by first | exact ⟨rfl, rfl⟩ | simp only [go_sem, ↓reduceIte, Nat.reduceEqDiff, Nat.reduceAdd, reduceCtorEq])⟩, ?_⟩
  (repeat first | simp only [go_sem, ↓reduceIte, Nat.reduceEqDiff, Nat.reduceAdd, reduceCtorEq] | (with_reducible refine And.intro ?_ ?_; focus first | omega | decide | grind) | (with_reducible refine Br.mk ?_ ?_; focus (intros; omega)) | decide)
  rw [show IsMap M = (IsMan M ∧ M.length = 3) from rfl]
  by_cases h1 : IsMan M <;> by_cases h2 : M.length = 3 <;> simp [h1, h2] <;> omega
theorem l14Is_c (M : List (List Int)) (hl : M.length ≤ 1048576) (hr : ∀ p ∈ M, p.length ≤ 1048576) : Pure Try.prog 34 [maniA M] (bl (decide (IsMap M))) [] := by
  refine pureV0 ok34 rfl rfl ?_; unfold c34
  (repeat first | simp only [go_sem, ↓reduceIte, Nat.reduceEqDiff, Nat.reduceAdd, reduceCtorEq] | (with_reducible refine And.intro ?_ ?_; focus first | omega | decide | grind) | (with_reducible refine Br.mk ?_ ?_; focus (intros; omega)) | decide)
  refine pureC (l02Is_c M hl hr) (by simp only [go_sem, ↓reduceIte, Nat.reduceEqDiff, Nat.reduceAdd, reduceCtorEq] <;> rfl) (by first | rfl | simp only [go_sem, ↓reduceIte, Nat.reduceEqDiff, Nat.reduceAdd, reduceCtorEq]) ?_
  (repeat first | simp only [go_sem, ↓reduceIte, Nat.reduceEqDiff, Nat.reduceAdd, reduceCtorEq] | (with_reducible refine And.intro ?_ ?_; focus first | omega | decide | grind) | (with_reducible refine Br.mk ?_ ?_; focus (intros; omega)) | decide)
  rw [show IsMap M = (IsMan M ∧ M.length = 3) from rfl]
  by_cases h1 : IsMan M <;> by_cases h2 : M.length = 3 <;> simp [h1, h2] <;> omega

theorem toMan_c (M : List (List Int)) (hl : M.length ≤ 1099511627776) (hr : ∀ xs ∈ M, xs.length ≤ 1099511627776) : Pure Try.prog 11 [maniA M] (.agg [.sl 0 1 0 M.length]) [some (M.map oints)] := by
  refine pureVg [3] ok11 rfl ?_; unfold c11
  (repeat first | simp only [go_sem, ↓reduceIte, Nat.reduceEqDiff, Nat.reduceAdd, reduceCtorEq] | (with_reducible refine And.intro ?_ ?_; focus first | omega | decide | grind) | (with_reducible refine Br.mk ?_ ?_; focus (intros; omega)) | decide)
  refine pureC (toInt64SS_c M hl hr) (by simp only [go_sem, ↓reduceIte, Nat.reduceEqDiff, Nat.reduceAdd, reduceCtorEq] <;> rfl) (by first | rfl | simp only [go_sem, ↓reduceIte, Nat.reduceEqDiff, Nat.reduceAdd, reduceCtorEq]) ?_
  (repeat first | simp only [go_sem, ↓reduceIte, Nat.reduceEqDiff, Nat.reduceAdd, reduceCtorEq] | (with_reducible refine And.intro ?_ ?_; focus first | omega | decide | grind) | (with_reducible refine Br.mk ?_ ?_; focus (intros; omega)) | decide)
theorem eqMan_c (M M' : List (List Int)) (hl : M.length ≤ 1099511627776) (hr : ∀ xs ∈ M, xs.length ≤ 1099511627776) (hl' : M'.length ≤ 1099511627776) (hr' : ∀ xs ∈ M', xs.length ≤ 1099511627776) : Pure Try.prog 14 [maniA M, maniA M'] (bl (decide (M = M'))) [] := by
  refine pureV0 ok14 rfl rfl ?_; unfold c14
  (repeat first | simp only [go_sem, ↓reduceIte, Nat.reduceEqDiff, Nat.reduceAdd, reduceCtorEq] | (with_reducible refine And.intro ?_ ?_; focus first | omega | decide | grind) | (with_reducible refine Br.mk ?_ ?_; focus (intros; omega)) | decide)
  refine pureC (eqInt64SS_c M M' hl hl' hr hr') (by simp only [go_sem, ↓reduceIte, Nat.reduceEqDiff, Nat.reduceAdd, reduceCtorEq] <;> rfl) (by first | rfl | simp only [go_sem, ↓reduceIte, Nat.reduceEqDiff, Nat.reduceAdd, reduceCtorEq]) ?_
  (repeat first | simp only [go_sem, ↓reduceIte, Nat.reduceEqDiff, Nat.reduceAdd, reduceCtorEq] | (with_reducible refine And.intro ?_ ?_; focus first | omega | decide | grind) | (with_reducible refine Br.mk ?_ ?_; focus (intros; omega)) | decide)
  refine ⟨fun hc => ?_, fun hc => ?_⟩
  · (repeat first | simp only [go_sem, ↓reduceIte, Nat.reduceEqDiff, Nat.reduceAdd, reduceCtorEq] | (with_reducible refine And.intro ?_ ?_; focus first | omega | decide | grind) | (with_reducible refine Br.mk ?_ ?_; focus (intros; omega)) | decide)
    rw [decide_eq_false hc]
  · (repeat first | simp only [go_sem, ↓reduceIte, Nat.reduceEqDiff, Nat.reduceAdd, reduceCtorEq] | (with_reducible refine And.intro ?_ ?_; focus first | omega | decide | grind) | (with_reducible refine Br.mk ?_ ?_; focus (intros; omega)) | decide)
    rw [decide_eq_true hc]
theorem szMan_c (M : List (List Int)) (b : Int) (h0 : 0 ≤ b) (hb : b ≤ 1048576) (hl : M.length ≤ 9223372036854775807) (hr : ∀ xs ∈ M, xs.length ≤ 9223372036854775807) : Pure Try.prog 9 [maniA M, i64 b] (i64 (left b (M.length + tot M))) [] := by
  refine pureV0 ok9 rfl rfl ?_; unfold c9
  (repeat first | simp only [go_sem, ↓reduceIte, Nat.reduceEqDiff, Nat.reduceAdd, reduceCtorEq] | (with_reducible refine And.intro ?_ ?_; focus first | omega | decide | grind) | (with_reducible refine Br.mk ?_ ?_; focus (intros; omega)) | decide)
  refine pureC (szInt64SS_c M b h0 hb hl hr) (by simp only [go_sem, ↓reduceIte, Nat.reduceEqDiff, Nat.reduceAdd, reduceCtorEq] <;> rfl) (by first | rfl | simp only [go_sem, ↓reduceIte, Nat.reduceEqDiff, Nat.reduceAdd, reduceCtorEq]) ?_
  (repeat first | simp only [go_sem, ↓reduceIte, Nat.reduceEqDiff, Nat.reduceAdd, reduceCtorEq] | (with_reducible refine And.intro ?_ ?_; focus first | omega | decide | grind) | (with_reducible refine Br.mk ?_ ?_; focus (intros; omega)) | decide)
  refine ⟨fun hc => ?_, fun hc => ?_⟩
  · (repeat first | simp only [go_sem, ↓reduceIte, Nat.reduceEqDiff, Nat.reduceAdd, reduceCtorEq] | (with_reducible refine And.intro ?_ ?_; focus first | omega | decide | grind) | (with_reducible refine Br.mk ?_ ?_; focus (intros; omega)) | decide)
    have := left_neg h0 hc
    rw [show left b (M.length + tot M) = -1 from if_neg (by omega)]
  · (repeat first | simp only [go_sem, ↓reduceIte, Nat.reduceEqDiff, Nat.reduceAdd, reduceCtorEq] | (with_reducible refine And.intro ?_ ?_; focus first | omega | decide | grind) | (with_reducible refine Br.mk ?_ ?_; focus (intros; omega)) | decide)
theorem markMan_c (M : List (List Int)) (k : Int) (hl : M.length ≤ 1099511627776) (ht : tot M ≤ 1099511627776) (h0 : 0 ≤ k) (hk : k ≤ 281474976710656) : Wri Try.prog 15 [.agg [.sl 0 1 0 M.length], i64 k] [some (M.map oints)] (i64 (k + tot M)) [some ((upR k M).map oints)] := by
  refine wriVg [0] ok15 rfl ?_; unfold c15
  (repeat first | simp only [go_sem, ↓reduceIte, Nat.reduceEqDiff, Nat.reduceAdd, reduceCtorEq] | (with_reducible refine And.intro ?_ ?_; focus first | omega | decide | grind) | (with_reducible refine Br.mk ?_ ?_; focus (intros; omega)) | decide)
  refine wriC (markInt64SS_c M k hl ht h0 (by omega)) [0] (by first | rfl | simp) (by simp only [go_sem, ↓reduceIte, Nat.reduceEqDiff, Nat.reduceAdd, reduceCtorEq] <;> rfl) (by simp only [go_sem, ↓reduceIte, Nat.reduceEqDiff, Nat.reduceAdd, reduceCtorEq] <;> rfl) (by first | rfl | simp only [go_sem, ↓reduceIte, Nat.reduceEqDiff, Nat.reduceAdd, reduceCtorEq]) ?_
  (repeat first | simp only [go_sem, ↓reduceIte, Nat.reduceEqDiff, Nat.reduceAdd, reduceCtorEq] | (with_reducible refine And.intro ?_ ?_; focus first | omega | decide | grind) | (with_reducible refine Br.mk ?_ ?_; focus (intros; omega)) | decide)

theorem heldMan_c (M : List (List Int)) (k : Int) (hl : M.length ≤ 1099511627776) (ht : tot M ≤ 1099511627776) (h0 : 0 ≤ k) (hk : k ≤ 281474976710656) : Pure Try.prog 30 [.agg [.slc 1 M.length ((upR k M).map ints)], i64 k] (i64 (k + tot M)) [] := by
  refine pureV0 ok30 rfl rfl ?_; unfold c30
  (repeat first | simp only [go_sem, ↓reduceIte, Nat.reduceEqDiff, Nat.reduceAdd, reduceCtorEq] | (with_reducible refine And.intro ?_ ?_; focus first | omega | decide | grind) | (with_reducible refine Br.mk ?_ ?_; focus (intros; omega)) | decide)
  have h := heldInt64SS_c M k hl ht h0 (by omega)
  rw [show mat (upR k M) = .slc 1 M.length ((upR k M).map ints) by rw [mat, upR_len]] at h
  refine pureC (h) (by simp only [go_sem, ↓reduceIte, Nat.reduceEqDiff, Nat.reduceAdd, reduceCtorEq] <;> rfl) (by first | rfl | simp only [go_sem, ↓reduceIte, Nat.reduceEqDiff, Nat.reduceAdd, reduceCtorEq]) ?_
  (repeat first | simp only [go_sem, ↓reduceIte, Nat.reduceEqDiff, Nat.reduceAdd, reduceCtorEq] | (with_reducible refine And.intro ?_ ?_; focus first | omega | decide | grind) | (with_reducible refine Br.mk ?_ ?_; focus (intros; omega)) | decide)

noncomputable def vdV (M : List (List Int)) (i : Nat) : List Int := if IsMap M then hlvs (cntL (ncnt (oth M i M.length) (fl M)) (labs (fl M) (oth M i M.length)) (fl M)) else []
noncomputable def vdC (M : List (List Int)) : Int := if IsMap M then 0 else 1
theorem vdV_len (M : List (List Int)) (i : Nat) : (vdV M i).length ≤ 400 := by
  unfold vdV
  split
  · rename_i h
    have := ncnt_le (oth M i M.length) (fl M)
    have := h.1.f4
    simp [hlvs, cntL]
    omega
  · simp

theorem implVd_c (M : List (List Int)) (hl : M.length ≤ 1048576) (hr : ∀ p ∈ M, p.length ≤ 1048576) : Pure Try.prog 12 [maniA M] (.tup [.sl 0 1 0 (vdV M 0).length, i64 (vdC M)]) [some (intsC (vdV M 0))] := by
  unfold vdV vdC
  by_cases hp : IsMap M
  · rw [if_pos hp, if_pos hp]
    have hpd : decide (IsMap M) = true := decide_eq_true hp
    have h3 := hp.2
    have hf := hp.1.f4
    have hlen : (hlvs (cntL (ncnt (oth M 0 M.length) (fl M)) (labs (fl M) (oth M 0 M.length)) (fl M))).length = ncnt (oth M 0 M.length) (fl M) := by simp [hlvs, cntL]
    rw [hlen]
    have hS := sizesOf_c (fl M) M 0 hp.1.mv (by omega) rfl (by omega) hl
    refine pureVg [1] ok12 rfl ?_; unfold c12
    (repeat first | simp only [go_sem, ↓reduceIte, Nat.reduceEqDiff, Nat.reduceAdd, reduceCtorEq] | (with_reducible refine And.intro ?_ ?_; focus first | omega | decide | grind) | (with_reducible refine Br.mk ?_ ?_; focus (intros; omega)) | decide)
    refine pureC (isMap_c M hl hr) (by simp only [go_sem, ↓reduceIte, Nat.reduceEqDiff, Nat.reduceAdd, reduceCtorEq] <;> rfl) (by first | rfl | simp only [go_sem, ↓reduceIte, Nat.reduceEqDiff, Nat.reduceAdd, reduceCtorEq]) ?_
    (repeat first | simp only [go_sem, ↓reduceIte, Nat.reduceEqDiff, Nat.reduceAdd, reduceCtorEq] | (with_reducible refine And.intro ?_ ?_; focus first | omega | decide | grind) | (with_reducible refine Br.mk ?_ ?_; focus (intros; omega)) | decide)
    simp only [hp, go_sem, ↓reduceIte, Nat.reduceEqDiff, Nat.reduceAdd, reduceCtorEq]
    (repeat first | simp only [go_sem, ↓reduceIte, Nat.reduceEqDiff, Nat.reduceAdd, reduceCtorEq] | (with_reducible refine And.intro ?_ ?_; focus first | omega | decide | grind) | (with_reducible refine Br.mk ?_ ?_; focus (intros; omega)) | decide)
    refine pureC (hS) (by simp only [go_sem, ↓reduceIte, Nat.reduceEqDiff, Nat.reduceAdd, reduceCtorEq] <;> rfl) (by first | rfl | simp only [go_sem, ↓reduceIte, Nat.reduceEqDiff, Nat.reduceAdd, reduceCtorEq]) ?_
    (repeat first | simp only [go_sem, ↓reduceIte, Nat.reduceEqDiff, Nat.reduceAdd, reduceCtorEq] | (with_reducible refine And.intro ?_ ?_; focus first | omega | decide | grind) | (with_reducible refine Br.mk ?_ ?_; focus (intros; omega)) | decide)
  · rw [if_neg hp, if_neg hp]
    refine pure_nil 1 ?_
    refine pureV0 ok12 rfl rfl ?_; unfold c12
    (repeat first | simp only [go_sem, ↓reduceIte, Nat.reduceEqDiff, Nat.reduceAdd, reduceCtorEq] | (with_reducible refine And.intro ?_ ?_; focus first | omega | decide | grind) | (with_reducible refine Br.mk ?_ ?_; focus (intros; omega)) | decide)
    refine pureC (isMap_c M hl hr) (by simp only [go_sem, ↓reduceIte, Nat.reduceEqDiff, Nat.reduceAdd, reduceCtorEq] <;> rfl) (by first | rfl | simp only [go_sem, ↓reduceIte, Nat.reduceEqDiff, Nat.reduceAdd, reduceCtorEq]) ?_
    (repeat first | simp only [go_sem, ↓reduceIte, Nat.reduceEqDiff, Nat.reduceAdd, reduceCtorEq] | (with_reducible refine And.intro ?_ ?_; focus first | omega | decide | grind) | (with_reducible refine Br.mk ?_ ?_; focus (intros; omega)) | decide)
    simp only [hp, go_sem, ↓reduceIte, Nat.reduceEqDiff, Nat.reduceAdd, reduceCtorEq]
    (repeat first | simp only [go_sem, ↓reduceIte, Nat.reduceEqDiff, Nat.reduceAdd, reduceCtorEq] | (with_reducible refine And.intro ?_ ?_; focus first | omega | decide | grind) | (with_reducible refine Br.mk ?_ ?_; focus (intros; omega)) | decide)
theorem specVd_c (M : List (List Int)) (hl : M.length ≤ 1048576) (hr : ∀ p ∈ M, p.length ≤ 1048576) : Pure Try.prog 10 [maniA M] (.tup [.sl 0 1 0 (vdV M 0).length, i64 (vdC M)]) [some (intsC (vdV M 0))] := by
  unfold vdV vdC
  by_cases hp : IsMap M
  · rw [if_pos hp, if_pos hp]
    have h3 := hp.2
    have hf := hp.1.f4
    have hlen : (hlvs (cntL (ncnt (oth M 0 M.length) (fl M)) (labs (fl M) (oth M 0 M.length)) (fl M))).length = ncnt (oth M 0 M.length) (fl M) := by simp [hlvs, cntL]
    rw [hlen]
    have hS := l14Sizes_c (fl M) M 0 hp.1.mv (by omega) rfl (by omega) hl
    refine pureVg [1] ok10 rfl ?_; unfold c10
    (repeat first | simp only [go_sem, ↓reduceIte, Nat.reduceEqDiff, Nat.reduceAdd, reduceCtorEq] | (with_reducible refine And.intro ?_ ?_; focus first | omega | decide | grind) | (with_reducible refine Br.mk ?_ ?_; focus (intros; omega)) | decide)
    refine pureC (l14Is_c M hl hr) (by simp only [go_sem, ↓reduceIte, Nat.reduceEqDiff, Nat.reduceAdd, reduceCtorEq] <;> rfl) (by first | rfl | simp only [go_sem, ↓reduceIte, Nat.reduceEqDiff, Nat.reduceAdd, reduceCtorEq]) ?_
    (repeat first | simp only [go_sem, ↓reduceIte, Nat.reduceEqDiff, Nat.reduceAdd, reduceCtorEq] | (with_reducible refine And.intro ?_ ?_; focus first | omega | decide | grind) | (with_reducible refine Br.mk ?_ ?_; focus (intros; omega)) | decide)
    simp only [hp, go_sem, ↓reduceIte, Nat.reduceEqDiff, Nat.reduceAdd, reduceCtorEq]
    (repeat first | simp only [go_sem, ↓reduceIte, Nat.reduceEqDiff, Nat.reduceAdd, reduceCtorEq] | (with_reducible refine And.intro ?_ ?_; focus first | omega | decide | grind) | (with_reducible refine Br.mk ?_ ?_; focus (intros; omega)) | decide)
    refine pureC (hS) (by simp only [go_sem, ↓reduceIte, Nat.reduceEqDiff, Nat.reduceAdd, reduceCtorEq] <;> rfl) (by first | rfl | simp only [go_sem, ↓reduceIte, Nat.reduceEqDiff, Nat.reduceAdd, reduceCtorEq]) ?_
    (repeat first | simp only [go_sem, ↓reduceIte, Nat.reduceEqDiff, Nat.reduceAdd, reduceCtorEq] | (with_reducible refine And.intro ?_ ?_; focus first | omega | decide | grind) | (with_reducible refine Br.mk ?_ ?_; focus (intros; omega)) | decide)
  · rw [if_neg hp, if_neg hp]
    refine pure_nil 1 ?_
    refine pureV0 ok10 rfl rfl ?_; unfold c10
    (repeat first | simp only [go_sem, ↓reduceIte, Nat.reduceEqDiff, Nat.reduceAdd, reduceCtorEq] | (with_reducible refine And.intro ?_ ?_; focus first | omega | decide | grind) | (with_reducible refine Br.mk ?_ ?_; focus (intros; omega)) | decide)
    refine pureC (l14Is_c M hl hr) (by simp only [go_sem, ↓reduceIte, Nat.reduceEqDiff, Nat.reduceAdd, reduceCtorEq] <;> rfl) (by first | rfl | simp only [go_sem, ↓reduceIte, Nat.reduceEqDiff, Nat.reduceAdd, reduceCtorEq]) ?_
    (repeat first | simp only [go_sem, ↓reduceIte, Nat.reduceEqDiff, Nat.reduceAdd, reduceCtorEq] | (with_reducible refine And.intro ?_ ?_; focus first | omega | decide | grind) | (with_reducible refine Br.mk ?_ ?_; focus (intros; omega)) | decide)
    simp only [hp, go_sem, ↓reduceIte, Nat.reduceEqDiff, Nat.reduceAdd, reduceCtorEq]
    (repeat first | simp only [go_sem, ↓reduceIte, Nat.reduceEqDiff, Nat.reduceAdd, reduceCtorEq] | (with_reducible refine And.intro ?_ ?_; focus first | omega | decide | grind) | (with_reducible refine Br.mk ?_ ?_; focus (intros; omega)) | decide)

end Go.Proofs.Ytkolabjcmephaaa
