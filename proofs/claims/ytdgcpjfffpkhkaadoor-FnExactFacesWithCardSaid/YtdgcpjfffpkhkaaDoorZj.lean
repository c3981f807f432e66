/- Texts that belong together. -/
import Derived.KernelRfl
import Derived.Shelf.SlGeneric
import Derived.Shelf.SlSortCmp.NoneTotal
import Derived.Ground.SlsfProg
import Derived.Test.YtdgcpjfffpkhkaaDoorProg
import Derived.Test.YtdgcpjfffpkhkaaDoorZe
import Derived.Test.YtdgcpjfffpkhkaaDoorZf
set_option linter.unusedSimpArgs false
set_option linter.unusedVariables false
set_option maxRecDepth 100000
namespace Go.Proofs.YtdgcpjfffpkhkaaDoor
open Go.Gov

theorem l01In_c (n lo hi : Int) : Pure Tryd.prog 37 [i64 n, i64 lo, i64 hi] (bl (decide (lo ≤ n) && decide (n ≤ hi))) [] := by
  refine pureV ok37 rfl ?_; unfold c37
  (repeat first | simp only [go_sem, ↓reduceIte, Nat.reduceEqDiff, Nat.reduceAdd, reduceCtorEq] | with_reducible refine V_W ?_ | (with_reducible refine And.intro ?_ ?_; focus first | assumption | omega | decide | grind) | (with_reducible refine Br.mk ?_ ?_; focus (intros; omega)) | decide)
theorem within_c (n lo hi : Int) : Pure Tryd.prog 39 [i64 n, i64 lo, i64 hi] (bl (decide (lo ≤ n) && decide (n ≤ hi))) [] := by
  refine pureV ok39 rfl ?_; unfold c39
  (repeat first | simp only [go_sem, ↓reduceIte, Nat.reduceEqDiff, Nat.reduceAdd, reduceCtorEq] | with_reducible refine V_W ?_ | (with_reducible refine And.intro ?_ ?_; focus first | assumption | omega | decide | grind) | (with_reducible refine Br.mk ?_ ?_; focus (intros; omega)) | decide)
theorem size_c (xs : List Int) (hl : xs.length ≤ 1099511627776) : Pure Tryd.prog 52 [ints xs] (i64 xs.length) [] := by
  refine pureV ok52 rfl ?_; unfold c52
  (repeat first | simp only [go_sem, ↓reduceIte, Nat.reduceEqDiff, Nat.reduceAdd, reduceCtorEq] | with_reducible refine V_W ?_ | (with_reducible refine And.intro ?_ ?_; focus first | assumption | omega | decide | grind) | (with_reducible refine Br.mk ?_ ?_; focus (intros; omega)) | decide)

def idx (xs : List Int) (n : Int) : Int := if n ∈ xs then xs.idxOf n else -1
theorem idx_at {xs : List Int} {n : Int} {i : Nat} (h : ∀ j, j < i → xs.getD j 0 ≠ n) (hi : i < xs.length) (he : xs.getD i 0 = n) : idx xs n = i := by
  have hm : n ∈ xs := by rw [← he]; simp [hi]
  unfold idx
  rw [if_pos hm]
  congr 1
  induction xs generalizing i with
  | nil => cases hi
  | cons x xs ih =>
    cases i with
    | zero =>
      have hx : x = n := by simpa using he
      simp [hx]
    | succ i =>
      have hx : x ≠ n := by have := h 0 (by omega); simpa using this
      have hm' : n ∈ xs := by rcases List.mem_cons.1 hm with h' | h'; exact absurd h'.symm hx; exact h'
      have hb : (x == n) = false := by simpa using hx
      rw [List.idxOf_cons, hb, cond_false]
      rw [ih (i := i) (fun j hj => by have := h (j + 1) (by omega); simpa using this) (by simpa using hi) (by simpa using he) hm']
theorem idx_no {xs : List Int} {n : Int} (h : ∀ j, j < xs.length → xs.getD j 0 ≠ n) : idx xs n = -1 := by
  unfold idx
  rw [if_neg]
  intro hm
  obtain ⟨j, hj, he⟩ := List.mem_iff_getElem.1 hm
  exact h j hj (by simp [hj, he])
theorem idx_ge (xs : List Int) (n : Int) : decide (0 ≤ idx xs n) = decide (n ∈ xs) := by
  unfold idx
  by_cases h : n ∈ xs <;> simp [h]

theorem l01Index_c (xs : List Int) (n : Int) (hl : xs.length ≤ 1099511627776) : Pure Tryd.prog 82 [ints xs, i64 n] (i64 (idx xs n)) [] := by
  refine pureV ok82 rfl ?_; unfold c82
  (repeat first | simp only [go_sem, ↓reduceIte, Nat.reduceEqDiff, Nat.reduceAdd, reduceCtorEq] | with_reducible refine V_W ?_ | (with_reducible refine And.intro ?_ ?_; focus first | assumption | omega | decide | grind) | (with_reducible refine Br.mk ?_ ?_; focus (intros; omega)) | decide)
  refine V_loop (α := Nat) (S := fun i => ([(0, ints xs), (1, i64 n), (5, i64 i)], [])) (C := fun i => i ≤ xs.length ∧ ∀ j, j < i → xs.getD j 0 ≠ n) (μ := fun i => xs.length - i) 0 ⟨by omega, by omega⟩ (by exact Ref.frame (by simp [sub, fget])) ?_
  rintro i ⟨hi, hall⟩
  (repeat first | simp only [go_sem, ↓reduceIte, Nat.reduceEqDiff, Nat.reduceAdd, reduceCtorEq] | with_reducible refine V_W ?_ | (with_reducible refine And.intro ?_ ?_; focus first | assumption | omega | decide | grind) | (with_reducible refine Br.mk ?_ ?_; focus (intros; omega)) | decide)
  refine ⟨fun hc => ?_, fun hc => ?_⟩
  · (repeat first | simp only [go_sem, ↓reduceIte, Nat.reduceEqDiff, Nat.reduceAdd, reduceCtorEq] | with_reducible refine V_W ?_ | (with_reducible refine And.intro ?_ ?_; focus first | assumption | omega | decide | grind) | (with_reducible refine Br.mk ?_ ?_; focus (intros; omega)) | decide)
    refine ⟨fun hc => ?_, fun hc => ?_⟩
    · (repeat first | simp only [go_sem, ↓reduceIte, Nat.reduceEqDiff, Nat.reduceAdd, reduceCtorEq] | with_reducible refine V_W ?_ | (with_reducible refine And.intro ?_ ?_; focus first | assumption | omega | decide | grind) | (with_reducible refine Br.mk ?_ ?_; focus (intros; omega)) | decide)
      rw [idx_at hall (by omega) (by assumption)]
    · (repeat first | simp only [go_sem, ↓reduceIte, Nat.reduceEqDiff, Nat.reduceAdd, reduceCtorEq] | with_reducible refine V_W ?_ | (with_reducible refine And.intro ?_ ?_; focus first | assumption | omega | decide | grind) | (with_reducible refine Br.mk ?_ ?_; focus (intros; omega)) | decide)
      refine ⟨i + 1, ⟨by omega, fun j hj => ?_⟩, by omega, by exact Ref.frame (by simp [sub, fget])⟩
      rcases Nat.lt_or_ge j i with h | h
      · exact hall j h
      · obtain rfl : j = i := by omega
        simpa using hc
  · (repeat first | simp only [go_sem, ↓reduceIte, Nat.reduceEqDiff, Nat.reduceAdd, reduceCtorEq] | with_reducible refine V_W ?_ | (with_reducible refine And.intro ?_ ?_; focus first | assumption | omega | decide | grind) | (with_reducible refine Br.mk ?_ ?_; focus (intros; omega)) | decide)
    rw [idx_no (fun j hj => hall j (by omega))]

theorem l01Has_c (xs : List Int) (n : Int) (hl : xs.length ≤ 1099511627776) : Pure Tryd.prog 68 [ints xs, i64 n] (bl (decide (n ∈ xs))) [] := by
  refine pureV ok68 rfl ?_; unfold c68
  (repeat first | simp only [go_sem, ↓reduceIte, Nat.reduceEqDiff, Nat.reduceAdd, reduceCtorEq] | with_reducible refine V_W ?_ | (with_reducible refine And.intro ?_ ?_; focus first | assumption | omega | decide | grind) | (with_reducible refine Br.mk ?_ ?_; focus (intros; omega)) | decide)
  refine pureC (l01Index_c xs n hl) (by simp only [go_sem, ↓reduceIte, Nat.reduceEqDiff, Nat.reduceAdd, reduceCtorEq] <;> rfl) (by first | rfl | simp only [go_sem, ↓reduceIte, Nat.reduceEqDiff, Nat.reduceAdd, reduceCtorEq]) ?_
  (repeat first | simp only [go_sem, ↓reduceIte, Nat.reduceEqDiff, Nat.reduceAdd, reduceCtorEq] | with_reducible refine V_W ?_ | (with_reducible refine And.intro ?_ ?_; focus first | assumption | omega | decide | grind) | (with_reducible refine Br.mk ?_ ?_; focus (intros; omega)) | decide)
  try rw [idx_ge]

theorem isNaN2_c (n : Int) : Pure Tryd.prog 84 [i64 n] (bl false) [] := by
  refine pureV ok84 rfl ?_; unfold c84
  (repeat first | simp only [go_sem, ↓reduceIte, Nat.reduceEqDiff, Nat.reduceAdd, reduceCtorEq] | with_reducible refine V_W ?_ | (with_reducible refine And.intro ?_ ?_; focus first | assumption | omega | decide | grind) | (with_reducible refine Br.mk ?_ ?_; focus (intros; omega)) | decide)
  try rw [show (n != n) = false by simp]

theorem eqInt64S_c (xs ys : List Int) (hx : xs.length ≤ 1099511627776) (hy : ys.length ≤ 1099511627776) : Pure Tryd.prog 26 [ints xs, ints ys] (bl (decide (xs = ys))) [] := by
  refine pureV ok26 rfl ?_; unfold c26
  (repeat first | simp only [go_sem, ↓reduceIte, Nat.reduceEqDiff, Nat.reduceAdd, reduceCtorEq] | with_reducible refine V_W ?_ | (with_reducible refine And.intro ?_ ?_; focus first | assumption | omega | decide | grind) | (with_reducible refine Br.mk ?_ ?_; focus (intros; omega)) | decide)
  refine ⟨fun hc => ?_, fun hc => ?_⟩
  · (repeat first | simp only [go_sem, ↓reduceIte, Nat.reduceEqDiff, Nat.reduceAdd, reduceCtorEq] | with_reducible refine V_W ?_ | (with_reducible refine And.intro ?_ ?_; focus first | assumption | omega | decide | grind) | (with_reducible refine Br.mk ?_ ?_; focus (intros; omega)) | decide)
    rw [decide_eq_false (fun h => hc (by rw [h]))]
  · have hl : xs.length = ys.length := by omega
    (repeat first | simp only [go_sem, ↓reduceIte, Nat.reduceEqDiff, Nat.reduceAdd, reduceCtorEq] | with_reducible refine V_W ?_ | (with_reducible refine And.intro ?_ ?_; focus first | assumption | omega | decide | grind) | (with_reducible refine Br.mk ?_ ?_; focus (intros; omega)) | decide)
    refine V_loop (α := Nat) (S := fun i => ([(0, ints xs), (1, ints ys), (5, i64 i)], [])) (C := fun i => i ≤ xs.length ∧ ∀ j, j < i → xs.getD j 0 = ys.getD j 0) (μ := fun i => xs.length - i) 0 ⟨by omega, by omega⟩ (by exact Ref.frame (by simp [sub, fget])) ?_
    rintro i ⟨hi, hall⟩
    (repeat first | simp only [go_sem, ↓reduceIte, Nat.reduceEqDiff, Nat.reduceAdd, reduceCtorEq] | with_reducible refine V_W ?_ | (with_reducible refine And.intro ?_ ?_; focus first | assumption | omega | decide | grind) | (with_reducible refine Br.mk ?_ ?_; focus (intros; omega)) | decide)
    refine ⟨fun hc1 => ?_, fun hc1 => ?_⟩
    · (repeat first | simp only [go_sem, ↓reduceIte, Nat.reduceEqDiff, Nat.reduceAdd, reduceCtorEq] | with_reducible refine V_W ?_ | (with_reducible refine And.intro ?_ ?_; focus first | assumption | omega | decide | grind) | (with_reducible refine Br.mk ?_ ?_; focus (intros; omega)) | decide)
      refine ⟨fun hc2 => ?_, fun hc2 => ?_⟩
      · (repeat first | simp only [go_sem, ↓reduceIte, Nat.reduceEqDiff, Nat.reduceAdd, reduceCtorEq] | with_reducible refine V_W ?_ | (with_reducible refine And.intro ?_ ?_; focus first | assumption | omega | decide | grind) | (with_reducible refine Br.mk ?_ ?_; focus (intros; omega)) | decide)
        rw [decide_eq_false (fun h => hc2 (by rw [h]))]
      · (repeat first | simp only [go_sem, ↓reduceIte, Nat.reduceEqDiff, Nat.reduceAdd, reduceCtorEq] | with_reducible refine V_W ?_ | (with_reducible refine And.intro ?_ ?_; focus first | assumption | omega | decide | grind) | (with_reducible refine Br.mk ?_ ?_; focus (intros; omega)) | decide)
        refine ⟨i + 1, ⟨by omega, fun j hj => ?_⟩, by omega, by exact Ref.frame (by simp [sub, fget])⟩
        rcases Nat.lt_or_ge j i with h | h
        · exact hall j h
        · obtain rfl : j = i := by omega
          simpa using hc2
    · (repeat first | simp only [go_sem, ↓reduceIte, Nat.reduceEqDiff, Nat.reduceAdd, reduceCtorEq] | with_reducible refine V_W ?_ | (with_reducible refine And.intro ?_ ?_; focus first | assumption | omega | decide | grind) | (with_reducible refine Br.mk ?_ ?_; focus (intros; omega)) | decide)
      rw [decide_eq_true]
      refine List.ext_getElem hl fun j h1 h2 => ?_
      have := hall j (by omega)
      simpa [h1, h2] using this

end Go.Proofs.YtdgcpjfffpkhkaaDoor
set_option maxRecDepth 100000
namespace Go.Proofs.YtdgcpjfffpkhkaaDoor
open Go.Gov

def left (b : Int) (n : Nat) : Int := if (n : Int) ≤ b then b - n else -1
def tot (xss : List (List Int)) : Nat := (xss.map List.length).sum

theorem szInt64S_c (xs : List Int) (b : Int) (h0 : 0 ≤ b) (hb : b ≤ 1048576) (hl : xs.length ≤ 9223372036854775807) : Pure Tryd.prog 47 [ints xs, i64 b] (i64 (left b xs.length)) [] := by
  refine pureV ok47 rfl ?_; unfold c47
  (repeat first | simp only [go_sem, ↓reduceIte, Nat.reduceEqDiff, Nat.reduceAdd, reduceCtorEq] | with_reducible refine V_W ?_ | (with_reducible refine And.intro ?_ ?_; focus first | assumption | omega | decide | grind) | (with_reducible refine Br.mk ?_ ?_; focus (intros; omega)) | decide)
  refine ⟨fun hc => ?_, fun hc => ?_⟩
  · (repeat first | simp only [go_sem, ↓reduceIte, Nat.reduceEqDiff, Nat.reduceAdd, reduceCtorEq] | with_reducible refine V_W ?_ | (with_reducible refine And.intro ?_ ?_; focus first | assumption | omega | decide | grind) | (with_reducible refine Br.mk ?_ ?_; focus (intros; omega)) | decide)
    rw [show left b xs.length = -1 from if_neg (by omega)]
  · (repeat first | simp only [go_sem, ↓reduceIte, Nat.reduceEqDiff, Nat.reduceAdd, reduceCtorEq] | with_reducible refine V_W ?_ | (with_reducible refine And.intro ?_ ?_; focus first | assumption | omega | decide | grind) | (with_reducible refine Br.mk ?_ ?_; focus (intros; omega)) | decide)
    rw [show left b xs.length = b - xs.length from if_pos (by omega)]

theorem tot_cons (x : List Int) (xss : List (List Int)) : tot (x :: xss) = x.length + tot xss := by simp [tot]
theorem tot_app (a b : List (List Int)) : tot (a ++ b) = tot a + tot b := by simp [tot]
theorem tot_take (xss : List (List Int)) (i : Nat) (h : i < xss.length) : tot (xss.take (i + 1)) = tot (xss.take i) + (xss.getD i []).length := by
  rw [List.take_succ_eq_append_getElem h, tot_app]
  simp [tot, h]
theorem tot_take_le (xss : List (List Int)) (i : Nat) : tot (xss.take i) ≤ tot xss := by
  have := congrArg tot (List.take_append_drop i xss)
  rw [tot_app] at this
  omega

theorem szInt64SS_c (xss : List (List Int)) (b : Int) (h0 : 0 ≤ b) (hb : b ≤ 1048576) (hl : xss.length ≤ 9223372036854775807) (hr : ∀ xs ∈ xss, xs.length ≤ 9223372036854775807) : Pure Tryd.prog 31 [mat xss, i64 b] (i64 (left b (xss.length + tot xss))) [] := by
  refine pureV ok31 rfl ?_; unfold c31
  (repeat first | simp only [go_sem, ↓reduceIte, Nat.reduceEqDiff, Nat.reduceAdd, reduceCtorEq] | with_reducible refine V_W ?_ | (with_reducible refine And.intro ?_ ?_; focus first | assumption | omega | decide | grind) | (with_reducible refine Br.mk ?_ ?_; focus (intros; omega)) | decide)
  refine ⟨fun hc => ?_, fun hc => ?_⟩
  · (repeat first | simp only [go_sem, ↓reduceIte, Nat.reduceEqDiff, Nat.reduceAdd, reduceCtorEq] | with_reducible refine V_W ?_ | (with_reducible refine And.intro ?_ ?_; focus first | assumption | omega | decide | grind) | (with_reducible refine Br.mk ?_ ?_; focus (intros; omega)) | decide)
    rw [show left b (xss.length + tot xss) = -1 from if_neg (by omega)]
  · (repeat first | simp only [go_sem, ↓reduceIte, Nat.reduceEqDiff, Nat.reduceAdd, reduceCtorEq] | with_reducible refine V_W ?_ | (with_reducible refine And.intro ?_ ?_; focus first | assumption | omega | decide | grind) | (with_reducible refine Br.mk ?_ ?_; focus (intros; omega)) | decide)
    refine V_loop (α := Nat) (S := fun i => ([(0, mat xss), (1, i64 (b - xss.length - tot (xss.take i))), (5, i64 i)], [])) (C := fun i => i ≤ xss.length ∧ (tot (xss.take i) : Int) ≤ b - xss.length) (μ := fun i => xss.length - i) 0 ⟨by omega, by simp [tot]; omega⟩ (by simp only [List.take_zero, tot, List.map_nil, List.sum_nil]; exact Ref.frame (by simp [sub, fget])) ?_
    rintro i ⟨hi, hle⟩
    (repeat first | simp only [go_sem, ↓reduceIte, Nat.reduceEqDiff, Nat.reduceAdd, reduceCtorEq] | with_reducible refine V_W ?_ | (with_reducible refine And.intro ?_ ?_; focus first | assumption | omega | decide | grind) | (with_reducible refine Br.mk ?_ ?_; focus (intros; omega)) | decide)
    refine ⟨fun hc1 => ?_, fun hc1 => ?_⟩
    · have hlt : i < xss.length := by omega
      have hrow : (xss.getD i []).length ≤ 9223372036854775807 := by
        rw [show xss.getD i [] = xss[i] by simp [hlt]]; exact hr _ (List.getElem_mem _)
      (repeat first | simp only [go_sem, ↓reduceIte, Nat.reduceEqDiff, Nat.reduceAdd, reduceCtorEq] | with_reducible refine V_W ?_ | (with_reducible refine And.intro ?_ ?_; focus first | assumption | omega | decide | grind) | (with_reducible refine Br.mk ?_ ?_; focus (intros; omega)) | decide)
      refine pureC (szInt64S_c (xss.getD i []) (b - xss.length - tot (xss.take i)) (by omega) (by omega) hrow) (by simp only [go_sem, ↓reduceIte, Nat.reduceEqDiff, Nat.reduceAdd, reduceCtorEq] <;> rfl) (by first | rfl | simp only [go_sem, ↓reduceIte, Nat.reduceEqDiff, Nat.reduceAdd, reduceCtorEq]) ?_
      (repeat first | simp only [go_sem, ↓reduceIte, Nat.reduceEqDiff, Nat.reduceAdd, reduceCtorEq] | with_reducible refine V_W ?_ | (with_reducible refine And.intro ?_ ?_; focus first | assumption | omega | decide | grind) | (with_reducible refine Br.mk ?_ ?_; focus (intros; omega)) | decide)
      have ht := tot_take xss i hlt
      have hle2 := tot_take_le xss (i + 1)
      have hlf : left (b - xss.length - tot (xss.take i)) (xss.getD i []).length = if (tot (xss.take (i + 1)) : Int) ≤ b - xss.length then b - xss.length - tot (xss.take (i + 1)) else -1 := by
        unfold left
        rw [ht]
        by_cases h : ((xss.getD i []).length : Int) ≤ b - xss.length - tot (xss.take i)
        · rw [if_pos h, if_pos (by omega)]; omega
        · rw [if_neg h, if_neg (by omega)]
      refine ⟨fun hc2 => ?_, fun hc2 => ?_⟩
      · (repeat first | simp only [go_sem, ↓reduceIte, Nat.reduceEqDiff, Nat.reduceAdd, reduceCtorEq] | with_reducible refine V_W ?_ | (with_reducible refine And.intro ?_ ?_; focus first | assumption | omega | decide | grind) | (with_reducible refine Br.mk ?_ ?_; focus (intros; omega)) | decide)
        have : ¬ (tot (xss.take (i + 1)) : Int) ≤ b - xss.length := fun h => by rw [hlf, if_pos h] at hc2; omega
        rw [show left b (xss.length + tot xss) = -1 from if_neg (by omega)]
      · have h : (tot (xss.take (i + 1)) : Int) ≤ b - xss.length := by
          rcases Int.lt_or_le (b - xss.length) (tot (xss.take (i + 1))) with h | h
          · rw [hlf, if_neg (by omega)] at hc2; omega
          · exact h
        (repeat first | simp only [go_sem, ↓reduceIte, Nat.reduceEqDiff, Nat.reduceAdd, reduceCtorEq] | with_reducible refine V_W ?_ | (with_reducible refine And.intro ?_ ?_; focus first | assumption | omega | decide | grind) | (with_reducible refine Br.mk ?_ ?_; focus (intros; omega)) | decide)
        rw [hlf, if_pos h]
        exact ⟨i + 1, ⟨by omega, h⟩, by omega, by exact Ref.frame (by simp [sub, fget])⟩
    · (repeat first | simp only [go_sem, ↓reduceIte, Nat.reduceEqDiff, Nat.reduceAdd, reduceCtorEq] | with_reducible refine V_W ?_ | (with_reducible refine And.intro ?_ ?_; focus first | assumption | omega | decide | grind) | (with_reducible refine Br.mk ?_ ?_; focus (intros; omega)) | decide)
      have : i = xss.length := by omega
      subst this
      rw [List.take_length] at hle ⊢
      rw [show left b (xss.length + tot xss) = b - (xss.length + tot xss : Nat) from if_pos (by omega)]
      show i64 _ = i64 _
      rw [show b - (xss.length : Int) - (tot xss : Int) = b - ((xss.length + tot xss : Nat) : Int) by omega]

abbrev posetA (r : Int) (ranks : List Int) (below : List (List Int)) : AV := .agg [i64 r, ints ranks, mat below]
def psz (ranks : List Int) (below : List (List Int)) : Nat := ranks.length + (below.length + tot below)

theorem left_pos {b : Int} {n : Nat} (h0 : 0 ≤ b) (h : ¬ left b n < 0) : (n : Int) ≤ b ∧ left b n = b - n := by
  unfold left at *
  by_cases e : (n : Int) ≤ b
  · exact ⟨e, if_pos e⟩
  · rw [if_neg e] at h; omega
theorem left_neg {b : Int} {n : Nat} (h0 : 0 ≤ b) (h : left b n < 0) : b < (n : Int) := by
  unfold left at *
  by_cases e : (n : Int) ≤ b
  · rw [if_pos e] at h; omega
  · omega
theorem cpy_map {α β : Type} (f : α → β) (xs : List α) (d0 : α) (d : β) (i : Nat) (h : i < xs.length) : ((xs.take i).map f ++ List.replicate (xs.length - i) d).set i (f (xs.getD i d0)) = (xs.take (i + 1)).map f ++ List.replicate (xs.length - (i + 1)) d := by
  have e : xs.length - i = (xs.length - (i + 1)) + 1 := by omega
  rw [e, List.replicate_succ, List.set_append_right _ _ (by simp; omega), List.length_map, List.length_take, show i - min i xs.length = 0 by omega, List.set_cons_zero, List.take_succ_eq_append_getElem h, List.map_append, List.append_assoc, show xs.getD i d0 = xs[i] by simp [h]]
  rfl
theorem cpy_step {α : Type} (xs : List α) (d : α) (i : Nat) (h : i < xs.length) : (xs.take i ++ List.replicate (xs.length - i) d).set i (xs.getD i d) = xs.take (i + 1) ++ List.replicate (xs.length - (i + 1)) d := by
  simpa using cpy_map id xs d d i h
theorem toInt64S_c (xs : List Int) (hl : xs.length ≤ 1099511627776) : Pure Tryd.prog 51 [ints xs] (.sl 0 1 0 xs.length) [some (intsC xs)] := by
  refine pureV ok51 rfl ?_; unfold c51
  (repeat first | simp only [go_sem, ↓reduceIte, Nat.reduceEqDiff, Nat.reduceAdd, reduceCtorEq] | with_reducible refine V_W ?_ | (with_reducible refine And.intro ?_ ?_; focus first | assumption | omega | decide | grind) | (with_reducible refine Br.mk ?_ ?_; focus (intros; omega)) | decide)
  refine V_loop (α := Nat) (S := fun i => ([(0, ints xs), (3, .sl 0 1 0 xs.length), (4, i64 i)], [some (intsC (xs.take i ++ List.replicate (xs.length - i) 0))])) (C := fun i => i ≤ xs.length) (μ := fun i => xs.length - i) 0 (by omega) (by simp only [List.take_zero, List.nil_append, Nat.sub_zero]; exact Ref.frame (by simp [sub, fget])) ?_
  intro i hi
  (repeat first | simp only [go_sem, ↓reduceIte, Nat.reduceEqDiff, Nat.reduceAdd, reduceCtorEq] | with_reducible refine V_W ?_ | (with_reducible refine And.intro ?_ ?_; focus first | assumption | omega | decide | grind) | (with_reducible refine Br.mk ?_ ?_; focus (intros; omega)) | decide)
  refine ⟨fun hc => ?_, fun hc => ?_⟩
  · (repeat first | simp only [go_sem, ↓reduceIte, Nat.reduceEqDiff, Nat.reduceAdd, reduceCtorEq] | with_reducible refine V_W ?_ | (with_reducible refine And.intro ?_ ?_; focus first | assumption | omega | decide | grind) | (with_reducible refine Br.mk ?_ ?_; focus (intros; omega)) | decide)
    rw [cpy_step xs 0 i (by omega)]
    exact ⟨i + 1, by omega, by omega, by exact Ref.frame (by simp [sub, fget])⟩
  · (repeat first | simp only [go_sem, ↓reduceIte, Nat.reduceEqDiff, Nat.reduceAdd, reduceCtorEq] | with_reducible refine V_W ?_ | (with_reducible refine And.intro ?_ ?_; focus first | assumption | omega | decide | grind) | (with_reducible refine Br.mk ?_ ?_; focus (intros; omega)) | decide)
    rw [show i = xs.length by omega, List.take_length, Nat.sub_self, List.replicate_zero, List.append_nil]

theorem toInt64SS_c (xss : List (List Int)) (hl : xss.length ≤ 1099511627776) (hr : ∀ xs ∈ xss, xs.length ≤ 1099511627776) : Pure Tryd.prog 33 [mat xss] (.sl 0 1 0 xss.length) [some (xss.map oints)] := by
  refine pureV ok33 rfl ?_; unfold c33
  (repeat first | simp only [go_sem, ↓reduceIte, Nat.reduceEqDiff, Nat.reduceAdd, reduceCtorEq] | with_reducible refine V_W ?_ | (with_reducible refine And.intro ?_ ?_; focus first | assumption | omega | decide | grind) | (with_reducible refine Br.mk ?_ ?_; focus (intros; omega)) | decide)
  refine V_loop (α := Nat) (S := fun i => ([(0, mat xss), (3, .sl 0 1 0 xss.length), (4, i64 i)], [some ((xss.take i).map oints ++ List.replicate (xss.length - i) (.val (.slice none 0 0)))])) (C := fun i => i ≤ xss.length) (μ := fun i => xss.length - i) 0 (by omega) (by simp only [List.take_zero, List.map_nil, List.nil_append, Nat.sub_zero]; exact Ref.frame (by simp [sub, fget])) ?_
  intro i hi
  (repeat first | simp only [go_sem, ↓reduceIte, Nat.reduceEqDiff, Nat.reduceAdd, reduceCtorEq] | with_reducible refine V_W ?_ | (with_reducible refine And.intro ?_ ?_; focus first | assumption | omega | decide | grind) | (with_reducible refine Br.mk ?_ ?_; focus (intros; omega)) | decide)
  refine ⟨fun hc => ?_, fun hc => ?_⟩
  · (repeat first | simp only [go_sem, ↓reduceIte, Nat.reduceEqDiff, Nat.reduceAdd, reduceCtorEq] | with_reducible refine V_W ?_ | (with_reducible refine And.intro ?_ ?_; focus first | assumption | omega | decide | grind) | (with_reducible refine Br.mk ?_ ?_; focus (intros; omega)) | decide)
    have hrow : (xss.getD i []).length ≤ 1099511627776 := by
      rw [show xss.getD i [] = xss[i]'(by omega) by simp [show i < xss.length by omega]]; exact hr _ (List.getElem_mem _)
    refine pureC (toInt64S_c (xss.getD i []) hrow) (by simp only [go_sem, ↓reduceIte, Nat.reduceEqDiff, Nat.reduceAdd, reduceCtorEq] <;> rfl) (by first | rfl | simp only [go_sem, ↓reduceIte, Nat.reduceEqDiff, Nat.reduceAdd, reduceCtorEq]) ?_
    (repeat first | simp only [go_sem, ↓reduceIte, Nat.reduceEqDiff, Nat.reduceAdd, reduceCtorEq] | with_reducible refine V_W ?_ | (with_reducible refine And.intro ?_ ?_; focus first | assumption | omega | decide | grind) | (with_reducible refine Br.mk ?_ ?_; focus (intros; omega)) | decide)
    refine ⟨i + 1, by omega, by omega, (Ref.close 0 i 1 (cs2 := intsC (xss.getD i [])) rfl (List.getElem?_set_self (by simp; omega)) rfl (by decide) (by simp [intsC])).trans (Ref.gc [0] rfl ?_ (by simp [sub, fget, go_sem, ↓reduceIte, Nat.reduceEqDiff, Nat.reduceAdd, reduceCtorEq]))⟩
    (try simp only [go_sem, ↓reduceIte, Nat.reduceEqDiff, Nat.reduceAdd, reduceCtorEq, List.set_set])
    rw [cpy_map oints xss [] _ i (by omega)]
  · (repeat first | simp only [go_sem, ↓reduceIte, Nat.reduceEqDiff, Nat.reduceAdd, reduceCtorEq] | with_reducible refine V_W ?_ | (with_reducible refine And.intro ?_ ?_; focus first | assumption | omega | decide | grind) | (with_reducible refine Br.mk ?_ ?_; focus (intros; omega)) | decide)
    rw [show i = xss.length by omega, List.take_length, Nat.sub_self, List.replicate_zero, List.append_nil]

theorem eqInt64SS_c (xss yss : List (List Int)) (hx : xss.length ≤ 1099511627776) (hy : yss.length ≤ 1099511627776) (hxr : ∀ xs ∈ xss, xs.length ≤ 1099511627776) (hyr : ∀ xs ∈ yss, xs.length ≤ 1099511627776) : Pure Tryd.prog 18 [mat xss, mat yss] (bl (decide (xss = yss))) [] := by
  refine pureV ok18 rfl ?_; unfold c18
  (repeat first | simp only [go_sem, ↓reduceIte, Nat.reduceEqDiff, Nat.reduceAdd, reduceCtorEq] | with_reducible refine V_W ?_ | (with_reducible refine And.intro ?_ ?_; focus first | assumption | omega | decide | grind) | (with_reducible refine Br.mk ?_ ?_; focus (intros; omega)) | decide)
  refine ⟨fun hc => ?_, fun hc => ?_⟩
  · (repeat first | simp only [go_sem, ↓reduceIte, Nat.reduceEqDiff, Nat.reduceAdd, reduceCtorEq] | with_reducible refine V_W ?_ | (with_reducible refine And.intro ?_ ?_; focus first | assumption | omega | decide | grind) | (with_reducible refine Br.mk ?_ ?_; focus (intros; omega)) | decide)
    rw [decide_eq_false (fun h => by simp [h] at hc)]
  · have hl : xss.length = yss.length := by omega
    (repeat first | simp only [go_sem, ↓reduceIte, Nat.reduceEqDiff, Nat.reduceAdd, reduceCtorEq] | with_reducible refine V_W ?_ | (with_reducible refine And.intro ?_ ?_; focus first | assumption | omega | decide | grind) | (with_reducible refine Br.mk ?_ ?_; focus (intros; omega)) | decide)
    refine V_loop (α := Nat) (S := fun i => ([(0, mat xss), (1, mat yss), (5, i64 i)], [])) (C := fun i => i ≤ xss.length ∧ ∀ j, j < i → xss.getD j [] = yss.getD j []) (μ := fun i => xss.length - i) 0 ⟨by omega, by omega⟩ (by exact Ref.frame (by simp [sub, fget])) ?_
    rintro i ⟨hi, hall⟩
    (repeat first | simp only [go_sem, ↓reduceIte, Nat.reduceEqDiff, Nat.reduceAdd, reduceCtorEq] | with_reducible refine V_W ?_ | (with_reducible refine And.intro ?_ ?_; focus first | assumption | omega | decide | grind) | (with_reducible refine Br.mk ?_ ?_; focus (intros; omega)) | decide)
    refine ⟨fun hc1 => ?_, fun hc1 => ?_⟩
    · have h1 : (xss.getD i []).length ≤ 1099511627776 := by
        rw [show xss.getD i [] = xss[i]'(by omega) by simp [show i < xss.length by omega]]; exact hxr _ (List.getElem_mem _)
      have h2 : (yss.getD i []).length ≤ 1099511627776 := by
        rw [show yss.getD i [] = yss[i]'(by omega) by simp [show i < yss.length by omega]]; exact hyr _ (List.getElem_mem _)
      (repeat first | simp only [go_sem, ↓reduceIte, Nat.reduceEqDiff, Nat.reduceAdd, reduceCtorEq] | with_reducible refine V_W ?_ | (with_reducible refine And.intro ?_ ?_; focus first | assumption | omega | decide | grind) | (with_reducible refine Br.mk ?_ ?_; focus (intros; omega)) | decide)
      refine pureC (eqInt64S_c (xss.getD i []) (yss.getD i []) h1 h2) (by simp only [go_sem, ↓reduceIte, Nat.reduceEqDiff, Nat.reduceAdd, reduceCtorEq] <;> rfl) (by first | rfl | simp only [go_sem, ↓reduceIte, Nat.reduceEqDiff, Nat.reduceAdd, reduceCtorEq]) ?_
      (repeat first | simp only [go_sem, ↓reduceIte, Nat.reduceEqDiff, Nat.reduceAdd, reduceCtorEq] | with_reducible refine V_W ?_ | (with_reducible refine And.intro ?_ ?_; focus first | assumption | omega | decide | grind) | (with_reducible refine Br.mk ?_ ?_; focus (intros; omega)) | decide)
      refine ⟨fun hc2 => ?_, fun hc2 => ?_⟩
      · (repeat first | simp only [go_sem, ↓reduceIte, Nat.reduceEqDiff, Nat.reduceAdd, reduceCtorEq] | with_reducible refine V_W ?_ | (with_reducible refine And.intro ?_ ?_; focus first | assumption | omega | decide | grind) | (with_reducible refine Br.mk ?_ ?_; focus (intros; omega)) | decide)
        rw [decide_eq_false (fun h => by simp [h] at hc2)]
      · (repeat first | simp only [go_sem, ↓reduceIte, Nat.reduceEqDiff, Nat.reduceAdd, reduceCtorEq] | with_reducible refine V_W ?_ | (with_reducible refine And.intro ?_ ?_; focus first | assumption | omega | decide | grind) | (with_reducible refine Br.mk ?_ ?_; focus (intros; omega)) | decide)
        refine ⟨i + 1, ⟨by omega, fun j hj => ?_⟩, by omega, by exact Ref.frame (by simp [sub, fget])⟩
        rcases Nat.lt_or_ge j i with h | h
        · exact hall j h
        · obtain rfl : j = i := by omega
          simpa using hc2
    · (repeat first | simp only [go_sem, ↓reduceIte, Nat.reduceEqDiff, Nat.reduceAdd, reduceCtorEq] | with_reducible refine V_W ?_ | (with_reducible refine And.intro ?_ ?_; focus first | assumption | omega | decide | grind) | (with_reducible refine Br.mk ?_ ?_; focus (intros; omega)) | decide)
      rw [decide_eq_true]
      refine List.ext_getElem hl fun j h1 h2 => ?_
      have := hall j (by omega)
      simpa [h1, h2] using this

end Go.Proofs.YtdgcpjfffpkhkaaDoor
set_option maxRecDepth 100000
namespace Go.Proofs.YtdgcpjfffpkhkaaDoor
open Go.Gov

def up (k : Int) (n : Nat) : List Int := (List.range n).map fun (i : Nat) => k + (i : Int)
theorem up_len (k : Int) (n : Nat) : (up k n).length = n := by simp [up]
theorem up_at (k : Int) (n i : Nat) (h : i < n) : (up k n).getD i 0 = k + i := by simp [up, h]
theorem up_succ (k : Int) (n : Nat) : up k (n + 1) = up k n ++ [k + n] := by simp [up, List.range_succ]
theorem up_step (k : Int) (xs : List Int) (i : Nat) (h : i < xs.length) : (up k i ++ xs.drop i).set i (k + i) = up k (i + 1) ++ xs.drop (i + 1) := by
  rw [List.set_append_right _ _ (by rw [up_len]; exact Nat.le_refl _), up_len, Nat.sub_self, List.drop_eq_getElem_cons h, List.set_cons_zero, up_succ, List.append_assoc]
  rfl

theorem markInt64S_c (xs : List Int) (k : Int) (hl : xs.length ≤ 1099511627776) (h0 : 0 ≤ k) (hk : k ≤ 1125899906842624) : Wri Tryd.prog 27 [.sl 0 1 0 xs.length, i64 k] [some (intsC xs)] (i64 (k + xs.length)) [some (intsC (up k xs.length))] := by
  refine wriV ok27 rfl ?_; unfold c27
  (repeat first | simp only [go_sem, ↓reduceIte, Nat.reduceEqDiff, Nat.reduceAdd, reduceCtorEq] | with_reducible refine V_W ?_ | (with_reducible refine And.intro ?_ ?_; focus first | assumption | omega | decide | grind) | (with_reducible refine Br.mk ?_ ?_; focus (intros; omega)) | decide)
  refine V_loop (α := Nat) (S := fun i => ([(0, .sl 0 1 0 xs.length), (1, i64 (k + i)), (5, i64 i)], [some (intsC (up k i ++ xs.drop i))])) (C := fun i => i ≤ xs.length) (μ := fun i => xs.length - i) 0 (by omega) (Ref.to (by simp [up]) (by simp [sub, fget])) ?_
  intro i hi
  have hlen : (up k i ++ xs.drop i).length = xs.length := by simp [up_len]; omega
  (repeat first | simp only [go_sem, ↓reduceIte, Nat.reduceEqDiff, Nat.reduceAdd, reduceCtorEq] | with_reducible refine V_W ?_ | (with_reducible refine And.intro ?_ ?_; focus first | assumption | omega | decide | grind) | (with_reducible refine Br.mk ?_ ?_; focus (intros; omega)) | decide)
  refine ⟨fun hc => ?_, fun hc => ?_⟩
  · (repeat first | simp only [go_sem, ↓reduceIte, Nat.reduceEqDiff, Nat.reduceAdd, reduceCtorEq] | with_reducible refine V_W ?_ | (with_reducible refine And.intro ?_ ?_; focus first | assumption | omega | decide | grind) | (with_reducible refine Br.mk ?_ ?_; focus (intros; omega)) | decide)
    rw [up_step k xs i (by omega)]
    exact ⟨i + 1, by omega, by omega, Ref.frame (by simp [sub, fget]; omega)⟩
  · (repeat first | simp only [go_sem, ↓reduceIte, Nat.reduceEqDiff, Nat.reduceAdd, reduceCtorEq] | with_reducible refine V_W ?_ | (with_reducible refine And.intro ?_ ?_; focus first | assumption | omega | decide | grind) | (with_reducible refine Br.mk ?_ ?_; focus (intros; omega)) | decide)
    obtain rfl : i = xs.length := by omega
    simp

theorem heldInt64S_c (n : Nat) (k : Int) (hl : n ≤ 1099511627776) (h0 : 0 ≤ k) (hk : k ≤ 1125899906842624) : Pure Tryd.prog 28 [ints (up k n), i64 k] (i64 (k + n)) [] := by
  refine pureV ok28 rfl ?_; unfold c28
  have hlen := up_len k n
  (repeat first | simp only [go_sem, ↓reduceIte, Nat.reduceEqDiff, Nat.reduceAdd, reduceCtorEq] | with_reducible refine V_W ?_ | (with_reducible refine And.intro ?_ ?_; focus first | assumption | omega | decide | grind) | (with_reducible refine Br.mk ?_ ?_; focus (intros; omega)) | decide)
  refine V_loop (α := Nat) (S := fun i => ([(0, ints (up k n)), (1, i64 (k + i)), (5, i64 i)], [])) (C := fun i => i ≤ n) (μ := fun i => n - i) 0 (by omega) (by exact Ref.frame (by simp [sub, fget])) ?_
  intro i hi
  (repeat first | simp only [go_sem, ↓reduceIte, Nat.reduceEqDiff, Nat.reduceAdd, reduceCtorEq] | with_reducible refine V_W ?_ | (with_reducible refine And.intro ?_ ?_; focus first | assumption | omega | decide | grind) | (with_reducible refine Br.mk ?_ ?_; focus (intros; omega)) | decide)
  refine ⟨fun hc => ?_, fun hc => ?_⟩
  · have hat := up_at k n i (by omega)
    (repeat first | simp only [go_sem, ↓reduceIte, Nat.reduceEqDiff, Nat.reduceAdd, reduceCtorEq] | with_reducible refine V_W ?_ | (with_reducible refine And.intro ?_ ?_; focus first | assumption | omega | decide | grind) | (with_reducible refine Br.mk ?_ ?_; focus (intros; omega)) | decide)
    refine fun hc2 => ?_
    (repeat first | simp only [go_sem, ↓reduceIte, Nat.reduceEqDiff, Nat.reduceAdd, reduceCtorEq] | with_reducible refine V_W ?_ | (with_reducible refine And.intro ?_ ?_; focus first | assumption | omega | decide | grind) | (with_reducible refine Br.mk ?_ ?_; focus (intros; omega)) | decide)
    exact ⟨i + 1, by omega, by omega, Ref.frame (by simp [sub, fget]; omega)⟩
  · (repeat first | simp only [go_sem, ↓reduceIte, Nat.reduceEqDiff, Nat.reduceAdd, reduceCtorEq] | with_reducible refine V_W ?_ | (with_reducible refine And.intro ?_ ?_; focus first | assumption | omega | decide | grind) | (with_reducible refine Br.mk ?_ ?_; focus (intros; omega)) | decide)
    obtain rfl : i = n := by omega
    rfl

def upR : Int → List (List Int) → List (List Int)
  | _, [] => []
  | k, x :: xs => up k x.length :: upR (k + x.length) xs
theorem upR_len : ∀ (k : Int) (xss : List (List Int)), (upR k xss).length = xss.length
  | _, [] => rfl
  | k, x :: xs => by simp [upR, upR_len]
theorem upR_app : ∀ (k : Int) (a b : List (List Int)), upR k (a ++ b) = upR k a ++ upR (k + tot a) b
  | k, [], b => by simp [upR, tot]
  | k, x :: a, b => by
    rw [List.cons_append, upR, upR_app, upR, List.cons_append, tot_cons]
    congr 3
    push_cast; omega
theorem upR_at (k : Int) (xss : List (List Int)) (i : Nat) (h : i < xss.length) : (upR k xss).getD i [] = up (k + tot (xss.take i)) (xss.getD i []).length := by
  have e : xss = xss.take i ++ xss.drop i := (List.take_append_drop i xss).symm
  have h2 : (upR k (xss.take i)).length = i := by rw [upR_len, List.length_take]; omega
  conv => lhs; rw [e]
  rw [upR_app, List.drop_eq_getElem_cons h, upR, List.getD_eq_getElem?_getD, List.getElem?_append_right (by omega), h2, Nat.sub_self]
  simp [h]

theorem heldInt64SS_c (xss : List (List Int)) (k : Int) (hl : xss.length ≤ 1099511627776) (ht : tot xss ≤ 1099511627776) (h0 : 0 ≤ k) (hk : k ≤ 562949953421312) : Pure Tryd.prog 21 [mat (upR k xss), i64 k] (i64 (k + tot xss)) [] := by
  refine pureV ok21 rfl ?_; unfold c21
  have hlen := upR_len k xss
  (repeat first | simp only [go_sem, ↓reduceIte, Nat.reduceEqDiff, Nat.reduceAdd, reduceCtorEq] | with_reducible refine V_W ?_ | (with_reducible refine And.intro ?_ ?_; focus first | assumption | omega | decide | grind) | (with_reducible refine Br.mk ?_ ?_; focus (intros; omega)) | decide)
  refine V_loop (α := Nat) (S := fun i => ([(0, mat (upR k xss)), (1, i64 (k + tot (xss.take i))), (5, i64 i)], [])) (C := fun i => i ≤ xss.length) (μ := fun i => xss.length - i) 0 (by omega) (by exact Ref.frame (by simp [sub, fget, tot])) ?_
  intro i hi
  have h1 := tot_take_le xss i
  (repeat first | simp only [go_sem, ↓reduceIte, Nat.reduceEqDiff, Nat.reduceAdd, reduceCtorEq] | with_reducible refine V_W ?_ | (with_reducible refine And.intro ?_ ?_; focus first | assumption | omega | decide | grind) | (with_reducible refine Br.mk ?_ ?_; focus (intros; omega)) | decide)
  refine ⟨fun hc => ?_, fun hc => ?_⟩
  · have hat := upR_at k xss i (by omega)
    have h2 := tot_take xss i (by omega)
    have h3 := tot_take_le xss (i + 1)
    (repeat first | simp only [go_sem, ↓reduceIte, Nat.reduceEqDiff, Nat.reduceAdd, reduceCtorEq] | with_reducible refine V_W ?_ | (with_reducible refine And.intro ?_ ?_; focus first | assumption | omega | decide | grind) | (with_reducible refine Br.mk ?_ ?_; focus (intros; omega)) | decide)
    simp only [hat, up_len]
    refine call_pure (heldInt64S_c (xss.getD i []).length (k + tot (xss.take i)) (by omega) (by omega) (by omega)) (by simp only [go_sem, ↓reduceIte, Nat.reduceEqDiff, Nat.reduceAdd, reduceCtorEq, ints, up_len]) rfl rfl ?_
    (try simp only [go_sem, ↓reduceIte, Nat.reduceEqDiff, Nat.reduceAdd, reduceCtorEq, go_sem, ↓reduceIte, Nat.reduceEqDiff, Nat.reduceAdd, reduceCtorEq])
    (repeat first | simp only [go_sem, ↓reduceIte, Nat.reduceEqDiff, Nat.reduceAdd, reduceCtorEq] | with_reducible refine V_W ?_ | (with_reducible refine And.intro ?_ ?_; focus first | assumption | omega | decide | grind) | (with_reducible refine Br.mk ?_ ?_; focus (intros; omega)) | decide)
    refine fun hc2 => ?_
    (repeat first | simp only [go_sem, ↓reduceIte, Nat.reduceEqDiff, Nat.reduceAdd, reduceCtorEq] | with_reducible refine V_W ?_ | (with_reducible refine And.intro ?_ ?_; focus first | assumption | omega | decide | grind) | (with_reducible refine Br.mk ?_ ?_; focus (intros; omega)) | decide)
    refine ⟨i + 1, by omega, by omega, Ref.frame (by simp [sub, fget, h2]; omega)⟩
  · (repeat first | simp only [go_sem, ↓reduceIte, Nat.reduceEqDiff, Nat.reduceAdd, reduceCtorEq] | with_reducible refine V_W ?_ | (with_reducible refine And.intro ?_ ?_; focus first | assumption | omega | decide | grind) | (with_reducible refine Br.mk ?_ ?_; focus (intros; omega)) | decide)
    obtain rfl : i = xss.length := by omega
    rw [List.take_length]

theorem upR_step (k : Int) (xss : List (List Int)) (i : Nat) (h : i < xss.length) : ((upR k (xss.take i) ++ xss.drop i).map oints).set i (oints (up (k + tot (xss.take i)) (xss.getD i []).length)) = (upR k (xss.take (i + 1)) ++ xss.drop (i + 1)).map oints := by
  have h2 : (upR k (xss.take i)).length = i := by rw [upR_len, List.length_take]; omega
  rw [List.take_succ_eq_append_getElem h, upR_app, List.drop_eq_getElem_cons h, ← List.map_set, List.set_append_right _ _ (by omega), h2, Nat.sub_self, List.set_cons_zero, List.append_assoc]
  simp [upR, h]

theorem getD_set_self' {α : Type} (l : List α) (i : Nat) (x d : α) (h : i < l.length) : (l.set i x).getD i d = x := by simp [h]

theorem markInt64SS_c (xss : List (List Int)) (k : Int) (hl : xss.length ≤ 1099511627776) (ht : tot xss ≤ 1099511627776) (h0 : 0 ≤ k) (hk : k ≤ 562949953421312) : Wri Tryd.prog 20 [.sl 0 1 0 xss.length, i64 k] [some (xss.map oints)] (i64 (k + tot xss)) [some ((upR k xss).map oints)] := by
  refine wriV ok20 rfl ?_; unfold c20
  (repeat first | simp only [go_sem, ↓reduceIte, Nat.reduceEqDiff, Nat.reduceAdd, reduceCtorEq] | with_reducible refine V_W ?_ | (with_reducible refine And.intro ?_ ?_; focus first | assumption | omega | decide | grind) | (with_reducible refine Br.mk ?_ ?_; focus (intros; omega)) | decide)
  refine (W_loop (α := Nat) (S := fun i => ([(0, .sl 0 1 0 xss.length), (1, i64 (k + tot (xss.take i))), (5, i64 i)], [some ((upR k (xss.take i) ++ xss.drop i).map oints)])) (C := fun i => i ≤ xss.length) (μ := fun i => xss.length - i) 0 (by omega) (Ref.to (by simp [upR]) (by simp [sub, fget, tot])) ?_)
  intro i hi
  have h1 := tot_take_le xss i
  have hlen : ((upR k (xss.take i) ++ xss.drop i).map oints).length = xss.length := by simp [upR_len]; omega
  by_cases hc : i < xss.length
  · have h2 : (upR k (xss.take i)).length = i := by rw [upR_len, List.length_take]; omega
    have h3 := tot_take xss i hc
    have h4 := tot_take_le xss (i + 1)
    have hrow : ((upR k (xss.take i) ++ xss.drop i).map oints)[i]? = some (oints (xss.getD i [])) := by
      rw [List.getElem?_map, List.getElem?_append_right (by omega), h2, Nat.sub_self, List.getElem?_drop]
      simp [hc]
    generalize hL : (upR k (xss.take i) ++ xss.drop i).map oints = L at hlen hrow ⊢
    refine V_ref (Ref.open 0 i (cs := L) rfl hrow) ?_
    simp only [List.set_cons_zero, List.cons_append, List.nil_append, List.length_cons, List.length_nil, Nat.zero_add]
    have hg := getD_set_self' L i (.sl 1 1 0 (xss.getD i []).length) (.slc 1 0 []) (by omega)
    have hg2 := getD_set_self' L i (.sl 1 1 0 (xss.getD i []).length) .any (by omega)
    have hls : (L.set i (.sl 1 1 0 (xss.getD i []).length)).length = xss.length := by rw [List.length_set]; exact hlen
    (repeat first | simp only [go_sem, ↓reduceIte, Nat.reduceEqDiff, Nat.reduceAdd, reduceCtorEq] | with_reducible refine V_W ?_ | (with_reducible refine And.intro ?_ ?_; focus first | assumption | omega | decide | grind) | (with_reducible refine Br.mk ?_ ?_; focus (intros; omega)) | decide)
    refine ⟨fun hc1 => ?_, fun hc1 => absurd hc1 (by omega)⟩
    (repeat first | simp only [go_sem, ↓reduceIte, Nat.reduceEqDiff, Nat.reduceAdd, reduceCtorEq] | with_reducible refine V_W ?_ | (with_reducible refine And.intro ?_ ?_; focus first | assumption | omega | decide | grind) | (with_reducible refine Br.mk ?_ ?_; focus (intros; omega)) | decide)
    simp only [hg, hg2, go_sem, ↓reduceIte, Nat.reduceEqDiff, Nat.reduceAdd, reduceCtorEq]
    (repeat first | simp only [go_sem, ↓reduceIte, Nat.reduceEqDiff, Nat.reduceAdd, reduceCtorEq] | with_reducible refine V_W ?_ | (with_reducible refine And.intro ?_ ?_; focus first | assumption | omega | decide | grind) | (with_reducible refine Br.mk ?_ ?_; focus (intros; omega)) | decide)
    refine wriC (markInt64S_c (xss.getD i []) (k + tot (xss.take i)) (by omega) (by omega) (by omega)) [1] (by first | rfl | simp) (by simp only [go_sem, ↓reduceIte, Nat.reduceEqDiff, Nat.reduceAdd, reduceCtorEq] <;> rfl) (by simp only [go_sem, ↓reduceIte, Nat.reduceEqDiff, Nat.reduceAdd, reduceCtorEq] <;> rfl) (by first | rfl | simp only [go_sem, ↓reduceIte, Nat.reduceEqDiff, Nat.reduceAdd, reduceCtorEq]) ?_
    (repeat first | simp only [go_sem, ↓reduceIte, Nat.reduceEqDiff, Nat.reduceAdd, reduceCtorEq] | with_reducible refine V_W ?_ | (with_reducible refine And.intro ?_ ?_; focus first | assumption | omega | decide | grind) | (with_reducible refine Br.mk ?_ ?_; focus (intros; omega)) | decide)
    subst hL
    refine ⟨i + 1, by omega, by omega, (Ref.close 0 i 1 (cs2 := intsC (up (k + tot (xss.take i)) (xss.getD i []).length)) rfl (List.getElem?_set_self (by omega)) rfl (by decide) (by simp [intsC, up])).trans (Ref.gc [0] rfl ?_ (by simp [sub, fget, go_sem, ↓reduceIte, Nat.reduceEqDiff, Nat.reduceAdd, reduceCtorEq, h3]; omega))⟩
    (try simp only [go_sem, ↓reduceIte, Nat.reduceEqDiff, Nat.reduceAdd, reduceCtorEq, List.set_set])
    have hst := upR_step k xss i hc
    simp only [oints, up_len] at hst
    rw [← hst]
  · obtain rfl : i = xss.length := by omega
    refine V_W ?_
    (repeat first | simp only [go_sem, ↓reduceIte, Nat.reduceEqDiff, Nat.reduceAdd, reduceCtorEq] | with_reducible refine V_W ?_ | (with_reducible refine And.intro ?_ ?_; focus first | assumption | omega | decide | grind) | (with_reducible refine Br.mk ?_ ?_; focus (intros; omega)) | decide)
    refine fun hc1 => ?_
    (repeat first | simp only [go_sem, ↓reduceIte, Nat.reduceEqDiff, Nat.reduceAdd, reduceCtorEq] | with_reducible refine V_W ?_ | (with_reducible refine And.intro ?_ ?_; focus first | assumption | omega | decide | grind) | (with_reducible refine Br.mk ?_ ?_; focus (intros; omega)) | decide)
    simp

theorem le_tot {xs : List Int} {B : List (List Int)} (h : xs ∈ B) : xs.length ≤ tot B := by
  unfold tot
  obtain ⟨a, b, rfl⟩ := List.append_of_mem h
  simp; omega
theorem take_up (k : Int) (n : Nat) : (intsC (up k n)).take n = intsC (up k n) := by exact List.take_of_length_le (by simp [intsC, up])
theorem take_upR (k : Int) (xss : List (List Int)) : ((upR k xss).map oints).take xss.length = (upR k xss).map oints := by exact List.take_of_length_le (by simp [upR_len])
theorem heldS_c (n : Nat) (k : Int) (hl : n ≤ 1099511627776) (h0 : 0 ≤ k) (hk : k ≤ 1125899906842624) : Pure Tryd.prog 28 [.slc 1 n (intsC (up k n)), i64 k] (i64 (k + n)) [] := by
  have h := heldInt64S_c n k hl h0 hk
  simpa only [ints, up_len] using h
theorem heldSS_c (xss : List (List Int)) (k : Int) (hl : xss.length ≤ 1099511627776) (ht : tot xss ≤ 1099511627776) (h0 : 0 ≤ k) (hk : k ≤ 562949953421312) : Pure Tryd.prog 21 [.slc 1 xss.length ((upR k xss).map ints), i64 k] (i64 (k + tot xss)) [] := by
  have h := heldInt64SS_c xss k hl ht h0 hk
  simpa only [mat, upR_len] using h
attribute [go_sem] take_up take_upR
theorem mat_b {B : List (List Int)} {n : Nat} (h : B.length + tot B ≤ n) : B.length ≤ n ∧ tot B ≤ n ∧ ∀ xs ∈ B, xs.length ≤ n := by
  refine ⟨by omega, by omega, fun xs hx => ?_⟩
  have := le_tot hx
  omega
theorem psz_b {R : List Int} {B : List (List Int)} {n : Nat} (h : psz R B ≤ n) : R.length ≤ n ∧ B.length ≤ n ∧ tot B ≤ n ∧ ∀ xs ∈ B, xs.length ≤ n := by
  unfold psz at h
  refine ⟨by omega, by omega, by omega, fun xs hx => ?_⟩
  have := le_tot hx
  omega

end Go.Proofs.YtdgcpjfffpkhkaaDoor
set_option maxRecDepth 100000
namespace Go.Proofs.YtdgcpjfffpkhkaaDoor
open Classical

def sst (xs : List Int) : Prop := xs.Pairwise (· < ·)

theorem sst_ext : ∀ {a b : List Int}, sst a → sst b → (∀ e, e ∈ a ↔ e ∈ b) → a = b
  | [], [], _, _, _ => rfl
  | [], y :: b, _, _, h => by have := (h y).2 (by simp); simp at this
  | x :: a, [], _, _, h => by have := (h x).1 (by simp); simp at this
  | x :: a, y :: b, ha, hb, h => by
    obtain ⟨ha1, ha2⟩ := List.pairwise_cons.1 ha
    obtain ⟨hb1, hb2⟩ := List.pairwise_cons.1 hb
    have hxy : x = y := by
      have h1 := (h x).1 (by simp)
      have h2 := (h y).2 (by simp)
      rcases List.mem_cons.1 h1 with h1 | h1
      · exact h1
      · rcases List.mem_cons.1 h2 with h2 | h2
        · exact h2.symm
        · have := hb1 x h1; have := ha1 y h2; omega
    subst hxy
    rw [sst_ext ha2 hb2 fun e => ?_]
    constructor
    · intro he
      have := (h e).1 (List.mem_cons_of_mem _ he)
      rcases List.mem_cons.1 this with h1 | h1
      · subst h1; have := ha1 e he; omega
      · exact h1
    · intro he
      have := (h e).2 (List.mem_cons_of_mem _ he)
      rcases List.mem_cons.1 this with h1 | h1
      · subst h1; have := hb1 e he; omega
      · exact h1

theorem sst_count : ∀ {a : List Int} (e : Int), sst a → a.count e = if e ∈ a then 1 else 0
  | [], e, _ => by simp
  | x :: a, e, h => by
    obtain ⟨h1, h2⟩ := List.pairwise_cons.1 h
    rw [List.count_cons, sst_count e h2]
    by_cases hx : x = e
    · subst hx
      have : x ∉ a := fun hm => by have := h1 x hm; omega
      simp [this]
    · simp [hx, show ¬ e = x by omega]

def push (out : List Int) (e : Int) : List Int := if out.getLast? = some e then out.dropLast else out ++ [e]
def srtL (xs : List Int) : List Int := xs.mergeSort fun x y => decide (x ≤ y)
def odd (xs : List Int) : List Int := (srtL xs).foldl push []

theorem push_all : ∀ (l out : List Int), sst out → l.Pairwise (· ≤ ·) → (∀ a ∈ out, ∀ b ∈ l, a ≤ b) →
    sst (l.foldl push out) ∧ ∀ e, e ∈ l.foldl push out ↔ ((if e ∈ out then 1 else 0) + l.count e) % 2 = 1
  | [], out, h, _, _ => ⟨h, fun e => by by_cases he : e ∈ out <;> simp [he]⟩
  | x :: l, out, h, hl, hle => by
    obtain ⟨hl1, hl2⟩ := List.pairwise_cons.1 hl
    rw [List.foldl_cons]
    by_cases hx : out.getLast? = some x
    · obtain ⟨o, rfl⟩ : ∃ o, out = o ++ [x] := by
        have hne : out ≠ [] := by intro h0; rw [h0] at hx; simp at hx
        refine ⟨out.dropLast, ?_⟩
        have : out.getLast hne = x := by rw [List.getLast?_eq_some_getLast hne] at hx; exact Option.some.inj hx
        rw [← this, List.dropLast_concat_getLast]
      have hp : push (o ++ [x]) x = o := by simp [push]
      rw [hp]
      obtain ⟨h1, h2, h3⟩ := List.pairwise_append.1 h
      obtain ⟨k1, k2⟩ := push_all l o h1 hl2 fun a ha b hb => hle a (by simp [ha]) b (by simp [hb])
      refine ⟨k1, fun e => ?_⟩
      rw [k2 e, List.count_cons]
      have hxo : x ∉ o := fun hm => by have := h3 x hm x (by simp); omega
      by_cases he : x = e
      · subst he
        simp [hxo]; omega
      · simp [he, show ¬ e = x by omega]
    · have hp : push out x = out ++ [x] := by simp [push, hx]
      rw [hp]
      have hlt : ∀ a ∈ out, a < x := fun a ha => by
        have h1 := hle a ha x (by simp)
        rcases Int.lt_or_eq_of_le h1 with h2 | rfl
        · exact h2
        · exfalso
          apply hx
          have hne : out ≠ [] := by intro h0; rw [h0] at ha; simp at ha
          rw [List.getLast?_eq_some_getLast hne]
          congr 1
          obtain ⟨o, y, rfl⟩ : ∃ o y, out = o ++ [y] := ⟨out.dropLast, out.getLast hne, (List.dropLast_concat_getLast hne).symm⟩
          simp only [List.getLast_append, List.getLast_singleton]
          have h4 := hle y (by simp) a (by simp)
          rcases List.mem_append.1 ha with hm | hm
          · have := (List.pairwise_append.1 h).2.2 a hm y (by simp); omega
          · simp at hm; exact hm.symm
      have hno : x ∉ out := fun hm => by have := hlt x hm; omega
      have hs : sst (out ++ [x]) := List.pairwise_append.2 ⟨h, by simp, fun a ha b hb => by simp at hb; subst hb; exact hlt a ha⟩
      obtain ⟨k1, k2⟩ := push_all l (out ++ [x]) hs hl2 fun a ha b hb => by
        rcases List.mem_append.1 ha with hm | hm
        · exact hle a hm b (by simp [hb])
        · simp at hm; subst hm; exact hl1 b hb
      refine ⟨k1, fun e => ?_⟩
      rw [k2 e, List.count_cons]
      by_cases he : x = e
      · subst he
        simp [hno]; omega
      · simp [he, show ¬ e = x by omega]

theorem srtL_perm (xs : List Int) : (srtL xs).Perm xs := List.mergeSort_perm xs _
theorem srtL_le (xs : List Int) : (srtL xs).Pairwise (· ≤ ·) := by
  have := List.pairwise_mergeSort (le := fun x y : Int => decide (x ≤ y)) (fun a b c h1 h2 => by simp at *; omega) (fun a b => by simp; omega) xs
  exact this.imp fun h => by simpa using h
theorem odd_ok (xs : List Int) : sst (odd xs) ∧ ∀ e, e ∈ odd xs ↔ xs.count e % 2 = 1 := by
  obtain ⟨h1, h2⟩ := push_all (srtL xs) [] List.Pairwise.nil (srtL_le xs) (by simp)
  refine ⟨h1, fun e => ?_⟩
  have := h2 e
  rw [(srtL_perm xs).count_eq] at this
  simpa [odd] using this

def sumL : List Int → List Int → List Int
  | [], b => b
  | x :: a, [] => x :: a
  | x :: a, y :: b => if x < y then x :: sumL a (y :: b) else if y < x then y :: sumL (x :: a) b else sumL a b
theorem sumL_nil (a : List Int) : sumL a [] = a := by cases a <;> simp [sumL]

theorem sumL_ok : ∀ (a b : List Int), sst a → sst b → sst (sumL a b) ∧ ∀ e, e ∈ sumL a b ↔ (a.count e + b.count e) % 2 = 1
  | [], b, _, hb => ⟨by simpa [sumL] using hb, fun e => by rw [sumL, sst_count e hb]; by_cases h : e ∈ b <;> simp [h]⟩
  | x :: a, [], ha, _ => ⟨by simpa [sumL] using ha, fun e => by rw [sumL, sst_count e ha]; by_cases h : e ∈ x :: a <;> simp [h]⟩
  | x :: a, y :: b, ha, hb => by
    obtain ⟨ha1, ha2⟩ := List.pairwise_cons.1 ha
    obtain ⟨hb1, hb2⟩ := List.pairwise_cons.1 hb
    have pos : ∀ (l : List Int) (e : Int), l.count e ≠ 0 → e ∈ l := fun l e h => by
      rcases Nat.eq_zero_or_pos (l.count e) with h0 | h0
      · exact absurd h0 h
      · exact List.count_pos_iff.1 h0
    unfold sumL
    by_cases h1 : x < y
    · rw [if_pos h1]
      obtain ⟨k1, k2⟩ := sumL_ok a (y :: b) ha2 hb
      have hgt : ∀ z ∈ sumL a (y :: b), x < z := fun z hz => by
        have := (k2 z).1 hz
        by_cases hza : z ∈ a
        · exact ha1 z hza
        · have h0 : a.count z = 0 := List.count_eq_zero.2 hza
          have : z ∈ y :: b := pos _ _ (by omega)
          rcases List.mem_cons.1 this with rfl | h2
          · exact h1
          · have := hb1 z h2; omega
      refine ⟨List.pairwise_cons.2 ⟨hgt, k1⟩, fun e => ?_⟩
      rw [List.mem_cons, k2 e, List.count_cons (a := e) (b := x)]
      by_cases he : x = e
      · subst he
        have h2 : a.count x = 0 := List.count_eq_zero.2 fun hm => by have := ha1 x hm; omega
        have h3 : (y :: b).count x = 0 := List.count_eq_zero.2 fun hm => by
          rcases List.mem_cons.1 hm with h4 | h4
          · omega
          · have := hb1 x h4; omega
        simp [h2, h3]
      · simp [he, show ¬ e = x by omega]
    · rw [if_neg h1]
      by_cases h2 : y < x
      · rw [if_pos h2]
        obtain ⟨k1, k2⟩ := sumL_ok (x :: a) b ha hb2
        have hgt : ∀ z ∈ sumL (x :: a) b, y < z := fun z hz => by
          have := (k2 z).1 hz
          by_cases hzb : z ∈ b
          · exact hb1 z hzb
          · have h0 : b.count z = 0 := List.count_eq_zero.2 hzb
            have : z ∈ x :: a := pos _ _ (by omega)
            rcases List.mem_cons.1 this with rfl | h3
            · exact h2
            · have := ha1 z h3; omega
        refine ⟨List.pairwise_cons.2 ⟨hgt, k1⟩, fun e => ?_⟩
        rw [List.mem_cons, k2 e, List.count_cons (a := e) (b := y)]
        by_cases he : y = e
        · subst he
          have h3 : b.count y = 0 := List.count_eq_zero.2 fun hm => by have := hb1 y hm; omega
          have h4 : (x :: a).count y = 0 := List.count_eq_zero.2 fun hm => by
            rcases List.mem_cons.1 hm with h5 | h5
            · omega
            · have := ha1 y h5; omega
          simp [h3, h4]
        · simp [he, show ¬ e = y by omega]
      · rw [if_neg h2]
        have : x = y := by omega
        subst this
        obtain ⟨k1, k2⟩ := sumL_ok a b ha2 hb2
        refine ⟨k1, fun e => ?_⟩
        rw [k2 e, List.count_cons, List.count_cons]
        by_cases he : x = e <;> simp [he]; omega
termination_by a b => a.length + b.length

theorem odd_sum {a b : List Int} (ha : sst a) (hb : sst b) : odd (a ++ b) = sumL a b := by
  obtain ⟨h1, h2⟩ := odd_ok (a ++ b)
  obtain ⟨h3, h4⟩ := sumL_ok a b ha hb
  exact sst_ext h1 h3 fun e => by rw [h2, h4, List.count_append]

theorem sums_ok : ∀ (ls : List (List Int)) (acc : List Int), sst acc → (∀ l ∈ ls, sst l) → sst (ls.foldl sumL acc) ∧ ∀ e, e ∈ ls.foldl sumL acc ↔ (acc.count e + ls.flatten.count e) % 2 = 1
  | [], acc, h, _ => ⟨h, fun e => by rw [List.foldl_nil, sst_count e h]; by_cases he : e ∈ acc <;> simp [he]⟩
  | l :: ls, acc, h, hl => by
    obtain ⟨h1, h2⟩ := sumL_ok acc l h (hl l (by simp))
    obtain ⟨k1, k2⟩ := sums_ok ls (sumL acc l) h1 fun x hx => hl x (by simp [hx])
    refine ⟨k1, fun e => ?_⟩
    rw [List.foldl_cons, k2 e, sst_count e h1, List.flatten_cons, List.count_append]
    by_cases he : e ∈ sumL acc l
    · have := (h2 e).1 he; simp [he]; omega
    · have : ¬ (acc.count e + l.count e) % 2 = 1 := fun h => he ((h2 e).2 h)
      simp [he]; omega

theorem odd_sums {ls : List (List Int)} (h : ∀ l ∈ ls, sst l) : odd ls.flatten = ls.foldl sumL [] := by
  obtain ⟨h1, h2⟩ := odd_ok ls.flatten
  obtain ⟨h3, h4⟩ := sums_ok ls [] List.Pairwise.nil h
  exact sst_ext h1 h3 fun e => by rw [h2, h4]; simp

theorem push_len (out : List Int) (e : Int) : (push out e).length ≤ out.length + 1 := by
  unfold push; split <;> simp <;> omega
theorem pushes_len : ∀ (l out : List Int), (l.foldl push out).length ≤ out.length + l.length
  | [], out => by simp
  | e :: l, out => by
    have := pushes_len l (push out e)
    have := push_len out e
    simp only [List.foldl_cons, List.length_cons]; omega
theorem srtL_len (xs : List Int) : (srtL xs).length = xs.length := (srtL_perm xs).length_eq
theorem odd_len (xs : List Int) : (odd xs).length ≤ xs.length := by
  have := pushes_len (srtL xs) []
  rw [srtL_len] at this
  simpa [odd] using this
theorem sumL_len : ∀ (a b : List Int), (sumL a b).length ≤ a.length + b.length
  | [], b => by simp [sumL]
  | x :: a, [] => by simp [sumL]
  | x :: a, y :: b => by
    unfold sumL
    split
    · have := sumL_len a (y :: b); simp at *; omega
    · split
      · have := sumL_len (x :: a) b; simp at *; omega
      · have := sumL_len a b; simp at *; omega
termination_by a b => a.length + b.length

theorem sst_of_lt {xs : List Int} (h : ∀ j, j + 1 < xs.length → xs.getD j 0 < xs.getD (j + 1) 0) : sst xs := by
  unfold sst
  rw [List.pairwise_iff_getElem]
  intro i j hi hj hij
  induction j with
  | zero => omega
  | succ j ih =>
    have h1 := h j (by omega)
    simp only [List.getD_eq_getElem?_getD, List.getElem?_eq_getElem hj, List.getElem?_eq_getElem (show j < xs.length by omega), Option.getD_some] at h1
    rcases Nat.lt_or_ge i j with h2 | h2
    · have := ih (by omega) h2; omega
    · obtain rfl : i = j := by omega
      exact h1
theorem lt_of_sst {xs : List Int} (h : sst xs) : ∀ j, j + 1 < xs.length → xs.getD j 0 < xs.getD (j + 1) 0 := fun j hj => by
  have := List.pairwise_iff_getElem.1 h j (j + 1) (by omega) hj (by omega)
  simpa [hj, show j < xs.length by omega] using this

end Go.Proofs.YtdgcpjfffpkhkaaDoor
set_option maxRecDepth 100000
namespace Go.Proofs
open Go.Shelf
def Tryd.sortF_ren : Go.Shelf.Ren := ⟨fun | 6 => 62 | 15 => 81 | 14 => 80 | 28 => 96 | 29 => 97 | 20 => 88 | 21 => 89 | 22 => 90 | 23 => 91 | 24 => 92 | 25 => 93 | 26 => 94 | 27 => 95 | 46 => 100 | 47 => 101 | 48 => 102 | 49 => 103 | 50 => 104 | 57 => 107 | n => n, fun | 22 => 22 | 24 => 41 | 25 => 58 | 3 => 3 | 39 => 81 | 0 => 0 | 53 => 96 | 55 => 98 | 4 => 4 | 46 => 89 | 45 => 88 | 50 => 93 | 5 => 5 | 9 => 9 | 66 => 99 | 70 => 103 | 76 => 106 | 77 => 107 | n => n, fun | n => n⟩
theorem Tryd.sortF : Go.Proofs.SlLaysF.n6 Tryd.prog Tryd.sortF_ren := {
  mixed := by kernel_rfl
  f6 := ⟨Tryd.f62.name, by decide, Tryd.func62.trans (congrArg some (by kernel_rfl))⟩
  f14 := ⟨Tryd.f80.name, by decide, Tryd.func80.trans (congrArg some (by kernel_rfl))⟩
  f15 := Tryd.func81.trans (congrArg some (by kernel_rfl))
  f20 := ⟨Tryd.f88.name, by decide, Tryd.func88.trans (congrArg some (by kernel_rfl))⟩
  f21 := ⟨Tryd.f89.name, by decide, Tryd.func89.trans (congrArg some (by kernel_rfl))⟩
  f22 := ⟨Tryd.f90.name, by decide, Tryd.func90.trans (congrArg some (by kernel_rfl))⟩
  f23 := ⟨Tryd.f91.name, by decide, Tryd.func91.trans (congrArg some (by kernel_rfl))⟩
  f24 := ⟨Tryd.f92.name, by decide, Tryd.func92.trans (congrArg some (by kernel_rfl))⟩
  f25 := ⟨Tryd.f93.name, by decide, Tryd.func93.trans (congrArg some (by kernel_rfl))⟩
  f26 := ⟨Tryd.f94.name, by decide, Tryd.func94.trans (congrArg some (by kernel_rfl))⟩
  f27 := ⟨Tryd.f95.name, by decide, Tryd.func95.trans (congrArg some (by kernel_rfl))⟩
  f28 := Tryd.func96.trans (congrArg some (by kernel_rfl))
  f29 := Tryd.func97.trans (congrArg some (by kernel_rfl))
  f46 := ⟨Tryd.f100.name, by decide, Tryd.func100.trans (congrArg some (by kernel_rfl))⟩
  f47 := Tryd.func101.trans (congrArg some (by kernel_rfl))
  f48 := Tryd.func102.trans (congrArg some (by kernel_rfl))
  f49 := ⟨Tryd.f103.name, by decide, Tryd.func103.trans (congrArg some (by kernel_rfl))⟩
  f50 := ⟨Tryd.f104.name, by decide, Tryd.func104.trans (congrArg some (by kernel_rfl))⟩
  f57 := ⟨Tryd.f107.name, by decide, Tryd.func107.trans (congrArg some (by kernel_rfl))⟩
  t0 := Tryd.underlying0
  a0 := Tryd.isAgg0
  z0 := Tryd.sizeOf0
  v0 := Tryd.zeroValue0
  t3 := Tryd.underlying3
  a3 := Tryd.isAgg3
  z3 := Tryd.sizeOf3
  v3 := Tryd.zeroValue3
  t4 := Tryd.underlying4
  a4 := Tryd.isAgg4
  z4 := Tryd.sizeOf4
  v4 := Tryd.zeroValue4
  t5 := Tryd.underlying5
  a5 := Tryd.isAgg5
  z5 := Tryd.sizeOf5
  v5 := Tryd.zeroValue5
  t9 := Tryd.underlying9
  a9 := Tryd.isAgg9
  z9 := Tryd.sizeOf9
  v9 := Tryd.zeroValue9
  t22 := Tryd.underlying22
  a22 := Tryd.isAgg22
  z22 := Tryd.sizeOf22
  v22 := Tryd.zeroValue22
  a24 := Tryd.isAgg41
  z24 := Tryd.sizeOf41
  t25 := Tryd.underlying58
  a25 := Tryd.isAgg58
  z25 := Tryd.sizeOf58
  v25 := Tryd.zeroValue58
  t39 := Tryd.underlying81
  a39 := Tryd.isAgg81
  z39 := Tryd.sizeOf81
  v39 := Tryd.zeroValue81
  t45 := Tryd.underlying88
  a45 := Tryd.isAgg88
  z45 := Tryd.sizeOf88
  v45 := Tryd.zeroValue88
  t46 := Tryd.underlying89
  a46 := Tryd.isAgg89
  z46 := Tryd.sizeOf89
  v46 := Tryd.zeroValue89
  t50 := Tryd.underlying93
  a50 := Tryd.isAgg93
  z50 := Tryd.sizeOf93
  v50 := Tryd.zeroValue93
  t53 := Tryd.underlying96
  a53 := Tryd.isAgg96
  z53 := Tryd.sizeOf96
  v53 := Tryd.zeroValue96
  t55 := Tryd.underlying98
  a55 := Tryd.isAgg98
  z55 := Tryd.sizeOf98
  v55 := Tryd.zeroValue98
  t66 := Tryd.underlying99
  a66 := Tryd.isAgg99
  z66 := Tryd.sizeOf99
  v66 := Tryd.zeroValue99
  t70 := Tryd.underlying103
  a70 := Tryd.isAgg103
  z70 := Tryd.sizeOf103
  v70 := Tryd.zeroValue103
  t76 := Tryd.underlying106
  a76 := Tryd.isAgg106
  z76 := Tryd.sizeOf106
  v76 := Tryd.zeroValue106
  t77 := Tryd.underlying107
  a77 := Tryd.isAgg107
  z77 := Tryd.sizeOf107
  v77 := Tryd.zeroValue107 }
end Go.Proofs
