/- Texts that belong together. -/
import Derived.KernelRfl
import Derived.Shelf.SlGeneric
import Derived.Shelf.SlSortCmp.NoneTotal
import Derived.Ground.SlsfProg
import Derived.Shelf.Bits.Mul64
import Derived.Ground.NamesProg
import Derived.Test.YtghhlcioabdpfaaDoorProg
import Derived.Test.YtghhlcioabdpfaaDoorZe
import Derived.Test.YtghhlcioabdpfaaDoorZf
set_option linter.unusedSimpArgs false
set_option linter.unusedVariables false
set_option maxRecDepth 100000
namespace Go.Proofs.YtghhlcioabdpfaaDoor
open Go.Gov

theorem l01In_c (n lo hi : Int) : Pure Tryd.prog 71 [i64 n, i64 lo, i64 hi] (bl (decide (lo ≤ n) && decide (n ≤ hi))) [] := by
  refine pureV ok71 rfl ?_; unfold c71
  (repeat first | simp only [go_sem, ↓reduceIte, Nat.reduceEqDiff, Nat.reduceAdd, reduceCtorEq] | with_reducible refine V_W ?_ | (with_reducible refine And.intro ?_ ?_; focus first | assumption | omega | decide | grind) | (with_reducible refine Br.mk ?_ ?_; focus (intros; omega)) | decide)
theorem within_c (n lo hi : Int) : Pure Tryd.prog 79 [i64 n, i64 lo, i64 hi] (bl (decide (lo ≤ n) && decide (n ≤ hi))) [] := by
  refine pureV ok79 rfl ?_; unfold c79
  (repeat first | simp only [go_sem, ↓reduceIte, Nat.reduceEqDiff, Nat.reduceAdd, reduceCtorEq] | with_reducible refine V_W ?_ | (with_reducible refine And.intro ?_ ?_; focus first | assumption | omega | decide | grind) | (with_reducible refine Br.mk ?_ ?_; focus (intros; omega)) | decide)
theorem size_c (xs : List Int) (hl : xs.length ≤ 1099511627776) : Pure Tryd.prog 80 [ints xs] (i64 xs.length) [] := by
  refine pureV ok80 rfl ?_; unfold c80
  (repeat first | simp only [go_sem, ↓reduceIte, Nat.reduceEqDiff, Nat.reduceAdd, reduceCtorEq] | with_reducible refine V_W ?_ | (with_reducible refine And.intro ?_ ?_; focus first | assumption | omega | decide | grind) | (with_reducible refine Br.mk ?_ ?_; focus (intros; omega)) | decide)

def idx (xs : List Int) (n : Int) : Int := if n ∈ xs then xs.idxOf n else -1
theorem idx_at {xs : List Int} {n : Int} {i : Nat} (h : ∀ j, j < i → xs.getD j 0 ≠ n) (hi : i < xs.length) (he : xs.getD i 0 = n) : idx xs n = i := by
  have hm : n ∈ xs := by rw [← he]; simp [hi]
  unfold idx
  rw [if_pos hm]
  congr 1
  induction xs generalizing i with
  | nil => cases hi
  | cons x xs ih =>
    cases i with
    | zero =>
      have hx : x = n := by simpa using he
      simp [hx]
    | succ i =>
      have hx : x ≠ n := by have := h 0 (by omega); simpa using this
      have hm' : n ∈ xs := by rcases List.mem_cons.1 hm with h' | h'; exact absurd h'.symm hx; exact h'
      have hb : (x == n) = false := by simpa using hx
      rw [List.idxOf_cons, hb, cond_false]
      rw [ih (i := i) (fun j hj => by have := h (j + 1) (by omega); simpa using this) (by simpa using hi) (by simpa using he) hm']
theorem idx_no {xs : List Int} {n : Int} (h : ∀ j, j < xs.length → xs.getD j 0 ≠ n) : idx xs n = -1 := by
  unfold idx
  rw [if_neg]
  intro hm
  obtain ⟨j, hj, he⟩ := List.mem_iff_getElem.1 hm
  exact h j hj (by simp [hj, he])
theorem idx_ge (xs : List Int) (n : Int) : decide (0 ≤ idx xs n) = decide (n ∈ xs) := by
  unfold idx
  by_cases h : n ∈ xs <;> simp [h]

theorem l01Index_c (xs : List Int) (n : Int) (hl : xs.length ≤ 1099511627776) : Pure Tryd.prog 78 [ints xs, i64 n] (i64 (idx xs n)) [] := by
  refine pureV ok78 rfl ?_; unfold c78
  (repeat first | simp only [go_sem, ↓reduceIte, Nat.reduceEqDiff, Nat.reduceAdd, reduceCtorEq] | with_reducible refine V_W ?_ | (with_reducible refine And.intro ?_ ?_; focus first | assumption | omega | decide | grind) | (with_reducible refine Br.mk ?_ ?_; focus (intros; omega)) | decide)
  refine V_loop (α := Nat) (S := fun i => ([(0, ints xs), (1, i64 n), (5, i64 i)], [])) (C := fun i => i ≤ xs.length ∧ ∀ j, j < i → xs.getD j 0 ≠ n) (μ := fun i => xs.length - i) 0 ⟨by omega, by omega⟩ (by exact Ref.frame (by simp [sub, fget])) ?_
  rintro i ⟨hi, hall⟩
  (repeat first | simp only [go_sem, ↓reduceIte, Nat.reduceEqDiff, Nat.reduceAdd, reduceCtorEq] | with_reducible refine V_W ?_ | (with_reducible refine And.intro ?_ ?_; focus first | assumption | omega | decide | grind) | (with_reducible refine Br.mk ?_ ?_; focus (intros; omega)) | decide)
  refine ⟨fun hc => ?_, fun hc => ?_⟩
  · (repeat first | simp only [go_sem, ↓reduceIte, Nat.reduceEqDiff, Nat.reduceAdd, reduceCtorEq] | with_reducible refine V_W ?_ | (with_reducible refine And.intro ?_ ?_; focus first | assumption | omega | decide | grind) | (with_reducible refine Br.mk ?_ ?_; focus (intros; omega)) | decide)
    refine ⟨fun hc => ?_, fun hc => ?_⟩
    · (repeat first | simp only [go_sem, ↓reduceIte, Nat.reduceEqDiff, Nat.reduceAdd, reduceCtorEq] | with_reducible refine V_W ?_ | (with_reducible refine And.intro ?_ ?_; focus first | assumption | omega | decide | grind) | (with_reducible refine Br.mk ?_ ?_; focus (intros; omega)) | decide)
      rw [idx_at hall (by omega) (by assumption)]
    · (repeat first | simp only [go_sem, ↓reduceIte, Nat.reduceEqDiff, Nat.reduceAdd, reduceCtorEq] | with_reducible refine V_W ?_ | (with_reducible refine And.intro ?_ ?_; focus first | assumption | omega | decide | grind) | (with_reducible refine Br.mk ?_ ?_; focus (intros; omega)) | decide)
      refine ⟨i + 1, ⟨by omega, fun j hj => ?_⟩, by omega, by exact Ref.frame (by simp [sub, fget])⟩
      rcases Nat.lt_or_ge j i with h | h
      · exact hall j h
      · obtain rfl : j = i := by omega
        simpa using hc
  · (repeat first | simp only [go_sem, ↓reduceIte, Nat.reduceEqDiff, Nat.reduceAdd, reduceCtorEq] | with_reducible refine V_W ?_ | (with_reducible refine And.intro ?_ ?_; focus first | assumption | omega | decide | grind) | (with_reducible refine Br.mk ?_ ?_; focus (intros; omega)) | decide)
    rw [idx_no (fun j hj => hall j (by omega))]

theorem l01Has_c (xs : List Int) (n : Int) (hl : xs.length ≤ 1099511627776) : Pure Tryd.prog 66 [ints xs, i64 n] (bl (decide (n ∈ xs))) [] := by
  refine pureV ok66 rfl ?_; unfold c66
  (repeat first | simp only [go_sem, ↓reduceIte, Nat.reduceEqDiff, Nat.reduceAdd, reduceCtorEq] | with_reducible refine V_W ?_ | (with_reducible refine And.intro ?_ ?_; focus first | assumption | omega | decide | grind) | (with_reducible refine Br.mk ?_ ?_; focus (intros; omega)) | decide)
  refine pureC (l01Index_c xs n hl) (by simp only [go_sem, ↓reduceIte, Nat.reduceEqDiff, Nat.reduceAdd, reduceCtorEq] <;> rfl) (by first | rfl | simp only [go_sem, ↓reduceIte, Nat.reduceEqDiff, Nat.reduceAdd, reduceCtorEq]) ?_
  (repeat first | simp only [go_sem, ↓reduceIte, Nat.reduceEqDiff, Nat.reduceAdd, reduceCtorEq] | with_reducible refine V_W ?_ | (with_reducible refine And.intro ?_ ?_; focus first | assumption | omega | decide | grind) | (with_reducible refine Br.mk ?_ ?_; focus (intros; omega)) | decide)
  try rw [idx_ge]

theorem isNaN2_c (n : Int) : Pure Tryd.prog 146 [i64 n] (bl false) [] := by
  refine pureV ok146 rfl ?_; unfold c146
  (repeat first | simp only [go_sem, ↓reduceIte, Nat.reduceEqDiff, Nat.reduceAdd, reduceCtorEq] | with_reducible refine V_W ?_ | (with_reducible refine And.intro ?_ ?_; focus first | assumption | omega | decide | grind) | (with_reducible refine Br.mk ?_ ?_; focus (intros; omega)) | decide)
  try rw [show (n != n) = false by simp]

theorem eqInt64S_c (xs ys : List Int) (hx : xs.length ≤ 1099511627776) (hy : ys.length ≤ 1099511627776) : Pure Tryd.prog 55 [ints xs, ints ys] (bl (decide (xs = ys))) [] := by
  refine pureV ok55 rfl ?_; unfold c55
  (repeat first | simp only [go_sem, ↓reduceIte, Nat.reduceEqDiff, Nat.reduceAdd, reduceCtorEq] | with_reducible refine V_W ?_ | (with_reducible refine And.intro ?_ ?_; focus first | assumption | omega | decide | grind) | (with_reducible refine Br.mk ?_ ?_; focus (intros; omega)) | decide)
  refine ⟨fun hc => ?_, fun hc => ?_⟩
  · (repeat first | simp only [go_sem, ↓reduceIte, Nat.reduceEqDiff, Nat.reduceAdd, reduceCtorEq] | with_reducible refine V_W ?_ | (with_reducible refine And.intro ?_ ?_; focus first | assumption | omega | decide | grind) | (with_reducible refine Br.mk ?_ ?_; focus (intros; omega)) | decide)
    rw [decide_eq_false (fun h => hc (by rw [h]))]
  · have hl : xs.length = ys.length := by omega
    (repeat first | simp only [go_sem, ↓reduceIte, Nat.reduceEqDiff, Nat.reduceAdd, reduceCtorEq] | with_reducible refine V_W ?_ | (with_reducible refine And.intro ?_ ?_; focus first | assumption | omega | decide | grind) | (with_reducible refine Br.mk ?_ ?_; focus (intros; omega)) | decide)
    refine V_loop (α := Nat) (S := fun i => ([(0, ints xs), (1, ints ys), (5, i64 i)], [])) (C := fun i => i ≤ xs.length ∧ ∀ j, j < i → xs.getD j 0 = ys.getD j 0) (μ := fun i => xs.length - i) 0 ⟨by omega, by omega⟩ (by exact Ref.frame (by simp [sub, fget])) ?_
    rintro i ⟨hi, hall⟩
    (repeat first | simp only [go_sem, ↓reduceIte, Nat.reduceEqDiff, Nat.reduceAdd, reduceCtorEq] | with_reducible refine V_W ?_ | (with_reducible refine And.intro ?_ ?_; focus first | assumption | omega | decide | grind) | (with_reducible refine Br.mk ?_ ?_; focus (intros; omega)) | decide)
    refine ⟨fun hc1 => ?_, fun hc1 => ?_⟩
    · (repeat first | simp only [go_sem, ↓reduceIte, Nat.reduceEqDiff, Nat.reduceAdd, reduceCtorEq] | with_reducible refine V_W ?_ | (with_reducible refine And.intro ?_ ?_; focus first | assumption | omega | decide | grind) | (with_reducible refine Br.mk ?_ ?_; focus (intros; omega)) | decide)
      refine ⟨fun hc2 => ?_, fun hc2 => ?_⟩
      · (repeat first | simp only [go_sem, ↓reduceIte, Nat.reduceEqDiff, Nat.reduceAdd, reduceCtorEq] | with_reducible refine V_W ?_ | (with_reducible refine And.intro ?_ ?_; focus first | assumption | omega | decide | grind) | (with_reducible refine Br.mk ?_ ?_; focus (intros; omega)) | decide)
        rw [decide_eq_false (fun h => hc2 (by rw [h]))]
      · (repeat first | simp only [go_sem, ↓reduceIte, Nat.reduceEqDiff, Nat.reduceAdd, reduceCtorEq] | with_reducible refine V_W ?_ | (with_reducible refine And.intro ?_ ?_; focus first | assumption | omega | decide | grind) | (with_reducible refine Br.mk ?_ ?_; focus (intros; omega)) | decide)
        refine ⟨i + 1, ⟨by omega, fun j hj => ?_⟩, by omega, by exact Ref.frame (by simp [sub, fget])⟩
        rcases Nat.lt_or_ge j i with h | h
        · exact hall j h
        · obtain rfl : j = i := by omega
          simpa using hc2
    · (repeat first | simp only [go_sem, ↓reduceIte, Nat.reduceEqDiff, Nat.reduceAdd, reduceCtorEq] | with_reducible refine V_W ?_ | (with_reducible refine And.intro ?_ ?_; focus first | assumption | omega | decide | grind) | (with_reducible refine Br.mk ?_ ?_; focus (intros; omega)) | decide)
      rw [decide_eq_true]
      refine List.ext_getElem hl fun j h1 h2 => ?_
      have := hall j (by omega)
      simpa [h1, h2] using this

end Go.Proofs.YtghhlcioabdpfaaDoor
set_option maxRecDepth 100000
namespace Go.Proofs.YtghhlcioabdpfaaDoor
open Go.Gov

def left (b : Int) (n : Nat) : Int := if (n : Int) ≤ b then b - n else -1
def tot (xss : List (List Int)) : Nat := (xss.map List.length).sum

theorem szInt64S_c (xs : List Int) (b : Int) (h0 : 0 ≤ b) (hb : b ≤ 1048576) (hl : xs.length ≤ 9223372036854775807) : Pure Tryd.prog 49 [ints xs, i64 b] (i64 (left b xs.length)) [] := by
  refine pureV ok49 rfl ?_; unfold c49
  (repeat first | simp only [go_sem, ↓reduceIte, Nat.reduceEqDiff, Nat.reduceAdd, reduceCtorEq] | with_reducible refine V_W ?_ | (with_reducible refine And.intro ?_ ?_; focus first | assumption | omega | decide | grind) | (with_reducible refine Br.mk ?_ ?_; focus (intros; omega)) | decide)
  refine ⟨fun hc => ?_, fun hc => ?_⟩
  · (repeat first | simp only [go_sem, ↓reduceIte, Nat.reduceEqDiff, Nat.reduceAdd, reduceCtorEq] | with_reducible refine V_W ?_ | (with_reducible refine And.intro ?_ ?_; focus first | assumption | omega | decide | grind) | (with_reducible refine Br.mk ?_ ?_; focus (intros; omega)) | decide)
    rw [show left b xs.length = -1 from if_neg (by omega)]
  · (repeat first | simp only [go_sem, ↓reduceIte, Nat.reduceEqDiff, Nat.reduceAdd, reduceCtorEq] | with_reducible refine V_W ?_ | (with_reducible refine And.intro ?_ ?_; focus first | assumption | omega | decide | grind) | (with_reducible refine Br.mk ?_ ?_; focus (intros; omega)) | decide)
    rw [show left b xs.length = b - xs.length from if_pos (by omega)]

theorem tot_app (a b : List (List Int)) : tot (a ++ b) = tot a + tot b := by simp [tot]
theorem tot_take (xss : List (List Int)) (i : Nat) (h : i < xss.length) : tot (xss.take (i + 1)) = tot (xss.take i) + (xss.getD i []).length := by
  rw [List.take_succ_eq_append_getElem h, tot_app]
  simp [tot, h]
theorem tot_take_le (xss : List (List Int)) (i : Nat) : tot (xss.take i) ≤ tot xss := by
  have := congrArg tot (List.take_append_drop i xss)
  rw [tot_app] at this
  omega

theorem szInt64SS_c (xss : List (List Int)) (b : Int) (h0 : 0 ≤ b) (hb : b ≤ 1048576) (hl : xss.length ≤ 9223372036854775807) (hr : ∀ xs ∈ xss, xs.length ≤ 9223372036854775807) : Pure Tryd.prog 33 [mat xss, i64 b] (i64 (left b (xss.length + tot xss))) [] := by
  refine pureV ok33 rfl ?_; unfold c33
  (repeat first | simp only [go_sem, ↓reduceIte, Nat.reduceEqDiff, Nat.reduceAdd, reduceCtorEq] | with_reducible refine V_W ?_ | (with_reducible refine And.intro ?_ ?_; focus first | assumption | omega | decide | grind) | (with_reducible refine Br.mk ?_ ?_; focus (intros; omega)) | decide)
  refine ⟨fun hc => ?_, fun hc => ?_⟩
  · (repeat first | simp only [go_sem, ↓reduceIte, Nat.reduceEqDiff, Nat.reduceAdd, reduceCtorEq] | with_reducible refine V_W ?_ | (with_reducible refine And.intro ?_ ?_; focus first | assumption | omega | decide | grind) | (with_reducible refine Br.mk ?_ ?_; focus (intros; omega)) | decide)
    rw [show left b (xss.length + tot xss) = -1 from if_neg (by omega)]
  · (repeat first | simp only [go_sem, ↓reduceIte, Nat.reduceEqDiff, Nat.reduceAdd, reduceCtorEq] | with_reducible refine V_W ?_ | (with_reducible refine And.intro ?_ ?_; focus first | assumption | omega | decide | grind) | (with_reducible refine Br.mk ?_ ?_; focus (intros; omega)) | decide)
    refine V_loop (α := Nat) (S := fun i => ([(0, mat xss), (1, i64 (b - xss.length - tot (xss.take i))), (5, i64 i)], [])) (C := fun i => i ≤ xss.length ∧ (tot (xss.take i) : Int) ≤ b - xss.length) (μ := fun i => xss.length - i) 0 ⟨by omega, by simp [tot]; omega⟩ (by simp only [List.take_zero, tot, List.map_nil, List.sum_nil]; exact Ref.frame (by simp [sub, fget])) ?_
    rintro i ⟨hi, hle⟩
    (repeat first | simp only [go_sem, ↓reduceIte, Nat.reduceEqDiff, Nat.reduceAdd, reduceCtorEq] | with_reducible refine V_W ?_ | (with_reducible refine And.intro ?_ ?_; focus first | assumption | omega | decide | grind) | (with_reducible refine Br.mk ?_ ?_; focus (intros; omega)) | decide)
    refine ⟨fun hc1 => ?_, fun hc1 => ?_⟩
    · have hlt : i < xss.length := by omega
      have hrow : (xss.getD i []).length ≤ 9223372036854775807 := by
        rw [show xss.getD i [] = xss[i] by simp [hlt]]; exact hr _ (List.getElem_mem _)
      (repeat first | simp only [go_sem, ↓reduceIte, Nat.reduceEqDiff, Nat.reduceAdd, reduceCtorEq] | with_reducible refine V_W ?_ | (with_reducible refine And.intro ?_ ?_; focus first | assumption | omega | decide | grind) | (with_reducible refine Br.mk ?_ ?_; focus (intros; omega)) | decide)
      refine pureC (szInt64S_c (xss.getD i []) (b - xss.length - tot (xss.take i)) (by omega) (by omega) hrow) (by simp only [go_sem, ↓reduceIte, Nat.reduceEqDiff, Nat.reduceAdd, reduceCtorEq] <;> rfl) (by first | rfl | simp only [go_sem, ↓reduceIte, Nat.reduceEqDiff, Nat.reduceAdd, reduceCtorEq]) ?_
      (repeat first | simp only [go_sem, ↓reduceIte, Nat.reduceEqDiff, Nat.reduceAdd, reduceCtorEq] | with_reducible refine V_W ?_ | (with_reducible refine And.intro ?_ ?_; focus first | assumption | omega | decide | grind) | (with_reducible refine Br.mk ?_ ?_; focus (intros; omega)) | decide)
      have ht := tot_take xss i hlt
      have hle2 := tot_take_le xss (i + 1)
      have hlf : left (b - xss.length - tot (xss.take i)) (xss.getD i []).length = if (tot (xss.take (i + 1)) : Int) ≤ b - xss.length then b - xss.length - tot (xss.take (i + 1)) else -1 := by
        unfold left
        rw [ht]
        by_cases h : ((xss.getD i []).length : Int) ≤ b - xss.length - tot (xss.take i)
        · rw [if_pos h, if_pos (by omega)]; omega
        · rw [if_neg h, if_neg (by omega)]
      refine ⟨fun hc2 => ?_, fun hc2 => ?_⟩
      · (repeat first | simp only [go_sem, ↓reduceIte, Nat.reduceEqDiff, Nat.reduceAdd, reduceCtorEq] | with_reducible refine V_W ?_ | (with_reducible refine And.intro ?_ ?_; focus first | assumption | omega | decide | grind) | (with_reducible refine Br.mk ?_ ?_; focus (intros; omega)) | decide)
        have : ¬ (tot (xss.take (i + 1)) : Int) ≤ b - xss.length := fun h => by rw [hlf, if_pos h] at hc2; omega
        rw [show left b (xss.length + tot xss) = -1 from if_neg (by omega)]
      · have h : (tot (xss.take (i + 1)) : Int) ≤ b - xss.length := by
          rcases Int.lt_or_le (b - xss.length) (tot (xss.take (i + 1))) with h | h
          · rw [hlf, if_neg (by omega)] at hc2; omega
          · exact h
        (repeat first | simp only [go_sem, ↓reduceIte, Nat.reduceEqDiff, Nat.reduceAdd, reduceCtorEq] | with_reducible refine V_W ?_ | (with_reducible refine And.intro ?_ ?_; focus first | assumption | omega | decide | grind) | (with_reducible refine Br.mk ?_ ?_; focus (intros; omega)) | decide)
        rw [hlf, if_pos h]
        exact ⟨i + 1, ⟨by omega, h⟩, by omega, by exact Ref.frame (by simp [sub, fget])⟩
    · (repeat first | simp only [go_sem, ↓reduceIte, Nat.reduceEqDiff, Nat.reduceAdd, reduceCtorEq] | with_reducible refine V_W ?_ | (with_reducible refine And.intro ?_ ?_; focus first | assumption | omega | decide | grind) | (with_reducible refine Br.mk ?_ ?_; focus (intros; omega)) | decide)
      have : i = xss.length := by omega
      subst this
      rw [List.take_length] at hle ⊢
      rw [show left b (xss.length + tot xss) = b - (xss.length + tot xss : Nat) from if_pos (by omega)]
      show i64 _ = i64 _
      rw [show b - (xss.length : Int) - (tot xss : Int) = b - ((xss.length + tot xss : Nat) : Int) by omega]

theorem left_pos {b : Int} {n : Nat} (h0 : 0 ≤ b) (h : ¬ left b n < 0) : (n : Int) ≤ b ∧ left b n = b - n := by
  unfold left at *
  by_cases e : (n : Int) ≤ b
  · exact ⟨e, if_pos e⟩
  · rw [if_neg e] at h; omega
theorem left_neg {b : Int} {n : Nat} (h0 : 0 ≤ b) (h : left b n < 0) : b < (n : Int) := by
  unfold left at *
  by_cases e : (n : Int) ≤ b
  · rw [if_pos e] at h; omega
  · omega
theorem cpy_map {α β : Type} (f : α → β) (xs : List α) (d0 : α) (d : β) (i : Nat) (h : i < xs.length) : ((xs.take i).map f ++ List.replicate (xs.length - i) d).set i (f (xs.getD i d0)) = (xs.take (i + 1)).map f ++ List.replicate (xs.length - (i + 1)) d := by
  have e : xs.length - i = (xs.length - (i + 1)) + 1 := by omega
  rw [e, List.replicate_succ, List.set_append_right _ _ (by simp; omega), List.length_map, List.length_take, show i - min i xs.length = 0 by omega, List.set_cons_zero, List.take_succ_eq_append_getElem h, List.map_append, List.append_assoc, show xs.getD i d0 = xs[i] by simp [h]]
  rfl
theorem cpy_step {α : Type} (xs : List α) (d : α) (i : Nat) (h : i < xs.length) : (xs.take i ++ List.replicate (xs.length - i) d).set i (xs.getD i d) = xs.take (i + 1) ++ List.replicate (xs.length - (i + 1)) d := by
  simpa using cpy_map id xs d d i h
theorem toInt64S_c (xs : List Int) (hl : xs.length ≤ 1099511627776) : Pure Tryd.prog 52 [ints xs] (.sl 0 1 0 xs.length) [some (intsC xs)] := by
  refine pureV ok52 rfl ?_; unfold c52
  (repeat first | simp only [go_sem, ↓reduceIte, Nat.reduceEqDiff, Nat.reduceAdd, reduceCtorEq] | with_reducible refine V_W ?_ | (with_reducible refine And.intro ?_ ?_; focus first | assumption | omega | decide | grind) | (with_reducible refine Br.mk ?_ ?_; focus (intros; omega)) | decide)
  refine V_loop (α := Nat) (S := fun i => ([(0, ints xs), (3, .sl 0 1 0 xs.length), (4, i64 i)], [some (intsC (xs.take i ++ List.replicate (xs.length - i) 0))])) (C := fun i => i ≤ xs.length) (μ := fun i => xs.length - i) 0 (by omega) (by simp only [List.take_zero, List.nil_append, Nat.sub_zero]; exact Ref.frame (by simp [sub, fget])) ?_
  intro i hi
  (repeat first | simp only [go_sem, ↓reduceIte, Nat.reduceEqDiff, Nat.reduceAdd, reduceCtorEq] | with_reducible refine V_W ?_ | (with_reducible refine And.intro ?_ ?_; focus first | assumption | omega | decide | grind) | (with_reducible refine Br.mk ?_ ?_; focus (intros; omega)) | decide)
  refine ⟨fun hc => ?_, fun hc => ?_⟩
  · (repeat first | simp only [go_sem, ↓reduceIte, Nat.reduceEqDiff, Nat.reduceAdd, reduceCtorEq] | with_reducible refine V_W ?_ | (with_reducible refine And.intro ?_ ?_; focus first | assumption | omega | decide | grind) | (with_reducible refine Br.mk ?_ ?_; focus (intros; omega)) | decide)
    rw [cpy_step xs 0 i (by omega)]
    exact ⟨i + 1, by omega, by omega, by exact Ref.frame (by simp [sub, fget])⟩
  · (repeat first | simp only [go_sem, ↓reduceIte, Nat.reduceEqDiff, Nat.reduceAdd, reduceCtorEq] | with_reducible refine V_W ?_ | (with_reducible refine And.intro ?_ ?_; focus first | assumption | omega | decide | grind) | (with_reducible refine Br.mk ?_ ?_; focus (intros; omega)) | decide)
    rw [show i = xs.length by omega, List.take_length, Nat.sub_self, List.replicate_zero, List.append_nil]

theorem toInt64SS_c (xss : List (List Int)) (hl : xss.length ≤ 1099511627776) (hr : ∀ xs ∈ xss, xs.length ≤ 1099511627776) : Pure Tryd.prog 42 [mat xss] (.sl 0 1 0 xss.length) [some (xss.map oints)] := by
  refine pureV ok42 rfl ?_; unfold c42
  (repeat first | simp only [go_sem, ↓reduceIte, Nat.reduceEqDiff, Nat.reduceAdd, reduceCtorEq] | with_reducible refine V_W ?_ | (with_reducible refine And.intro ?_ ?_; focus first | assumption | omega | decide | grind) | (with_reducible refine Br.mk ?_ ?_; focus (intros; omega)) | decide)
  refine V_loop (α := Nat) (S := fun i => ([(0, mat xss), (3, .sl 0 1 0 xss.length), (4, i64 i)], [some ((xss.take i).map oints ++ List.replicate (xss.length - i) (.val (.slice none 0 0)))])) (C := fun i => i ≤ xss.length) (μ := fun i => xss.length - i) 0 (by omega) (by simp only [List.take_zero, List.map_nil, List.nil_append, Nat.sub_zero]; exact Ref.frame (by simp [sub, fget])) ?_
  intro i hi
  (repeat first | simp only [go_sem, ↓reduceIte, Nat.reduceEqDiff, Nat.reduceAdd, reduceCtorEq] | with_reducible refine V_W ?_ | (with_reducible refine And.intro ?_ ?_; focus first | assumption | omega | decide | grind) | (with_reducible refine Br.mk ?_ ?_; focus (intros; omega)) | decide)
  refine ⟨fun hc => ?_, fun hc => ?_⟩
  · (repeat first | simp only [go_sem, ↓reduceIte, Nat.reduceEqDiff, Nat.reduceAdd, reduceCtorEq] | with_reducible refine V_W ?_ | (with_reducible refine And.intro ?_ ?_; focus first | assumption | omega | decide | grind) | (with_reducible refine Br.mk ?_ ?_; focus (intros; omega)) | decide)
    have hrow : (xss.getD i []).length ≤ 1099511627776 := by
      rw [show xss.getD i [] = xss[i]'(by omega) by simp [show i < xss.length by omega]]; exact hr _ (List.getElem_mem _)
    refine pureC (toInt64S_c (xss.getD i []) hrow) (by simp only [go_sem, ↓reduceIte, Nat.reduceEqDiff, Nat.reduceAdd, reduceCtorEq] <;> rfl) (by first | rfl | simp only [go_sem, ↓reduceIte, Nat.reduceEqDiff, Nat.reduceAdd, reduceCtorEq]) ?_
    (repeat first | simp only [go_sem, ↓reduceIte, Nat.reduceEqDiff, Nat.reduceAdd, reduceCtorEq] | with_reducible refine V_W ?_ | (with_reducible refine And.intro ?_ ?_; focus first | assumption | omega | decide | grind) | (with_reducible refine Br.mk ?_ ?_; focus (intros; omega)) | decide)
    refine ⟨i + 1, by omega, by omega, (Ref.close 0 i 1 (cs2 := intsC (xss.getD i [])) rfl (List.getElem?_set_self (by simp; omega)) rfl (by decide) (by simp [intsC])).trans (Ref.gc [0] rfl ?_ (by simp [sub, fget, go_sem, ↓reduceIte, Nat.reduceEqDiff, Nat.reduceAdd, reduceCtorEq]))⟩
    (try simp only [go_sem, ↓reduceIte, Nat.reduceEqDiff, Nat.reduceAdd, reduceCtorEq, List.set_set])
    rw [cpy_map oints xss [] _ i (by omega)]
  · (repeat first | simp only [go_sem, ↓reduceIte, Nat.reduceEqDiff, Nat.reduceAdd, reduceCtorEq] | with_reducible refine V_W ?_ | (with_reducible refine And.intro ?_ ?_; focus first | assumption | omega | decide | grind) | (with_reducible refine Br.mk ?_ ?_; focus (intros; omega)) | decide)
    rw [show i = xss.length by omega, List.take_length, Nat.sub_self, List.replicate_zero, List.append_nil]

theorem eqInt64SS_c (xss yss : List (List Int)) (hx : xss.length ≤ 1099511627776) (hy : yss.length ≤ 1099511627776) (hxr : ∀ xs ∈ xss, xs.length ≤ 1099511627776) (hyr : ∀ xs ∈ yss, xs.length ≤ 1099511627776) : Pure Tryd.prog 45 [mat xss, mat yss] (bl (decide (xss = yss))) [] := by
  refine pureV ok45 rfl ?_; unfold c45
  (repeat first | simp only [go_sem, ↓reduceIte, Nat.reduceEqDiff, Nat.reduceAdd, reduceCtorEq] | with_reducible refine V_W ?_ | (with_reducible refine And.intro ?_ ?_; focus first | assumption | omega | decide | grind) | (with_reducible refine Br.mk ?_ ?_; focus (intros; omega)) | decide)
  refine ⟨fun hc => ?_, fun hc => ?_⟩
  · (repeat first | simp only [go_sem, ↓reduceIte, Nat.reduceEqDiff, Nat.reduceAdd, reduceCtorEq] | with_reducible refine V_W ?_ | (with_reducible refine And.intro ?_ ?_; focus first | assumption | omega | decide | grind) | (with_reducible refine Br.mk ?_ ?_; focus (intros; omega)) | decide)
    rw [decide_eq_false (fun h => by simp [h] at hc)]
  · have hl : xss.length = yss.length := by omega
    (repeat first | simp only [go_sem, ↓reduceIte, Nat.reduceEqDiff, Nat.reduceAdd, reduceCtorEq] | with_reducible refine V_W ?_ | (with_reducible refine And.intro ?_ ?_; focus first | assumption | omega | decide | grind) | (with_reducible refine Br.mk ?_ ?_; focus (intros; omega)) | decide)
    refine V_loop (α := Nat) (S := fun i => ([(0, mat xss), (1, mat yss), (5, i64 i)], [])) (C := fun i => i ≤ xss.length ∧ ∀ j, j < i → xss.getD j [] = yss.getD j []) (μ := fun i => xss.length - i) 0 ⟨by omega, by omega⟩ (by exact Ref.frame (by simp [sub, fget])) ?_
    rintro i ⟨hi, hall⟩
    (repeat first | simp only [go_sem, ↓reduceIte, Nat.reduceEqDiff, Nat.reduceAdd, reduceCtorEq] | with_reducible refine V_W ?_ | (with_reducible refine And.intro ?_ ?_; focus first | assumption | omega | decide | grind) | (with_reducible refine Br.mk ?_ ?_; focus (intros; omega)) | decide)
    refine ⟨fun hc1 => ?_, fun hc1 => ?_⟩
    · have h1 : (xss.getD i []).length ≤ 1099511627776 := by
        rw [show xss.getD i [] = xss[i]'(by omega) by simp [show i < xss.length by omega]]; exact hxr _ (List.getElem_mem _)
      have h2 : (yss.getD i []).length ≤ 1099511627776 := by
        rw [show yss.getD i [] = yss[i]'(by omega) by simp [show i < yss.length by omega]]; exact hyr _ (List.getElem_mem _)
      (repeat first | simp only [go_sem, ↓reduceIte, Nat.reduceEqDiff, Nat.reduceAdd, reduceCtorEq] | with_reducible refine V_W ?_ | (with_reducible refine And.intro ?_ ?_; focus first | assumption | omega | decide | grind) | (with_reducible refine Br.mk ?_ ?_; focus (intros; omega)) | decide)
      refine pureC (eqInt64S_c (xss.getD i []) (yss.getD i []) h1 h2) (by simp only [go_sem, ↓reduceIte, Nat.reduceEqDiff, Nat.reduceAdd, reduceCtorEq] <;> rfl) (by first | rfl | simp only [go_sem, ↓reduceIte, Nat.reduceEqDiff, Nat.reduceAdd, reduceCtorEq]) ?_
      (repeat first | simp only [go_sem, ↓reduceIte, Nat.reduceEqDiff, Nat.reduceAdd, reduceCtorEq] | with_reducible refine V_W ?_ | (with_reducible refine And.intro ?_ ?_; focus first | assumption | omega | decide | grind) | (with_reducible refine Br.mk ?_ ?_; focus (intros; omega)) | decide)
      refine ⟨fun hc2 => ?_, fun hc2 => ?_⟩
      · (repeat first | simp only [go_sem, ↓reduceIte, Nat.reduceEqDiff, Nat.reduceAdd, reduceCtorEq] | with_reducible refine V_W ?_ | (with_reducible refine And.intro ?_ ?_; focus first | assumption | omega | decide | grind) | (with_reducible refine Br.mk ?_ ?_; focus (intros; omega)) | decide)
        rw [decide_eq_false (fun h => by simp [h] at hc2)]
      · (repeat first | simp only [go_sem, ↓reduceIte, Nat.reduceEqDiff, Nat.reduceAdd, reduceCtorEq] | with_reducible refine V_W ?_ | (with_reducible refine And.intro ?_ ?_; focus first | assumption | omega | decide | grind) | (with_reducible refine Br.mk ?_ ?_; focus (intros; omega)) | decide)
        refine ⟨i + 1, ⟨by omega, fun j hj => ?_⟩, by omega, by exact Ref.frame (by simp [sub, fget])⟩
        rcases Nat.lt_or_ge j i with h | h
        · exact hall j h
        · obtain rfl : j = i := by omega
          simpa using hc2
    · (repeat first | simp only [go_sem, ↓reduceIte, Nat.reduceEqDiff, Nat.reduceAdd, reduceCtorEq] | with_reducible refine V_W ?_ | (with_reducible refine And.intro ?_ ?_; focus first | assumption | omega | decide | grind) | (with_reducible refine Br.mk ?_ ?_; focus (intros; omega)) | decide)
      rw [decide_eq_true]
      refine List.ext_getElem hl fun j h1 h2 => ?_
      have := hall j (by omega)
      simpa [h1, h2] using this

end Go.Proofs.YtghhlcioabdpfaaDoor
set_option maxRecDepth 100000
namespace Go.Proofs.YtghhlcioabdpfaaDoor
open Go.Gov

def up (k : Int) (n : Nat) : List Int := (List.range n).map fun (i : Nat) => k + (i : Int)
def upR : Int → List (List Int) → List (List Int)
  | _, [] => []
  | k, x :: xs => up k x.length :: upR (k + x.length) xs
theorem upR_len : ∀ (k : Int) (xss : List (List Int)), (upR k xss).length = xss.length
  | _, [] => rfl
  | k, x :: xs => by simp [upR, upR_len]
theorem le_tot {xs : List Int} {B : List (List Int)} (h : xs ∈ B) : xs.length ≤ tot B := by
  unfold tot
  obtain ⟨a, b, rfl⟩ := List.append_of_mem h
  simp; omega
theorem take_up (k : Int) (n : Nat) : (intsC (up k n)).take n = intsC (up k n) := by exact List.take_of_length_le (by simp [intsC, up])
theorem take_upR (k : Int) (xss : List (List Int)) : ((upR k xss).map oints).take xss.length = (upR k xss).map oints := by exact List.take_of_length_le (by simp [upR_len])
attribute [go_sem] take_up take_upR
theorem mat_b {B : List (List Int)} {n : Nat} (h : B.length + tot B ≤ n) : B.length ≤ n ∧ tot B ≤ n ∧ ∀ xs ∈ B, xs.length ≤ n := by
  refine ⟨by omega, by omega, fun xs hx => ?_⟩
  have := le_tot hx
  omega
end Go.Proofs.YtghhlcioabdpfaaDoor
set_option maxRecDepth 100000
namespace Go.Proofs.YtghhlcioabdpfaaDoor
open Classical

def sst (xs : List Int) : Prop := xs.Pairwise (· < ·)

theorem sst_ext : ∀ {a b : List Int}, sst a → sst b → (∀ e, e ∈ a ↔ e ∈ b) → a = b
  | [], [], _, _, _ => rfl
  | [], y :: b, _, _, h => by have := (h y).2 (by simp); simp at this
  | x :: a, [], _, _, h => by have := (h x).1 (by simp); simp at this
  | x :: a, y :: b, ha, hb, h => by
    obtain ⟨ha1, ha2⟩ := List.pairwise_cons.1 ha
    obtain ⟨hb1, hb2⟩ := List.pairwise_cons.1 hb
    have hxy : x = y := by
      have h1 := (h x).1 (by simp)
      have h2 := (h y).2 (by simp)
      rcases List.mem_cons.1 h1 with h1 | h1
      · exact h1
      · rcases List.mem_cons.1 h2 with h2 | h2
        · exact h2.symm
        · have := hb1 x h1; have := ha1 y h2; omega
    subst hxy
    rw [sst_ext ha2 hb2 fun e => ?_]
    constructor
    · intro he
      have := (h e).1 (List.mem_cons_of_mem _ he)
      rcases List.mem_cons.1 this with h1 | h1
      · subst h1; have := ha1 e he; omega
      · exact h1
    · intro he
      have := (h e).2 (List.mem_cons_of_mem _ he)
      rcases List.mem_cons.1 this with h1 | h1
      · subst h1; have := hb1 e he; omega
      · exact h1

def push (out : List Int) (e : Int) : List Int := if out.getLast? = some e then out.dropLast else out ++ [e]
theorem lt_of_sst {xs : List Int} (h : sst xs) : ∀ j, j + 1 < xs.length → xs.getD j 0 < xs.getD (j + 1) 0 := fun j hj => by
  have := List.pairwise_iff_getElem.1 h j (j + 1) (by omega) hj (by omega)
  simpa [hj, show j < xs.length by omega] using this

end Go.Proofs.YtghhlcioabdpfaaDoor
set_option maxRecDepth 100000
namespace Go.Proofs
open Go.Shelf
def Tryd.sortF_ren : Go.Shelf.Ren := ⟨fun | 6 => 122 | 15 => 149 | 14 => 148 | 28 => 169 | 29 => 110 | 20 => 160 | 21 => 162 | 22 => 163 | 23 => 164 | 24 => 165 | 25 => 166 | 26 => 167 | 27 => 168 | 46 => 175 | 47 => 176 | 48 => 177 | 49 => 178 | 50 => 179 | 57 => 187 | n => n, fun | 22 => 22 | 24 => 32 | 25 => 93 | 3 => 3 | 39 => 152 | 0 => 0 | 53 => 173 | 55 => 118 | 4 => 4 | 46 => 167 | 45 => 166 | 50 => 122 | 5 => 5 | 9 => 9 | 66 => 178 | 70 => 182 | 76 => 193 | 77 => 194 | n => n, fun | n => n⟩
theorem Tryd.sortF : Go.Proofs.SlLaysF.n6 Tryd.prog Tryd.sortF_ren := {
  mixed := by kernel_rfl
  f6 := ⟨Tryd.f122.name, by decide, Tryd.func122.trans (congrArg some (by kernel_rfl))⟩
  f14 := ⟨Tryd.f148.name, by decide, Tryd.func148.trans (congrArg some (by kernel_rfl))⟩
  f15 := Tryd.func149.trans (congrArg some (by kernel_rfl))
  f20 := ⟨Tryd.f160.name, by decide, Tryd.func160.trans (congrArg some (by kernel_rfl))⟩
  f21 := ⟨Tryd.f162.name, by decide, Tryd.func162.trans (congrArg some (by kernel_rfl))⟩
  f22 := ⟨Tryd.f163.name, by decide, Tryd.func163.trans (congrArg some (by kernel_rfl))⟩
  f23 := ⟨Tryd.f164.name, by decide, Tryd.func164.trans (congrArg some (by kernel_rfl))⟩
  f24 := ⟨Tryd.f165.name, by decide, Tryd.func165.trans (congrArg some (by kernel_rfl))⟩
  f25 := ⟨Tryd.f166.name, by decide, Tryd.func166.trans (congrArg some (by kernel_rfl))⟩
  f26 := ⟨Tryd.f167.name, by decide, Tryd.func167.trans (congrArg some (by kernel_rfl))⟩
  f27 := ⟨Tryd.f168.name, by decide, Tryd.func168.trans (congrArg some (by kernel_rfl))⟩
  f28 := Tryd.func169.trans (congrArg some (by kernel_rfl))
  f29 := Tryd.func110.trans (congrArg some (by kernel_rfl))
  f46 := ⟨Tryd.f175.name, by decide, Tryd.func175.trans (congrArg some (by kernel_rfl))⟩
  f47 := Tryd.func176.trans (congrArg some (by kernel_rfl))
  f48 := Tryd.func177.trans (congrArg some (by kernel_rfl))
  f49 := ⟨Tryd.f178.name, by decide, Tryd.func178.trans (congrArg some (by kernel_rfl))⟩
  f50 := ⟨Tryd.f179.name, by decide, Tryd.func179.trans (congrArg some (by kernel_rfl))⟩
  f57 := ⟨Tryd.f187.name, by decide, Tryd.func187.trans (congrArg some (by kernel_rfl))⟩
  t0 := Tryd.underlying0
  a0 := Tryd.isAgg0
  z0 := Tryd.sizeOf0
  v0 := Tryd.zeroValue0
  t3 := Tryd.underlying3
  a3 := Tryd.isAgg3
  z3 := Tryd.sizeOf3
  v3 := Tryd.zeroValue3
  t4 := Tryd.underlying4
  a4 := Tryd.isAgg4
  z4 := Tryd.sizeOf4
  v4 := Tryd.zeroValue4
  t5 := Tryd.underlying5
  a5 := Tryd.isAgg5
  z5 := Tryd.sizeOf5
  v5 := Tryd.zeroValue5
  t9 := Tryd.underlying9
  a9 := Tryd.isAgg9
  z9 := Tryd.sizeOf9
  v9 := Tryd.zeroValue9
  t22 := Tryd.underlying22
  a22 := Tryd.isAgg22
  z22 := Tryd.sizeOf22
  v22 := Tryd.zeroValue22
  a24 := Tryd.isAgg32
  z24 := Tryd.sizeOf32
  t25 := Tryd.underlying93
  a25 := Tryd.isAgg93
  z25 := Tryd.sizeOf93
  v25 := Tryd.zeroValue93
  t39 := Tryd.underlying152
  a39 := Tryd.isAgg152
  z39 := Tryd.sizeOf152
  v39 := Tryd.zeroValue152
  t45 := Tryd.underlying166
  a45 := Tryd.isAgg166
  z45 := Tryd.sizeOf166
  v45 := Tryd.zeroValue166
  t46 := Tryd.underlying167
  a46 := Tryd.isAgg167
  z46 := Tryd.sizeOf167
  v46 := Tryd.zeroValue167
  t50 := Tryd.underlying122
  a50 := Tryd.isAgg122
  z50 := Tryd.sizeOf122
  v50 := Tryd.zeroValue122
  t53 := Tryd.underlying173
  a53 := Tryd.isAgg173
  z53 := Tryd.sizeOf173
  v53 := Tryd.zeroValue173
  t55 := Tryd.underlying118
  a55 := Tryd.isAgg118
  z55 := Tryd.sizeOf118
  v55 := Tryd.zeroValue118
  t66 := Tryd.underlying178
  a66 := Tryd.isAgg178
  z66 := Tryd.sizeOf178
  v66 := Tryd.zeroValue178
  t70 := Tryd.underlying182
  a70 := Tryd.isAgg182
  z70 := Tryd.sizeOf182
  v70 := Tryd.zeroValue182
  t76 := Tryd.underlying193
  a76 := Tryd.isAgg193
  z76 := Tryd.sizeOf193
  v76 := Tryd.zeroValue193
  t77 := Tryd.underlying194
  a77 := Tryd.isAgg194
  z77 := Tryd.sizeOf194
  v77 := Tryd.zeroValue194 }
end Go.Proofs
