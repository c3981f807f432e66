/- Contracts: sizes, copies, equality of lists of numbers, of rows, of a poset. -/
import Derived.Test.YtkolabjcmephaaaBas
import Derived.Test.YtkolabjcmephaaaGov21
set_option linter.unusedSimpArgs false
set_option linter.unusedVariables false
set_option maxRecDepth 100000
namespace Go.Proofs.Ytkolabjcmephaaa
open Go.Gov

def left (b : Int) (n : Nat) : Int := if (n : Int) ≤ b then b - n else -1
def tot (xss : List (List Int)) : Nat := (xss.map List.length).sum

theorem szInt64S_c (xs : List Int) (b : Int) (h0 : 0 ≤ b) (hb : b ≤ 1048576) (hl : xs.length ≤ 9223372036854775807) : Pure Try.prog 67 [ints xs, i64 b] (i64 (left b xs.length)) [] := by
  refine pureV ok67 rfl ?_; unfold c67
  (repeat first | simp only [go_sem, ↓reduceIte, Nat.reduceEqDiff, Nat.reduceAdd, reduceCtorEq] | (with_reducible refine And.intro ?_ ?_; focus first | omega | decide | grind) | (with_reducible refine Br.mk ?_ ?_; focus (intros; omega)) | decide)
  refine ⟨fun hc => ?_, fun hc => ?_⟩
  · (repeat first | simp only [go_sem, ↓reduceIte, Nat.reduceEqDiff, Nat.reduceAdd, reduceCtorEq] | (with_reducible refine And.intro ?_ ?_; focus first | omega | decide | grind) | (with_reducible refine Br.mk ?_ ?_; focus (intros; omega)) | decide)
    rw [show left b xs.length = -1 from if_neg (by omega)]
  · (repeat first | simp only [go_sem, ↓reduceIte, Nat.reduceEqDiff, Nat.reduceAdd, reduceCtorEq] | (with_reducible refine And.intro ?_ ?_; focus first | omega | decide | grind) | (with_reducible refine Br.mk ?_ ?_; focus (intros; omega)) | decide)
    rw [show left b xs.length = b - xs.length from if_pos (by omega)]

theorem tot_cons (x : List Int) (xss : List (List Int)) : tot (x :: xss) = x.length + tot xss := by simp [tot]
theorem tot_app (a b : List (List Int)) : tot (a ++ b) = tot a + tot b := by simp [tot]
theorem tot_take (xss : List (List Int)) (i : Nat) (h : i < xss.length) : tot (xss.take (i + 1)) = tot (xss.take i) + (xss.getD i []).length := by
  rw [List.take_succ_eq_append_getElem h, tot_app]
  simp [tot, h]
theorem tot_take_le (xss : List (List Int)) (i : Nat) : tot (xss.take i) ≤ tot xss := by
  have := congrArg tot (List.take_append_drop i xss)
  rw [tot_app] at this
  omega

theorem szInt64SS_c (xss : List (List Int)) (b : Int) (h0 : 0 ≤ b) (hb : b ≤ 1048576) (hl : xss.length ≤ 9223372036854775807) (hr : ∀ xs ∈ xss, xs.length ≤ 9223372036854775807) : Pure Try.prog 33 [mat xss, i64 b] (i64 (left b (xss.length + tot xss))) [] := by
  refine pureV ok33 rfl ?_; unfold c33
  (repeat first | simp only [go_sem, ↓reduceIte, Nat.reduceEqDiff, Nat.reduceAdd, reduceCtorEq] | (with_reducible refine And.intro ?_ ?_; focus first | omega | decide | grind) | (with_reducible refine Br.mk ?_ ?_; focus (intros; omega)) | decide)
  refine ⟨fun hc => ?_, fun hc => ?_⟩
  · (repeat first | simp only [go_sem, ↓reduceIte, Nat.reduceEqDiff, Nat.reduceAdd, reduceCtorEq] | (with_reducible refine And.intro ?_ ?_; focus first | omega | decide | grind) | (with_reducible refine Br.mk ?_ ?_; focus (intros; omega)) | decide)
    rw [show left b (xss.length + tot xss) = -1 from if_neg (by omega)]
  · (repeat first | simp only [go_sem, ↓reduceIte, Nat.reduceEqDiff, Nat.reduceAdd, reduceCtorEq] | (with_reducible refine And.intro ?_ ?_; focus first | omega | decide | grind) | (with_reducible refine Br.mk ?_ ?_; focus (intros; omega)) | decide)
    refine V_loop (α := Nat) (S := fun i => ([(0, mat xss), (1, i64 (b - xss.length - tot (xss.take i))), (5, i64 i)], [])) (C := fun i => i ≤ xss.length ∧ (tot (xss.take i) : Int) ≤ b - xss.length) (μ := fun i => xss.length - i) 0 ⟨by omega, by simp [tot]; omega⟩ (by simp only [List.take_zero, tot, List.map_nil, List.sum_nil]; exact Ref.frame (by simp [sub, fget])) ?_
    rintro i ⟨hi, hle⟩
    (repeat first | simp only [go_sem, ↓reduceIte, Nat.reduceEqDiff, Nat.reduceAdd, reduceCtorEq] | (with_reducible refine And.intro ?_ ?_; focus first | omega | decide | grind) | (with_reducible refine Br.mk ?_ ?_; focus (intros; omega)) | decide)
    refine ⟨fun hc1 => ?_, fun hc1 => ?_⟩
    · have hlt : i < xss.length := by omega
      have hrow : (xss.getD i []).length ≤ 9223372036854775807 := by
        rw [show xss.getD i [] = xss[i] by simp [hlt]]; exact hr _ (List.getElem_mem _)
      (repeat first | simp only [go_sem, ↓reduceIte, Nat.reduceEqDiff, Nat.reduceAdd, reduceCtorEq] | (with_reducible refine And.intro ?_ ?_; focus first | omega | decide | grind) | (with_reducible refine Br.mk ?_ ?_; focus (intros; omega)) | decide)
      refine pureC (szInt64S_c (xss.getD i []) (b - xss.length - tot (xss.take i)) (by omega) (by omega) hrow) (by simp only [go_sem, ↓reduceIte, Nat.reduceEqDiff, Nat.reduceAdd, reduceCtorEq] <;> rfl) (by first | rfl | simp only [go_sem, ↓reduceIte, Nat.reduceEqDiff, Nat.reduceAdd, reduceCtorEq]) ?_
      (repeat first | simp only [go_sem, ↓reduceIte, Nat.reduceEqDiff, Nat.reduceAdd, reduceCtorEq] | (with_reducible refine And.intro ?_ ?_; focus first | omega | decide | grind) | (with_reducible refine Br.mk ?_ ?_; focus (intros; omega)) | decide)
      have ht := tot_take xss i hlt
      have hle2 := tot_take_le xss (i + 1)
      have hlf : left (b - xss.length - tot (xss.take i)) (xss.getD i []).length = if (tot (xss.take (i + 1)) : Int) ≤ b - xss.length then b - xss.length - tot (xss.take (i + 1)) else -1 := by
        unfold left
        rw [ht]
        by_cases h : ((xss.getD i []).length : Int) ≤ b - xss.length - tot (xss.take i)
        · rw [if_pos h, if_pos (by omega)]; omega
        · rw [if_neg h, if_neg (by omega)]
      refine ⟨fun hc2 => ?_, fun hc2 => ?_⟩
      · (repeat first | simp only [go_sem, ↓reduceIte, Nat.reduceEqDiff, Nat.reduceAdd, reduceCtorEq] | (with_reducible refine And.intro ?_ ?_; focus first | omega | decide | grind) | (with_reducible refine Br.mk ?_ ?_; focus (intros; omega)) | decide)
        have : ¬ (tot (xss.take (i + 1)) : Int) ≤ b - xss.length := fun h => by rw [hlf, if_pos h] at hc2; omega
        rw [show left b (xss.length + tot xss) = -1 from if_neg (by omega)]
      · have h : (tot (xss.take (i + 1)) : Int) ≤ b - xss.length := by
          rcases Int.lt_or_le (b - xss.length) (tot (xss.take (i + 1))) with h | h
          · rw [hlf, if_neg (by omega)] at hc2; omega
          · exact h
        (repeat first | simp only [go_sem, ↓reduceIte, Nat.reduceEqDiff, Nat.reduceAdd, reduceCtorEq] | (with_reducible refine And.intro ?_ ?_; focus first | omega | decide | grind) | (with_reducible refine Br.mk ?_ ?_; focus (intros; omega)) | decide)
        rw [hlf, if_pos h]
        exact ⟨i + 1, ⟨by omega, h⟩, by omega, by exact Ref.frame (by simp [sub, fget])⟩
    · (repeat first | simp only [go_sem, ↓reduceIte, Nat.reduceEqDiff, Nat.reduceAdd, reduceCtorEq] | (with_reducible refine And.intro ?_ ?_; focus first | omega | decide | grind) | (with_reducible refine Br.mk ?_ ?_; focus (intros; omega)) | decide)
      have : i = xss.length := by omega
      subst this
      rw [List.take_length] at hle ⊢
      rw [show left b (xss.length + tot xss) = b - (xss.length + tot xss : Nat) from if_pos (by omega)]
      show i64 _ = i64 _
      rw [show b - (xss.length : Int) - (tot xss : Int) = b - ((xss.length + tot xss : Nat) : Int) by omega]

abbrev posetA (r : Int) (ranks : List Int) (below : List (List Int)) : AV := .agg [i64 r, ints ranks, mat below]
def psz (ranks : List Int) (below : List (List Int)) : Nat := ranks.length + (below.length + tot below)

theorem left_pos {b : Int} {n : Nat} (h0 : 0 ≤ b) (h : ¬ left b n < 0) : (n : Int) ≤ b ∧ left b n = b - n := by
  unfold left at *
  by_cases e : (n : Int) ≤ b
  · exact ⟨e, if_pos e⟩
  · rw [if_neg e] at h; omega
theorem left_neg {b : Int} {n : Nat} (h0 : 0 ≤ b) (h : left b n < 0) : b < (n : Int) := by
  unfold left at *
  by_cases e : (n : Int) ≤ b
  · rw [if_pos e] at h; omega
  · omega
theorem cpy_map {α β : Type} (f : α → β) (xs : List α) (d0 : α) (d : β) (i : Nat) (h : i < xs.length) : ((xs.take i).map f ++ List.replicate (xs.length - i) d).set i (f (xs.getD i d0)) = (xs.take (i + 1)).map f ++ List.replicate (xs.length - (i + 1)) d := by
  have e : xs.length - i = (xs.length - (i + 1)) + 1 := by omega
  rw [e, List.replicate_succ, List.set_append_right _ _ (by simp; omega), List.length_map, List.length_take, show i - min i xs.length = 0 by omega, List.set_cons_zero, List.take_succ_eq_append_getElem h, List.map_append, List.append_assoc, show xs.getD i d0 = xs[i] by simp [h]]
  rfl
theorem cpy_step {α : Type} (xs : List α) (d : α) (i : Nat) (h : i < xs.length) : (xs.take i ++ List.replicate (xs.length - i) d).set i (xs.getD i d) = xs.take (i + 1) ++ List.replicate (xs.length - (i + 1)) d := by
  simpa using cpy_map id xs d d i h
theorem toInt64S_c (xs : List Int) (hl : xs.length ≤ 1099511627776) : Pure Try.prog 70 [ints xs] (.sl 0 1 0 xs.length) [some (intsC xs)] := by
  refine pureV ok70 rfl ?_; unfold c70
  (repeat first | simp only [go_sem, ↓reduceIte, Nat.reduceEqDiff, Nat.reduceAdd, reduceCtorEq] | (with_reducible refine And.intro ?_ ?_; focus first | omega | decide | grind) | (with_reducible refine Br.mk ?_ ?_; focus (intros; omega)) | decide)
  refine V_loop (α := Nat) (S := fun i => ([(0, ints xs), (3, .sl 0 1 0 xs.length), (4, i64 i)], [some (intsC (xs.take i ++ List.replicate (xs.length - i) 0))])) (C := fun i => i ≤ xs.length) (μ := fun i => xs.length - i) 0 (by omega) (by simp only [List.take_zero, List.nil_append, Nat.sub_zero]; exact Ref.frame (by simp [sub, fget])) ?_
  intro i hi
  (repeat first | simp only [go_sem, ↓reduceIte, Nat.reduceEqDiff, Nat.reduceAdd, reduceCtorEq] | (with_reducible refine And.intro ?_ ?_; focus first | omega | decide | grind) | (with_reducible refine Br.mk ?_ ?_; focus (intros; omega)) | decide)
  refine ⟨fun hc => ?_, fun hc => ?_⟩
  · (repeat first | simp only [go_sem, ↓reduceIte, Nat.reduceEqDiff, Nat.reduceAdd, reduceCtorEq] | (with_reducible refine And.intro ?_ ?_; focus first | omega | decide | grind) | (with_reducible refine Br.mk ?_ ?_; focus (intros; omega)) | decide)
    rw [cpy_step xs 0 i (by omega)]
    exact ⟨i + 1, by omega, by omega, by exact Ref.frame (by simp [sub, fget])⟩
  · (repeat first | simp only [go_sem, ↓reduceIte, Nat.reduceEqDiff, Nat.reduceAdd, reduceCtorEq] | (with_reducible refine And.intro ?_ ?_; focus first | omega | decide | grind) | (with_reducible refine Br.mk ?_ ?_; focus (intros; omega)) | decide)
    rw [show i = xs.length by omega, List.take_length, Nat.sub_self, List.replicate_zero, List.append_nil]

theorem toInt64SS_c (xss : List (List Int)) (hl : xss.length ≤ 1099511627776) (hr : ∀ xs ∈ xss, xs.length ≤ 1099511627776) : Pure Try.prog 36 [mat xss] (.sl 0 1 0 xss.length) [some (xss.map oints)] := by
  refine pureV ok36 rfl ?_; unfold c36
  (repeat first | simp only [go_sem, ↓reduceIte, Nat.reduceEqDiff, Nat.reduceAdd, reduceCtorEq] | (with_reducible refine And.intro ?_ ?_; focus first | omega | decide | grind) | (with_reducible refine Br.mk ?_ ?_; focus (intros; omega)) | decide)
  refine V_loop (α := Nat) (S := fun i => ([(0, mat xss), (3, .sl 0 1 0 xss.length), (4, i64 i)], [some ((xss.take i).map oints ++ List.replicate (xss.length - i) (.val (.slice none 0 0)))])) (C := fun i => i ≤ xss.length) (μ := fun i => xss.length - i) 0 (by omega) (by simp only [List.take_zero, List.map_nil, List.nil_append, Nat.sub_zero]; exact Ref.frame (by simp [sub, fget])) ?_
  intro i hi
  (repeat first | simp only [go_sem, ↓reduceIte, Nat.reduceEqDiff, Nat.reduceAdd, reduceCtorEq] | (with_reducible refine And.intro ?_ ?_; focus first | omega | decide | grind) | (with_reducible refine Br.mk ?_ ?_; focus (intros; omega)) | decide)
  refine ⟨fun hc => ?_, fun hc => ?_⟩
  · (repeat first | simp only [go_sem, ↓reduceIte, Nat.reduceEqDiff, Nat.reduceAdd, reduceCtorEq] | (with_reducible refine And.intro ?_ ?_; focus first | omega | decide | grind) | (with_reducible refine Br.mk ?_ ?_; focus (intros; omega)) | decide)
    have hrow : (xss.getD i []).length ≤ 1099511627776 := by
      rw [show xss.getD i [] = xss[i]'(by omega) by simp [show i < xss.length by omega]]; exact hr _ (List.getElem_mem _)
    refine pureC (toInt64S_c (xss.getD i []) hrow) (by simp only [go_sem, ↓reduceIte, Nat.reduceEqDiff, Nat.reduceAdd, reduceCtorEq] <;> rfl) (by first | rfl | simp only [go_sem, ↓reduceIte, Nat.reduceEqDiff, Nat.reduceAdd, reduceCtorEq]) ?_
    (repeat first | simp only [go_sem, ↓reduceIte, Nat.reduceEqDiff, Nat.reduceAdd, reduceCtorEq] | (with_reducible refine And.intro ?_ ?_; focus first | omega | decide | grind) | (with_reducible refine Br.mk ?_ ?_; focus (intros; omega)) | decide)
    refine ⟨i + 1, by omega, by omega, (Ref.close 0 i 1 (cs2 := intsC (xss.getD i [])) rfl (List.getElem?_set_self (by simp; omega)) rfl (by decide) (by simp [intsC])).trans (Ref.gc [0] rfl ?_ (by simp [sub, fget, go_sem, ↓reduceIte, Nat.reduceEqDiff, Nat.reduceAdd, reduceCtorEq]))⟩
    (try simp only [go_sem, ↓reduceIte, Nat.reduceEqDiff, Nat.reduceAdd, reduceCtorEq, List.set_set])
    rw [cpy_map oints xss [] _ i (by omega)]
  · (repeat first | simp only [go_sem, ↓reduceIte, Nat.reduceEqDiff, Nat.reduceAdd, reduceCtorEq] | (with_reducible refine And.intro ?_ ?_; focus first | omega | decide | grind) | (with_reducible refine Br.mk ?_ ?_; focus (intros; omega)) | decide)
    rw [show i = xss.length by omega, List.take_length, Nat.sub_self, List.replicate_zero, List.append_nil]

theorem eqInt64SS_c (xss yss : List (List Int)) (hx : xss.length ≤ 1099511627776) (hy : yss.length ≤ 1099511627776) (hxr : ∀ xs ∈ xss, xs.length ≤ 1099511627776) (hyr : ∀ xs ∈ yss, xs.length ≤ 1099511627776) : Pure Try.prog 39 [mat xss, mat yss] (bl (decide (xss = yss))) [] := by
  refine pureV ok39 rfl ?_; unfold c39
  (repeat first | simp only [go_sem, ↓reduceIte, Nat.reduceEqDiff, Nat.reduceAdd, reduceCtorEq] | (with_reducible refine And.intro ?_ ?_; focus first | omega | decide | grind) | (with_reducible refine Br.mk ?_ ?_; focus (intros; omega)) | decide)
  refine ⟨fun hc => ?_, fun hc => ?_⟩
  · (repeat first | simp only [go_sem, ↓reduceIte, Nat.reduceEqDiff, Nat.reduceAdd, reduceCtorEq] | (with_reducible refine And.intro ?_ ?_; focus first | omega | decide | grind) | (with_reducible refine Br.mk ?_ ?_; focus (intros; omega)) | decide)
    rw [decide_eq_false (fun h => by simp [h] at hc)]
  · have hl : xss.length = yss.length := by omega
    (repeat first | simp only [go_sem, ↓reduceIte, Nat.reduceEqDiff, Nat.reduceAdd, reduceCtorEq] | (with_reducible refine And.intro ?_ ?_; focus first | omega | decide | grind) | (with_reducible refine Br.mk ?_ ?_; focus (intros; omega)) | decide)
    refine V_loop (α := Nat) (S := fun i => ([(0, mat xss), (1, mat yss), (5, i64 i)], [])) (C := fun i => i ≤ xss.length ∧ ∀ j, j < i → xss.getD j [] = yss.getD j []) (μ := fun i => xss.length - i) 0 ⟨by omega, by omega⟩ (by exact Ref.frame (by simp [sub, fget])) ?_
    rintro i ⟨hi, hall⟩
    (repeat first | simp only [go_sem, ↓reduceIte, Nat.reduceEqDiff, Nat.reduceAdd, reduceCtorEq] | (with_reducible refine And.intro ?_ ?_; focus first | omega | decide | grind) | (with_reducible refine Br.mk ?_ ?_; focus (intros; omega)) | decide)
    refine ⟨fun hc1 => ?_, fun hc1 => ?_⟩
    · have h1 : (xss.getD i []).length ≤ 1099511627776 := by
        rw [show xss.getD i [] = xss[i]'(by omega) by simp [show i < xss.length by omega]]; exact hxr _ (List.getElem_mem _)
      have h2 : (yss.getD i []).length ≤ 1099511627776 := by
        rw [show yss.getD i [] = yss[i]'(by omega) by simp [show i < yss.length by omega]]; exact hyr _ (List.getElem_mem _)
      (repeat first | simp only [go_sem, ↓reduceIte, Nat.reduceEqDiff, Nat.reduceAdd, reduceCtorEq] | (with_reducible refine And.intro ?_ ?_; focus first | omega | decide | grind) | (with_reducible refine Br.mk ?_ ?_; focus (intros; omega)) | decide)
      refine pureC (eqInt64S_c (xss.getD i []) (yss.getD i []) h1 h2) (by simp only [go_sem, ↓reduceIte, Nat.reduceEqDiff, Nat.reduceAdd, reduceCtorEq] <;> rfl) (by first | rfl | simp only [go_sem, ↓reduceIte, Nat.reduceEqDiff, Nat.reduceAdd, reduceCtorEq]) ?_
      (repeat first | simp only [go_sem, ↓reduceIte, Nat.reduceEqDiff, Nat.reduceAdd, reduceCtorEq] | (with_reducible refine And.intro ?_ ?_; focus first | omega | decide | grind) | (with_reducible refine Br.mk ?_ ?_; focus (intros; omega)) | decide)
      refine ⟨fun hc2 => ?_, fun hc2 => ?_⟩
      · (repeat first | simp only [go_sem, ↓reduceIte, Nat.reduceEqDiff, Nat.reduceAdd, reduceCtorEq] | (with_reducible refine And.intro ?_ ?_; focus first | omega | decide | grind) | (with_reducible refine Br.mk ?_ ?_; focus (intros; omega)) | decide)
        rw [decide_eq_false (fun h => by simp [h] at hc2)]
      · (repeat first | simp only [go_sem, ↓reduceIte, Nat.reduceEqDiff, Nat.reduceAdd, reduceCtorEq] | (with_reducible refine And.intro ?_ ?_; focus first | omega | decide | grind) | (with_reducible refine Br.mk ?_ ?_; focus (intros; omega)) | decide)
        refine ⟨i + 1, ⟨by omega, fun j hj => ?_⟩, by omega, by exact Ref.frame (by simp [sub, fget])⟩
        rcases Nat.lt_or_ge j i with h | h
        · exact hall j h
        · obtain rfl : j = i := by omega
          simpa using hc2
    · (repeat first | simp only [go_sem, ↓reduceIte, Nat.reduceEqDiff, Nat.reduceAdd, reduceCtorEq] | (with_reducible refine And.intro ?_ ?_; focus first | omega | decide | grind) | (with_reducible refine Br.mk ?_ ?_; focus (intros; omega)) | decide)
      rw [decide_eq_true]
      refine List.ext_getElem hl fun j h1 h2 => ?_
      have := hall j (by omega)
      simpa [h1, h2] using this

end Go.Proofs.Ytkolabjcmephaaa
