/- Texts that belong together. -/
import Derived.Shelf.SlGeneric
import Derived.Shelf.SortM.Plain
import Derived.Shelf.SortM.SortNone
import Derived.Ground.SlgmProg
import Derived.Shelf.Spec.SlicesGrow
import Derived.Ground.Names8Prog
import Derived.Shelf.SlicesE.Delete
import Derived.Ground.SlgnProg
import Derived.Shelf.Bits.Mul64
import Derived.Ground.NamesProg
import Derived.Shelf.Strings.SlTrimAscii
import Derived.Shelf.Strings.Search3
import Derived.Shelf.Strconv.ParseIntPublic10
import Derived.Shelf.Strconv.Itoa4
import Derived.Test.YtfcbamfkfadabaaGreatDoorZe
import Derived.Test.YtfcbamfkfadabaaGreatDoorZf
set_option linter.unusedSimpArgs false
set_option linter.unusedVariables false
set_option maxRecDepth 100000
namespace Go.Proofs.YtfcbamfkfadabaaGreatDoor
section
open Go.Gov
theorem l01In_c (n lo hi : Int) : Pure Tryz.prog 143 [i64 n, i64 lo, i64 hi] (bl (decide (lo ≤ n) && decide (n ≤ hi))) [] := by
 refine pureV ok143 rfl ?_; unfold c143
 (refine RN ?_; try with_reducible exact trivial)
theorem within_c (n lo hi : Int) : Pure Tryz.prog 83 [i64 n, i64 lo, i64 hi] (bl (decide (lo ≤ n) && decide (n ≤ hi))) [] := by
 refine pureV ok83 rfl ?_; unfold c83
 (refine RN ?_; try with_reducible exact trivial)
theorem size_c (xs : List Int) (hl : xs.length ≤ 1099511627776) : Pure Tryz.prog 99 [ints xs] (i64 xs.length) [] := by
 refine pureV ok99 rfl ?_; unfold c99
 (refine RN ?_; try with_reducible exact trivial)
def idx (xs : List Int) (n : Int) : Int := if n ∈ xs then xs.idxOf n else -1
theorem idx_at {xs : List Int} {n : Int} {i : Nat} (h : ∀ j, j < i → xs.getD j 0 ≠ n) (hi : i < xs.length) (he : xs.getD i 0 = n) : idx xs n = i := by
 have hm : n ∈ xs := by rw [← he]; simp [hi]
 unfold idx
 rw [if_pos hm]
 congr 1
 induction xs generalizing i with
 | nil => cases hi
 | cons x xs ih =>
  cases i with
  | zero =>
   have hx : x = n := by simpa using he
   simp [hx]
  | succ i =>
   have hx : x ≠ n := by have := h 0 (by omega); simpa using this
   have hm' : n ∈ xs := by rcases List.mem_cons.1 hm with h' | h'; exact absurd h'.symm hx; exact h'
   have hb : (x == n) = false := by simpa using hx
   rw [List.idxOf_cons, hb, cond_false]
   rw [ih (i := i) (fun j hj => by have := h (j + 1) (by omega); simpa using this) (by simpa using hi) (by simpa using he) hm']
theorem idx_no {xs : List Int} {n : Int} (h : ∀ j, j < xs.length → xs.getD j 0 ≠ n) : idx xs n = -1 := by
 unfold idx
 rw [if_neg]
 intro hm
 obtain ⟨j, hj, he⟩ := List.mem_iff_getElem.1 hm
 exact h j hj (by simp [hj, he])
theorem idx_ge (xs : List Int) (n : Int) : decide (0 ≤ idx xs n) = decide (n ∈ xs) := by
 unfold idx
 by_cases h : n ∈ xs <;> simp [h]
theorem l01Index_c (xs : List Int) (n : Int) (hl : xs.length ≤ 1099511627776) : Pure Tryz.prog 240 [ints xs, i64 n] (i64 (idx xs n)) [] := by
 refine pureV ok240 rfl ?_; unfold c240
 refine RN ?_
 refine V_loop (α := Nat) (S := fun i => ([(0, ints xs), (1, i64 n), (5, i64 i)], [])) (C := fun i => i ≤ xs.length ∧ ∀ j, j < i → xs.getD j 0 ≠ n) (μ := fun i => xs.length - i) 0 ⟨by omega, by omega⟩ (by exact Ref.frame (by simp [sub, fget])) ?_
 rintro i ⟨hi, hall⟩
 refine RN ?_
 refine ⟨fun hc => ?_, fun hc => ?_⟩
 ·(refine RN ?_; try with_reducible exact trivial)
  refine ⟨fun hc => ?_, fun hc => ?_⟩
  ·(refine RN ?_; try with_reducible exact trivial)
   rw [idx_at hall (by omega) (by assumption)]
  ·(refine RN ?_; try with_reducible exact trivial)
   refine ⟨i + 1, ⟨by omega, fun j hj => ?_⟩, by omega, by exact Ref.frame (by simp [sub, fget])⟩
   rcases Nat.lt_or_ge j i with h | h
   ·exact hall j h
   ·obtain rfl : j = i := by omega
    simpa using hc
 ·(refine RN ?_; try with_reducible exact trivial)
  rw [idx_no (fun j hj => hall j (by omega))]
theorem l01Has_c (xs : List Int) (n : Int) (hl : xs.length ≤ 1099511627776) : Pure Tryz.prog 205 [ints xs, i64 n] (bl (decide (n ∈ xs))) [] := by
 refine pureV ok205 rfl ?_; unfold c205
 refine RN ?_
 refine pureC1 (l01Index_c xs n hl) ?_
 (refine RN ?_; try with_reducible exact trivial)
 try rw [idx_ge]
theorem isNaN2_c (n : Int) : Pure Tryz.prog 237 [i64 n] (bl false) [] := by
 refine pureV ok237 rfl ?_; unfold c237
 (refine RN ?_; try with_reducible exact trivial)
 try rw [show (n != n) = false by simp]
theorem eqInt64S_c (xs ys : List Int) (hx : xs.length ≤ 1099511627776) (hy : ys.length ≤ 1099511627776) : Pure Tryz.prog 112 [ints xs, ints ys] (bl (decide (xs = ys))) [] := by
 refine pureV ok112 rfl ?_; unfold c112
 refine RN ?_
 refine ⟨fun hc => ?_, fun hc => ?_⟩
 ·(refine RN ?_; try with_reducible exact trivial)
  rw [decide_eq_false (fun h => hc (by rw [h]))]
 ·have hl : xs.length = ys.length := by omega
  refine RN ?_
  refine V_loop (α := Nat) (S := fun i => ([(0, ints xs), (1, ints ys), (5, i64 i)], [])) (C := fun i => i ≤ xs.length ∧ ∀ j, j < i → xs.getD j 0 = ys.getD j 0) (μ := fun i => xs.length - i) 0 ⟨by omega, by omega⟩ (by exact Ref.frame (by simp [sub, fget])) ?_
  rintro i ⟨hi, hall⟩
  refine RN ?_
  refine ⟨fun hc1 => ?_, fun hc1 => ?_⟩
  ·(refine RN ?_; try with_reducible exact trivial)
   refine ⟨fun hc2 => ?_, fun hc2 => ?_⟩
   ·(refine RN ?_; try with_reducible exact trivial)
    rw [decide_eq_false (fun h => hc2 (by rw [h]))]
   ·(refine RN ?_; try with_reducible exact trivial)
    refine ⟨i + 1, ⟨by omega, fun j hj => ?_⟩, by omega, by exact Ref.frame (by simp [sub, fget])⟩
    rcases Nat.lt_or_ge j i with h | h
    ·exact hall j h
    ·obtain rfl : j = i := by omega
     simpa using hc2
  ·(refine RN ?_; try with_reducible exact trivial)
   rw [decide_eq_true]
   refine List.ext_getElem hl fun j h1 h2 => ?_
   have := hall j (by omega)
   simpa [h1, h2] using this
end
section
open Go.Gov
def left (b : Int) (n : Nat) : Int := if (n : Int) ≤ b then b - n else -1
def tot (xss : List (List Int)) : Nat := (xss.map List.length).sum
theorem szInt64S_c (xs : List Int) (b : Int) (h0 : 0 ≤ b) (hb : b ≤ 1048576) (hl : xs.length ≤ 9223372036854775807) : Pure Tryz.prog 102 [ints xs, i64 b] (i64 (left b xs.length)) [] := by
 refine pureV ok102 rfl ?_; unfold c102
 refine RN ?_
 refine ⟨fun hc => ?_, fun hc => ?_⟩
 ·(refine RN ?_; try with_reducible exact trivial)
  rw [show left b xs.length = -1 from if_neg (by omega)]
 ·(refine RN ?_; try with_reducible exact trivial)
  rw [show left b xs.length = b - xs.length from if_pos (by omega)]
theorem tot_app (a b : List (List Int)) : tot (a ++ b) = tot a + tot b := by simp [tot]
theorem tot_take (xss : List (List Int)) (i : Nat) (h : i < xss.length) : tot (xss.take (i + 1)) = tot (xss.take i) + (xss.getD i []).length := by
 rw [List.take_succ_eq_append_getElem h, tot_app]
 simp [tot, h]
theorem tot_take_le (xss : List (List Int)) (i : Nat) : tot (xss.take i) ≤ tot xss := by
 have := congrArg tot (List.take_append_drop i xss)
 rw [tot_app] at this
 omega
theorem szInt64SS_c (xss : List (List Int)) (b : Int) (h0 : 0 ≤ b) (hb : b ≤ 1048576) (hl : xss.length ≤ 9223372036854775807) (hr : ∀ xs ∈ xss, xs.length ≤ 9223372036854775807) : Pure Tryz.prog 47 [mat xss, i64 b] (i64 (left b (xss.length + tot xss))) [] := by
 refine pureV ok47 rfl ?_; unfold c47
 refine RN ?_
 refine ⟨fun hc => ?_, fun hc => ?_⟩
 ·(refine RN ?_; try with_reducible exact trivial)
  rw [show left b (xss.length + tot xss) = -1 from if_neg (by omega)]
 ·(refine RN ?_; try with_reducible exact trivial)
  refine V_loop (α := Nat) (S := fun i => ([(0, mat xss), (1, i64 (b - xss.length - tot (xss.take i))), (5, i64 i)], [])) (C := fun i => i ≤ xss.length ∧ (tot (xss.take i) : Int) ≤ b - xss.length) (μ := fun i => xss.length - i) 0 ⟨by omega, by simp [tot]; omega⟩ (by simp only [List.take_zero, tot, List.map_nil, List.sum_nil]; exact Ref.frame (by simp [sub, fget])) ?_
  rintro i ⟨hi, hle⟩
  refine RN ?_
  refine ⟨fun hc1 => ?_, fun hc1 => ?_⟩
  ·have hlt : i < xss.length := by omega
   have hrow : (xss.getD i []).length ≤ 9223372036854775807 := by
    rw [show xss.getD i [] = xss[i] by simp [hlt]]; exact hr _ (List.getElem_mem _)
   refine RN ?_
   refine pureC1 (szInt64S_c (xss.getD i []) (b - xss.length - tot (xss.take i)) (by omega) (by omega) hrow) ?_
   refine RN ?_
   have ht := tot_take xss i hlt
   have hle2 := tot_take_le xss (i + 1)
   have hlf : left (b - xss.length - tot (xss.take i)) (xss.getD i []).length = if (tot (xss.take (i + 1)) : Int) ≤ b - xss.length then b - xss.length - tot (xss.take (i + 1)) else -1 := by
    unfold left
    rw [ht]
    by_cases h : ((xss.getD i []).length : Int) ≤ b - xss.length - tot (xss.take i)
    ·rw [if_pos h, if_pos (by omega)]; omega
    ·rw [if_neg h, if_neg (by omega)]
   refine ⟨fun hc2 => ?_, fun hc2 => ?_⟩
   ·(refine RN ?_; try with_reducible exact trivial)
    have : ¬ (tot (xss.take (i + 1)) : Int) ≤ b - xss.length := fun h => by rw [hlf, if_pos h] at hc2; omega
    rw [show left b (xss.length + tot xss) = -1 from if_neg (by omega)]
   ·have h : (tot (xss.take (i + 1)) : Int) ≤ b - xss.length := by
      rcases Int.lt_or_le (b - xss.length) (tot (xss.take (i + 1))) with h | h
      ·rw [hlf, if_neg (by omega)] at hc2; omega
      ·exact h
    refine RN ?_
    rw [hlf, if_pos h]
    exact ⟨i + 1, ⟨by omega, h⟩, by omega, by exact Ref.frame (by simp [sub, fget])⟩
  ·(refine RN ?_; try with_reducible exact trivial)
   have : i = xss.length := by omega
   subst this
   rw [List.take_length] at hle ⊢
   rw [show left b (xss.length + tot xss) = b - (xss.length + tot xss : Nat) from if_pos (by omega)]
   show i64 _ = i64 _
   rw [show b - (xss.length : Int) - (tot xss : Int) = b - ((xss.length + tot xss : Nat) : Int) by omega]
theorem left_pos {b : Int} {n : Nat} (h0 : 0 ≤ b) (h : ¬ left b n < 0) : (n : Int) ≤ b ∧ left b n = b - n := by
 unfold left at *
 by_cases e : (n : Int) ≤ b
 ·exact ⟨e, if_pos e⟩
 ·rw [if_neg e] at h; omega
theorem left_neg {b : Int} {n : Nat} (h0 : 0 ≤ b) (h : left b n < 0) : b < (n : Int) := by
 unfold left at *
 by_cases e : (n : Int) ≤ b
 ·rw [if_pos e] at h; omega
 ·omega
theorem cpy_map {α β : Type} (f : α → β) (xs : List α) (d0 : α) (d : β) (i : Nat) (h : i < xs.length) : ((xs.take i).map f ++ List.replicate (xs.length - i) d).set i (f (xs.getD i d0)) = (xs.take (i + 1)).map f ++ List.replicate (xs.length - (i + 1)) d := by
 have e : xs.length - i = (xs.length - (i + 1)) + 1 := by omega
 rw [e, List.replicate_succ, List.set_append_right _ _ (by simp; omega), List.length_map, List.length_take, show i - min i xs.length = 0 by omega, List.set_cons_zero, List.take_succ_eq_append_getElem h, List.map_append, List.append_assoc, show xs.getD i d0 = xs[i] by simp [h]]
 rfl
theorem cpy_step {α : Type} (xs : List α) (d : α) (i : Nat) (h : i < xs.length) : (xs.take i ++ List.replicate (xs.length - i) d).set i (xs.getD i d) = xs.take (i + 1) ++ List.replicate (xs.length - (i + 1)) d := by
 simpa using cpy_map id xs d d i h
theorem toInt64S_c (xs : List Int) (hl : xs.length ≤ 1099511627776) : Pure Tryz.prog 110 [ints xs] (.sl 0 1 0 xs.length) [some (intsC xs)] := by
 refine pureV ok110 rfl ?_; unfold c110
 refine RN ?_
 refine V_loop (α := Nat) (S := fun i => ([(0, ints xs), (3, .sl 0 1 0 xs.length), (4, i64 i)], [some (intsC (xs.take i ++ List.replicate (xs.length - i) 0))])) (C := fun i => i ≤ xs.length) (μ := fun i => xs.length - i) 0 (by omega) (by simp only [List.take_zero, List.nil_append, Nat.sub_zero]; exact Ref.frame (by simp [sub, fget])) ?_
 intro i hi
 refine RN ?_
 refine ⟨fun hc => ?_, fun hc => ?_⟩
 ·(refine RN ?_; try with_reducible exact trivial)
  rw [cpy_step xs 0 i (by omega)]
  exact ⟨i + 1, by omega, by omega, by exact Ref.frame (by simp [sub, fget])⟩
 ·(refine RN ?_; try with_reducible exact trivial)
  rw [show i = xs.length by omega, List.take_length, Nat.sub_self, List.replicate_zero, List.append_nil]
theorem toInt64SS_c (xss : List (List Int)) (hl : xss.length ≤ 1099511627776) (hr : ∀ xs ∈ xss, xs.length ≤ 1099511627776) : Pure Tryz.prog 57 [mat xss] (.sl 0 1 0 xss.length) [some (xss.map oints)] := by
 refine pureV ok57 rfl ?_; unfold c57
 refine RN ?_
 refine V_loop (α := Nat) (S := fun i => ([(0, mat xss), (3, .sl 0 1 0 xss.length), (4, i64 i)], [some ((xss.take i).map oints ++ List.replicate (xss.length - i) (.val (.slice none 0 0)))])) (C := fun i => i ≤ xss.length) (μ := fun i => xss.length - i) 0 (by omega) (by simp only [List.take_zero, List.map_nil, List.nil_append, Nat.sub_zero]; exact Ref.frame (by simp [sub, fget])) ?_
 intro i hi
 refine RN ?_
 refine ⟨fun hc => ?_, fun hc => ?_⟩
 ·(refine RN ?_; try with_reducible exact trivial)
  have hrow : (xss.getD i []).length ≤ 1099511627776 := by
   rw [show xss.getD i [] = xss[i]'(by omega) by simp [show i < xss.length by omega]]; exact hr _ (List.getElem_mem _)
  refine pureC1 (toInt64S_c (xss.getD i []) hrow) ?_
  refine RN ?_
  refine ⟨i + 1, by omega, by omega, (Ref.close 0 i 1 (cs2 := intsC (xss.getD i [])) rfl (List.getElem?_set_self (by simp; omega)) rfl (by decide) (by simp [intsC])).trans (Ref.gc [0] rfl ?_ (by simp [sub, fget, go_sem, ↓reduceIte, Nat.reduceEqDiff, Nat.reduceAdd, reduceCtorEq]))⟩
  (try simp only [go_sem, ↓reduceIte, Nat.reduceEqDiff, Nat.reduceAdd, reduceCtorEq, List.set_set])
  rw [cpy_map oints xss [] _ i (by omega)]
 ·(refine RN ?_; try with_reducible exact trivial)
  rw [show i = xss.length by omega, List.take_length, Nat.sub_self, List.replicate_zero, List.append_nil]
theorem eqInt64SS_c (xss yss : List (List Int)) (hx : xss.length ≤ 1099511627776) (hy : yss.length ≤ 1099511627776) (hxr : ∀ xs ∈ xss, xs.length ≤ 1099511627776) (hyr : ∀ xs ∈ yss, xs.length ≤ 1099511627776) : Pure Tryz.prog 60 [mat xss, mat yss] (bl (decide (xss = yss))) [] := by
 refine pureV ok60 rfl ?_; unfold c60
 refine RN ?_
 refine ⟨fun hc => ?_, fun hc => ?_⟩
 ·(refine RN ?_; try with_reducible exact trivial)
  rw [decide_eq_false (fun h => by simp [h] at hc)]
 ·have hl : xss.length = yss.length := by omega
  refine RN ?_
  refine V_loop (α := Nat) (S := fun i => ([(0, mat xss), (1, mat yss), (5, i64 i)], [])) (C := fun i => i ≤ xss.length ∧ ∀ j, j < i → xss.getD j [] = yss.getD j []) (μ := fun i => xss.length - i) 0 ⟨by omega, by omega⟩ (by exact Ref.frame (by simp [sub, fget])) ?_
  rintro i ⟨hi, hall⟩
  refine RN ?_
  refine ⟨fun hc1 => ?_, fun hc1 => ?_⟩
  ·have h1 : (xss.getD i []).length ≤ 1099511627776 := by
     rw [show xss.getD i [] = xss[i]'(by omega) by simp [show i < xss.length by omega]]; exact hxr _ (List.getElem_mem _)
   have h2 : (yss.getD i []).length ≤ 1099511627776 := by
    rw [show yss.getD i [] = yss[i]'(by omega) by simp [show i < yss.length by omega]]; exact hyr _ (List.getElem_mem _)
   refine RN ?_
   refine pureC1 (eqInt64S_c (xss.getD i []) (yss.getD i []) h1 h2) ?_
   refine RN ?_
   refine ⟨fun hc2 => ?_, fun hc2 => ?_⟩
   ·(refine RN ?_; try with_reducible exact trivial)
    rw [decide_eq_false (fun h => by simp [h] at hc2)]
   ·(refine RN ?_; try with_reducible exact trivial)
    refine ⟨i + 1, ⟨by omega, fun j hj => ?_⟩, by omega, by exact Ref.frame (by simp [sub, fget])⟩
    rcases Nat.lt_or_ge j i with h | h
    ·exact hall j h
    ·obtain rfl : j = i := by omega
     simpa using hc2
  ·(refine RN ?_; try with_reducible exact trivial)
   rw [decide_eq_true]
   refine List.ext_getElem hl fun j h1 h2 => ?_
   have := hall j (by omega)
   simpa [h1, h2] using this
end
section
open Go.Gov
theorem le_tot {xs : List Int} {B : List (List Int)} (h : xs ∈ B) : xs.length ≤ tot B := by
 unfold tot
 obtain ⟨a, b, rfl⟩ := List.append_of_mem h
 simp; omega
theorem mat_b {B : List (List Int)} {n : Nat} (h : B.length + tot B ≤ n) : B.length ≤ n ∧ tot B ≤ n ∧ ∀ xs ∈ B, xs.length ≤ n := by
 refine ⟨by omega, by omega, fun xs hx => ?_⟩
 have := le_tot hx
 omega
end
end Go.Proofs.YtfcbamfkfadabaaGreatDoor
namespace Go.Proofs
open Go.Shelf
def Tryz.growR_ren : Go.Shelf.Ren := ⟨fun | 4 => 216 | n => n, fun | 22 => 25 | 25 => 32 | 3 => 3 | 4 => 4 | 9 => 9 | 20 => 20 | 0 => 0 | n => n, fun | n => n⟩
theorem Tryz.growR : Go.Proofs.Lays8.n4 Tryz.prog Tryz.growR_ren := {
 mixed := by kernel_rfl
 f4 := ⟨Tryz.f216.name, by decide, Tryz.func216.trans (congrArg some (by kernel_rfl))⟩
 t0 := Tryz.underlying0
 a0 := Tryz.isAgg0
 z0 := Tryz.sizeOf0
 v0 := Tryz.zeroValue0
 t3 := Tryz.underlying3
 a3 := Tryz.isAgg3
 z3 := Tryz.sizeOf3
 v3 := Tryz.zeroValue3
 t4 := Tryz.underlying4
 a4 := Tryz.isAgg4
 z4 := Tryz.sizeOf4
 v4 := Tryz.zeroValue4
 t9 := Tryz.underlying9
 a9 := Tryz.isAgg9
 z9 := Tryz.sizeOf9
 v9 := Tryz.zeroValue9
 t20 := Tryz.underlying20
 a20 := Tryz.isAgg20
 z20 := Tryz.sizeOf20
 v20 := Tryz.zeroValue20
 t22 := Tryz.underlying25
 a22 := Tryz.isAgg25
 z22 := Tryz.sizeOf25
 v22 := Tryz.zeroValue25 }
def Tryz.delL_ren : Go.Shelf.Ren := ⟨fun | 45 => 203 | n => n, fun | 22 => 25 | 23 => 32 | 3 => 3 | 4 => 4 | 0 => 0 | n => n, fun | n => n⟩
theorem Tryz.delL : Go.Proofs.SlLaysE.n45 Tryz.prog Tryz.delL_ren := {
 mixed := by kernel_rfl
 f45 := ⟨Tryz.f203.name, by decide, Tryz.func203.trans (congrArg some (by kernel_rfl))⟩
 t0 := Tryz.underlying0
 a0 := Tryz.isAgg0
 z0 := Tryz.sizeOf0
 v0 := Tryz.zeroValue0
 t3 := Tryz.underlying3
 a3 := Tryz.isAgg3
 z3 := Tryz.sizeOf3
 v3 := Tryz.zeroValue3
 t4 := Tryz.underlying4
 a4 := Tryz.isAgg4
 z4 := Tryz.sizeOf4
 v4 := Tryz.zeroValue4
 t22 := Tryz.underlying25
 a22 := Tryz.isAgg25
 z22 := Tryz.sizeOf25
 v22 := Tryz.zeroValue25
 a23 := Tryz.isAgg32
 z23 := Tryz.sizeOf32 }
def Tryz.mulL_ren : Go.Shelf.Ren := ⟨fun | 212 => 202 | 263 => 238 | 264 => 239 | n => n, fun | 46 => 113 | 51 => 224 | 146 => 225 | 53 => 82 | 148 => 227 | n => n, fun | n => n⟩
theorem Tryz.mulL : Go.Proofs.Lays.n212 Tryz.prog Tryz.mulL_ren := {
 mixed := by kernel_rfl
 f212 := Tryz.func202.trans (congrArg some (by kernel_rfl))
 f263 := Tryz.func238.trans (congrArg some (by kernel_rfl))
 f264 := Tryz.func239.trans (congrArg some (by kernel_rfl))
 t46 := Tryz.underlying113
 a46 := Tryz.isAgg113
 z46 := Tryz.sizeOf113
 v46 := Tryz.zeroValue113
 t51 := Tryz.underlying224
 a51 := Tryz.isAgg224
 z51 := Tryz.sizeOf224
 v51 := Tryz.zeroValue224
 t53 := Tryz.underlying82
 a53 := Tryz.isAgg82
 z53 := Tryz.sizeOf82
 v53 := Tryz.zeroValue82
 t146 := Tryz.underlying225
 a146 := Tryz.isAgg225
 z146 := Tryz.sizeOf225
 v146 := Tryz.zeroValue225
 t148 := Tryz.underlying227
 a148 := Tryz.isAgg227
 z148 := Tryz.sizeOf227
 v148 := Tryz.zeroValue227 }
def Tryz.trimL_ren : Go.Shelf.Ren := ⟨fun | 161 => 80 | 231 => 136 | 227 => 137 | 233 => 138 | 235 => 139 | 228 => 190 | 197 => 147 | 151 => 191 | 260 => 200 | 152 => 224 | 137 => 266 | 119 => 267 | 224 => 227 | 225 => 226 | 217 => 225 | 266 => 268 | n => n, fun | 9 => 9 | 4 => 4 | 3 => 3 | 5 => 5 | 117 => 137 | 116 => 136 | 0 => 0 | 124 => 140 | 105 => 151 | 21 => 21 | 119 => 220 | 46 => 113 | 139 => 223 | 138 => 222 | n => n, fun | 3 => 2 | 4 => 3 | n => n⟩
theorem Tryz.trimL : Go.Proofs.Lays.n161 Tryz.prog Tryz.trimL_ren := {
 mixed := by kernel_rfl
 f119 := Tryz.func267.trans (congrArg some (by kernel_rfl))
 f137 := Tryz.func266.trans (congrArg some (by kernel_rfl))
 f151 := Tryz.func191.trans (congrArg some (by kernel_rfl))
 f152 := Tryz.func224.trans (congrArg some (by kernel_rfl))
 f161 := Tryz.func80.trans (congrArg some (by kernel_rfl))
 f197 := Tryz.func147.trans (congrArg some (by kernel_rfl))
 f217 := Tryz.func225.trans (congrArg some (by kernel_rfl))
 f224 := Tryz.func227.trans (congrArg some (by kernel_rfl))
 f225 := Tryz.func226.trans (congrArg some (by kernel_rfl))
 f227 := Tryz.func137.trans (congrArg some (by kernel_rfl))
 f228 := Tryz.func190.trans (congrArg some (by kernel_rfl))
 f231 := Tryz.func136.trans (congrArg some (by kernel_rfl))
 f233 := Tryz.func138.trans (congrArg some (by kernel_rfl))
 f235 := Tryz.func139.trans (congrArg some (by kernel_rfl))
 f260 := Tryz.func200.trans (congrArg some (by kernel_rfl))
 f266 := Tryz.func268.trans (congrArg some (by kernel_rfl))
 t0 := Tryz.underlying0
 a0 := Tryz.isAgg0
 z0 := Tryz.sizeOf0
 v0 := Tryz.zeroValue0
 t3 := Tryz.underlying3
 a3 := Tryz.isAgg3
 z3 := Tryz.sizeOf3
 v3 := Tryz.zeroValue3
 t4 := Tryz.underlying4
 a4 := Tryz.isAgg4
 z4 := Tryz.sizeOf4
 v4 := Tryz.zeroValue4
 t5 := Tryz.underlying5
 a5 := Tryz.isAgg5
 z5 := Tryz.sizeOf5
 v5 := Tryz.zeroValue5
 t9 := Tryz.underlying9
 a9 := Tryz.isAgg9
 z9 := Tryz.sizeOf9
 v9 := Tryz.zeroValue9
 t21 := Tryz.underlying21
 a21 := Tryz.isAgg21
 z21 := Tryz.sizeOf21
 v21 := Tryz.zeroValue21
 t46 := Tryz.underlying113
 a46 := Tryz.isAgg113
 z46 := Tryz.sizeOf113
 v46 := Tryz.zeroValue113
 t105 := Tryz.underlying151
 a105 := Tryz.isAgg151
 z105 := Tryz.sizeOf151
 v105 := Tryz.zeroValue151
 t116 := Tryz.underlying136
 a116 := Tryz.isAgg136
 z116 := Tryz.sizeOf136
 t117 := Tryz.underlying137
 a117 := Tryz.isAgg137
 z117 := Tryz.sizeOf137
 v117 := Tryz.zeroValue137
 t119 := Tryz.underlying220
 a119 := Tryz.isAgg220
 z119 := Tryz.sizeOf220
 t124 := Tryz.underlying140
 a124 := Tryz.isAgg140
 z124 := Tryz.sizeOf140
 v124 := Tryz.zeroValue140
 t138 := Tryz.underlying222
 a138 := Tryz.isAgg222
 z138 := Tryz.sizeOf222
 v138 := Tryz.zeroValue222
 t139 := Tryz.underlying223
 a139 := Tryz.isAgg223
 z139 := Tryz.sizeOf223
 v139 := Tryz.zeroValue223
 g3 := by kernel_rfl
 g4 := by kernel_rfl }
def Tryz.contL_ren : Go.Shelf.Ren := ⟨fun | 144 => 81 | 143 => 140 | 219 => 192 | 217 => 225 | 225 => 226 | 224 => 227 | 267 => 228 | 266 => 268 | 314 => 269 | n => n, fun | 9 => 9 | 4 => 4 | 3 => 3 | 5 => 5 | 46 => 113 | 146 => 225 | 51 => 224 | n => n, fun | 1 => 1 | n => n⟩
theorem Tryz.contL : Go.Proofs.Lays.n144 Tryz.prog Tryz.contL_ren := {
 mixed := by kernel_rfl
 f143 := Tryz.func140.trans (congrArg some (by kernel_rfl))
 f144 := Tryz.func81.trans (congrArg some (by kernel_rfl))
 f217 := Tryz.func225.trans (congrArg some (by kernel_rfl))
 f219 := Tryz.func192.trans (congrArg some (by kernel_rfl))
 f224 := Tryz.func227.trans (congrArg some (by kernel_rfl))
 f225 := Tryz.func226.trans (congrArg some (by kernel_rfl))
 f266 := Tryz.func268.trans (congrArg some (by kernel_rfl))
 f267 := Tryz.func228.trans (congrArg some (by kernel_rfl))
 f314 := Tryz.func269.trans (congrArg some (by kernel_rfl))
 t3 := Tryz.underlying3
 a3 := Tryz.isAgg3
 z3 := Tryz.sizeOf3
 v3 := Tryz.zeroValue3
 t4 := Tryz.underlying4
 a4 := Tryz.isAgg4
 z4 := Tryz.sizeOf4
 v4 := Tryz.zeroValue4
 t5 := Tryz.underlying5
 a5 := Tryz.isAgg5
 z5 := Tryz.sizeOf5
 v5 := Tryz.zeroValue5
 t9 := Tryz.underlying9
 a9 := Tryz.isAgg9
 z9 := Tryz.sizeOf9
 v9 := Tryz.zeroValue9
 t46 := Tryz.underlying113
 a46 := Tryz.isAgg113
 z46 := Tryz.sizeOf113
 v46 := Tryz.zeroValue113
 t51 := Tryz.underlying224
 a51 := Tryz.isAgg224
 z51 := Tryz.sizeOf224
 v51 := Tryz.zeroValue224
 t146 := Tryz.underlying225
 a146 := Tryz.isAgg225
 z146 := Tryz.sizeOf225
 v146 := Tryz.zeroValue225
 g1 := by kernel_rfl }
def Tryz.parL_ren : Go.Shelf.Ren := ⟨fun | 174 => 141 | 247 => 193 | 245 => 194 | 287 => 229 | 279 => 230 | 280 => 231 | 281 => 232 | 282 => 233 | 321 => 270 | 322 => 271 | 316 => 272 | 171 => 274 | 205 => 273 | 243 => 285 | 246 => 234 | 283 => 275 | 284 => 276 | 285 => 277 | 286 => 278 | 129 => 256 | 317 => 286 | 318 => 287 | 319 => 288 | 320 => 289 | 337 => 291 | 338 => 292 | n => n, fun | 9 => 9 | 3 => 3 | 2 => 2 | 75 => 142 | 85 => 143 | 4 => 4 | 167 => 211 | 5 => 5 | 53 => 82 | 175 => 212 | 46 => 113 | 168 => 214 | 37 => 22 | 0 => 0 | 210 => 257 | 21 => 21 | 127 => 184 | 145 => 275 | 143 => 273 | 171 => 260 | 173 => 262 | 212 => 277 | 51 => 224 | 20 => 20 | 213 => 278 | 232 => 283 | 233 => 284 | 80 => 60 | n => n, fun | 15 => 4 | 16 => 5 | 17 => 6 | 18 => 7 | 19 => 8 | n => n⟩
theorem Tryz.parL : Go.Proofs.LaysC.n174 Tryz.prog Tryz.parL_ren := {
 mixed := by kernel_rfl
 f129 := Tryz.func256.trans (congrArg some (by kernel_rfl))
 f171 := Tryz.func274.trans (congrArg some (by kernel_rfl))
 f174 := Tryz.func141.trans (congrArg some (by kernel_rfl))
 f205 := Tryz.func273.trans (congrArg some (by kernel_rfl))
 f243 := Tryz.func285.trans (congrArg some (by kernel_rfl))
 f245 := Tryz.func194.trans (congrArg some (by kernel_rfl))
 f246 := Tryz.func234.trans (congrArg some (by kernel_rfl))
 f247 := Tryz.func193.trans (congrArg some (by kernel_rfl))
 f279 := Tryz.func230.trans (congrArg some (by kernel_rfl))
 f280 := Tryz.func231.trans (congrArg some (by kernel_rfl))
 f281 := Tryz.func232.trans (congrArg some (by kernel_rfl))
 f282 := Tryz.func233.trans (congrArg some (by kernel_rfl))
 f283 := Tryz.func275.trans (congrArg some (by kernel_rfl))
 f284 := Tryz.func276.trans (congrArg some (by kernel_rfl))
 f285 := Tryz.func277.trans (congrArg some (by kernel_rfl))
 f286 := Tryz.func278.trans (congrArg some (by kernel_rfl))
 f287 := Tryz.func229.trans (congrArg some (by kernel_rfl))
 f316 := Tryz.func272.trans (congrArg some (by kernel_rfl))
 f317 := Tryz.func286.trans (congrArg some (by kernel_rfl))
 f318 := Tryz.func287.trans (congrArg some (by kernel_rfl))
 f319 := Tryz.func288.trans (congrArg some (by kernel_rfl))
 f320 := Tryz.func289.trans (congrArg some (by kernel_rfl))
 f321 := Tryz.func270.trans (congrArg some (by kernel_rfl))
 f322 := Tryz.func271.trans (congrArg some (by kernel_rfl))
 f337 := Tryz.func291.trans (congrArg some (by kernel_rfl))
 f338 := Tryz.func292.trans (congrArg some (by kernel_rfl))
 t0 := Tryz.underlying0
 a0 := Tryz.isAgg0
 z0 := Tryz.sizeOf0
 v0 := Tryz.zeroValue0
 t2 := Tryz.underlying2
 a2 := Tryz.isAgg2
 z2 := Tryz.sizeOf2
 v2 := Tryz.zeroValue2
 t3 := Tryz.underlying3
 a3 := Tryz.isAgg3
 z3 := Tryz.sizeOf3
 v3 := Tryz.zeroValue3
 t4 := Tryz.underlying4
 a4 := Tryz.isAgg4
 z4 := Tryz.sizeOf4
 v4 := Tryz.zeroValue4
 t5 := Tryz.underlying5
 a5 := Tryz.isAgg5
 z5 := Tryz.sizeOf5
 v5 := Tryz.zeroValue5
 t9 := Tryz.underlying9
 a9 := Tryz.isAgg9
 z9 := Tryz.sizeOf9
 v9 := Tryz.zeroValue9
 t20 := Tryz.underlying20
 a20 := Tryz.isAgg20
 z20 := Tryz.sizeOf20
 v20 := Tryz.zeroValue20
 t21 := Tryz.underlying21
 a21 := Tryz.isAgg21
 z21 := Tryz.sizeOf21
 v21 := Tryz.zeroValue21
 t37 := Tryz.underlying22
 a37 := Tryz.isAgg22
 z37 := Tryz.sizeOf22
 v37 := Tryz.zeroValue22
 t46 := Tryz.underlying113
 a46 := Tryz.isAgg113
 z46 := Tryz.sizeOf113
 v46 := Tryz.zeroValue113
 t51 := Tryz.underlying224
 a51 := Tryz.isAgg224
 z51 := Tryz.sizeOf224
 v51 := Tryz.zeroValue224
 t53 := Tryz.underlying82
 a53 := Tryz.isAgg82
 z53 := Tryz.sizeOf82
 v53 := Tryz.zeroValue82
 t75 := Tryz.underlying142
 a75 := Tryz.isAgg142
 z75 := Tryz.sizeOf142
 v75 := Tryz.zeroValue142
 t85 := Tryz.underlying143
 a85 := Tryz.isAgg143
 z85 := Tryz.sizeOf143
 v85 := Tryz.zeroValue143
 t127 := Tryz.underlying184
 a127 := Tryz.isAgg184
 z127 := Tryz.sizeOf184
 v127 := Tryz.zeroValue184
 t143 := Tryz.underlying273
 a143 := Tryz.isAgg273
 z143 := Tryz.sizeOf273
 v143 := Tryz.zeroValue273
 t145 := Tryz.underlying275
 a145 := Tryz.isAgg275
 z145 := Tryz.sizeOf275
 v145 := Tryz.zeroValue275
 t167 := Tryz.underlying211
 a167 := Tryz.isAgg211
 z167 := Tryz.sizeOf211
 v167 := Tryz.zeroValue211
 t168 := Tryz.underlying214
 a168 := Tryz.isAgg214
 z168 := Tryz.sizeOf214
 v168 := Tryz.zeroValue214
 t171 := Tryz.underlying260
 a171 := Tryz.isAgg260
 z171 := Tryz.sizeOf260
 v171 := Tryz.zeroValue260
 t173 := Tryz.underlying262
 a173 := Tryz.isAgg262
 z173 := Tryz.sizeOf262
 v173 := Tryz.zeroValue262
 t175 := Tryz.underlying212
 a175 := Tryz.isAgg212
 z175 := Tryz.sizeOf212
 v175 := Tryz.zeroValue212
 t210 := Tryz.underlying257
 a210 := Tryz.isAgg257
 z210 := Tryz.sizeOf257
 v210 := Tryz.zeroValue257
 t212 := Tryz.underlying277
 a212 := Tryz.isAgg277
 z212 := Tryz.sizeOf277
 v212 := Tryz.zeroValue277
 t213 := Tryz.underlying278
 a213 := Tryz.isAgg278
 z213 := Tryz.sizeOf278
 t232 := Tryz.underlying283
 a232 := Tryz.isAgg283
 z232 := Tryz.sizeOf283
 v232 := Tryz.zeroValue283
 t233 := Tryz.underlying284
 a233 := Tryz.isAgg284
 z233 := Tryz.sizeOf284
 v233 := Tryz.zeroValue284
 g15 := by kernel_rfl
 g16 := by kernel_rfl
 g17 := by kernel_rfl
 g18 := by kernel_rfl
 g19 := by kernel_rfl
 t80 := Tryz.underlying60
 a80 := Tryz.isAgg60
 z80 := Tryz.sizeOf60
 v80 := Tryz.zeroValue60
 i0 := by kernel_rfl
 i2 := by kernel_rfl
 i3 := by kernel_rfl
 i4 := by kernel_rfl
 i5 := by kernel_rfl
 i9 := by kernel_rfl
 i20 := by kernel_rfl
 i21 := by kernel_rfl
 i37 := by kernel_rfl
 i46 := by kernel_rfl
 i51 := by kernel_rfl
 i53 := by kernel_rfl
 i75 := by kernel_rfl
 i80 := by kernel_rfl
 i85 := by kernel_rfl
 i127 := by kernel_rfl
 i143 := by kernel_rfl
 i145 := by kernel_rfl
 i167 := by kernel_rfl
 i168 := by kernel_rfl
 i171 := by kernel_rfl
 i173 := by kernel_rfl
 i175 := by kernel_rfl
 i210 := by kernel_rfl
 i212 := by kernel_rfl
 i232 := by kernel_rfl
 i233 := by kernel_rfl
 m15 := by kernel_rfl
 m16 := by kernel_rfl
 m17 := by kernel_rfl
 m18 := by kernel_rfl
 m19 := by kernel_rfl
 c0 := by kernel_rfl
 c2 := by kernel_rfl
 c3 := by kernel_rfl
 c4 := by kernel_rfl
 c5 := by kernel_rfl
 c9 := by kernel_rfl
 c20 := by kernel_rfl
 c21 := by kernel_rfl
 c37 := by kernel_rfl
 c46 := by kernel_rfl
 c51 := by kernel_rfl
 c53 := by kernel_rfl
 c75 := by kernel_rfl
 c80 := by kernel_rfl
 c85 := by kernel_rfl
 c127 := by kernel_rfl
 c143 := by kernel_rfl
 c145 := by kernel_rfl
 c167 := by kernel_rfl
 c168 := by kernel_rfl
 c171 := by kernel_rfl
 c173 := by kernel_rfl
 c175 := by kernel_rfl
 c210 := by kernel_rfl
 c212 := by kernel_rfl
 c213 := by kernel_rfl
 c232 := by kernel_rfl
 c233 := by kernel_rfl }
def Tryz.fmtL_ren : Go.Shelf.Ren := ⟨fun | 173 => 195 | 246 => 234 | 283 => 275 | 284 => 276 | 285 => 277 | 286 => 278 | 129 => 256 | 317 => 286 | 318 => 287 | 319 => 288 | 320 => 289 | 337 => 291 | 338 => 292 | n => n, fun | 2 => 2 | 3 => 3 | 9 => 9 | 4 => 4 | 171 => 260 | 0 => 0 | 53 => 82 | 37 => 22 | 5 => 5 | 173 => 262 | 212 => 277 | 51 => 224 | 20 => 20 | 213 => 278 | 46 => 113 | 232 => 283 | 233 => 284 | n => n, fun | 17 => 6 | 18 => 7 | 19 => 8 | n => n⟩
theorem Tryz.fmtL : Go.Proofs.LaysM.n173 Tryz.prog Tryz.fmtL_ren := {
 mixed := by kernel_rfl
 f129 := Tryz.func256.trans (congrArg some (by kernel_rfl))
 f173 := Tryz.func195.trans (congrArg some (by kernel_rfl))
 f246 := Tryz.func234.trans (congrArg some (by kernel_rfl))
 f283 := Tryz.func275.trans (congrArg some (by kernel_rfl))
 f284 := Tryz.func276.trans (congrArg some (by kernel_rfl))
 f285 := Tryz.func277.trans (congrArg some (by kernel_rfl))
 f286 := Tryz.func278.trans (congrArg some (by kernel_rfl))
 f317 := Tryz.func286.trans (congrArg some (by kernel_rfl))
 f318 := Tryz.func287.trans (congrArg some (by kernel_rfl))
 f319 := Tryz.func288.trans (congrArg some (by kernel_rfl))
 f320 := Tryz.func289.trans (congrArg some (by kernel_rfl))
 f337 := Tryz.func291.trans (congrArg some (by kernel_rfl))
 f338 := Tryz.func292.trans (congrArg some (by kernel_rfl))
 t0 := Tryz.underlying0
 a0 := Tryz.isAgg0
 z0 := Tryz.sizeOf0
 v0 := Tryz.zeroValue0
 t2 := Tryz.underlying2
 a2 := Tryz.isAgg2
 z2 := Tryz.sizeOf2
 v2 := Tryz.zeroValue2
 t3 := Tryz.underlying3
 a3 := Tryz.isAgg3
 z3 := Tryz.sizeOf3
 v3 := Tryz.zeroValue3
 t4 := Tryz.underlying4
 a4 := Tryz.isAgg4
 z4 := Tryz.sizeOf4
 v4 := Tryz.zeroValue4
 t5 := Tryz.underlying5
 a5 := Tryz.isAgg5
 z5 := Tryz.sizeOf5
 v5 := Tryz.zeroValue5
 t9 := Tryz.underlying9
 a9 := Tryz.isAgg9
 z9 := Tryz.sizeOf9
 v9 := Tryz.zeroValue9
 t20 := Tryz.underlying20
 a20 := Tryz.isAgg20
 z20 := Tryz.sizeOf20
 v20 := Tryz.zeroValue20
 t37 := Tryz.underlying22
 a37 := Tryz.isAgg22
 z37 := Tryz.sizeOf22
 v37 := Tryz.zeroValue22
 t46 := Tryz.underlying113
 a46 := Tryz.isAgg113
 z46 := Tryz.sizeOf113
 v46 := Tryz.zeroValue113
 t51 := Tryz.underlying224
 a51 := Tryz.isAgg224
 z51 := Tryz.sizeOf224
 v51 := Tryz.zeroValue224
 t53 := Tryz.underlying82
 a53 := Tryz.isAgg82
 z53 := Tryz.sizeOf82
 v53 := Tryz.zeroValue82
 t171 := Tryz.underlying260
 a171 := Tryz.isAgg260
 z171 := Tryz.sizeOf260
 v171 := Tryz.zeroValue260
 t173 := Tryz.underlying262
 a173 := Tryz.isAgg262
 z173 := Tryz.sizeOf262
 v173 := Tryz.zeroValue262
 t212 := Tryz.underlying277
 a212 := Tryz.isAgg277
 z212 := Tryz.sizeOf277
 v212 := Tryz.zeroValue277
 t213 := Tryz.underlying278
 a213 := Tryz.isAgg278
 z213 := Tryz.sizeOf278
 t232 := Tryz.underlying283
 a232 := Tryz.isAgg283
 z232 := Tryz.sizeOf283
 v232 := Tryz.zeroValue283
 t233 := Tryz.underlying284
 a233 := Tryz.isAgg284
 z233 := Tryz.sizeOf284
 v233 := Tryz.zeroValue284
 g17 := by kernel_rfl
 g18 := by kernel_rfl
 g19 := by kernel_rfl
 i0 := by kernel_rfl
 i2 := by kernel_rfl
 i3 := by kernel_rfl
 i4 := by kernel_rfl
 i5 := by kernel_rfl
 i9 := by kernel_rfl
 i20 := by kernel_rfl
 i37 := by kernel_rfl
 i46 := by kernel_rfl
 i51 := by kernel_rfl
 i53 := by kernel_rfl
 i171 := by kernel_rfl
 i173 := by kernel_rfl
 i212 := by kernel_rfl
 i232 := by kernel_rfl
 i233 := by kernel_rfl
 m17 := by kernel_rfl
 m18 := by kernel_rfl
 m19 := by kernel_rfl }
end Go.Proofs
