/- Texts that belong together. -/
import Derived.Shelf.SlGeneric
import Derived.Shelf.Strings.SlTrimAscii
import Derived.Ground.NamesProg
import Derived.Shelf.Strings.Search3
import Derived.Shelf.Strconv.ParseIntPublic10
import Derived.Shelf.Strconv.Itoa4
import Derived.Test.YtnddllekkdckaaaDoorProg
import Derived.Test.YtnddllekkdckaaaDoorZe
import Derived.Test.YtnddllekkdckaaaDoorZf
set_option linter.unusedSimpArgs false
set_option linter.unusedVariables false
set_option maxRecDepth 100000
namespace Go.Proofs.YtnddllekkdckaaaDoor
open Go.Gov

theorem l01In_c (n lo hi : Int) : Pure Tryd.prog 49 [i64 n, i64 lo, i64 hi] (bl (decide (lo ≤ n) && decide (n ≤ hi))) [] := by
  refine pureV ok49 rfl ?_; unfold c49
  (repeat first | simp only [go_sem, ↓reduceIte, Nat.reduceEqDiff, Nat.reduceAdd, reduceCtorEq] | with_reducible refine V_W ?_ | (with_reducible refine And.intro ?_ ?_; focus first | assumption | omega | decide | grind) | (with_reducible refine Br.mk ?_ ?_; focus (intros; omega)) | decide)
theorem within_c (n lo hi : Int) : Pure Tryd.prog 39 [i64 n, i64 lo, i64 hi] (bl (decide (lo ≤ n) && decide (n ≤ hi))) [] := by
  refine pureV ok39 rfl ?_; unfold c39
  (repeat first | simp only [go_sem, ↓reduceIte, Nat.reduceEqDiff, Nat.reduceAdd, reduceCtorEq] | with_reducible refine V_W ?_ | (with_reducible refine And.intro ?_ ?_; focus first | assumption | omega | decide | grind) | (with_reducible refine Br.mk ?_ ?_; focus (intros; omega)) | decide)
def idx (xs : List Int) (n : Int) : Int := if n ∈ xs then xs.idxOf n else -1
theorem idx_at {xs : List Int} {n : Int} {i : Nat} (h : ∀ j, j < i → xs.getD j 0 ≠ n) (hi : i < xs.length) (he : xs.getD i 0 = n) : idx xs n = i := by
  have hm : n ∈ xs := by rw [← he]; simp [hi]
  unfold idx
  rw [if_pos hm]
  congr 1
  induction xs generalizing i with
  | nil => cases hi
  | cons x xs ih =>
    cases i with
    | zero =>
      have hx : x = n := by simpa using he
      simp [hx]
    | succ i =>
      have hx : x ≠ n := by have := h 0 (by omega); simpa using this
      have hm' : n ∈ xs := by rcases List.mem_cons.1 hm with h' | h'; exact absurd h'.symm hx; exact h'
      have hb : (x == n) = false := by simpa using hx
      rw [List.idxOf_cons, hb, cond_false]
      rw [ih (i := i) (fun j hj => by have := h (j + 1) (by omega); simpa using this) (by simpa using hi) (by simpa using he) hm']
theorem idx_no {xs : List Int} {n : Int} (h : ∀ j, j < xs.length → xs.getD j 0 ≠ n) : idx xs n = -1 := by
  unfold idx
  rw [if_neg]
  intro hm
  obtain ⟨j, hj, he⟩ := List.mem_iff_getElem.1 hm
  exact h j hj (by simp [hj, he])
theorem idx_ge (xs : List Int) (n : Int) : decide (0 ≤ idx xs n) = decide (n ∈ xs) := by
  unfold idx
  by_cases h : n ∈ xs <;> simp [h]

theorem eqInt64S_c (xs ys : List Int) (hx : xs.length ≤ 1099511627776) (hy : ys.length ≤ 1099511627776) : Pure Tryd.prog 17 [ints xs, ints ys] (bl (decide (xs = ys))) [] := by
  refine pureV ok17 rfl ?_; unfold c17
  (repeat first | simp only [go_sem, ↓reduceIte, Nat.reduceEqDiff, Nat.reduceAdd, reduceCtorEq] | with_reducible refine V_W ?_ | (with_reducible refine And.intro ?_ ?_; focus first | assumption | omega | decide | grind) | (with_reducible refine Br.mk ?_ ?_; focus (intros; omega)) | decide)
  refine ⟨fun hc => ?_, fun hc => ?_⟩
  · (repeat first | simp only [go_sem, ↓reduceIte, Nat.reduceEqDiff, Nat.reduceAdd, reduceCtorEq] | with_reducible refine V_W ?_ | (with_reducible refine And.intro ?_ ?_; focus first | assumption | omega | decide | grind) | (with_reducible refine Br.mk ?_ ?_; focus (intros; omega)) | decide)
    rw [decide_eq_false (fun h => hc (by rw [h]))]
  · have hl : xs.length = ys.length := by omega
    (repeat first | simp only [go_sem, ↓reduceIte, Nat.reduceEqDiff, Nat.reduceAdd, reduceCtorEq] | with_reducible refine V_W ?_ | (with_reducible refine And.intro ?_ ?_; focus first | assumption | omega | decide | grind) | (with_reducible refine Br.mk ?_ ?_; focus (intros; omega)) | decide)
    refine V_loop (α := Nat) (S := fun i => ([(0, ints xs), (1, ints ys), (5, i64 i)], [])) (C := fun i => i ≤ xs.length ∧ ∀ j, j < i → xs.getD j 0 = ys.getD j 0) (μ := fun i => xs.length - i) 0 ⟨by omega, by omega⟩ (by exact Ref.frame (by simp [sub, fget])) ?_
    rintro i ⟨hi, hall⟩
    (repeat first | simp only [go_sem, ↓reduceIte, Nat.reduceEqDiff, Nat.reduceAdd, reduceCtorEq] | with_reducible refine V_W ?_ | (with_reducible refine And.intro ?_ ?_; focus first | assumption | omega | decide | grind) | (with_reducible refine Br.mk ?_ ?_; focus (intros; omega)) | decide)
    refine ⟨fun hc1 => ?_, fun hc1 => ?_⟩
    · (repeat first | simp only [go_sem, ↓reduceIte, Nat.reduceEqDiff, Nat.reduceAdd, reduceCtorEq] | with_reducible refine V_W ?_ | (with_reducible refine And.intro ?_ ?_; focus first | assumption | omega | decide | grind) | (with_reducible refine Br.mk ?_ ?_; focus (intros; omega)) | decide)
      refine ⟨fun hc2 => ?_, fun hc2 => ?_⟩
      · (repeat first | simp only [go_sem, ↓reduceIte, Nat.reduceEqDiff, Nat.reduceAdd, reduceCtorEq] | with_reducible refine V_W ?_ | (with_reducible refine And.intro ?_ ?_; focus first | assumption | omega | decide | grind) | (with_reducible refine Br.mk ?_ ?_; focus (intros; omega)) | decide)
        rw [decide_eq_false (fun h => hc2 (by rw [h]))]
      · (repeat first | simp only [go_sem, ↓reduceIte, Nat.reduceEqDiff, Nat.reduceAdd, reduceCtorEq] | with_reducible refine V_W ?_ | (with_reducible refine And.intro ?_ ?_; focus first | assumption | omega | decide | grind) | (with_reducible refine Br.mk ?_ ?_; focus (intros; omega)) | decide)
        refine ⟨i + 1, ⟨by omega, fun j hj => ?_⟩, by omega, by exact Ref.frame (by simp [sub, fget])⟩
        rcases Nat.lt_or_ge j i with h | h
        · exact hall j h
        · obtain rfl : j = i := by omega
          simpa using hc2
    · (repeat first | simp only [go_sem, ↓reduceIte, Nat.reduceEqDiff, Nat.reduceAdd, reduceCtorEq] | with_reducible refine V_W ?_ | (with_reducible refine And.intro ?_ ?_; focus first | assumption | omega | decide | grind) | (with_reducible refine Br.mk ?_ ?_; focus (intros; omega)) | decide)
      rw [decide_eq_true]
      refine List.ext_getElem hl fun j h1 h2 => ?_
      have := hall j (by omega)
      simpa [h1, h2] using this

end Go.Proofs.YtnddllekkdckaaaDoor
set_option maxRecDepth 100000
namespace Go.Proofs.YtnddllekkdckaaaDoor
open Go.Gov

def left (b : Int) (n : Nat) : Int := if (n : Int) ≤ b then b - n else -1
def tot (xss : List (List Int)) : Nat := (xss.map List.length).sum

theorem tot_cons (x : List Int) (xss : List (List Int)) : tot (x :: xss) = x.length + tot xss := by simp [tot]
theorem tot_app (a b : List (List Int)) : tot (a ++ b) = tot a + tot b := by simp [tot]
theorem tot_take (xss : List (List Int)) (i : Nat) (h : i < xss.length) : tot (xss.take (i + 1)) = tot (xss.take i) + (xss.getD i []).length := by
  rw [List.take_succ_eq_append_getElem h, tot_app]
  simp [tot, h]
theorem tot_take_le (xss : List (List Int)) (i : Nat) : tot (xss.take i) ≤ tot xss := by
  have := congrArg tot (List.take_append_drop i xss)
  rw [tot_app] at this
  omega

abbrev posetA (r : Int) (ranks : List Int) (below : List (List Int)) : AV := .agg [i64 r, ints ranks, mat below]
def psz (ranks : List Int) (below : List (List Int)) : Nat := ranks.length + (below.length + tot below)

theorem left_pos {b : Int} {n : Nat} (h0 : 0 ≤ b) (h : ¬ left b n < 0) : (n : Int) ≤ b ∧ left b n = b - n := by
  unfold left at *
  by_cases e : (n : Int) ≤ b
  · exact ⟨e, if_pos e⟩
  · rw [if_neg e] at h; omega
theorem left_neg {b : Int} {n : Nat} (h0 : 0 ≤ b) (h : left b n < 0) : b < (n : Int) := by
  unfold left at *
  by_cases e : (n : Int) ≤ b
  · rw [if_pos e] at h; omega
  · omega
theorem cpy_map {α β : Type} (f : α → β) (xs : List α) (d0 : α) (d : β) (i : Nat) (h : i < xs.length) : ((xs.take i).map f ++ List.replicate (xs.length - i) d).set i (f (xs.getD i d0)) = (xs.take (i + 1)).map f ++ List.replicate (xs.length - (i + 1)) d := by
  have e : xs.length - i = (xs.length - (i + 1)) + 1 := by omega
  rw [e, List.replicate_succ, List.set_append_right _ _ (by simp; omega), List.length_map, List.length_take, show i - min i xs.length = 0 by omega, List.set_cons_zero, List.take_succ_eq_append_getElem h, List.map_append, List.append_assoc, show xs.getD i d0 = xs[i] by simp [h]]
  rfl
theorem cpy_step {α : Type} (xs : List α) (d : α) (i : Nat) (h : i < xs.length) : (xs.take i ++ List.replicate (xs.length - i) d).set i (xs.getD i d) = xs.take (i + 1) ++ List.replicate (xs.length - (i + 1)) d := by
  simpa using cpy_map id xs d d i h
end Go.Proofs.YtnddllekkdckaaaDoor
set_option maxRecDepth 100000
namespace Go.Proofs.YtnddllekkdckaaaDoor
open Go.Gov

def up (k : Int) (n : Nat) : List Int := (List.range n).map fun (i : Nat) => k + (i : Int)
theorem up_len (k : Int) (n : Nat) : (up k n).length = n := by simp [up]
theorem up_at (k : Int) (n i : Nat) (h : i < n) : (up k n).getD i 0 = k + i := by simp [up, h]
theorem up_succ (k : Int) (n : Nat) : up k (n + 1) = up k n ++ [k + n] := by simp [up, List.range_succ]
theorem up_step (k : Int) (xs : List Int) (i : Nat) (h : i < xs.length) : (up k i ++ xs.drop i).set i (k + i) = up k (i + 1) ++ xs.drop (i + 1) := by
  rw [List.set_append_right _ _ (by rw [up_len]; exact Nat.le_refl _), up_len, Nat.sub_self, List.drop_eq_getElem_cons h, List.set_cons_zero, up_succ, List.append_assoc]
  rfl

theorem markInt64S_c (xs : List Int) (k : Int) (hl : xs.length ≤ 1099511627776) (h0 : 0 ≤ k) (hk : k ≤ 1125899906842624) : Wri Tryd.prog 18 [.sl 0 1 0 xs.length, i64 k] [some (intsC xs)] (i64 (k + xs.length)) [some (intsC (up k xs.length))] := by
  refine wriV ok18 rfl ?_; unfold c18
  (repeat first | simp only [go_sem, ↓reduceIte, Nat.reduceEqDiff, Nat.reduceAdd, reduceCtorEq] | with_reducible refine V_W ?_ | (with_reducible refine And.intro ?_ ?_; focus first | assumption | omega | decide | grind) | (with_reducible refine Br.mk ?_ ?_; focus (intros; omega)) | decide)
  refine V_loop (α := Nat) (S := fun i => ([(0, .sl 0 1 0 xs.length), (1, i64 (k + i)), (5, i64 i)], [some (intsC (up k i ++ xs.drop i))])) (C := fun i => i ≤ xs.length) (μ := fun i => xs.length - i) 0 (by omega) (Ref.to (by simp [up]) (by simp [sub, fget])) ?_
  intro i hi
  have hlen : (up k i ++ xs.drop i).length = xs.length := by simp [up_len]; omega
  (repeat first | simp only [go_sem, ↓reduceIte, Nat.reduceEqDiff, Nat.reduceAdd, reduceCtorEq] | with_reducible refine V_W ?_ | (with_reducible refine And.intro ?_ ?_; focus first | assumption | omega | decide | grind) | (with_reducible refine Br.mk ?_ ?_; focus (intros; omega)) | decide)
  refine ⟨fun hc => ?_, fun hc => ?_⟩
  · (repeat first | simp only [go_sem, ↓reduceIte, Nat.reduceEqDiff, Nat.reduceAdd, reduceCtorEq] | with_reducible refine V_W ?_ | (with_reducible refine And.intro ?_ ?_; focus first | assumption | omega | decide | grind) | (with_reducible refine Br.mk ?_ ?_; focus (intros; omega)) | decide)
    rw [up_step k xs i (by omega)]
    exact ⟨i + 1, by omega, by omega, Ref.frame (by simp [sub, fget]; omega)⟩
  · (repeat first | simp only [go_sem, ↓reduceIte, Nat.reduceEqDiff, Nat.reduceAdd, reduceCtorEq] | with_reducible refine V_W ?_ | (with_reducible refine And.intro ?_ ?_; focus first | assumption | omega | decide | grind) | (with_reducible refine Br.mk ?_ ?_; focus (intros; omega)) | decide)
    obtain rfl : i = xs.length := by omega
    simp

theorem heldInt64S_c (n : Nat) (k : Int) (hl : n ≤ 1099511627776) (h0 : 0 ≤ k) (hk : k ≤ 1125899906842624) : Pure Tryd.prog 19 [ints (up k n), i64 k] (i64 (k + n)) [] := by
  refine pureV ok19 rfl ?_; unfold c19
  have hlen := up_len k n
  (repeat first | simp only [go_sem, ↓reduceIte, Nat.reduceEqDiff, Nat.reduceAdd, reduceCtorEq] | with_reducible refine V_W ?_ | (with_reducible refine And.intro ?_ ?_; focus first | assumption | omega | decide | grind) | (with_reducible refine Br.mk ?_ ?_; focus (intros; omega)) | decide)
  refine V_loop (α := Nat) (S := fun i => ([(0, ints (up k n)), (1, i64 (k + i)), (5, i64 i)], [])) (C := fun i => i ≤ n) (μ := fun i => n - i) 0 (by omega) (by exact Ref.frame (by simp [sub, fget])) ?_
  intro i hi
  (repeat first | simp only [go_sem, ↓reduceIte, Nat.reduceEqDiff, Nat.reduceAdd, reduceCtorEq] | with_reducible refine V_W ?_ | (with_reducible refine And.intro ?_ ?_; focus first | assumption | omega | decide | grind) | (with_reducible refine Br.mk ?_ ?_; focus (intros; omega)) | decide)
  refine ⟨fun hc => ?_, fun hc => ?_⟩
  · have hat := up_at k n i (by omega)
    (repeat first | simp only [go_sem, ↓reduceIte, Nat.reduceEqDiff, Nat.reduceAdd, reduceCtorEq] | with_reducible refine V_W ?_ | (with_reducible refine And.intro ?_ ?_; focus first | assumption | omega | decide | grind) | (with_reducible refine Br.mk ?_ ?_; focus (intros; omega)) | decide)
    refine fun hc2 => ?_
    (repeat first | simp only [go_sem, ↓reduceIte, Nat.reduceEqDiff, Nat.reduceAdd, reduceCtorEq] | with_reducible refine V_W ?_ | (with_reducible refine And.intro ?_ ?_; focus first | assumption | omega | decide | grind) | (with_reducible refine Br.mk ?_ ?_; focus (intros; omega)) | decide)
    exact ⟨i + 1, by omega, by omega, Ref.frame (by simp [sub, fget]; omega)⟩
  · (repeat first | simp only [go_sem, ↓reduceIte, Nat.reduceEqDiff, Nat.reduceAdd, reduceCtorEq] | with_reducible refine V_W ?_ | (with_reducible refine And.intro ?_ ?_; focus first | assumption | omega | decide | grind) | (with_reducible refine Br.mk ?_ ?_; focus (intros; omega)) | decide)
    obtain rfl : i = n := by omega
    rfl

def upR : Int → List (List Int) → List (List Int)
  | _, [] => []
  | k, x :: xs => up k x.length :: upR (k + x.length) xs
theorem upR_len : ∀ (k : Int) (xss : List (List Int)), (upR k xss).length = xss.length
  | _, [] => rfl
  | k, x :: xs => by simp [upR, upR_len]
theorem upR_app : ∀ (k : Int) (a b : List (List Int)), upR k (a ++ b) = upR k a ++ upR (k + tot a) b
  | k, [], b => by simp [upR, tot]
  | k, x :: a, b => by
    rw [List.cons_append, upR, upR_app, upR, List.cons_append, tot_cons]
    congr 3
    push_cast; omega
theorem upR_at (k : Int) (xss : List (List Int)) (i : Nat) (h : i < xss.length) : (upR k xss).getD i [] = up (k + tot (xss.take i)) (xss.getD i []).length := by
  have e : xss = xss.take i ++ xss.drop i := (List.take_append_drop i xss).symm
  have h2 : (upR k (xss.take i)).length = i := by rw [upR_len, List.length_take]; omega
  conv => lhs; rw [e]
  rw [upR_app, List.drop_eq_getElem_cons h, upR, List.getD_eq_getElem?_getD, List.getElem?_append_right (by omega), h2, Nat.sub_self]
  simp [h]

theorem upR_step (k : Int) (xss : List (List Int)) (i : Nat) (h : i < xss.length) : ((upR k (xss.take i) ++ xss.drop i).map oints).set i (oints (up (k + tot (xss.take i)) (xss.getD i []).length)) = (upR k (xss.take (i + 1)) ++ xss.drop (i + 1)).map oints := by
  have h2 : (upR k (xss.take i)).length = i := by rw [upR_len, List.length_take]; omega
  rw [List.take_succ_eq_append_getElem h, upR_app, List.drop_eq_getElem_cons h, ← List.map_set, List.set_append_right _ _ (by omega), h2, Nat.sub_self, List.set_cons_zero, List.append_assoc]
  simp [upR, h]

theorem getD_set_self' {α : Type} (l : List α) (i : Nat) (x d : α) (h : i < l.length) : (l.set i x).getD i d = x := by simp [h]

theorem le_tot {xs : List Int} {B : List (List Int)} (h : xs ∈ B) : xs.length ≤ tot B := by
  unfold tot
  obtain ⟨a, b, rfl⟩ := List.append_of_mem h
  simp; omega
theorem take_up (k : Int) (n : Nat) : (intsC (up k n)).take n = intsC (up k n) := by exact List.take_of_length_le (by simp [intsC, up])
theorem take_upR (k : Int) (xss : List (List Int)) : ((upR k xss).map oints).take xss.length = (upR k xss).map oints := by exact List.take_of_length_le (by simp [upR_len])
theorem heldS_c (n : Nat) (k : Int) (hl : n ≤ 1099511627776) (h0 : 0 ≤ k) (hk : k ≤ 1125899906842624) : Pure Tryd.prog 19 [.slc 1 n (intsC (up k n)), i64 k] (i64 (k + n)) [] := by
  have h := heldInt64S_c n k hl h0 hk
  simpa only [ints, up_len] using h
theorem mat_b {B : List (List Int)} {n : Nat} (h : B.length + tot B ≤ n) : B.length ≤ n ∧ tot B ≤ n ∧ ∀ xs ∈ B, xs.length ≤ n := by
  refine ⟨by omega, by omega, fun xs hx => ?_⟩
  have := le_tot hx
  omega
theorem psz_b {R : List Int} {B : List (List Int)} {n : Nat} (h : psz R B ≤ n) : R.length ≤ n ∧ B.length ≤ n ∧ tot B ≤ n ∧ ∀ xs ∈ B, xs.length ≤ n := by
  unfold psz at h
  refine ⟨by omega, by omega, by omega, fun xs hx => ?_⟩
  have := le_tot hx
  omega

end Go.Proofs.YtnddllekkdckaaaDoor
set_option maxRecDepth 100000
namespace Go.Proofs
open Go.Shelf
def Tryd.trimL_ren : Go.Shelf.Ren := ⟨fun | 161 => 36 | 231 => 50 | 227 => 51 | 233 => 52 | 235 => 53 | 228 => 64 | 197 => 60 | 151 => 65 | 260 => 74 | 152 => 75 | 137 => 88 | 119 => 89 | 224 => 78 | 225 => 77 | 217 => 76 | 266 => 90 | n => n, fun | 9 => 9 | 4 => 4 | 3 => 3 | 5 => 5 | 117 => 58 | 116 => 57 | 0 => 0 | 124 => 61 | 105 => 73 | 21 => 21 | 119 => 94 | 46 => 83 | 139 => 97 | 138 => 96 | n => n, fun | 3 => 2 | 4 => 3 | n => n⟩
theorem Tryd.trimL : Go.Proofs.Lays.n161 Tryd.prog Tryd.trimL_ren := {
  mixed := by kernel_rfl
  f119 := Tryd.func89.trans (congrArg some (by kernel_rfl))
  f137 := Tryd.func88.trans (congrArg some (by kernel_rfl))
  f151 := Tryd.func65.trans (congrArg some (by kernel_rfl))
  f152 := Tryd.func75.trans (congrArg some (by kernel_rfl))
  f161 := Tryd.func36.trans (congrArg some (by kernel_rfl))
  f197 := Tryd.func60.trans (congrArg some (by kernel_rfl))
  f217 := Tryd.func76.trans (congrArg some (by kernel_rfl))
  f224 := Tryd.func78.trans (congrArg some (by kernel_rfl))
  f225 := Tryd.func77.trans (congrArg some (by kernel_rfl))
  f227 := Tryd.func51.trans (congrArg some (by kernel_rfl))
  f228 := Tryd.func64.trans (congrArg some (by kernel_rfl))
  f231 := Tryd.func50.trans (congrArg some (by kernel_rfl))
  f233 := Tryd.func52.trans (congrArg some (by kernel_rfl))
  f235 := Tryd.func53.trans (congrArg some (by kernel_rfl))
  f260 := Tryd.func74.trans (congrArg some (by kernel_rfl))
  f266 := Tryd.func90.trans (congrArg some (by kernel_rfl))
  t0 := Tryd.underlying0
  a0 := Tryd.isAgg0
  z0 := Tryd.sizeOf0
  v0 := Tryd.zeroValue0
  t3 := Tryd.underlying3
  a3 := Tryd.isAgg3
  z3 := Tryd.sizeOf3
  v3 := Tryd.zeroValue3
  t4 := Tryd.underlying4
  a4 := Tryd.isAgg4
  z4 := Tryd.sizeOf4
  v4 := Tryd.zeroValue4
  t5 := Tryd.underlying5
  a5 := Tryd.isAgg5
  z5 := Tryd.sizeOf5
  v5 := Tryd.zeroValue5
  t9 := Tryd.underlying9
  a9 := Tryd.isAgg9
  z9 := Tryd.sizeOf9
  v9 := Tryd.zeroValue9
  t21 := Tryd.underlying21
  a21 := Tryd.isAgg21
  z21 := Tryd.sizeOf21
  v21 := Tryd.zeroValue21
  t46 := Tryd.underlying83
  a46 := Tryd.isAgg83
  z46 := Tryd.sizeOf83
  v46 := Tryd.zeroValue83
  t105 := Tryd.underlying73
  a105 := Tryd.isAgg73
  z105 := Tryd.sizeOf73
  v105 := Tryd.zeroValue73
  t116 := Tryd.underlying57
  a116 := Tryd.isAgg57
  z116 := Tryd.sizeOf57
  t117 := Tryd.underlying58
  a117 := Tryd.isAgg58
  z117 := Tryd.sizeOf58
  v117 := Tryd.zeroValue58
  t119 := Tryd.underlying94
  a119 := Tryd.isAgg94
  z119 := Tryd.sizeOf94
  t124 := Tryd.underlying61
  a124 := Tryd.isAgg61
  z124 := Tryd.sizeOf61
  v124 := Tryd.zeroValue61
  t138 := Tryd.underlying96
  a138 := Tryd.isAgg96
  z138 := Tryd.sizeOf96
  v138 := Tryd.zeroValue96
  t139 := Tryd.underlying97
  a139 := Tryd.isAgg97
  z139 := Tryd.sizeOf97
  v139 := Tryd.zeroValue97
  g3 := by kernel_rfl
  g4 := by kernel_rfl }
def Tryd.contL_ren : Go.Shelf.Ren := ⟨fun | 144 => 37 | 143 => 54 | 219 => 66 | 217 => 76 | 225 => 77 | 224 => 78 | 267 => 79 | 266 => 90 | 314 => 91 | n => n, fun | 9 => 9 | 4 => 4 | 3 => 3 | 5 => 5 | 46 => 83 | 146 => 100 | 51 => 99 | n => n, fun | 1 => 1 | n => n⟩
theorem Tryd.contL : Go.Proofs.Lays.n144 Tryd.prog Tryd.contL_ren := {
  mixed := by kernel_rfl
  f143 := Tryd.func54.trans (congrArg some (by kernel_rfl))
  f144 := Tryd.func37.trans (congrArg some (by kernel_rfl))
  f217 := Tryd.func76.trans (congrArg some (by kernel_rfl))
  f219 := Tryd.func66.trans (congrArg some (by kernel_rfl))
  f224 := Tryd.func78.trans (congrArg some (by kernel_rfl))
  f225 := Tryd.func77.trans (congrArg some (by kernel_rfl))
  f266 := Tryd.func90.trans (congrArg some (by kernel_rfl))
  f267 := Tryd.func79.trans (congrArg some (by kernel_rfl))
  f314 := Tryd.func91.trans (congrArg some (by kernel_rfl))
  t3 := Tryd.underlying3
  a3 := Tryd.isAgg3
  z3 := Tryd.sizeOf3
  v3 := Tryd.zeroValue3
  t4 := Tryd.underlying4
  a4 := Tryd.isAgg4
  z4 := Tryd.sizeOf4
  v4 := Tryd.zeroValue4
  t5 := Tryd.underlying5
  a5 := Tryd.isAgg5
  z5 := Tryd.sizeOf5
  v5 := Tryd.zeroValue5
  t9 := Tryd.underlying9
  a9 := Tryd.isAgg9
  z9 := Tryd.sizeOf9
  v9 := Tryd.zeroValue9
  t46 := Tryd.underlying83
  a46 := Tryd.isAgg83
  z46 := Tryd.sizeOf83
  v46 := Tryd.zeroValue83
  t51 := Tryd.underlying99
  a51 := Tryd.isAgg99
  z51 := Tryd.sizeOf99
  v51 := Tryd.zeroValue99
  t146 := Tryd.underlying100
  a146 := Tryd.isAgg100
  z146 := Tryd.sizeOf100
  v146 := Tryd.zeroValue100
  g1 := by kernel_rfl }
def Tryd.parL_ren : Go.Shelf.Ren := ⟨fun | 174 => 55 | 247 => 67 | 245 => 68 | 287 => 80 | 279 => 81 | 280 => 82 | 281 => 83 | 282 => 84 | 321 => 92 | 322 => 93 | 316 => 94 | 171 => 96 | 205 => 95 | 243 => 101 | 246 => 85 | 283 => 97 | 284 => 98 | 285 => 99 | 286 => 100 | 129 => 103 | 317 => 102 | 318 => 104 | 319 => 105 | 320 => 106 | 337 => 107 | 338 => 108 | n => n, fun | 9 => 9 | 3 => 3 | 2 => 2 | 75 => 63 | 85 => 64 | 4 => 4 | 167 => 84 | 5 => 5 | 53 => 85 | 175 => 86 | 46 => 83 | 168 => 88 | 37 => 46 | 0 => 0 | 210 => 104 | 21 => 21 | 127 => 80 | 145 => 114 | 143 => 112 | 171 => 107 | 173 => 110 | 212 => 116 | 51 => 99 | 20 => 20 | 213 => 117 | 232 => 121 | 233 => 122 | 80 => 36 | n => n, fun | 15 => 4 | 16 => 5 | 17 => 6 | 18 => 7 | 19 => 8 | n => n⟩
theorem Tryd.parL : Go.Proofs.LaysC.n174 Tryd.prog Tryd.parL_ren := {
  mixed := by kernel_rfl
  f129 := Tryd.func103.trans (congrArg some (by kernel_rfl))
  f171 := Tryd.func96.trans (congrArg some (by kernel_rfl))
  f174 := Tryd.func55.trans (congrArg some (by kernel_rfl))
  f205 := Tryd.func95.trans (congrArg some (by kernel_rfl))
  f243 := Tryd.func101.trans (congrArg some (by kernel_rfl))
  f245 := Tryd.func68.trans (congrArg some (by kernel_rfl))
  f246 := Tryd.func85.trans (congrArg some (by kernel_rfl))
  f247 := Tryd.func67.trans (congrArg some (by kernel_rfl))
  f279 := Tryd.func81.trans (congrArg some (by kernel_rfl))
  f280 := Tryd.func82.trans (congrArg some (by kernel_rfl))
  f281 := Tryd.func83.trans (congrArg some (by kernel_rfl))
  f282 := Tryd.func84.trans (congrArg some (by kernel_rfl))
  f283 := Tryd.func97.trans (congrArg some (by kernel_rfl))
  f284 := Tryd.func98.trans (congrArg some (by kernel_rfl))
  f285 := Tryd.func99.trans (congrArg some (by kernel_rfl))
  f286 := Tryd.func100.trans (congrArg some (by kernel_rfl))
  f287 := Tryd.func80.trans (congrArg some (by kernel_rfl))
  f316 := Tryd.func94.trans (congrArg some (by kernel_rfl))
  f317 := Tryd.func102.trans (congrArg some (by kernel_rfl))
  f318 := Tryd.func104.trans (congrArg some (by kernel_rfl))
  f319 := Tryd.func105.trans (congrArg some (by kernel_rfl))
  f320 := Tryd.func106.trans (congrArg some (by kernel_rfl))
  f321 := Tryd.func92.trans (congrArg some (by kernel_rfl))
  f322 := Tryd.func93.trans (congrArg some (by kernel_rfl))
  f337 := Tryd.func107.trans (congrArg some (by kernel_rfl))
  f338 := Tryd.func108.trans (congrArg some (by kernel_rfl))
  t0 := Tryd.underlying0
  a0 := Tryd.isAgg0
  z0 := Tryd.sizeOf0
  v0 := Tryd.zeroValue0
  t2 := Tryd.underlying2
  a2 := Tryd.isAgg2
  z2 := Tryd.sizeOf2
  v2 := Tryd.zeroValue2
  t3 := Tryd.underlying3
  a3 := Tryd.isAgg3
  z3 := Tryd.sizeOf3
  v3 := Tryd.zeroValue3
  t4 := Tryd.underlying4
  a4 := Tryd.isAgg4
  z4 := Tryd.sizeOf4
  v4 := Tryd.zeroValue4
  t5 := Tryd.underlying5
  a5 := Tryd.isAgg5
  z5 := Tryd.sizeOf5
  v5 := Tryd.zeroValue5
  t9 := Tryd.underlying9
  a9 := Tryd.isAgg9
  z9 := Tryd.sizeOf9
  v9 := Tryd.zeroValue9
  t20 := Tryd.underlying20
  a20 := Tryd.isAgg20
  z20 := Tryd.sizeOf20
  v20 := Tryd.zeroValue20
  t21 := Tryd.underlying21
  a21 := Tryd.isAgg21
  z21 := Tryd.sizeOf21
  v21 := Tryd.zeroValue21
  t37 := Tryd.underlying46
  a37 := Tryd.isAgg46
  z37 := Tryd.sizeOf46
  v37 := Tryd.zeroValue46
  t46 := Tryd.underlying83
  a46 := Tryd.isAgg83
  z46 := Tryd.sizeOf83
  v46 := Tryd.zeroValue83
  t51 := Tryd.underlying99
  a51 := Tryd.isAgg99
  z51 := Tryd.sizeOf99
  v51 := Tryd.zeroValue99
  t53 := Tryd.underlying85
  a53 := Tryd.isAgg85
  z53 := Tryd.sizeOf85
  v53 := Tryd.zeroValue85
  t75 := Tryd.underlying63
  a75 := Tryd.isAgg63
  z75 := Tryd.sizeOf63
  v75 := Tryd.zeroValue63
  t85 := Tryd.underlying64
  a85 := Tryd.isAgg64
  z85 := Tryd.sizeOf64
  v85 := Tryd.zeroValue64
  t127 := Tryd.underlying80
  a127 := Tryd.isAgg80
  z127 := Tryd.sizeOf80
  v127 := Tryd.zeroValue80
  t143 := Tryd.underlying112
  a143 := Tryd.isAgg112
  z143 := Tryd.sizeOf112
  v143 := Tryd.zeroValue112
  t145 := Tryd.underlying114
  a145 := Tryd.isAgg114
  z145 := Tryd.sizeOf114
  v145 := Tryd.zeroValue114
  t167 := Tryd.underlying84
  a167 := Tryd.isAgg84
  z167 := Tryd.sizeOf84
  v167 := Tryd.zeroValue84
  t168 := Tryd.underlying88
  a168 := Tryd.isAgg88
  z168 := Tryd.sizeOf88
  v168 := Tryd.zeroValue88
  t171 := Tryd.underlying107
  a171 := Tryd.isAgg107
  z171 := Tryd.sizeOf107
  v171 := Tryd.zeroValue107
  t173 := Tryd.underlying110
  a173 := Tryd.isAgg110
  z173 := Tryd.sizeOf110
  v173 := Tryd.zeroValue110
  t175 := Tryd.underlying86
  a175 := Tryd.isAgg86
  z175 := Tryd.sizeOf86
  v175 := Tryd.zeroValue86
  t210 := Tryd.underlying104
  a210 := Tryd.isAgg104
  z210 := Tryd.sizeOf104
  v210 := Tryd.zeroValue104
  t212 := Tryd.underlying116
  a212 := Tryd.isAgg116
  z212 := Tryd.sizeOf116
  v212 := Tryd.zeroValue116
  t213 := Tryd.underlying117
  a213 := Tryd.isAgg117
  z213 := Tryd.sizeOf117
  t232 := Tryd.underlying121
  a232 := Tryd.isAgg121
  z232 := Tryd.sizeOf121
  v232 := Tryd.zeroValue121
  t233 := Tryd.underlying122
  a233 := Tryd.isAgg122
  z233 := Tryd.sizeOf122
  v233 := Tryd.zeroValue122
  g15 := by kernel_rfl
  g16 := by kernel_rfl
  g17 := by kernel_rfl
  g18 := by kernel_rfl
  g19 := by kernel_rfl
  t80 := Tryd.underlying36
  a80 := Tryd.isAgg36
  z80 := Tryd.sizeOf36
  v80 := Tryd.zeroValue36
  i0 := by kernel_rfl
  i2 := by kernel_rfl
  i3 := by kernel_rfl
  i4 := by kernel_rfl
  i5 := by kernel_rfl
  i9 := by kernel_rfl
  i20 := by kernel_rfl
  i21 := by kernel_rfl
  i37 := by kernel_rfl
  i46 := by kernel_rfl
  i51 := by kernel_rfl
  i53 := by kernel_rfl
  i75 := by kernel_rfl
  i80 := by kernel_rfl
  i85 := by kernel_rfl
  i127 := by kernel_rfl
  i143 := by kernel_rfl
  i145 := by kernel_rfl
  i167 := by kernel_rfl
  i168 := by kernel_rfl
  i171 := by kernel_rfl
  i173 := by kernel_rfl
  i175 := by kernel_rfl
  i210 := by kernel_rfl
  i212 := by kernel_rfl
  i232 := by kernel_rfl
  i233 := by kernel_rfl
  m15 := by kernel_rfl
  m16 := by kernel_rfl
  m17 := by kernel_rfl
  m18 := by kernel_rfl
  m19 := by kernel_rfl
  c0 := by kernel_rfl
  c2 := by kernel_rfl
  c3 := by kernel_rfl
  c4 := by kernel_rfl
  c5 := by kernel_rfl
  c9 := by kernel_rfl
  c20 := by kernel_rfl
  c21 := by kernel_rfl
  c37 := by kernel_rfl
  c46 := by kernel_rfl
  c51 := by kernel_rfl
  c53 := by kernel_rfl
  c75 := by kernel_rfl
  c80 := by kernel_rfl
  c85 := by kernel_rfl
  c127 := by kernel_rfl
  c143 := by kernel_rfl
  c145 := by kernel_rfl
  c167 := by kernel_rfl
  c168 := by kernel_rfl
  c171 := by kernel_rfl
  c173 := by kernel_rfl
  c175 := by kernel_rfl
  c210 := by kernel_rfl
  c212 := by kernel_rfl
  c213 := by kernel_rfl
  c232 := by kernel_rfl
  c233 := by kernel_rfl }
def Tryd.fmtL_ren : Go.Shelf.Ren := ⟨fun | 173 => 69 | 246 => 85 | 283 => 97 | 284 => 98 | 285 => 99 | 286 => 100 | 129 => 103 | 317 => 102 | 318 => 104 | 319 => 105 | 320 => 106 | 337 => 107 | 338 => 108 | n => n, fun | 2 => 2 | 3 => 3 | 9 => 9 | 4 => 4 | 171 => 107 | 0 => 0 | 53 => 85 | 37 => 46 | 5 => 5 | 173 => 110 | 212 => 116 | 51 => 99 | 20 => 20 | 213 => 117 | 46 => 83 | 232 => 121 | 233 => 122 | n => n, fun | 17 => 6 | 18 => 7 | 19 => 8 | n => n⟩
theorem Tryd.fmtL : Go.Proofs.LaysM.n173 Tryd.prog Tryd.fmtL_ren := {
  mixed := by kernel_rfl
  f129 := Tryd.func103.trans (congrArg some (by kernel_rfl))
  f173 := Tryd.func69.trans (congrArg some (by kernel_rfl))
  f246 := Tryd.func85.trans (congrArg some (by kernel_rfl))
  f283 := Tryd.func97.trans (congrArg some (by kernel_rfl))
  f284 := Tryd.func98.trans (congrArg some (by kernel_rfl))
  f285 := Tryd.func99.trans (congrArg some (by kernel_rfl))
  f286 := Tryd.func100.trans (congrArg some (by kernel_rfl))
  f317 := Tryd.func102.trans (congrArg some (by kernel_rfl))
  f318 := Tryd.func104.trans (congrArg some (by kernel_rfl))
  f319 := Tryd.func105.trans (congrArg some (by kernel_rfl))
  f320 := Tryd.func106.trans (congrArg some (by kernel_rfl))
  f337 := Tryd.func107.trans (congrArg some (by kernel_rfl))
  f338 := Tryd.func108.trans (congrArg some (by kernel_rfl))
  t0 := Tryd.underlying0
  a0 := Tryd.isAgg0
  z0 := Tryd.sizeOf0
  v0 := Tryd.zeroValue0
  t2 := Tryd.underlying2
  a2 := Tryd.isAgg2
  z2 := Tryd.sizeOf2
  v2 := Tryd.zeroValue2
  t3 := Tryd.underlying3
  a3 := Tryd.isAgg3
  z3 := Tryd.sizeOf3
  v3 := Tryd.zeroValue3
  t4 := Tryd.underlying4
  a4 := Tryd.isAgg4
  z4 := Tryd.sizeOf4
  v4 := Tryd.zeroValue4
  t5 := Tryd.underlying5
  a5 := Tryd.isAgg5
  z5 := Tryd.sizeOf5
  v5 := Tryd.zeroValue5
  t9 := Tryd.underlying9
  a9 := Tryd.isAgg9
  z9 := Tryd.sizeOf9
  v9 := Tryd.zeroValue9
  t20 := Tryd.underlying20
  a20 := Tryd.isAgg20
  z20 := Tryd.sizeOf20
  v20 := Tryd.zeroValue20
  t37 := Tryd.underlying46
  a37 := Tryd.isAgg46
  z37 := Tryd.sizeOf46
  v37 := Tryd.zeroValue46
  t46 := Tryd.underlying83
  a46 := Tryd.isAgg83
  z46 := Tryd.sizeOf83
  v46 := Tryd.zeroValue83
  t51 := Tryd.underlying99
  a51 := Tryd.isAgg99
  z51 := Tryd.sizeOf99
  v51 := Tryd.zeroValue99
  t53 := Tryd.underlying85
  a53 := Tryd.isAgg85
  z53 := Tryd.sizeOf85
  v53 := Tryd.zeroValue85
  t171 := Tryd.underlying107
  a171 := Tryd.isAgg107
  z171 := Tryd.sizeOf107
  v171 := Tryd.zeroValue107
  t173 := Tryd.underlying110
  a173 := Tryd.isAgg110
  z173 := Tryd.sizeOf110
  v173 := Tryd.zeroValue110
  t212 := Tryd.underlying116
  a212 := Tryd.isAgg116
  z212 := Tryd.sizeOf116
  v212 := Tryd.zeroValue116
  t213 := Tryd.underlying117
  a213 := Tryd.isAgg117
  z213 := Tryd.sizeOf117
  t232 := Tryd.underlying121
  a232 := Tryd.isAgg121
  z232 := Tryd.sizeOf121
  v232 := Tryd.zeroValue121
  t233 := Tryd.underlying122
  a233 := Tryd.isAgg122
  z233 := Tryd.sizeOf122
  v233 := Tryd.zeroValue122
  g17 := by kernel_rfl
  g18 := by kernel_rfl
  g19 := by kernel_rfl
  i0 := by kernel_rfl
  i2 := by kernel_rfl
  i3 := by kernel_rfl
  i4 := by kernel_rfl
  i5 := by kernel_rfl
  i9 := by kernel_rfl
  i20 := by kernel_rfl
  i37 := by kernel_rfl
  i46 := by kernel_rfl
  i51 := by kernel_rfl
  i53 := by kernel_rfl
  i171 := by kernel_rfl
  i173 := by kernel_rfl
  i212 := by kernel_rfl
  i232 := by kernel_rfl
  i233 := by kernel_rfl
  m17 := by kernel_rfl
  m18 := by kernel_rfl
  m19 := by kernel_rfl }
end Go.Proofs
