/- Texts that belong together. -/
import Derived.KernelRfl
import Derived.Shelf.SlGeneric
import Derived.Shelf.Spec.SlicesGrow
import Derived.Ground.Names8Prog
import Derived.Shelf.SlicesE.Delete
import Derived.Ground.SlgnProg
import Derived.Shelf.Bits.Mul64
import Derived.Ground.NamesProg
import Derived.Test.YtcmahhfjpgoceaaGreatProg
import Derived.Test.YtcmahhfjpgoceaaGreatZe
import Derived.Test.YtcmahhfjpgoceaaGreatZf
set_option linter.unusedSimpArgs false
set_option linter.unusedVariables false
set_option maxRecDepth 100000
namespace Go.Proofs.YtcmahhfjpgoceaaGreat
open Go.Gov

theorem l01In_c (n lo hi : Int) : Pure Tryz.prog 86 [i64 n, i64 lo, i64 hi] (bl (decide (lo ≤ n) && decide (n ≤ hi))) [] := by
  refine pureV ok86 rfl ?_; unfold c86
  (refine RN ?_; try with_reducible exact trivial)
theorem within_c (n lo hi : Int) : Pure Tryz.prog 83 [i64 n, i64 lo, i64 hi] (bl (decide (lo ≤ n) && decide (n ≤ hi))) [] := by
  refine pureV ok83 rfl ?_; unfold c83
  (refine RN ?_; try with_reducible exact trivial)
theorem size_c (xs : List Int) (hl : xs.length ≤ 1099511627776) : Pure Tryz.prog 95 [ints xs] (i64 xs.length) [] := by
  refine pureV ok95 rfl ?_; unfold c95
  (refine RN ?_; try with_reducible exact trivial)

def idx (xs : List Int) (n : Int) : Int := if n ∈ xs then xs.idxOf n else -1
theorem idx_at {xs : List Int} {n : Int} {i : Nat} (h : ∀ j, j < i → xs.getD j 0 ≠ n) (hi : i < xs.length) (he : xs.getD i 0 = n) : idx xs n = i := by
  have hm : n ∈ xs := by rw [← he]; simp [hi]
  unfold idx
  rw [if_pos hm]
  congr 1
  induction xs generalizing i with
  | nil => cases hi
  | cons x xs ih =>
    cases i with
    | zero =>
      have hx : x = n := by simpa using he
      simp [hx]
    | succ i =>
      have hx : x ≠ n := by have := h 0 (by omega); simpa using this
      have hm' : n ∈ xs := by rcases List.mem_cons.1 hm with h' | h'; exact absurd h'.symm hx; exact h'
      have hb : (x == n) = false := by simpa using hx
      rw [List.idxOf_cons, hb, cond_false]
      rw [ih (i := i) (fun j hj => by have := h (j + 1) (by omega); simpa using this) (by simpa using hi) (by simpa using he) hm']
theorem idx_no {xs : List Int} {n : Int} (h : ∀ j, j < xs.length → xs.getD j 0 ≠ n) : idx xs n = -1 := by
  unfold idx
  rw [if_neg]
  intro hm
  obtain ⟨j, hj, he⟩ := List.mem_iff_getElem.1 hm
  exact h j hj (by simp [hj, he])
theorem idx_ge (xs : List Int) (n : Int) : decide (0 ≤ idx xs n) = decide (n ∈ xs) := by
  unfold idx
  by_cases h : n ∈ xs <;> simp [h]

theorem l01Index_c (xs : List Int) (n : Int) (hl : xs.length ≤ 1099511627776) : Pure Tryz.prog 137 [ints xs, i64 n] (i64 (idx xs n)) [] := by
  refine pureV ok137 rfl ?_; unfold c137
  refine RN ?_
  refine V_loop (α := Nat) (S := fun i => ([(0, ints xs), (1, i64 n), (5, i64 i)], [])) (C := fun i => i ≤ xs.length ∧ ∀ j, j < i → xs.getD j 0 ≠ n) (μ := fun i => xs.length - i) 0 ⟨by omega, by omega⟩ (by exact Ref.frame (by simp [sub, fget])) ?_
  rintro i ⟨hi, hall⟩
  refine RN ?_
  refine ⟨fun hc => ?_, fun hc => ?_⟩
  · (refine RN ?_; try with_reducible exact trivial)
    refine ⟨fun hc => ?_, fun hc => ?_⟩
    · (refine RN ?_; try with_reducible exact trivial)
      rw [idx_at hall (by omega) (by assumption)]
    · (refine RN ?_; try with_reducible exact trivial)
      refine ⟨i + 1, ⟨by omega, fun j hj => ?_⟩, by omega, by exact Ref.frame (by simp [sub, fget])⟩
      rcases Nat.lt_or_ge j i with h | h
      · exact hall j h
      · obtain rfl : j = i := by omega
        simpa using hc
  · (refine RN ?_; try with_reducible exact trivial)
    rw [idx_no (fun j hj => hall j (by omega))]

theorem l01Has_c (xs : List Int) (n : Int) (hl : xs.length ≤ 1099511627776) : Pure Tryz.prog 121 [ints xs, i64 n] (bl (decide (n ∈ xs))) [] := by
  refine pureV ok121 rfl ?_; unfold c121
  refine RN ?_
  refine pureC1 (l01Index_c xs n hl) ?_
  (refine RN ?_; try with_reducible exact trivial)
  try rw [idx_ge]

theorem isNaN2_c (n : Int) : Pure Tryz.prog 149 [i64 n] (bl false) [] := by
  refine pureV ok149 rfl ?_; unfold c149
  (refine RN ?_; try with_reducible exact trivial)
  try rw [show (n != n) = false by simp]

end Go.Proofs.YtcmahhfjpgoceaaGreat
set_option maxRecDepth 100000
namespace Go.Proofs.YtcmahhfjpgoceaaGreat
open Go.Gov

def left (b : Int) (n : Nat) : Int := if (n : Int) ≤ b then b - n else -1
def tot (xss : List (List Int)) : Nat := (xss.map List.length).sum

theorem tot_app (a b : List (List Int)) : tot (a ++ b) = tot a + tot b := by simp [tot]
theorem tot_take (xss : List (List Int)) (i : Nat) (h : i < xss.length) : tot (xss.take (i + 1)) = tot (xss.take i) + (xss.getD i []).length := by
  rw [List.take_succ_eq_append_getElem h, tot_app]
  simp [tot, h]
theorem tot_take_le (xss : List (List Int)) (i : Nat) : tot (xss.take i) ≤ tot xss := by
  have := congrArg tot (List.take_append_drop i xss)
  rw [tot_app] at this
  omega

end Go.Proofs.YtcmahhfjpgoceaaGreat
set_option maxRecDepth 100000
namespace Go.Proofs.YtcmahhfjpgoceaaGreat
open Go.Gov

end Go.Proofs.YtcmahhfjpgoceaaGreat
set_option maxRecDepth 100000
namespace Go.Proofs.YtcmahhfjpgoceaaGreat
open Classical

end Go.Proofs.YtcmahhfjpgoceaaGreat
set_option maxRecDepth 100000
namespace Go.Proofs
open Go.Shelf
def Tryz.growL_ren : Go.Shelf.Ren := ⟨fun | 4 => 135 | n => n, fun | 22 => 29 | 25 => 2 | 3 => 3 | 4 => 4 | 9 => 9 | 20 => 20 | 0 => 0 | n => n, fun | n => n⟩
theorem Tryz.growL : Go.Proofs.Lays8.n4 Tryz.prog Tryz.growL_ren := {
  mixed := by kernel_rfl
  f4 := ⟨Tryz.f135.name, by decide, Tryz.func135.trans (congrArg some (by kernel_rfl))⟩
  t0 := Tryz.underlying0
  a0 := Tryz.isAgg0
  z0 := Tryz.sizeOf0
  v0 := Tryz.zeroValue0
  t3 := Tryz.underlying3
  a3 := Tryz.isAgg3
  z3 := Tryz.sizeOf3
  v3 := Tryz.zeroValue3
  t4 := Tryz.underlying4
  a4 := Tryz.isAgg4
  z4 := Tryz.sizeOf4
  v4 := Tryz.zeroValue4
  t9 := Tryz.underlying9
  a9 := Tryz.isAgg9
  z9 := Tryz.sizeOf9
  v9 := Tryz.zeroValue9
  t20 := Tryz.underlying20
  a20 := Tryz.isAgg20
  z20 := Tryz.sizeOf20
  v20 := Tryz.zeroValue20
  t22 := Tryz.underlying29
  a22 := Tryz.isAgg29
  z22 := Tryz.sizeOf29
  v22 := Tryz.zeroValue29 }
def Tryz.delL_ren : Go.Shelf.Ren := ⟨fun | 45 => 122 | n => n, fun | 22 => 24 | 23 => 29 | 3 => 3 | 4 => 4 | 0 => 0 | n => n, fun | n => n⟩
theorem Tryz.delL : Go.Proofs.SlLaysE.n45 Tryz.prog Tryz.delL_ren := {
  mixed := by kernel_rfl
  f45 := ⟨Tryz.f122.name, by decide, Tryz.func122.trans (congrArg some (by kernel_rfl))⟩
  t0 := Tryz.underlying0
  a0 := Tryz.isAgg0
  z0 := Tryz.sizeOf0
  v0 := Tryz.zeroValue0
  t3 := Tryz.underlying3
  a3 := Tryz.isAgg3
  z3 := Tryz.sizeOf3
  v3 := Tryz.zeroValue3
  t4 := Tryz.underlying4
  a4 := Tryz.isAgg4
  z4 := Tryz.sizeOf4
  v4 := Tryz.zeroValue4
  t22 := Tryz.underlying24
  a22 := Tryz.isAgg24
  z22 := Tryz.sizeOf24
  v22 := Tryz.zeroValue24
  a23 := Tryz.isAgg29
  z23 := Tryz.sizeOf29 }
def Tryz.mulL_ren : Go.Shelf.Ren := ⟨fun | 212 => 138 | 263 => 150 | 264 => 151 | n => n, fun | 46 => 92 | 51 => 141 | 146 => 142 | 53 => 89 | 148 => 144 | n => n, fun | n => n⟩
theorem Tryz.mulL : Go.Proofs.Lays.n212 Tryz.prog Tryz.mulL_ren := {
  mixed := by kernel_rfl
  f212 := Tryz.func138.trans (congrArg some (by kernel_rfl))
  f263 := Tryz.func150.trans (congrArg some (by kernel_rfl))
  f264 := Tryz.func151.trans (congrArg some (by kernel_rfl))
  t46 := Tryz.underlying92
  a46 := Tryz.isAgg92
  z46 := Tryz.sizeOf92
  v46 := Tryz.zeroValue92
  t51 := Tryz.underlying141
  a51 := Tryz.isAgg141
  z51 := Tryz.sizeOf141
  v51 := Tryz.zeroValue141
  t53 := Tryz.underlying89
  a53 := Tryz.isAgg89
  z53 := Tryz.sizeOf89
  v53 := Tryz.zeroValue89
  t146 := Tryz.underlying142
  a146 := Tryz.isAgg142
  z146 := Tryz.sizeOf142
  v146 := Tryz.zeroValue142
  t148 := Tryz.underlying144
  a148 := Tryz.isAgg144
  z148 := Tryz.sizeOf144
  v148 := Tryz.zeroValue144 }
end Go.Proofs
