/- Texts that belong together. -/
import Derived.Test.YtghhlcioabdpfaaDoorZg
import Derived.Test.YtghhlcioabdpfaaDoorZj
set_option linter.unusedSimpArgs false
set_option linter.unusedVariables false
set_option maxRecDepth 100000
namespace Go.Proofs.YtghhlcioabdpfaaDoor
open Go.Gov
open Classical

def PrK (p : List Int) (k : Nat) : Prop := ∀ j, j < k → (0 ≤ p.getD j 0 ∧ p.getD j 0 ≤ (p.length : Int) - 1) ∧ ∀ i, i < j → p.getD i 0 ≠ p.getD j 0
def IsPrm (p : List Int) : Prop := p.length ≤ 400 ∧ PrK p p.length
theorem PrK.succ {p : List Int} {k : Nat} (h : PrK p k) (h1 : 0 ≤ p.getD k 0 ∧ p.getD k 0 ≤ (p.length : Int) - 1) (h2 : ∀ i, i < k → p.getD i 0 ≠ p.getD k 0) : PrK p (k + 1) := fun j hj => by
  rcases Nat.lt_or_ge j k with h3 | h3
  · exact h j h3
  · obtain rfl : j = k := by omega
    exact ⟨h1, h2⟩
theorem IsPrm.at {p : List Int} (h : IsPrm p) {k : Nat} (hk : k < p.length) : 0 ≤ p.getD k 0 ∧ p.getD k 0 ≤ (p.length : Int) - 1 := (h.2 k hk).1

end Go.Proofs.YtghhlcioabdpfaaDoor
set_option maxRecDepth 100000
namespace Go.Proofs.YtghhlcioabdpfaaDoor
open Go.Gov Go.Sort

theorem mul_c (x y : Nat) (hx : x < 18446744073709551616) (hy : y < 18446744073709551616) : Pure Tryd.prog 171 [.val (.int .u64 x), .val (.int .u64 y)] (.tup [.val (.int .u64 ((x * y / 18446744073709551616 : Nat) : Int)), .val (.int .u64 ((x * y % 18446744073709551616 : Nat) : Int))]) [] := by
  intro g w vals hp hl1 hr
  have h0 := hr 0 (by simp)
  have h1 := hr 1 (by simp)
  simp only [List.getElem_cons_zero, List.getElem_cons_succ] at h0 h1
  have hv : vals = #[.int .u64 x, .int .u64 y] := by
    refine Array.ext (by simpa using hl1) fun i h2 h3 => ?_
    have e0 := h0.val_inv.1
    have e1 := h1.val_inv.1
    match i, h3 with
    | 0, _ => simpa [h2] using e0
    | 1, _ => simpa [h2] using e1
  subst hv
  refine (Any.bits_Mul Tryd.mulL x y hx hy w).mono ?_
  rintro e w' ⟨rfl, rfl⟩
  refine ⟨_, g, _, [], rfl, Mv.refl hp, .tup (by simp) (fun m hm => ?_), fun _ _ _ => rfl, rfl, rfl⟩
  match m, hm with
  | 0, _ => exact .val
  | 1, _ => exact .val

theorem wrapU (n : Nat) (h : n < 18446744073709551616) : IntKind.wrap .u64 (n : Int) = n := by
  show (if (false && decide ((n : Int) % 2 ^ 64 ≥ 2 ^ (64 - 1))) = true then (n : Int) % 2 ^ 64 - 2 ^ 64 else (n : Int) % 2 ^ 64) = (n : Int)
  rw [Bool.false_and, if_neg (by decide)]
  omega
theorem wrapI (n : Nat) (h : n < 9223372036854775808) : IntKind.wrap .i64 (n : Int) = n := by
  show (if (true && decide ((n : Int) % 2 ^ 64 ≥ 2 ^ (64 - 1))) = true then (n : Int) % 2 ^ 64 - 2 ^ 64 else (n : Int) % 2 ^ 64) = (n : Int)
  rw [Bool.true_and, if_neg (by simp; omega)]
  omega

theorem repeat_c (v : Int) (n : Nat) (hn : n ≤ 1099511627776) : Pure Tryd.prog 152 [ints [v], i64 n] (.sl 0 1 0 n) [some (intsC (List.replicate n v))] := by
  have e1 : IntKind.wrap .u64 ((1 : Nat) : Int) = ((1 : Nat) : Int) := wrapU 1 (by omega)
  have e2 := wrapU n (by omega)
  refine pureV ok152 rfl ?_; unfold c152
  (refine RN ?_; try with_reducible exact trivial)
  refine fun _ => ?_
  (refine RN ?_; try with_reducible exact trivial)
  rw [e1, e2]
  have e3 : 1 * n / 18446744073709551616 = 0 := by omega
  have e4 : 1 * n % 18446744073709551616 = n := by omega
  have e5 := wrapI n (by omega)
  have hm := mul_c 1 n (by omega) (by omega)
  rw [e3, e4] at hm
  refine pureC1 (hm) ?_
  (refine RN ?_; try with_reducible exact trivial)
  refine fun _ => ?_
  (refine RN ?_; try with_reducible exact trivial)
  have h0 : Nat.min 1 n ≤ n := Nat.min_le_right _ _
  have h1 : 0 < n → 0 < Nat.min 1 n := fun h => by rw [show Nat.min 1 n = 1 from Nat.min_eq_left (by omega)]; omega
  have hc0 : List.take (Nat.min 1 n) (intsC [v]) ++ List.drop (Nat.min 1 n) (intsC (List.replicate n 0)) = intsC (List.replicate (Nat.min 1 n) v ++ List.replicate (n - Nat.min 1 n) 0) := by
    rw [take_intsC, drop_intsC, app_intsC]
    congr 2
    · rcases Nat.eq_zero_or_pos n with h | h
      · subst h; simp
      · rw [show Nat.min 1 n = 1 from Nat.min_eq_left (by omega)]; rfl
    · simp
  rw [hc0]
  generalize Nat.min 1 n = m0 at h0 h1
  refine V_loop (α := Nat) (S := fun m => ([(7, .sl 0 1 0 n), (8, i64 m)], [some (intsC (List.replicate m v ++ List.replicate (n - m) 0))])) (C := fun m => m ≤ n ∧ (0 < n → 0 < m)) (μ := fun m => n - m) m0 ⟨h0, h1⟩ (by exact Ref.frame (by simp [sub, fget])) ?_
  rintro m ⟨hm1, hm2⟩
  have hlen : (List.replicate m v ++ List.replicate (n - m) (0 : Int)).length = n := by simp; omega
  (refine RN ?_; try with_reducible exact trivial)
  refine ⟨fun hc => ?_, fun hc => ?_⟩
  · have hmp := hm2 (by omega)
    (refine RN ?_; try with_reducible exact trivial)
    refine V_alts ?_
    (refine RN ?_; try with_reducible exact trivial)
    have t1 : ((m : Int) - 0).toNat = m := by omega
    have t2 : Int.toNat 0 = 0 := rfl
    have t3 : ((n : Int) - (m : Int)).toNat = n - m := by omega
    have hq1 : Nat.min m (n - m) ≤ n - m := Nat.min_le_right _ _
    have hq3 : Nat.min m (n - m) ≤ m := Nat.min_le_left _ _
    have hq2 : 0 < Nat.min m (n - m) := Nat.lt_min.2 ⟨hmp, by omega⟩
    simp only [t1, t2, t3, List.drop_zero, take_intsC, all_plain_intsC, all_one_intsC, drop_intsC, app_intsC, true_and]
    generalize Nat.min m (n - m) = q at hq1 hq2 hq3
    refine ⟨by omega, m + q, ⟨by omega, by omega⟩, by omega, Ref.to ?_ (by simp [sub, fget])⟩
    have u1 : (List.replicate m v ++ List.replicate (n - m) (0 : Int)).take m = List.replicate m v := by rw [List.take_append_of_le_length (by simp)]; simp
    have u2 : (List.replicate m v).take q = List.replicate q v := by rw [List.take_replicate, Nat.min_eq_left hq3]
    have u3 : (List.replicate m v ++ List.replicate (n - m) (0 : Int)).drop (m + q) = List.replicate (n - (m + q)) 0 := by
      rw [List.drop_append, List.drop_of_length_le (by simp), List.nil_append, List.drop_replicate, List.length_replicate]
      congr 1; omega
    rw [u1, u2, u3, List.replicate_append_replicate]
  · obtain rfl : m = n := by omega
    (refine RN ?_; try with_reducible exact trivial)
    simp

end Go.Proofs.YtghhlcioabdpfaaDoor
