/- Texts that belong together. -/
import Derived.KernelRfl
import Derived.Test.YtfcbamfkfadabaaGreatDoorZe
import Derived.Test.YtfcbamfkfadabaaGreatDoorZf
import Derived.Test.YtfcbamfkfadabaaGreatDoorZh
import Derived.Test.YtfcbamfkfadabaaGreatDoorZj
import Derived.Test.YtfcbamfkfadabaaGreatDoorZo
set_option linter.unusedSimpArgs false
set_option linter.unusedVariables false
set_option maxRecDepth 100000
namespace Go.Proofs.YtfcbamfkfadabaaGreatDoor
open Classical

def lexL : List Int → List Int → Bool
  | [], [] => false
  | [], _ :: _ => true
  | _ :: _, [] => false
  | x :: xs, y :: ys => if x < y then true else if y < x then false else lexL xs ys
theorem lexL_irr : ∀ a, lexL a a = false
  | [] => rfl
  | x :: xs => by simp [lexL, lexL_irr xs]
theorem lexL_trans : ∀ {a b c : List Int}, lexL a b = true → lexL b c = true → lexL a c = true
  | _, [], [], _, h => by cases h
  | [], [], _ :: _, h, _ => by cases h
  | [], _ :: _, [], _, h => by cases h
  | [], _ :: _, _ :: _, _, _ => rfl
  | _ :: _, [], _, h, _ => by cases h
  | _ :: _, _ :: _, [], _, h => by cases h
  | x :: xs, y :: ys, z :: zs, h, k => by
    unfold lexL at *
    have ih := @lexL_trans xs ys zs
    split at h <;> split at k <;> (try split at h) <;> (try split at k) <;> (try (cases h; done)) <;> (try (cases k; done)) <;> grind
def Lst (S : List Int → Prop) (b : List Int) : Prop := S b ∧ ∀ x, S x → lexL x b = false
theorem lex_low {x b c : List Int} (h : lexL x b = false) (hc : lexL c b = true) : lexL x c = false := by
  cases h2 : lexL x c with
  | false => rfl
  | true => rw [lexL_trans h2 hc] at h; cases h
theorem Lst.add {S : List Int → Prop} {b c : List Int} (h : Lst S b) : Lst (fun x => S x ∨ x = c) (if lexL c b = true then c else b) := by
  by_cases hc : lexL c b = true
  · rw [if_pos hc]
    refine ⟨.inr rfl, fun x hx => ?_⟩
    rcases hx with hx | rfl
    · exact lex_low (h.2 x hx) hc
    · exact lexL_irr _
  · rw [if_neg hc]
    refine ⟨.inl h.1, fun x hx => ?_⟩
    rcases hx with hx | rfl
    · exact h.2 x hx
    · simpa using hc
theorem Lst.same {S T : List Int → Prop} {b : List Int} (h : Lst S b) (hs : ∀ x, S x ↔ T x) : Lst T b := ⟨(hs b).1 h.1, fun x hx => h.2 x ((hs x).2 hx)⟩

end Go.Proofs.YtfcbamfkfadabaaGreatDoor
set_option maxRecDepth 100000
namespace Go.Proofs.YtfcbamfkfadabaaGreatDoor
open Go.Gov
open Classical

theorem clone_c (xs : List Int) (h0 : 0 < xs.length) (hl : xs.length ≤ 1099511627776) : Pure Tryz.prog 182 [ints xs] (.sl 0 1 0 xs.length) [some (intsC xs)] := by
  obtain ⟨r, R, rfl⟩ : ∃ r R, xs = r :: R := by cases xs with | nil => simp at h0 | cons r R => exact ⟨r, R, rfl⟩
  generalize hM : r :: R = M at *
  have hlen : M.length = R.length + 1 := by rw [← hM]; rfl
  refine pureVg [1] ok182 rfl ?_; unfold c182
  rw [show ints M = .slc 1 (R.length + 1) (intsC M) by rw [ints, hlen]]
  have hn : ∀ H, nilOf H (.slc 1 (R.length + 1) (intsC M)) = some false := fun _ => rfl
  refine RN ?_
  simp only [hn, Option.isSome_some, Option.getD_some, true_and]
  (refine RN ?_; try with_reducible exact trivial)
  (try simp only [hlen, go_sem, ↓reduceIte, Nat.reduceEqDiff, Nat.reduceAdd, reduceCtorEq])
theorem equal_c (xs ys : List Int) (hx : xs.length ≤ 1099511627776) (hy : ys.length ≤ 1099511627776) : Pure Tryz.prog 93 [ints xs, ints ys] (bl (decide (xs = ys))) [] := by
  refine pureV ok93 rfl ?_; unfold c93
  refine RN ?_
  refine ⟨fun hc => ?_, fun hc => ?_⟩
  · (refine RN ?_; try with_reducible exact trivial)
    rw [decide_eq_false (fun h => hc (by rw [h]))]
  · have hl : xs.length = ys.length := by omega
    refine RN ?_
    refine V_loop (α := Nat) (S := fun i => ([(0, ints xs), (1, ints ys), (12, i64 xs.length), (13, i64 i)], [])) (C := fun i => i ≤ xs.length ∧ ∀ j, j < i → xs.getD j 0 = ys.getD j 0) (μ := fun i => xs.length - i) 0 ⟨by omega, by omega⟩ (by exact Ref.frame (by simp [sub, fget])) ?_
    rintro i ⟨hi, hall⟩
    refine RN ?_
    refine ⟨fun hc1 => ?_, fun hc1 => ?_⟩
    · (refine RN ?_; try with_reducible exact trivial)
      refine ⟨fun hc2 => ?_, fun hc2 => ?_⟩
      · (refine RN ?_; try with_reducible exact trivial)
        rw [decide_eq_false (fun h => hc2 (by rw [h]))]
      · (refine RN ?_; try with_reducible exact trivial)
        refine ⟨i + 1, ⟨by omega, fun j hj => ?_⟩, by omega, by exact Ref.frame (by simp [sub, fget])⟩
        rcases Nat.lt_or_ge j i with h | h
        · exact hall j h
        · obtain rfl : j = i := by omega
          simpa using hc2
    · (refine RN ?_; try with_reducible exact trivial)
      rw [decide_eq_true]
      refine List.ext_getElem hl fun j h1 h2 => ?_
      have := hall j (by omega)
      simpa [h1, h2] using this

end Go.Proofs.YtfcbamfkfadabaaGreatDoor
set_option maxRecDepth 100000
namespace Go.Proofs.YtfcbamfkfadabaaGreatDoor
open Go.Gov
open Classical

def revI (xs : List Int) (i : Nat) : List Int := (List.range xs.length).map fun k => if k < i ∨ xs.length - i ≤ k then xs.getD (xs.length - 1 - k) 0 else xs.getD k 0
theorem revI_len (xs : List Int) (i : Nat) : (revI xs i).length = xs.length := by simp [revI]
theorem revI_zero (xs : List Int) : revI xs 0 = xs := by
  refine List.ext_getElem (by simp [revI]) fun j h1 h2 => ?_
  simp only [revI, List.getElem_map, List.getElem_range]
  rw [if_neg (by omega)]
  simp [h2]
theorem revI_end {xs : List Int} {i : Nat} (h : xs.length ≤ 2 * i + 1) : revI xs i = xs.reverse := by
  refine List.ext_getElem (by simp [revI]) fun j h1 h2 => ?_
  simp only [List.length_reverse] at h2
  simp only [revI, List.getElem_map, List.getElem_range, List.getElem_reverse]
  by_cases hc : j < i ∨ xs.length - i ≤ j
  · rw [if_pos hc]; simp [show xs.length - 1 - j < xs.length by omega]
  · rw [if_neg hc]
    have : xs.length - 1 - j = j := by omega
    simp [this, h2]
theorem revI_at {xs : List Int} {i k : Nat} (h1 : i ≤ k) (h2 : k < xs.length - i) : (revI xs i).getD k 0 = xs.getD k 0 := by
  unfold revI
  rw [rmap_at (by omega), if_neg (by omega)]
theorem revI_step {xs : List Int} {i j : Nat} (hj : i + j + 1 = xs.length) (h : i < j) : ((revI xs i).set i (xs.getD j 0)).set j (xs.getD i 0) = revI xs (i + 1) := by
  have e1 : (revI xs i).set i (xs.getD j 0) = (List.range xs.length).map fun k => if k = i then xs.getD j 0 else if k < i ∨ xs.length - i ≤ k then xs.getD (xs.length - 1 - k) 0 else xs.getD k 0 :=
    rmap_set (by simp) fun k hk hne => by simp [hne]
  rw [e1]
  refine rmap_set ?_ fun k hk hne => ?_
  · rw [if_pos (by omega), show xs.length - 1 - j = i by omega]
  · by_cases h2 : k = i
    · subst h2
      rw [if_pos (by omega), if_pos rfl, show xs.length - 1 - k = j by omega]
    · rw [if_neg h2]
      by_cases h3 : k < i ∨ xs.length - i ≤ k
      · rw [if_pos h3, if_pos (by omega)]
      · rw [if_neg h3, if_neg (by omega)]

theorem reverse_c (xs : List Int) (hl : xs.length ≤ 1099511627776) : Wri Tryz.prog 245 [.sl 0 1 0 xs.length] [some (intsC xs)] (.tup []) [some (intsC xs.reverse)] := by
  refine wriV ok245 rfl ?_; unfold c245
  refine RN ?_
  refine V_loop (α := Nat) (S := fun i => ([(0, .sl 0 1 0 xs.length), (2, i64 i), (3, i64 ((xs.length : Int) - 1 - i))], [some (intsC (revI xs i))])) (C := fun i => 2 * i ≤ xs.length + 1) (μ := fun i => xs.length + 1 - i) 0 (by omega) (Ref.to (by rw [revI_zero]) (by simp [sub, fget])) ?_
  intro i hi
  have hlen := revI_len xs i
  refine RN ?_
  refine ⟨fun hc => ?_, fun hc => ?_⟩
  · obtain ⟨j, hj⟩ : ∃ j : Nat, (xs.length : Int) - 1 - i = (j : Int) := ⟨xs.length - 1 - i, by omega⟩
    have a1 := revI_at (xs := xs) (i := i) (k := i) (by omega) (by omega)
    have a2 := revI_at (xs := xs) (i := i) (k := j) (by omega) (by omega)
    have hst := revI_step (xs := xs) (i := i) (j := j) (by omega) (by omega)
    have hji : ((j : Nat) : Int).toNat = j := by omega
    rw [hj] at hc ⊢
    refine RN ?_
    refine V_altsB [(0, .sl 0 1 0 xs.length), (2, i64 i), (3, i64 j)] [some (intsC (revI xs (i + 1)))] ?_ ?_
    · rw [← hst]
      (repeat' first | simp only [go_sem, ↓reduceIte, Nat.reduceEqDiff, Nat.reduceAdd, reduceCtorEq] | with_reducible refine LT_reg ?_ | with_reducible refine LT_regz (by simp only [zAd_load, zAd_loads, zPt_pto, go_sem, ↓reduceIte, Nat.reduceEqDiff, Nat.reduceAdd, reduceCtorEq]) ?_ | with_reducible refine LT_fin ?_ | with_reducible exact LT_tt | with_reducible refine LT_alt ?_ ?_ | (with_reducible refine And.intro ?_ ?_; focus first | assumption | omega | grind))
      all_goals (simp only [a1, a2, hji, go_sem, ↓reduceIte, Nat.reduceEqDiff, Nat.reduceAdd, reduceCtorEq]; exact Ref.frame (by simp [sub, fget]))
    · (refine RN ?_; try with_reducible exact trivial)
      exact ⟨i + 1, by omega, by omega, Ref.frame (by simp [sub, fget]; omega)⟩
  · rw [revI_end (by omega)]
    (repeat  first | simp only [go_sem, ↓reduceIte, Nat.reduceEqDiff, Nat.reduceAdd, reduceCtorEq] | refine RX ?_ | decide)

end Go.Proofs.YtfcbamfkfadabaaGreatDoor
set_option maxRecDepth 100000
namespace Go.Proofs.YtfcbamfkfadabaaGreatDoor
open Go.Gov

end Go.Proofs.YtfcbamfkfadabaaGreatDoor
