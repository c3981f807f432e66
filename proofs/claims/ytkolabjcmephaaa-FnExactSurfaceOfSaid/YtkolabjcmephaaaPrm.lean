/- Permutations, free involutions: the checks of both sides. -/
import Derived.Test.YtkolabjcmephaaaCodeE
import Derived.Test.YtkolabjcmephaaaMrk
set_option linter.unusedSimpArgs false
set_option linter.unusedVariables false
set_option maxRecDepth 100000
namespace Go.Proofs.Ytkolabjcmephaaa
open Go.Gov
open Classical

/-- The first k places are numbers below n, each once. -/
def PrK (p : List Int) (k : Nat) : Prop := ∀ j, j < k → (0 ≤ p.getD j 0 ∧ p.getD j 0 ≤ (p.length : Int) - 1) ∧ ∀ i, i < j → p.getD i 0 ≠ p.getD j 0
def IsPrm (p : List Int) : Prop := p.length ≤ 400 ∧ PrK p p.length
theorem PrK.succ {p : List Int} {k : Nat} (h : PrK p k) (h1 : 0 ≤ p.getD k 0 ∧ p.getD k 0 ≤ (p.length : Int) - 1) (h2 : ∀ i, i < k → p.getD i 0 ≠ p.getD k 0) : PrK p (k + 1) := fun j hj => by
  rcases Nat.lt_or_ge j k with h3 | h3
  · exact h j h3
  · obtain rfl : j = k := by omega
    exact ⟨h1, h2⟩
/-- Which numbers were seen. -/
noncomputable def seenB (p : List Int) (k : Nat) : List Bool := (List.range p.length).map fun (x : Nat) => decide (∃ i, i < k ∧ p.getD i 0 = (x : Int))
theorem seenB_len (p : List Int) (k : Nat) : (seenB p k).length = p.length := by simp [seenB]
theorem seenB_zero (p : List Int) : seenB p 0 = List.replicate p.length false := by
  refine List.ext_getElem (by simp [seenB]) fun j h1 h2 => by simp [seenB]
theorem seenB_at {p : List Int} {k : Nat} {x : Int} (h0 : 0 ≤ x) (h1 : x ≤ (p.length : Int) - 1) : (seenB p k).getD x.toNat false = decide (∃ i, i < k ∧ p.getD i 0 = x) := by
  have h2 : x.toNat < p.length := by omega
  have h3 : ((x.toNat : Nat) : Int) = x := by omega
  rw [List.getD_eq_getElem?_getD, seenB, List.getElem?_map, List.getElem?_range h2]
  simp only [Option.map_some, Option.getD_some, h3]
theorem seenB_set {p : List Int} {k : Nat} (h0 : 0 ≤ p.getD k 0) (h1 : p.getD k 0 ≤ (p.length : Int) - 1) : (seenB p k).set (p.getD k 0).toNat true = seenB p (k + 1) := by
  refine List.ext_getElem (by simp [seenB]) fun j h2 h3 => ?_
  have hj : j < p.length := by simpa [seenB] using h3
  by_cases e : (p.getD k 0).toNat = j
  · subst e
    rw [List.getElem_set_self]
    simp only [seenB, List.getElem_map, List.getElem_range]
    exact (decide_eq_true ⟨k, by omega, by omega⟩).symm
  · rw [List.getElem_set_ne e]
    simp only [seenB, List.getElem_map, List.getElem_range]
    rw [decide_eq_decide]
    constructor
    · rintro ⟨i, hi, h⟩; exact ⟨i, by omega, h⟩
    · rintro ⟨i, hi, h⟩
      rcases Nat.lt_or_ge i k with h4 | h4
      · exact ⟨i, h4, h⟩
      · obtain rfl : i = k := by omega
        omega

theorem isPerm_c (p : List Int) (hl : p.length ≤ 1099511627776) : Pure Try.prog 114 [ints p] (bl (decide (IsPrm p))) [] := by
  refine pureV0 ok114 rfl rfl ?_; unfold c114
  (repeat first | simp only [go_sem, ↓reduceIte, Nat.reduceEqDiff, Nat.reduceAdd, reduceCtorEq] | (with_reducible refine And.intro ?_ ?_; focus first | omega | decide | grind) | (with_reducible refine Br.mk ?_ ?_; focus (intros; omega)) | decide)
  refine ⟨fun hc => ?_, fun hc => ?_⟩
  · (repeat first | simp only [go_sem, ↓reduceIte, Nat.reduceEqDiff, Nat.reduceAdd, reduceCtorEq] | (with_reducible refine And.intro ?_ ?_; focus first | omega | decide | grind) | (with_reducible refine Br.mk ?_ ?_; focus (intros; omega)) | decide)
    rw [decide_eq_false (fun h => by have := h.1; omega)]
  · (repeat first | simp only [go_sem, ↓reduceIte, Nat.reduceEqDiff, Nat.reduceAdd, reduceCtorEq] | (with_reducible refine And.intro ?_ ?_; focus first | omega | decide | grind) | (with_reducible refine Br.mk ?_ ?_; focus (intros; omega)) | decide)
    refine V_loop (α := Nat) (S := fun k => ([(0, ints p), (3, .sl 0 1 0 p.length), (12, ints p), (13, i64 p.length), (14, i64 k)], [some (boolsC (seenB p k))])) (C := fun k => k ≤ p.length ∧ PrK p k) (μ := fun k => p.length - k) 0 ⟨by omega, fun j hj => by omega⟩ (Ref.to (by simp only [seenB_zero]) (by simp [sub, fget])) ?_
    rintro k ⟨hk, hall⟩
    have hsl := seenB_len p k
    (repeat first | simp only [go_sem, ↓reduceIte, Nat.reduceEqDiff, Nat.reduceAdd, reduceCtorEq] | (with_reducible refine And.intro ?_ ?_; focus first | omega | decide | grind) | (with_reducible refine Br.mk ?_ ?_; focus (intros; omega)) | decide)
    refine ⟨fun hc1 => ?_, fun hc1 => ?_⟩
    · have hat := seenB_at (p := p) (k := k) (x := p.getD k 0)
      (repeat first | simp only [go_sem, ↓reduceIte, Nat.reduceEqDiff, Nat.reduceAdd, reduceCtorEq] | (with_reducible refine And.intro ?_ ?_; focus first | omega | decide | grind) | (with_reducible refine Br.mk ?_ ?_; focus (intros; omega)) | decide)
      refine pureC (size_c p hl) (by simp only [go_sem, ↓reduceIte, Nat.reduceEqDiff, Nat.reduceAdd, reduceCtorEq] <;> rfl) (by first | rfl | simp only [go_sem, ↓reduceIte, Nat.reduceEqDiff, Nat.reduceAdd, reduceCtorEq]) ?_
      (repeat first | simp only [go_sem, ↓reduceIte, Nat.reduceEqDiff, Nat.reduceAdd, reduceCtorEq] | (with_reducible refine And.intro ?_ ?_; focus first | omega | decide | grind) | (with_reducible refine Br.mk ?_ ?_; focus (intros; omega)) | decide)
      refine pureC (within_c (p.getD k 0) 0 (p.length - 1)) (by simp only [go_sem, ↓reduceIte, Nat.reduceEqDiff, Nat.reduceAdd, reduceCtorEq] <;> rfl) (by first | rfl | simp only [go_sem, ↓reduceIte, Nat.reduceEqDiff, Nat.reduceAdd, reduceCtorEq]) ?_
      (repeat first | simp only [go_sem, ↓reduceIte, Nat.reduceEqDiff, Nat.reduceAdd, reduceCtorEq] | (with_reducible refine And.intro ?_ ?_; focus first | omega | decide | grind) | (with_reducible refine Br.mk ?_ ?_; focus (intros; omega)) | decide)
      refine ⟨fun hc2 => ?_, fun hc2 => ?_⟩
      · (repeat first | simp only [go_sem, ↓reduceIte, Nat.reduceEqDiff, Nat.reduceAdd, reduceCtorEq] | (with_reducible refine And.intro ?_ ?_; focus first | omega | decide | grind) | (with_reducible refine Br.mk ?_ ?_; focus (intros; omega)) | decide)
        rw [decide_eq_false (fun h => ?_)]
        obtain ⟨⟨b1, b2⟩, b3⟩ := h.2 k (by omega)
        try simp only [go_sem, ↓reduceIte, Nat.reduceEqDiff, Nat.reduceAdd, reduceCtorEq] at hc2
        rcases hc2 with hc2 | hc2
        · omega
        · rw [hat b1 b2] at hc2
          obtain ⟨i, hi, he⟩ := of_decide_eq_true hc2
          exact b3 i hi he
      · have hb : 0 ≤ p.getD k 0 ∧ p.getD k 0 ≤ (p.length : Int) - 1 := by
          try simp only [go_sem, ↓reduceIte, Nat.reduceEqDiff, Nat.reduceAdd, reduceCtorEq] at hc2
          omega
        have hn : ∀ i, i < k → p.getD i 0 ≠ p.getD k 0 := fun i hi he => by
          try simp only [go_sem, ↓reduceIte, Nat.reduceEqDiff, Nat.reduceAdd, reduceCtorEq] at hc2
          have h5 := hc2.2
          rw [hat hb.1 hb.2, decide_eq_true ⟨i, hi, he⟩] at h5
          cases h5
        have hst := seenB_set hb.1 hb.2
        (repeat first | simp only [go_sem, ↓reduceIte, Nat.reduceEqDiff, Nat.reduceAdd, reduceCtorEq] | (with_reducible refine And.intro ?_ ?_; focus first | omega | decide | grind) | (with_reducible refine Br.mk ?_ ?_; focus (intros; omega)) | decide)
        exact ⟨k + 1, ⟨by omega, hall.succ hb hn⟩, by omega, Ref.to (by rw [hst]) (by simp [sub, fget])⟩
    · obtain rfl : k = p.length := by omega
      (repeat first | simp only [go_sem, ↓reduceIte, Nat.reduceEqDiff, Nat.reduceAdd, reduceCtorEq] | (with_reducible refine And.intro ?_ ?_; focus first | omega | decide | grind) | (with_reducible refine Br.mk ?_ ?_; focus (intros; omega)) | decide)
      rw [decide_eq_true (p := IsPrm p) ⟨by omega, hall⟩]

theorem l01Perm_c (p : List Int) (hl : p.length ≤ 1099511627776) : Pure Try.prog 95 [ints p] (bl (decide (IsPrm p))) [] := by
  refine pureV0 ok95 rfl rfl ?_; unfold c95
  (repeat first | simp only [go_sem, ↓reduceIte, Nat.reduceEqDiff, Nat.reduceAdd, reduceCtorEq] | (with_reducible refine And.intro ?_ ?_; focus first | omega | decide | grind) | (with_reducible refine Br.mk ?_ ?_; focus (intros; omega)) | decide)
  refine ⟨fun hc => ?_, fun hc => ?_⟩
  · (repeat first | simp only [go_sem, ↓reduceIte, Nat.reduceEqDiff, Nat.reduceAdd, reduceCtorEq] | (with_reducible refine And.intro ?_ ?_; focus first | omega | decide | grind) | (with_reducible refine Br.mk ?_ ?_; focus (intros; omega)) | decide)
    rw [decide_eq_false (fun h => by have := h.1; omega)]
  · (repeat first | simp only [go_sem, ↓reduceIte, Nat.reduceEqDiff, Nat.reduceAdd, reduceCtorEq] | (with_reducible refine And.intro ?_ ?_; focus first | omega | decide | grind) | (with_reducible refine Br.mk ?_ ?_; focus (intros; omega)) | decide)
    refine V_loop (α := Nat) (S := fun k => ([(0, ints p), (3, .sl 0 1 0 p.length), (4, i64 k)], [some (boolsC (seenB p k))])) (C := fun k => k ≤ p.length ∧ PrK p k) (μ := fun k => p.length - k) 0 ⟨by omega, fun j hj => by omega⟩ (Ref.to (by simp only [seenB_zero]) (by simp [sub, fget])) ?_
    rintro k ⟨hk, hall⟩
    have hsl := seenB_len p k
    (repeat first | simp only [go_sem, ↓reduceIte, Nat.reduceEqDiff, Nat.reduceAdd, reduceCtorEq] | (with_reducible refine And.intro ?_ ?_; focus first | omega | decide | grind) | (with_reducible refine Br.mk ?_ ?_; focus (intros; omega)) | decide)
    refine ⟨fun hc1 => ?_, fun hc1 => ?_⟩
    · have hat := seenB_at (p := p) (k := k) (x := p.getD k 0)
      (repeat first | simp only [go_sem, ↓reduceIte, Nat.reduceEqDiff, Nat.reduceAdd, reduceCtorEq] | (with_reducible refine And.intro ?_ ?_; focus first | omega | decide | grind) | (with_reducible refine Br.mk ?_ ?_; focus (intros; omega)) | decide)
      refine pureC (l01In_c (p.getD k 0) 0 (p.length - 1)) (by simp only [go_sem, ↓reduceIte, Nat.reduceEqDiff, Nat.reduceAdd, reduceCtorEq] <;> rfl) (by first | rfl | simp only [go_sem, ↓reduceIte, Nat.reduceEqDiff, Nat.reduceAdd, reduceCtorEq]) ?_
      (repeat first | simp only [go_sem, ↓reduceIte, Nat.reduceEqDiff, Nat.reduceAdd, reduceCtorEq] | (with_reducible refine And.intro ?_ ?_; focus first | omega | decide | grind) | (with_reducible refine Br.mk ?_ ?_; focus (intros; omega)) | decide)
      refine ⟨fun hc2 => ?_, fun hc2 => ?_⟩
      · (repeat first | simp only [go_sem, ↓reduceIte, Nat.reduceEqDiff, Nat.reduceAdd, reduceCtorEq] | (with_reducible refine And.intro ?_ ?_; focus first | omega | decide | grind) | (with_reducible refine Br.mk ?_ ?_; focus (intros; omega)) | decide)
        rw [decide_eq_false (fun h => ?_)]
        obtain ⟨⟨b1, b2⟩, b3⟩ := h.2 k (by omega)
        try simp only [go_sem, ↓reduceIte, Nat.reduceEqDiff, Nat.reduceAdd, reduceCtorEq] at hc2
        rcases hc2 with hc2 | hc2
        · omega
        · rw [hat b1 b2] at hc2
          obtain ⟨i, hi, he⟩ := of_decide_eq_true hc2
          exact b3 i hi he
      · have hb : 0 ≤ p.getD k 0 ∧ p.getD k 0 ≤ (p.length : Int) - 1 := by
          try simp only [go_sem, ↓reduceIte, Nat.reduceEqDiff, Nat.reduceAdd, reduceCtorEq] at hc2
          omega
        have hn : ∀ i, i < k → p.getD i 0 ≠ p.getD k 0 := fun i hi he => by
          try simp only [go_sem, ↓reduceIte, Nat.reduceEqDiff, Nat.reduceAdd, reduceCtorEq] at hc2
          have h5 := hc2.2
          rw [hat hb.1 hb.2, decide_eq_true ⟨i, hi, he⟩] at h5
          cases h5
        have hst := seenB_set hb.1 hb.2
        (repeat first | simp only [go_sem, ↓reduceIte, Nat.reduceEqDiff, Nat.reduceAdd, reduceCtorEq] | (with_reducible refine And.intro ?_ ?_; focus first | omega | decide | grind) | (with_reducible refine Br.mk ?_ ?_; focus (intros; omega)) | decide)
        exact ⟨k + 1, ⟨by omega, hall.succ hb hn⟩, by omega, Ref.to (by rw [hst]) (by simp [sub, fget])⟩
    · obtain rfl : k = p.length := by omega
      (repeat first | simp only [go_sem, ↓reduceIte, Nat.reduceEqDiff, Nat.reduceAdd, reduceCtorEq] | (with_reducible refine And.intro ?_ ?_; focus first | omega | decide | grind) | (with_reducible refine Br.mk ?_ ?_; focus (intros; omega)) | decide)
      rw [decide_eq_true (p := IsPrm p) ⟨by omega, hall⟩]

/-- No point is led to itself, each one back. -/
def Fr1 (p : List Int) (k : Nat) : Prop := p.getD k 0 ≠ (k : Int) ∧ p.getD (p.getD k 0).toNat 0 = (k : Int)
def IsFre (p : List Int) : Prop := ∀ k, k < p.length → Fr1 p k
theorem IsPrm.at {p : List Int} (h : IsPrm p) {k : Nat} (hk : k < p.length) : 0 ≤ p.getD k 0 ∧ p.getD k 0 ≤ (p.length : Int) - 1 := (h.2 k hk).1

theorem l01Free_c (p : List Int) (hl : p.length ≤ 1099511627776) (hp : IsPrm p) : Pure Try.prog 96 [ints p] (bl (decide (IsFre p))) [] := by
  refine pureV0 ok96 rfl rfl ?_; unfold c96
  (repeat first | simp only [go_sem, ↓reduceIte, Nat.reduceEqDiff, Nat.reduceAdd, reduceCtorEq] | (with_reducible refine And.intro ?_ ?_; focus first | omega | decide | grind) | (with_reducible refine Br.mk ?_ ?_; focus (intros; omega)) | decide)
  refine V_loop (α := Nat) (S := fun k => ([(0, ints p), (3, i64 k)], [])) (C := fun k => k ≤ p.length ∧ ∀ j, j < k → Fr1 p j) (μ := fun k => p.length - k) 0 ⟨by omega, by omega⟩ (by exact Ref.frame (by simp [sub, fget])) ?_
  rintro k ⟨hk, hall⟩
  (repeat first | simp only [go_sem, ↓reduceIte, Nat.reduceEqDiff, Nat.reduceAdd, reduceCtorEq] | (with_reducible refine And.intro ?_ ?_; focus first | omega | decide | grind) | (with_reducible refine Br.mk ?_ ?_; focus (intros; omega)) | decide)
  refine ⟨fun hc1 => ?_, fun hc1 => ?_⟩
  · have hb := hp.at (k := k) (by omega)
    (repeat first | simp only [go_sem, ↓reduceIte, Nat.reduceEqDiff, Nat.reduceAdd, reduceCtorEq] | (with_reducible refine And.intro ?_ ?_; focus first | omega | decide | grind) | (with_reducible refine Br.mk ?_ ?_; focus (intros; omega)) | decide)
    refine ⟨fun hc2 => ?_, fun hc2 => ?_⟩
    · (repeat first | simp only [go_sem, ↓reduceIte, Nat.reduceEqDiff, Nat.reduceAdd, reduceCtorEq] | (with_reducible refine And.intro ?_ ?_; focus first | omega | decide | grind) | (with_reducible refine Br.mk ?_ ?_; focus (intros; omega)) | decide)
      rw [decide_eq_false (fun h => ?_)]
      obtain ⟨b1, b2⟩ := h k (by omega)
      try simp only [go_sem, ↓reduceIte, Nat.reduceEqDiff, Nat.reduceAdd, reduceCtorEq] at hc2
      rcases hc2 with hc2 | hc2
      · exact b1 hc2
      · exact hc2 b2
    · have hcv : Fr1 p k := by
        try simp only [go_sem, ↓reduceIte, Nat.reduceEqDiff, Nat.reduceAdd, reduceCtorEq] at hc2
        exact ⟨hc2.1, hc2.2⟩
      (repeat first | simp only [go_sem, ↓reduceIte, Nat.reduceEqDiff, Nat.reduceAdd, reduceCtorEq] | (with_reducible refine And.intro ?_ ?_; focus first | omega | decide | grind) | (with_reducible refine Br.mk ?_ ?_; focus (intros; omega)) | decide)
      refine ⟨k + 1, ⟨by omega, fun j hj => ?_⟩, by omega, by exact Ref.frame (by simp [sub, fget])⟩
      rcases Nat.lt_or_ge j k with h | h
      · exact hall j h
      · obtain rfl : j = k := by omega
        exact hcv
  · (repeat first | simp only [go_sem, ↓reduceIte, Nat.reduceEqDiff, Nat.reduceAdd, reduceCtorEq] | (with_reducible refine And.intro ?_ ?_; focus first | omega | decide | grind) | (with_reducible refine Br.mk ?_ ?_; focus (intros; omega)) | decide)
    rw [decide_eq_true (p := IsFre p) (fun j hj => hall j (by omega))]

theorem isFreeInv_c (p : List Int) (hl : p.length ≤ 1099511627776) : Pure Try.prog 98 [ints p] (bl (decide (IsPrm p ∧ IsFre p))) [] := by
  refine pureV0 ok98 rfl rfl ?_; unfold c98
  (repeat first | simp only [go_sem, ↓reduceIte, Nat.reduceEqDiff, Nat.reduceAdd, reduceCtorEq] | (with_reducible refine And.intro ?_ ?_; focus first | omega | decide | grind) | (with_reducible refine Br.mk ?_ ?_; focus (intros; omega)) | decide)
  refine pureC (isPerm_c p hl) (by simp only [go_sem, ↓reduceIte, Nat.reduceEqDiff, Nat.reduceAdd, reduceCtorEq] <;> rfl) (by first | rfl | simp only [go_sem, ↓reduceIte, Nat.reduceEqDiff, Nat.reduceAdd, reduceCtorEq]) ?_
  (repeat first | simp only [go_sem, ↓reduceIte, Nat.reduceEqDiff, Nat.reduceAdd, reduceCtorEq] | (with_reducible refine And.intro ?_ ?_; focus first | omega | decide | grind) | (with_reducible refine Br.mk ?_ ?_; focus (intros; omega)) | decide)
  refine ⟨fun hc => ?_, fun hc => ?_⟩
  · (repeat first | simp only [go_sem, ↓reduceIte, Nat.reduceEqDiff, Nat.reduceAdd, reduceCtorEq] | (with_reducible refine And.intro ?_ ?_; focus first | omega | decide | grind) | (with_reducible refine Br.mk ?_ ?_; focus (intros; omega)) | decide)
    rw [decide_eq_false (fun h => ?_)]
    exact hc h.1
  · have hp : IsPrm p := by first | exact hc | simpa using hc
    (repeat first | simp only [go_sem, ↓reduceIte, Nat.reduceEqDiff, Nat.reduceAdd, reduceCtorEq] | (with_reducible refine And.intro ?_ ?_; focus first | omega | decide | grind) | (with_reducible refine Br.mk ?_ ?_; focus (intros; omega)) | decide)
    refine V_loop (α := Nat) (S := fun k => ([(0, ints p), (8, ints p), (9, i64 p.length), (10, i64 k)], [])) (C := fun k => k ≤ p.length ∧ ∀ j, j < k → Fr1 p j) (μ := fun k => p.length - k) 0 ⟨by omega, by omega⟩ (by exact Ref.frame (by simp [sub, fget])) ?_
    rintro k ⟨hk, hall⟩
    (repeat first | simp only [go_sem, ↓reduceIte, Nat.reduceEqDiff, Nat.reduceAdd, reduceCtorEq] | (with_reducible refine And.intro ?_ ?_; focus first | omega | decide | grind) | (with_reducible refine Br.mk ?_ ?_; focus (intros; omega)) | decide)
    refine ⟨fun hc1 => ?_, fun hc1 => ?_⟩
    · have hb := hp.at (k := k) (by omega)
      (repeat first | simp only [go_sem, ↓reduceIte, Nat.reduceEqDiff, Nat.reduceAdd, reduceCtorEq] | (with_reducible refine And.intro ?_ ?_; focus first | omega | decide | grind) | (with_reducible refine Br.mk ?_ ?_; focus (intros; omega)) | decide)
      refine ⟨fun hc2 => ?_, fun hc2 => ?_⟩
      · (repeat first | simp only [go_sem, ↓reduceIte, Nat.reduceEqDiff, Nat.reduceAdd, reduceCtorEq] | (with_reducible refine And.intro ?_ ?_; focus first | omega | decide | grind) | (with_reducible refine Br.mk ?_ ?_; focus (intros; omega)) | decide)
        rw [decide_eq_false (fun h => ?_)]
        obtain ⟨b1, b2⟩ := h.2 k (by omega)
        try simp only [go_sem, ↓reduceIte, Nat.reduceEqDiff, Nat.reduceAdd, reduceCtorEq] at hc2
        rcases hc2 with hc2 | hc2
        · exact b1 hc2
        · exact hc2 b2
      · have hcv : Fr1 p k := by
          try simp only [go_sem, ↓reduceIte, Nat.reduceEqDiff, Nat.reduceAdd, reduceCtorEq] at hc2
          exact ⟨hc2.1, hc2.2⟩
        (repeat first | simp only [go_sem, ↓reduceIte, Nat.reduceEqDiff, Nat.reduceAdd, reduceCtorEq] | (with_reducible refine And.intro ?_ ?_; focus first | omega | decide | grind) | (with_reducible refine Br.mk ?_ ?_; focus (intros; omega)) | decide)
        refine ⟨k + 1, ⟨by omega, fun j hj => ?_⟩, by omega, by exact Ref.frame (by simp [sub, fget])⟩
        rcases Nat.lt_or_ge j k with h | h
        · exact hall j h
        · obtain rfl : j = k := by omega
          exact hcv
    · (repeat first | simp only [go_sem, ↓reduceIte, Nat.reduceEqDiff, Nat.reduceAdd, reduceCtorEq] | (with_reducible refine And.intro ?_ ?_; focus first | omega | decide | grind) | (with_reducible refine Br.mk ?_ ?_; focus (intros; omega)) | decide)
      rw [decide_eq_true (p := IsPrm p ∧ IsFre p) ⟨hp, fun j hj => hall j (by omega)⟩]

end Go.Proofs.Ytkolabjcmephaaa
