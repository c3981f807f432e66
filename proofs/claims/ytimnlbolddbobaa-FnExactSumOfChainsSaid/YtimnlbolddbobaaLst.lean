/- Strictly sorted lists of numbers: the odd ones of a list, the sum of two, both told by parity. No program in sight. -/
import Derived.KernelRfl
set_option linter.unusedSimpArgs false
set_option linter.unusedVariables false
namespace Go.Proofs.Ytimnlbolddbobaa
open Classical

def sst (xs : List Int) : Prop := xs.Pairwise (· < ·)

theorem sst_ext : ∀ {a b : List Int}, sst a → sst b → (∀ e, e ∈ a ↔ e ∈ b) → a = b
  | [], [], _, _, _ => rfl
  | [], y :: b, _, _, h => by have := (h y).2 (by simp); simp at this
  | x :: a, [], _, _, h => by have := (h x).1 (by simp); simp at this
  | x :: a, y :: b, ha, hb, h => by
    obtain ⟨ha1, ha2⟩ := List.pairwise_cons.1 ha
    obtain ⟨hb1, hb2⟩ := List.pairwise_cons.1 hb
    have hxy : x = y := by
      have h1 := (h x).1 (by simp)
      have h2 := (h y).2 (by simp)
      rcases List.mem_cons.1 h1 with h1 | h1
      · exact h1
      · rcases List.mem_cons.1 h2 with h2 | h2
        · exact h2.symm
        · have := hb1 x h1; have := ha1 y h2; omega
    subst hxy
    rw [sst_ext ha2 hb2 fun e => ?_]
    constructor
    · intro he
      have := (h e).1 (List.mem_cons_of_mem _ he)
      rcases List.mem_cons.1 this with h1 | h1
      · subst h1; have := ha1 e he; omega
      · exact h1
    · intro he
      have := (h e).2 (List.mem_cons_of_mem _ he)
      rcases List.mem_cons.1 this with h1 | h1
      · subst h1; have := hb1 e he; omega
      · exact h1

theorem sst_count : ∀ {a : List Int} (e : Int), sst a → a.count e = if e ∈ a then 1 else 0
  | [], e, _ => by simp
  | x :: a, e, h => by
    obtain ⟨h1, h2⟩ := List.pairwise_cons.1 h
    rw [List.count_cons, sst_count e h2]
    by_cases hx : x = e
    · subst hx
      have : x ∉ a := fun hm => by have := h1 x hm; omega
      simp [this]
    · simp [hx, show ¬ e = x by omega]

def push (out : List Int) (e : Int) : List Int := if out.getLast? = some e then out.dropLast else out ++ [e]
def srtL (xs : List Int) : List Int := xs.mergeSort fun x y => decide (x ≤ y)
def odd (xs : List Int) : List Int := (srtL xs).foldl push []

theorem push_all : ∀ (l out : List Int), sst out → l.Pairwise (· ≤ ·) → (∀ a ∈ out, ∀ b ∈ l, a ≤ b) →
    sst (l.foldl push out) ∧ ∀ e, e ∈ l.foldl push out ↔ ((if e ∈ out then 1 else 0) + l.count e) % 2 = 1
  | [], out, h, _, _ => ⟨h, fun e => by by_cases he : e ∈ out <;> simp [he]⟩
  | x :: l, out, h, hl, hle => by
    obtain ⟨hl1, hl2⟩ := List.pairwise_cons.1 hl
    rw [List.foldl_cons]
    by_cases hx : out.getLast? = some x
    · obtain ⟨o, rfl⟩ : ∃ o, out = o ++ [x] := by
        have hne : out ≠ [] := by intro h0; rw [h0] at hx; simp at hx
        refine ⟨out.dropLast, ?_⟩
        have : out.getLast hne = x := by rw [List.getLast?_eq_some_getLast hne] at hx; exact Option.some.inj hx
        rw [← this, List.dropLast_concat_getLast]
      have hp : push (o ++ [x]) x = o := by simp [push]
      rw [hp]
      obtain ⟨h1, h2, h3⟩ := List.pairwise_append.1 h
      obtain ⟨k1, k2⟩ := push_all l o h1 hl2 fun a ha b hb => hle a (by simp [ha]) b (by simp [hb])
      refine ⟨k1, fun e => ?_⟩
      rw [k2 e, List.count_cons]
      have hxo : x ∉ o := fun hm => by have := h3 x hm x (by simp); omega
      by_cases he : x = e
      · subst he
        simp [hxo]; omega
      · simp [he, show ¬ e = x by omega]
    · have hp : push out x = out ++ [x] := by simp [push, hx]
      rw [hp]
      have hlt : ∀ a ∈ out, a < x := fun a ha => by
        have h1 := hle a ha x (by simp)
        rcases Int.lt_or_eq_of_le h1 with h2 | rfl
        · exact h2
        · exfalso
          apply hx
          have hne : out ≠ [] := by intro h0; rw [h0] at ha; simp at ha
          rw [List.getLast?_eq_some_getLast hne]
          congr 1
          obtain ⟨o, y, rfl⟩ : ∃ o y, out = o ++ [y] := ⟨out.dropLast, out.getLast hne, (List.dropLast_concat_getLast hne).symm⟩
          simp only [List.getLast_append, List.getLast_singleton]
          have h4 := hle y (by simp) a (by simp)
          rcases List.mem_append.1 ha with hm | hm
          · have := (List.pairwise_append.1 h).2.2 a hm y (by simp); omega
          · simp at hm; exact hm.symm
      have hno : x ∉ out := fun hm => by have := hlt x hm; omega
      have hs : sst (out ++ [x]) := List.pairwise_append.2 ⟨h, by simp, fun a ha b hb => by simp at hb; subst hb; exact hlt a ha⟩
      obtain ⟨k1, k2⟩ := push_all l (out ++ [x]) hs hl2 fun a ha b hb => by
        rcases List.mem_append.1 ha with hm | hm
        · exact hle a hm b (by simp [hb])
        · simp at hm; subst hm; exact hl1 b hb
      refine ⟨k1, fun e => ?_⟩
      rw [k2 e, List.count_cons]
      by_cases he : x = e
      · subst he
        simp [hno]; omega
      · simp [he, show ¬ e = x by omega]

theorem srtL_perm (xs : List Int) : (srtL xs).Perm xs := List.mergeSort_perm xs _
theorem srtL_le (xs : List Int) : (srtL xs).Pairwise (· ≤ ·) := by
  have := List.pairwise_mergeSort (le := fun x y : Int => decide (x ≤ y)) (fun a b c h1 h2 => by simp at *; omega) (fun a b => by simp; omega) xs
  exact this.imp fun h => by simpa using h
theorem odd_ok (xs : List Int) : sst (odd xs) ∧ ∀ e, e ∈ odd xs ↔ xs.count e % 2 = 1 := by
  obtain ⟨h1, h2⟩ := push_all (srtL xs) [] List.Pairwise.nil (srtL_le xs) (by simp)
  refine ⟨h1, fun e => ?_⟩
  have := h2 e
  rw [(srtL_perm xs).count_eq] at this
  simpa [odd] using this

def sumL : List Int → List Int → List Int
  | [], b => b
  | x :: a, [] => x :: a
  | x :: a, y :: b => if x < y then x :: sumL a (y :: b) else if y < x then y :: sumL (x :: a) b else sumL a b
theorem sumL_nil (a : List Int) : sumL a [] = a := by cases a <;> simp [sumL]

theorem sumL_ok : ∀ (a b : List Int), sst a → sst b → sst (sumL a b) ∧ ∀ e, e ∈ sumL a b ↔ (a.count e + b.count e) % 2 = 1
  | [], b, _, hb => ⟨by simpa [sumL] using hb, fun e => by rw [sumL, sst_count e hb]; by_cases h : e ∈ b <;> simp [h]⟩
  | x :: a, [], ha, _ => ⟨by simpa [sumL] using ha, fun e => by rw [sumL, sst_count e ha]; by_cases h : e ∈ x :: a <;> simp [h]⟩
  | x :: a, y :: b, ha, hb => by
    obtain ⟨ha1, ha2⟩ := List.pairwise_cons.1 ha
    obtain ⟨hb1, hb2⟩ := List.pairwise_cons.1 hb
    have pos : ∀ (l : List Int) (e : Int), l.count e ≠ 0 → e ∈ l := fun l e h => by
      rcases Nat.eq_zero_or_pos (l.count e) with h0 | h0
      · exact absurd h0 h
      · exact List.count_pos_iff.1 h0
    unfold sumL
    by_cases h1 : x < y
    · rw [if_pos h1]
      obtain ⟨k1, k2⟩ := sumL_ok a (y :: b) ha2 hb
      have hgt : ∀ z ∈ sumL a (y :: b), x < z := fun z hz => by
        have := (k2 z).1 hz
        by_cases hza : z ∈ a
        · exact ha1 z hza
        · have h0 : a.count z = 0 := List.count_eq_zero.2 hza
          have : z ∈ y :: b := pos _ _ (by omega)
          rcases List.mem_cons.1 this with rfl | h2
          · exact h1
          · have := hb1 z h2; omega
      refine ⟨List.pairwise_cons.2 ⟨hgt, k1⟩, fun e => ?_⟩
      rw [List.mem_cons, k2 e, List.count_cons (a := e) (b := x)]
      by_cases he : x = e
      · subst he
        have h2 : a.count x = 0 := List.count_eq_zero.2 fun hm => by have := ha1 x hm; omega
        have h3 : (y :: b).count x = 0 := List.count_eq_zero.2 fun hm => by
          rcases List.mem_cons.1 hm with h4 | h4
          · omega
          · have := hb1 x h4; omega
        simp [h2, h3]
      · simp [he, show ¬ e = x by omega]
    · rw [if_neg h1]
      by_cases h2 : y < x
      · rw [if_pos h2]
        obtain ⟨k1, k2⟩ := sumL_ok (x :: a) b ha hb2
        have hgt : ∀ z ∈ sumL (x :: a) b, y < z := fun z hz => by
          have := (k2 z).1 hz
          by_cases hzb : z ∈ b
          · exact hb1 z hzb
          · have h0 : b.count z = 0 := List.count_eq_zero.2 hzb
            have : z ∈ x :: a := pos _ _ (by omega)
            rcases List.mem_cons.1 this with rfl | h3
            · exact h2
            · have := ha1 z h3; omega
        refine ⟨List.pairwise_cons.2 ⟨hgt, k1⟩, fun e => ?_⟩
        rw [List.mem_cons, k2 e, List.count_cons (a := e) (b := y)]
        by_cases he : y = e
        · subst he
          have h3 : b.count y = 0 := List.count_eq_zero.2 fun hm => by have := hb1 y hm; omega
          have h4 : (x :: a).count y = 0 := List.count_eq_zero.2 fun hm => by
            rcases List.mem_cons.1 hm with h5 | h5
            · omega
            · have := ha1 y h5; omega
          simp [h3, h4]
        · simp [he, show ¬ e = y by omega]
      · rw [if_neg h2]
        have : x = y := by omega
        subst this
        obtain ⟨k1, k2⟩ := sumL_ok a b ha2 hb2
        refine ⟨k1, fun e => ?_⟩
        rw [k2 e, List.count_cons, List.count_cons]
        by_cases he : x = e <;> simp [he]; omega
termination_by a b => a.length + b.length

theorem odd_sum {a b : List Int} (ha : sst a) (hb : sst b) : odd (a ++ b) = sumL a b := by
  obtain ⟨h1, h2⟩ := odd_ok (a ++ b)
  obtain ⟨h3, h4⟩ := sumL_ok a b ha hb
  exact sst_ext h1 h3 fun e => by rw [h2, h4, List.count_append]

theorem sums_ok : ∀ (ls : List (List Int)) (acc : List Int), sst acc → (∀ l ∈ ls, sst l) → sst (ls.foldl sumL acc) ∧ ∀ e, e ∈ ls.foldl sumL acc ↔ (acc.count e + ls.flatten.count e) % 2 = 1
  | [], acc, h, _ => ⟨h, fun e => by rw [List.foldl_nil, sst_count e h]; by_cases he : e ∈ acc <;> simp [he]⟩
  | l :: ls, acc, h, hl => by
    obtain ⟨h1, h2⟩ := sumL_ok acc l h (hl l (by simp))
    obtain ⟨k1, k2⟩ := sums_ok ls (sumL acc l) h1 fun x hx => hl x (by simp [hx])
    refine ⟨k1, fun e => ?_⟩
    rw [List.foldl_cons, k2 e, sst_count e h1, List.flatten_cons, List.count_append]
    by_cases he : e ∈ sumL acc l
    · have := (h2 e).1 he; simp [he]; omega
    · have : ¬ (acc.count e + l.count e) % 2 = 1 := fun h => he ((h2 e).2 h)
      simp [he]; omega

theorem odd_sums {ls : List (List Int)} (h : ∀ l ∈ ls, sst l) : odd ls.flatten = ls.foldl sumL [] := by
  obtain ⟨h1, h2⟩ := odd_ok ls.flatten
  obtain ⟨h3, h4⟩ := sums_ok ls [] List.Pairwise.nil h
  exact sst_ext h1 h3 fun e => by rw [h2, h4]; simp

theorem push_len (out : List Int) (e : Int) : (push out e).length ≤ out.length + 1 := by
  unfold push; split <;> simp <;> omega
theorem pushes_len : ∀ (l out : List Int), (l.foldl push out).length ≤ out.length + l.length
  | [], out => by simp
  | e :: l, out => by
    have := pushes_len l (push out e)
    have := push_len out e
    simp only [List.foldl_cons, List.length_cons]; omega
theorem srtL_len (xs : List Int) : (srtL xs).length = xs.length := (srtL_perm xs).length_eq
theorem odd_len (xs : List Int) : (odd xs).length ≤ xs.length := by
  have := pushes_len (srtL xs) []
  rw [srtL_len] at this
  simpa [odd] using this
theorem sumL_len : ∀ (a b : List Int), (sumL a b).length ≤ a.length + b.length
  | [], b => by simp [sumL]
  | x :: a, [] => by simp [sumL]
  | x :: a, y :: b => by
    unfold sumL
    split
    · have := sumL_len a (y :: b); simp at *; omega
    · split
      · have := sumL_len (x :: a) b; simp at *; omega
      · have := sumL_len a b; simp at *; omega
termination_by a b => a.length + b.length

theorem sst_of_lt {xs : List Int} (h : ∀ j, j + 1 < xs.length → xs.getD j 0 < xs.getD (j + 1) 0) : sst xs := by
  unfold sst
  rw [List.pairwise_iff_getElem]
  intro i j hi hj hij
  induction j with
  | zero => omega
  | succ j ih =>
    have h1 := h j (by omega)
    simp only [List.getD_eq_getElem?_getD, List.getElem?_eq_getElem hj, List.getElem?_eq_getElem (show j < xs.length by omega), Option.getD_some] at h1
    rcases Nat.lt_or_ge i j with h2 | h2
    · have := ih (by omega) h2; omega
    · obtain rfl : i = j := by omega
      exact h1
theorem lt_of_sst {xs : List Int} (h : sst xs) : ∀ j, j + 1 < xs.length → xs.getD j 0 < xs.getD (j + 1) 0 := fun j hj => by
  have := List.pairwise_iff_getElem.1 h j (j + 1) (by omega) hj (by omega)
  simpa [hj, show j < xs.length by omega] using this

end Go.Proofs.Ytimnlbolddbobaa
