/- Orbits of involutions: who is led to whom; the numbers of the orbits. No program in sight. -/
import Derived.KernelRfl
set_option linter.unusedSimpArgs false
set_option linter.unusedVariables false
set_option maxRecDepth 100000
namespace Go.Proofs.Ytkolabjcmephaaa
open Classical

/-- The moves: involutions of the points below n. -/
def MvOk (n : Nat) (L : List (List Int)) : Prop := ∀ p ∈ L, p.length = n ∧ ∀ x, x < n → 0 ≤ p.getD x 0 ∧ p.getD x 0 < n ∧ p.getD (p.getD x 0).toNat 0 = x

inductive Rch (L : List (List Int)) (x : Nat) : Nat → Prop
  | refl : Rch L x x
  | step {y : Nat} {p : List Int} : Rch L x y → p ∈ L → Rch L x (p.getD y 0).toNat

theorem Rch.trans {L : List (List Int)} {x y z : Nat} (h : Rch L x y) (k : Rch L y z) : Rch L x z := by
  induction k with
  | refl => exact h
  | step _ hp ih => exact ih.step hp
theorem Rch.lt {n : Nat} {L : List (List Int)} (hL : MvOk n L) {x y : Nat} (h : Rch L x y) (hx : x < n) : y < n := by
  induction h with
  | refl => exact hx
  | step _ hp ih => have := (hL _ hp).2 _ ih; omega
theorem Rch.symm {n : Nat} {L : List (List Int)} (hL : MvOk n L) {x y : Nat} (h : Rch L x y) (hx : x < n) : Rch L y x := by
  induction h with
  | refl => exact .refl
  | step h1 hp ih =>
    rename_i y p
    have hy := h1.lt hL hx
    obtain ⟨_, h2⟩ := hL _ hp
    obtain ⟨h3, h4, h5⟩ := h2 y hy
    have hb : Rch L (p.getD y 0).toNat (p.getD (p.getD y 0).toNat 0).toNat := Rch.refl.step hp
    rw [h5] at hb
    exact Rch.trans (by simpa using hb) ih

/-- The least point of an orbit. -/
noncomputable def fst (L : List (List Int)) (x : Nat) : Nat := ((List.range (x + 1)).find? fun y => decide (Rch L y x)).getD x
theorem find_least : ∀ (n : Nat) (p : Nat → Bool) (y : Nat), (List.range n).find? p = some y ↔ (y < n ∧ p y = true ∧ ∀ z, z < y → p z = false)
  | 0, p, y => by simp
  | n + 1, p, y => by
    rw [List.range_succ, List.find?_append]
    cases h : (List.range n).find? p with
    | some z =>
      have hz := (find_least n p z).1 h
      simp only [Option.some_or, Option.some.injEq]
      constructor
      · rintro rfl; exact ⟨by omega, hz.2⟩
      · rintro ⟨h1, h2, h3⟩
        rcases Nat.lt_trichotomy z y with h4 | h4 | h4
        · have := h3 z h4; rw [hz.2.1] at this; cases this
        · exact h4
        · have := hz.2.2 y h4; rw [h2] at this; cases this
    | none =>
      have hno : ∀ z, z < n → p z = false := fun z hz => by
        have := List.find?_eq_none.1 h z (List.mem_range.2 hz)
        simpa using this
      simp only [Option.none_or]
      constructor
      · intro h1
        have h2 : y = n ∧ p n = true := by
          by_cases hp : p n = true
          · simp [hp] at h1; exact ⟨h1.symm, hp⟩
          · simp [hp] at h1
        obtain ⟨rfl, h3⟩ := h2
        exact ⟨by omega, h3, hno⟩
      · rintro ⟨h1, h2, h3⟩
        have : y = n := by
          rcases Nat.lt_or_ge y n with h4 | h4
          · have := hno y h4; rw [h2] at this; cases this
          · omega
        subst this
        simp [h2]
theorem fst_spec (L : List (List Int)) (x : Nat) : fst L x ≤ x ∧ Rch L (fst L x) x ∧ ∀ z, z < fst L x → ¬ Rch L z x := by
  unfold fst
  cases h : (List.range (x + 1)).find? fun y => decide (Rch L y x) with
  | some y =>
    obtain ⟨h1, h2, h3⟩ := (find_least _ _ _).1 h
    exact ⟨by simp; omega, by simpa using h2, fun z hz => by have := h3 z (by simpa using hz); simpa using this⟩
  | none =>
    have := List.find?_eq_none.1 h x (by simp)
    simp only [decide_eq_true_eq] at this
    exact absurd Rch.refl this
theorem fst_eq {n : Nat} {L : List (List Int)} (hL : MvOk n L) {x y : Nat} (h : Rch L x y) (hx : x < n) : fst L x = fst L y := by
  have hy := h.lt hL hx
  obtain ⟨a1, a2, a3⟩ := fst_spec L x
  obtain ⟨b1, b2, b3⟩ := fst_spec L y
  rcases Nat.lt_trichotomy (fst L x) (fst L y) with h1 | h1 | h1
  · exact absurd (a2.trans h) (b3 _ h1)
  · exact h1
  · exact absurd (b2.trans (h.symm hL hx)) (a3 _ h1)
theorem fst_fst {n : Nat} {L : List (List Int)} (hL : MvOk n L) {x : Nat} (hx : x < n) : fst L (fst L x) = fst L x := by
  obtain ⟨a1, a2, _⟩ := fst_spec L x
  exact fst_eq hL a2 (by omega)
theorem rch_fst {n : Nat} {L : List (List Int)} (hL : MvOk n L) {i j : Nat} (hi : i < n) (hj : j < n) (hf : fst L i = i) : Rch L i j ↔ fst L j = i := by
  constructor
  · intro h; rw [← fst_eq hL h hi, hf]
  · intro h
    have := (fst_spec L j).2.1
    rwa [h] at this

/-- How many orbits begin below k. -/
noncomputable def ncnt (L : List (List Int)) (k : Nat) : Nat := (List.range k).countP fun m => decide (fst L m = m)
theorem ncnt_succ (L : List (List Int)) (k : Nat) : ncnt L (k + 1) = ncnt L k + if fst L k = k then 1 else 0 := by
  unfold ncnt
  rw [List.range_succ, List.countP_append]
  by_cases h : fst L k = k <;> simp [h]
theorem ncnt_le (L : List (List Int)) (k : Nat) : ncnt L k ≤ k := by
  have := List.countP_le_length (p := fun m => decide (fst L m = m)) (l := List.range k)
  simpa [ncnt] using this
theorem ncnt_mono (L : List (List Int)) {a b : Nat} (h : a ≤ b) : ncnt L a ≤ ncnt L b := by
  induction b with
  | zero => have : a = 0 := by omega
            subst this; exact Nat.le_refl _
  | succ b ih =>
    rcases Nat.lt_or_ge b a with h1 | h1
    · have : a = b + 1 := by omega
      subst this; exact Nat.le_refl _
    · rw [ncnt_succ]; have := ih h1; omega
noncomputable def lab (L : List (List Int)) (x : Nat) : Nat := ncnt L (fst L x)
noncomputable def labs (n : Nat) (L : List (List Int)) : List Int := (List.range n).map fun x => ((lab L x : Nat) : Int)
theorem lab_lt {n : Nat} {L : List (List Int)} (hL : MvOk n L) {x : Nat} (hx : x < n) : lab L x < ncnt L n := by
  have h1 := (fst_spec L x).1
  have h2 := ncnt_succ L (fst L x)
  rw [if_pos (fst_fst hL hx)] at h2
  have h3 := ncnt_mono L (show fst L x + 1 ≤ n by omega)
  unfold lab; omega

/-- The labels while the orbit of i is being walked: V are its points that have been met. -/
noncomputable def lbV (n : Nat) (L : List (List Int)) (i : Nat) (V : List Nat) : List Int := (List.range n).map fun j => if fst L j < i then ((lab L j : Nat) : Int) else if j ∈ V then (ncnt L i : Nat) else -1
theorem lbV_len (n : Nat) (L : List (List Int)) (i : Nat) (V : List Nat) : (lbV n L i V).length = n := by simp [lbV]
theorem lbV_at {n : Nat} {L : List (List Int)} {i : Nat} {V : List Nat} {j : Nat} (hj : j < n) : (lbV n L i V).getD j 0 = if fst L j < i then ((lab L j : Nat) : Int) else if j ∈ V then (ncnt L i : Nat) else -1 := by
  simp [lbV, hj]
theorem lbV_set {n : Nat} {L : List (List Int)} {i : Nat} {V : List Nat} {j : Nat} (hj : j < n) (hf : ¬ fst L j < i) : (lbV n L i V).set j (ncnt L i : Nat) = lbV n L i (V ++ [j]) := by
  refine List.ext_getElem (by simp [lbV]) fun k h1 h2 => ?_
  by_cases e : j = k
  · subst e
    simp [lbV, hf]
  · rw [List.getElem_set_ne e]
    simp [lbV, show ¬ k = j from fun h => e h.symm]
theorem lbV_start (n : Nat) (L : List (List Int)) : lbV n L 0 [] = List.replicate n (-1) := by
  refine List.ext_getElem (by simp [lbV]) fun k h1 h2 => ?_
  simp [lbV]
/-- An orbit that was met before: nothing is new. -/
theorem lbV_old {n : Nat} {L : List (List Int)} {i : Nat} (hL : MvOk n L) (h : fst L i ≠ i) : lbV n L i [] = lbV n L (i + 1) [] := by
  unfold lbV
  refine List.map_congr_left fun j hj => ?_
  have hj := List.mem_range.1 hj
  have hne : fst L j ≠ i := fun e => h (by have := fst_fst hL hj; rw [e] at this; exact this)
  by_cases h1 : fst L j < i
  · rw [if_pos h1, if_pos (by omega)]
  · simp only [List.not_mem_nil, if_false]
    rw [if_neg h1, if_neg (by omega)]
/-- An orbit that has been walked whole. -/
theorem lbV_new {n : Nat} {L : List (List Int)} {i : Nat} {V : List Nat} (hL : MvOk n L) (hi : i < n) (h : fst L i = i) (hV : ∀ j, j ∈ V ↔ Rch L i j) : lbV n L i V = lbV n L (i + 1) [] := by
  unfold lbV
  refine List.map_congr_left fun j hj => ?_
  have hj := List.mem_range.1 hj
  by_cases h1 : fst L j < i
  · rw [if_pos h1, if_pos (by omega)]
  · rw [if_neg h1]
    by_cases h2 : fst L j = i
    · rw [if_pos ((hV j).2 ((rch_fst hL hi hj h).2 h2)), if_pos (by omega)]
      unfold lab; rw [h2]
    · rw [if_neg (fun hm => h2 ((rch_fst hL hi hj h).1 ((hV j).1 hm))), if_neg (by omega)]
      simp
theorem lbV_end (n : Nat) (L : List (List Int)) : lbV n L n [] = labs n L := by
  unfold lbV labs
  refine List.map_congr_left fun j hj => ?_
  have := (fst_spec L j).1
  rw [if_pos (by have := List.mem_range.1 hj; omega)]
theorem ncnt_new {L : List (List Int)} {i : Nat} (h : fst L i = i) : ncnt L (i + 1) = ncnt L i + 1 := by rw [ncnt_succ, if_pos h]
theorem ncnt_old {L : List (List Int)} {i : Nat} (h : fst L i ≠ i) : ncnt L (i + 1) = ncnt L i := by rw [ncnt_succ, if_neg h]; rfl

/-- A set of points that is closed and holds i holds its orbit. -/
theorem closed_all {L : List (List Int)} {i : Nat} {V : List Nat} (h0 : i ∈ V) (hc : ∀ x ∈ V, ∀ p ∈ L, (p.getD x 0).toNat ∈ V) : ∀ j, Rch L i j → j ∈ V := fun j h => by
  induction h with
  | refl => exact h0
  | step _ hp ih => exact hc _ ih _ hp
theorem nodup_len : ∀ {n : Nat} {V : List Nat}, V.Nodup → (∀ x ∈ V, x < n) → V.length ≤ n
  | 0, V, _, hV => by
    cases V with
    | nil => simp
    | cons x V => have := hV x (by simp); omega
  | n + 1, V, hn, hV => by
    have h1 := nodup_len (n := n) (V := V.erase n) (hn.erase n) fun x hx => by
      have := (hn.mem_erase_iff).1 hx
      have := hV x this.2
      omega
    rw [List.length_erase] at h1
    split at h1 <;> omega

end Go.Proofs.Ytkolabjcmephaaa
