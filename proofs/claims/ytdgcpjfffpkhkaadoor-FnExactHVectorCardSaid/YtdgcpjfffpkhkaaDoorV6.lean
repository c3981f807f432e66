/- Texts that belong together. -/
import Derived.Test.YtdgcpjfffpkhkaaDoorZj
import Derived.Test.YtdgcpjfffpkhkaaDoorV5
set_option linter.unusedSimpArgs false
set_option linter.unusedVariables false
set_option maxRecDepth 100000
namespace Go.Proofs.YtdgcpjfffpkhkaaDoor
open Go.Gov

def chN (n : Nat) : Nat → Nat
  | 0 => 1
  | k + 1 => chN n k * (n - k) / (k + 1)
theorem chN_b : ∀ n, n < 7 → ∀ i, i < 7 → chN n i ≤ 20 ∧ chN n i * (n - i) ≤ 120 := by decide
/-- One number added at a place. -/
def upd (h : List Int) (j : Nat) (t : Int) : List Int := h.set j (h.getD j 0 + t)
theorem upd_len (h : List Int) (j : Nat) (t : Int) : (upd h j t).length = h.length := by simp [upd]
theorem upd_b {h : List Int} {j : Nat} {t B C : Int} (hh : ∀ i, -B ≤ h.getD i 0 ∧ h.getD i 0 ≤ B) (ht : -C ≤ t ∧ t ≤ C) (h0 : 0 ≤ C) : ∀ i, -(B + C) ≤ (upd h j t).getD i 0 ∧ (upd h j t).getD i 0 ≤ B + C := fun i => by
  have h1 := hh i
  have h2 := hh j
  unfold upd
  rw [List.getD_eq_getElem?_getD, List.getElem?_set]
  rw [List.getD_eq_getElem?_getD] at h1
  split
  · split
    · simp only [Option.getD_some]; omega
    · simp only [Option.getD_none]; omega
  · omega
def term (f : List Int) (d k i : Nat) : Int := if i % 2 = 1 then -(f.getD k 0 * (chN (d - k) i : Int)) else f.getD k 0 * (chN (d - k) i : Int)
/-- The first i terms of the entry k added. -/
def hJ (f : List Int) (d k : Nat) (h : List Int) : Nat → List Int
  | 0 => h
  | i + 1 => upd (hJ f d k h i) (k + i) (term f d k i)
/-- The first k entries' terms. -/
def hK (f : List Int) (d : Nat) : Nat → List Int
  | 0 => List.replicate (d + 1) 0
  | k + 1 => hJ f d k (hK f d k) (d - k + 1)
theorem hJ_len (f : List Int) (d k : Nat) (h : List Int) : ∀ i, (hJ f d k h i).length = h.length
  | 0 => rfl
  | i + 1 => by rw [hJ, upd_len, hJ_len f d k h i]
theorem hK_len (f : List Int) (d : Nat) : ∀ k, (hK f d k).length = d + 1
  | 0 => by simp [hK]
  | k + 1 => by rw [hK, hJ_len, hK_len f d k]
theorem mul_b {x : Int} {c : Nat} (hx : 0 ≤ x ∧ x ≤ 30000) (hc : c ≤ 20) : 0 ≤ x * (c : Int) ∧ x * (c : Int) ≤ 600000 := by
  have h1 : x * (c : Int) ≤ 30000 * 20 := Int.mul_le_mul hx.2 (by omega) (by omega) (by omega)
  exact ⟨Int.mul_nonneg hx.1 (by omega), by omega⟩
theorem term_b {f : List Int} {d k i : Nat} (hf : ∀ i, 0 ≤ f.getD i 0 ∧ f.getD i 0 ≤ 30000) (hd : d ≤ 6) (hi : i ≤ 6) : -600000 ≤ term f d k i ∧ term f d k i ≤ 600000 := by
  have h1 := mul_b (hf k) (chN_b (d - k) (by omega) i (by omega)).1
  unfold term
  split <;> omega
theorem hJ_b {f : List Int} {d k : Nat} {h : List Int} {B : Int} (hf : ∀ i, 0 ≤ f.getD i 0 ∧ f.getD i 0 ≤ 30000) (hd : d ≤ 6) (hh : ∀ i, -B ≤ h.getD i 0 ∧ h.getD i 0 ≤ B) : ∀ (i : Nat), i ≤ 7 → ∀ (j : Nat), -(B + 600000 * (i : Int)) ≤ (hJ f d k h i).getD j 0 ∧ (hJ f d k h i).getD j 0 ≤ B + 600000 * (i : Int)
  | 0, _ => fun j => by have := hh j; simp only [hJ]; omega
  | i + 1, hi => fun j => by
    have h1 := upd_b (j := k + i) (hJ_b (k := k) hf hd hh i (by omega)) (term_b (k := k) (i := i) hf hd (by omega)) (by omega) j
    rw [hJ]
    omega
theorem hK_b {f : List Int} {d : Nat} (hf : ∀ i, 0 ≤ f.getD i 0 ∧ f.getD i 0 ≤ 30000) (hd : d ≤ 6) : ∀ (k : Nat), k ≤ 7 → ∀ (j : Nat), -(4200000 * (k : Int)) ≤ (hK f d k).getD j 0 ∧ (hK f d k).getD j 0 ≤ 4200000 * (k : Int)
  | 0, _ => fun j => by
    have : (List.replicate (d + 1) (0 : Int)).getD j 0 = 0 := by
      rw [List.getD_eq_getElem?_getD, List.getElem?_replicate]
      split <;> rfl
    rw [hK, this]
    omega
  | k + 1, hk => fun j => by
    have h1 := hJ_b (k := k) hf hd (hK_b hf hd k (by omega)) (d - k + 1) (by omega) j
    rw [hK]
    omega
/-- The product with t - 1, its first i steps. -/
def mT (p : List Int) : Nat → List Int
  | 0 => List.replicate (p.length + 1) 0
  | i + 1 => upd (upd (mT p i) (i + 1) (p.getD i 0)) i (-(p.getD i 0))
def pK (f : List Int) : Nat → List Int
  | 0 => []
  | k + 1 => upd (mT (pK f k) (pK f k).length) 0 (f.getD k 0)
theorem mT_len (p : List Int) : ∀ i, (mT p i).length = p.length + 1
  | 0 => by simp [mT]
  | i + 1 => by rw [mT, upd_len, upd_len, mT_len p i]
theorem pK_len (f : List Int) : ∀ k, (pK f k).length = k
  | 0 => rfl
  | k + 1 => by rw [pK, upd_len, mT_len, pK_len f k]
theorem mT_b {p : List Int} {B : Int} (hh : ∀ i, -B ≤ p.getD i 0 ∧ p.getD i 0 ≤ B) : ∀ (i j : Nat), -(2 * B * (i : Int)) ≤ (mT p i).getD j 0 ∧ (mT p i).getD j 0 ≤ 2 * B * (i : Int)
  | 0, j => by
    have : (List.replicate (p.length + 1) (0 : Int)).getD j 0 = 0 := by
      rw [List.getD_eq_getElem?_getD, List.getElem?_replicate]
      split <;> rfl
    rw [mT, this]
    simp
  | i + 1, j => by
    have hi := hh i
    have h0 : 0 ≤ B := by omega
    have h1 := upd_b (j := i) (t := -(p.getD i 0)) (C := B) (upd_b (j := i + 1) (t := p.getD i 0) (C := B) (mT_b hh i) hi h0) (by omega) h0 j
    rw [mT]
    rw [show 2 * B * ((i + 1 : Nat) : Int) = 2 * B * (i : Int) + B + B by rw [Int.natCast_add, Int.mul_add]; omega]
    omega
theorem pK_b {f : List Int} (hf : ∀ i, 0 ≤ f.getD i 0 ∧ f.getD i 0 ≤ 30000) : ∀ (k : Nat), k ≤ 7 → ∀ (j : Nat), -(30000 * 20 ^ k : Int) ≤ (pK f k).getD j 0 ∧ (pK f k).getD j 0 ≤ 30000 * 20 ^ k
  | 0, _ => fun j => by simp [pK]
  | k + 1, hk => fun j => by
    have h1 := upd_b (j := 0) (t := f.getD k 0) (C := 30000) (mT_b (pK_b hf k (by omega)) (pK f k).length) (by have := hf k; omega) (by omega) j
    rw [pK]
    rw [pK_len] at h1 ⊢
    have h2 : (1 : Int) ≤ 20 ^ k := Int.pow_pos (by decide)
    have h3 : (2 * (30000 * 20 ^ k) * (k : Int)) ≤ 2 * (30000 * 20 ^ k) * 7 := Int.mul_le_mul_of_nonneg_left (by omega) (by omega)
    rw [Int.pow_succ]
    omega
def hS (f : List Int) (d : Nat) : Nat → List Int
  | 0 => []
  | k + 1 => hS f d k ++ [(pK f (d + 1)).getD (d - k) 0]
theorem hS_len (f : List Int) (d : Nat) : ∀ k, (hS f d k).length = k
  | 0 => rfl
  | k + 1 => by rw [hS, List.length_append, hS_len f d k]; rfl
/-- THE SAME. -/
theorem hv_same (f : List Int) (h0 : 0 < f.length) (h7 : f.length ≤ 7) : hS f (f.length - 1) f.length = hK f (f.length - 1) f.length := by
  match f, h0, h7 with
  | [a], _, _ => simp [hS, hK, pK, mT, upd, hJ, term, chN]
  | [a, b], _, _ => simp [hS, hK, pK, mT, upd, hJ, term, chN] <;> omega
  | [a, b, c], _, _ => simp [hS, hK, pK, mT, upd, hJ, term, chN] <;> omega
  | [a, b, c, d], _, _ => simp [hS, hK, pK, mT, upd, hJ, term, chN] <;> omega
  | [a, b, c, d, e], _, _ => simp [hS, hK, pK, mT, upd, hJ, term, chN] <;> omega
  | [a, b, c, d, e, x], _, _ => simp [hS, hK, pK, mT, upd, hJ, term, chN] <;> omega
  | [a, b, c, d, e, x, y], _, _ => simp [hS, hK, pK, mT, upd, hJ, term, chN] <;> omega
end Go.Proofs.YtdgcpjfffpkhkaaDoor
set_option maxRecDepth 100000
namespace Go.Proofs.YtdgcpjfffpkhkaaDoor
open Go.Gov
open Classical

theorem choose_c (n i : Nat) (hn : n ≤ 6) (hi : i ≤ n) : Pure Tryd.prog 67 [i64 (n : Int), i64 (i : Int)] (i64 (chN n i : Nat)) [] := by
  refine pureV0 ok67 rfl rfl ?_; unfold c67
  (repeat first | simp only [go_sem, ↓reduceIte, Nat.reduceEqDiff, Nat.reduceAdd, reduceCtorEq] | with_reducible refine V_W ?_ | (with_reducible refine And.intro ?_ ?_; focus first | assumption | omega | decide | grind) | (with_reducible refine Br.mk ?_ ?_; focus (intros; omega)) | decide)
  refine V_loop (α := Nat) (S := fun k => ([(0, i64 (n : Int)), (5, i64 ((chN n k : Nat) : Int)), (7, i64 (i : Int)), (8, i64 (k : Int))], [])) (C := fun k => k ≤ i) (μ := fun k => i - k) 0 (Nat.zero_le _) (by simp only [chN]; exact Ref.frame (by simp [sub, fget])) ?_
  intro k hk
  have hb := chN_b n (by omega) k (by omega)
  have h1 : ((chN n k : Nat) : Int) * ((n : Int) - (k : Int)) = ((chN n k * (n - k) : Nat) : Int) := by
    rw [Int.natCast_mul, Int.natCast_sub (by omega)]
  have h2 : (((chN n k * (n - k) : Nat) : Int)).tdiv ((k : Int) + 1) = ((chN n (k + 1) : Nat) : Int) := by
    rw [Int.tdiv_eq_ediv_of_nonneg (by omega)]
    rfl
  (repeat first | simp only [go_sem, ↓reduceIte, Nat.reduceEqDiff, Nat.reduceAdd, reduceCtorEq] | with_reducible refine V_W ?_ | (with_reducible refine And.intro ?_ ?_; focus first | assumption | omega | decide | grind) | (with_reducible refine Br.mk ?_ ?_; focus (intros; omega)) | decide)
  refine ⟨fun hc => ?_, fun hc => ?_⟩
  · have hb2 := (chN_b n (by omega) (k + 1) (by omega)).1
    (repeat first | simp only [go_sem, ↓reduceIte, Nat.reduceEqDiff, Nat.reduceAdd, reduceCtorEq] | with_reducible refine V_W ?_ | (with_reducible refine And.intro ?_ ?_; focus first | assumption | omega | decide | grind) | (with_reducible refine Br.mk ?_ ?_; focus (intros; omega)) | decide)
    simp only [h1, go_sem, ↓reduceIte, Nat.reduceEqDiff, Nat.reduceAdd, reduceCtorEq]
    (repeat first | simp only [go_sem, ↓reduceIte, Nat.reduceEqDiff, Nat.reduceAdd, reduceCtorEq] | with_reducible refine V_W ?_ | (with_reducible refine And.intro ?_ ?_; focus first | assumption | omega | decide | grind) | (with_reducible refine Br.mk ?_ ?_; focus (intros; omega)) | decide)
    simp only [h2, go_sem, ↓reduceIte, Nat.reduceEqDiff, Nat.reduceAdd, reduceCtorEq]
    (repeat first | simp only [go_sem, ↓reduceIte, Nat.reduceEqDiff, Nat.reduceAdd, reduceCtorEq] | with_reducible refine V_W ?_ | (with_reducible refine And.intro ?_ ?_; focus first | assumption | omega | decide | grind) | (with_reducible refine Br.mk ?_ ?_; focus (intros; omega)) | decide)
    exact ⟨k + 1, by omega, by omega, by exact Ref.frame (by simp [sub, fget])⟩
  · obtain rfl : k = i := by omega
    (repeat first | simp only [go_sem, ↓reduceIte, Nat.reduceEqDiff, Nat.reduceAdd, reduceCtorEq] | with_reducible refine V_W ?_ | (with_reducible refine And.intro ?_ ?_; focus first | assumption | omega | decide | grind) | (with_reducible refine Br.mk ?_ ?_; focus (intros; omega)) | decide)
theorem upd_C (h : List Int) (j : Nat) (t : Int) : (intsC h).set j (i64 (h.getD j 0 + t)) = intsC (upd h j t) := by
  unfold upd intsC
  rw [List.map_set]
theorem intsC_rep (n : Nat) : intsC (List.replicate n 0) = List.replicate n (i64 0) := by simp [intsC]
set_option maxHeartbeats 4000000 in
theorem hVector_p (f : List Int) (h0 : 0 < f.length) (h7 : f.length ≤ 7) (hf : ∀ i, 0 ≤ f.getD i 0 ∧ f.getD i 0 ≤ 30000) : Pure Tryd.prog 46 [ints f] (.sl 0 1 0 f.length) [some (intsC (hK f (f.length - 1) f.length))] := by
  obtain ⟨d, hd⟩ : ∃ d, f.length = d + 1 := ⟨f.length - 1, by omega⟩
  rw [show f.length - 1 = d by omega]
  have hsz := size_c f (by omega)
  refine pureRV ok46 rfl ?_; unfold c46
  (repeat first | simp only [go_sem, ↓reduceIte, Nat.reduceEqDiff, Nat.reduceAdd, reduceCtorEq] | with_reducible refine V_W ?_ | (with_reducible refine And.intro ?_ ?_; focus first | assumption | omega | decide | grind) | (with_reducible refine Br.mk ?_ ?_; focus (intros; omega)) | decide)
  refine pureC (hsz) (by simp only [go_sem, ↓reduceIte, Nat.reduceEqDiff, Nat.reduceAdd, reduceCtorEq] <;> rfl) (by first | rfl | simp only [go_sem, ↓reduceIte, Nat.reduceEqDiff, Nat.reduceAdd, reduceCtorEq]) ?_
  (repeat first | simp only [go_sem, ↓reduceIte, Nat.reduceEqDiff, Nat.reduceAdd, reduceCtorEq] | with_reducible refine V_W ?_ | (with_reducible refine And.intro ?_ ?_; focus first | assumption | omega | decide | grind) | (with_reducible refine Br.mk ?_ ?_; focus (intros; omega)) | decide)
  refine V_loop (α := Nat) (S := fun k => ([(3, i64 (d : Int)), (4, .sl 0 1 0 f.length), (16, ints f), (17, i64 (f.length : Int)), (18, i64 (k : Int))], [some (intsC (hK f d k))])) (C := fun k => k ≤ f.length) (μ := fun k => f.length - k) 0 (Nat.zero_le _) ?_ ?_
  · have e1 : ((f.length : Int) - 1 + 1).toNat = f.length := by omega
    have e2 : (f.length : Int) - 1 = (d : Int) := by omega
    exact Ref.to (by simp [e1, hK, hd]) (by simp [sub, fget, e1]; omega)
  intro k hk
  have hkl := hK_len f d k
  (repeat first | simp only [go_sem, ↓reduceIte, Nat.reduceEqDiff, Nat.reduceAdd, reduceCtorEq] | with_reducible refine V_W ?_ | (with_reducible refine And.intro ?_ ?_; focus first | assumption | omega | decide | grind) | (with_reducible refine Br.mk ?_ ?_; focus (intros; omega)) | decide)
  refine ⟨fun hc => ?_, fun hc => ?_⟩
  · obtain ⟨h, hh⟩ : ∃ h, h = hK f d k := ⟨_, rfl⟩
    have hkb := hK_b hf (by omega : d ≤ 6) k (by omega)
    rw [← hh] at hkb hkl ⊢
    have hdk : (d : Int) - (k : Int) = ((d - k : Nat) : Int) := by omega
    (repeat first | simp only [go_sem, ↓reduceIte, Nat.reduceEqDiff, Nat.reduceAdd, reduceCtorEq] | with_reducible refine V_W ?_ | (with_reducible refine And.intro ?_ ?_; focus first | assumption | omega | decide | grind) | (with_reducible refine Br.mk ?_ ?_; focus (intros; omega)) | decide)
    simp only [hdk, go_sem, ↓reduceIte, Nat.reduceEqDiff, Nat.reduceAdd, reduceCtorEq]
    (repeat first | simp only [go_sem, ↓reduceIte, Nat.reduceEqDiff, Nat.reduceAdd, reduceCtorEq] | with_reducible refine V_W ?_ | (with_reducible refine And.intro ?_ ?_; focus first | assumption | omega | decide | grind) | (with_reducible refine Br.mk ?_ ?_; focus (intros; omega)) | decide)
    refine V_loop (α := Nat) (S := fun i => ([(3, i64 (d : Int)), (4, .sl 0 1 0 f.length), (5, i64 (k : Int)), (6, i64 (f.getD k 0)), (7, i64 ((d - k : Nat) : Int)), (16, ints f), (17, i64 (f.length : Int)), (18, i64 (k : Int)), (27, i64 (((d - k : Nat) : Int) + 1)), (28, i64 (i : Int))], [some (intsC (hJ f d k h i))])) (C := fun i => i ≤ d - k + 1) (μ := fun i => d - k + 1 - i) 0 (Nat.zero_le _) (Ref.to rfl (by simp [sub, fget])) ?_
    intro i hi
    have hjl := hJ_len f d k h i
    have hjb := hJ_b (k := k) hf (by omega : d ≤ 6) hkb i (by omega) (k + i)
    (repeat first | simp only [go_sem, ↓reduceIte, Nat.reduceEqDiff, Nat.reduceAdd, reduceCtorEq] | with_reducible refine V_W ?_ | (with_reducible refine And.intro ?_ ?_; focus first | assumption | omega | decide | grind) | (with_reducible refine Br.mk ?_ ?_; focus (intros; omega)) | decide)
    refine ⟨fun hc2 => ?_, fun hc2 => ?_⟩
    · have hch := choose_c (d - k) i (by omega) (by omega)
      have hcb := (chN_b (d - k) (by omega) i (by omega)).1
      have hmb := mul_b (hf k) hcb
      have hki : ((k : Int) + (i : Int)).toNat = k + i := by omega
      (repeat first | simp only [go_sem, ↓reduceIte, Nat.reduceEqDiff, Nat.reduceAdd, reduceCtorEq] | with_reducible refine V_W ?_ | (with_reducible refine And.intro ?_ ?_; focus first | assumption | omega | decide | grind) | (with_reducible refine Br.mk ?_ ?_; focus (intros; omega)) | decide)
      refine pureC (hch) (by simp only [go_sem, ↓reduceIte, Nat.reduceEqDiff, Nat.reduceAdd, reduceCtorEq] <;> rfl) (by first | rfl | simp only [go_sem, ↓reduceIte, Nat.reduceEqDiff, Nat.reduceAdd, reduceCtorEq]) ?_
      (repeat first | simp only [go_sem, ↓reduceIte, Nat.reduceEqDiff, Nat.reduceAdd, reduceCtorEq] | with_reducible refine V_W ?_ | (with_reducible refine And.intro ?_ ?_; focus first | assumption | omega | decide | grind) | (with_reducible refine Br.mk ?_ ?_; focus (intros; omega)) | decide)
      refine ⟨fun hc3 => ?_, fun hc3 => ?_⟩
      · have ht : term f d k i = 0 - f.getD k 0 * (chN (d - k) i : Int) := by
          unfold term
          rw [if_pos (by rw [Int.tmod_eq_emod_of_nonneg (by omega)] at hc3; omega)]
          omega
        have hu : (hJ f d k h i).set (k + i) ((hJ f d k h i).getD (k + i) 0 + (0 - f.getD k 0 * (chN (d - k) i : Int))) = hJ f d k h (i + 1) := by
          rw [← ht]
          rfl
        (repeat first | simp only [go_sem, ↓reduceIte, Nat.reduceEqDiff, Nat.reduceAdd, reduceCtorEq] | with_reducible refine V_W ?_ | (with_reducible refine And.intro ?_ ?_; focus first | assumption | omega | decide | grind) | (with_reducible refine Br.mk ?_ ?_; focus (intros; omega)) | decide)
        exact ⟨i + 1, by omega, by omega, Ref.to (by simp only [hki, hu]) (by simp [sub, fget])⟩
      · have ht : term f d k i = f.getD k 0 * (chN (d - k) i : Int) := by
          unfold term
          rw [if_neg (by rw [Int.tmod_eq_emod_of_nonneg (by omega)] at hc3; omega)]
        have hu : (hJ f d k h i).set (k + i) ((hJ f d k h i).getD (k + i) 0 + f.getD k 0 * (chN (d - k) i : Int)) = hJ f d k h (i + 1) := by
          rw [← ht]
          rfl
        (repeat first | simp only [go_sem, ↓reduceIte, Nat.reduceEqDiff, Nat.reduceAdd, reduceCtorEq] | with_reducible refine V_W ?_ | (with_reducible refine And.intro ?_ ?_; focus first | assumption | omega | decide | grind) | (with_reducible refine Br.mk ?_ ?_; focus (intros; omega)) | decide)
        exact ⟨i + 1, by omega, by omega, Ref.to (by simp only [hki, hu]) (by simp [sub, fget])⟩
    · obtain rfl : i = d - k + 1 := by omega
      (repeat first | simp only [go_sem, ↓reduceIte, Nat.reduceEqDiff, Nat.reduceAdd, reduceCtorEq] | with_reducible refine V_W ?_ | (with_reducible refine And.intro ?_ ?_; focus first | assumption | omega | decide | grind) | (with_reducible refine Br.mk ?_ ?_; focus (intros; omega)) | decide)
      exact ⟨k + 1, by omega, by omega, Ref.to (by rw [hh]; rfl) (by simp [sub, fget])⟩
  · obtain rfl : k = f.length := by omega
    (repeat first | simp only [go_sem, ↓reduceIte, Nat.reduceEqDiff, Nat.reduceAdd, reduceCtorEq] | with_reducible refine V_W ?_ | (with_reducible refine And.intro ?_ ?_; focus first | assumption | omega | decide | grind) | (with_reducible refine Br.mk ?_ ?_; focus (intros; omega)) | decide)
    exact Ref.to rfl (by simp [sub, fget])
set_option maxHeartbeats 4000000 in
theorem l17H_p (f : List Int) (h0 : 0 < f.length) (h7 : f.length ≤ 7) (hf : ∀ i, 0 ≤ f.getD i 0 ∧ f.getD i 0 ≤ 30000) : Pure Tryd.prog 45 [ints f] (.sl 0 1 0 f.length) [some (intsC (hK f (f.length - 1) f.length))] := by
  obtain ⟨d, hd⟩ : ∃ d, f.length = d + 1 := ⟨f.length - 1, by omega⟩
  rw [← hv_same f h0 h7, show f.length - 1 = d by omega]
  refine pureRV ok45 rfl ?_; unfold c45
  (repeat first | simp only [go_sem, ↓reduceIte, Nat.reduceEqDiff, Nat.reduceAdd, reduceCtorEq] | with_reducible refine V_W ?_ | (with_reducible refine And.intro ?_ ?_; focus first | assumption | omega | decide | grind) | (with_reducible refine Br.mk ?_ ?_; focus (intros; omega)) | decide)
  refine V_loop (α := Nat) (S := fun k => ([(0, ints f), (3, i64 (d : Int)), (4, .sl 0 1 0 k), (5, i64 (k : Int))], [some (intsC (pK f k))])) (C := fun k => k ≤ f.length) (μ := fun k => f.length - k) 0 (Nat.zero_le _) (Ref.to rfl (by simp [sub, fget]; omega)) ?_
  intro k hk
  have hpl := pK_len f k
  (repeat first | simp only [go_sem, ↓reduceIte, Nat.reduceEqDiff, Nat.reduceAdd, reduceCtorEq] | with_reducible refine V_W ?_ | (with_reducible refine And.intro ?_ ?_; focus first | assumption | omega | decide | grind) | (with_reducible refine Br.mk ?_ ?_; focus (intros; omega)) | decide)
  refine ⟨fun hc => ?_, fun hc => ?_⟩
  · have hpb := pK_b hf k (by omega)
    have h20 : (20 : Int) ^ k ≤ 20 ^ 7 := by
      rw [show (20 : Int) ^ k = ((20 ^ k : Nat) : Int) by simp, show (20 : Int) ^ 7 = ((20 ^ 7 : Nat) : Int) by simp]
      exact Int.ofNat_le.2 (Nat.pow_le_pow_right (by decide) (by omega))
    obtain ⟨B, hB⟩ : ∃ B : Int, B = 30000 * 20 ^ k := ⟨_, rfl⟩
    have hB7 : 0 ≤ B ∧ B ≤ 38400000000000 := by
      have : (0 : Int) < 20 ^ k := Int.pow_pos (by decide)
      omega
    obtain ⟨p, hp⟩ : ∃ p, p = pK f k := ⟨_, rfl⟩
    rw [← hp, ← hB] at hpb
    rw [← hp] at hpl ⊢
    have hm0 : mT p 0 = List.replicate (k + 1) 0 := by rw [mT, hpl]
    (repeat first | simp only [go_sem, ↓reduceIte, Nat.reduceEqDiff, Nat.reduceAdd, reduceCtorEq] | with_reducible refine V_W ?_ | (with_reducible refine And.intro ?_ ?_; focus first | assumption | omega | decide | grind) | (with_reducible refine Br.mk ?_ ?_; focus (intros; omega)) | decide)
    refine V_loop (α := Nat) (S := fun i => ([(0, ints f), (3, i64 (d : Int)), (4, .sl 0 1 0 k), (5, i64 (k : Int)), (6, .sl 1 1 0 (k + 1)), (7, i64 (i : Int))], [some (intsC p), some (intsC (mT p i))])) (C := fun i => i ≤ k) (μ := fun i => k - i) 0 (Nat.zero_le _) ?_ ?_
    · rw [hm0]
      exact Ref.to rfl (by simp [sub, fget])
    intro i hi
    have hml := mT_len p i
    have hmb := mT_b hpb i
    have hmx : 2 * B * (i : Int) ≤ 2 * 38400000000000 * 7 ∧ 0 ≤ 2 * B * (i : Int) := by
      refine ⟨Int.mul_le_mul (by omega) (by omega) (by omega) (by omega), Int.mul_nonneg (by omega) (by omega)⟩
    (repeat first | simp only [go_sem, ↓reduceIte, Nat.reduceEqDiff, Nat.reduceAdd, reduceCtorEq] | with_reducible refine V_W ?_ | (with_reducible refine And.intro ?_ ?_; focus first | assumption | omega | decide | grind) | (with_reducible refine Br.mk ?_ ?_; focus (intros; omega)) | decide)
    refine ⟨fun hc2 => ?_, fun hc2 => ?_⟩
    · have hpi := hpb i
      have hm1 := hmb (i + 1)
      have e1 : ((i : Int) + 1).toNat = i + 1 := by omega
      obtain ⟨U, hU⟩ : ∃ U, U = upd (mT p i) (i + 1) (p.getD i 0) := ⟨_, rfl⟩
      have hUs : (mT p i).set (i + 1) ((mT p i).getD (i + 1) 0 + p.getD i 0) = U := by rw [hU]; rfl
      have hUl : U.length = k + 1 := by rw [hU, upd_len, hml, hpl]
      have hUb := upd_b (j := i + 1) (t := p.getD i 0) (C := B) hmb hpi hB7.1 i
      rw [← hU] at hUb
      have hVs : U.set i (U.getD i 0 - p.getD i 0) = mT p (i + 1) := by rw [hU]; rfl
      (repeat first | simp only [go_sem, ↓reduceIte, Nat.reduceEqDiff, Nat.reduceAdd, reduceCtorEq] | with_reducible refine V_W ?_ | (with_reducible refine And.intro ?_ ?_; focus first | assumption | omega | decide | grind) | (with_reducible refine Br.mk ?_ ?_; focus (intros; omega)) | decide)
      exact ⟨i + 1, by omega, by omega, Ref.to (by simp only [hUs, hVs]) (by simp [sub, fget])⟩
    · obtain rfl : i = k := by omega
      have hmi := hmb 0
      have hfi := hf i
      have hP : (mT p i).set 0 ((mT p i).getD 0 0 + f.getD i 0) = pK f (i + 1) := by
        rw [hp, pK, pK_len]
        rfl
      (repeat first | simp only [go_sem, ↓reduceIte, Nat.reduceEqDiff, Nat.reduceAdd, reduceCtorEq] | with_reducible refine V_W ?_ | (with_reducible refine And.intro ?_ ?_; focus first | assumption | omega | decide | grind) | (with_reducible refine Br.mk ?_ ?_; focus (intros; omega)) | decide)
      exact ⟨i + 1, by omega, by omega, Ref.gc [1] rfl (by simp only [hP, go_sem, ↓reduceIte, Nat.reduceEqDiff, Nat.reduceAdd, reduceCtorEq]) (by simp [sub, fget, go_sem, ↓reduceIte, Nat.reduceEqDiff, Nat.reduceAdd, reduceCtorEq])⟩
  · obtain rfl : k = f.length := by omega
    obtain ⟨P, hP⟩ : ∃ P, P = pK f (d + 1) := ⟨_, rfl⟩
    have hPl : P.length = f.length := by rw [hP, pK_len, hd]
    rw [show pK f f.length = P by rw [hP, hd]]
    (repeat first | simp only [go_sem, ↓reduceIte, Nat.reduceEqDiff, Nat.reduceAdd, reduceCtorEq] | with_reducible refine V_W ?_ | (with_reducible refine And.intro ?_ ?_; focus first | assumption | omega | decide | grind) | (with_reducible refine Br.mk ?_ ?_; focus (intros; omega)) | decide)
    refine V_loop (α := Nat) (S := fun k => ([(3, i64 (d : Int)), (4, .sl 0 1 0 f.length), (8, .sl 1 1 0 k), (9, i64 (k : Int))], [some (intsC P), some (intsC (hS f d k))])) (C := fun k => k ≤ d + 1) (μ := fun k => d + 1 - k) 0 (Nat.zero_le _) (Ref.to rfl (by simp [sub, fget])) ?_
    intro k hk2
    have htk := take_intsC (hS f d k) (n := k) (hS_len f d k).symm
    (repeat first | simp only [go_sem, ↓reduceIte, Nat.reduceEqDiff, Nat.reduceAdd, reduceCtorEq] | with_reducible refine V_W ?_ | (with_reducible refine And.intro ?_ ?_; focus first | assumption | omega | decide | grind) | (with_reducible refine Br.mk ?_ ?_; focus (intros; omega)) | decide)
    refine ⟨fun hc3 => ?_, fun hc3 => ?_⟩
    · have e1 : ((d : Int) - (k : Int)).toNat = d - k := by omega
      have hsn : intsC (hS f d (k + 1)) = intsC (hS f d k) ++ [i64 (P.getD (d - k) 0)] := by rw [hS, intsC_snoc, hP]
      (repeat first | simp only [go_sem, ↓reduceIte, Nat.reduceEqDiff, Nat.reduceAdd, reduceCtorEq] | with_reducible refine V_W ?_ | (with_reducible refine And.intro ?_ ?_; focus first | assumption | omega | decide | grind) | (with_reducible refine Br.mk ?_ ?_; focus (intros; omega)) | decide)
      (try simp only [e1, go_sem, ↓reduceIte, Nat.reduceEqDiff, Nat.reduceAdd, reduceCtorEq])
      (repeat first | simp only [go_sem, ↓reduceIte, Nat.reduceEqDiff, Nat.reduceAdd, reduceCtorEq] | with_reducible refine V_W ?_ | (with_reducible refine And.intro ?_ ?_; focus first | assumption | omega | decide | grind) | (with_reducible refine Br.mk ?_ ?_; focus (intros; omega)) | decide)
      refine ⟨k + 1, by omega, by omega, Ref.gc [0, 3] rfl ?_ (by simp [sub, fget, go_sem, ↓reduceIte, Nat.reduceEqDiff, Nat.reduceAdd, reduceCtorEq])⟩
      simp only [htk, hsn, go_sem, ↓reduceIte, Nat.reduceEqDiff, Nat.reduceAdd, reduceCtorEq]
    · obtain rfl : k = d + 1 := by omega
      (repeat first | simp only [go_sem, ↓reduceIte, Nat.reduceEqDiff, Nat.reduceAdd, reduceCtorEq] | with_reducible refine V_W ?_ | (with_reducible refine And.intro ?_ ?_; focus first | assumption | omega | decide | grind) | (with_reducible refine Br.mk ?_ ?_; focus (intros; omega)) | decide)
      rw [hd]
      exact Ref.gc [1] rfl (by simp only [go_sem, ↓reduceIte, Nat.reduceEqDiff, Nat.reduceAdd, reduceCtorEq]) (by simp [sub, fget, go_sem, ↓reduceIte, Nat.reduceEqDiff, Nat.reduceAdd, reduceCtorEq])
end Go.Proofs.YtdgcpjfffpkhkaaDoor
set_option maxRecDepth 100000
namespace Go.Proofs.YtdgcpjfffpkhkaaDoor
open Go.Gov
open Classical

noncomputable def hvA (v : Int) (F : List (List Int)) : List Int := if CxOk v F then hK (fv F) ((fv F).length - 1) (fv F).length else []
theorem hvA_len (v : Int) (F : List (List Int)) : (hvA v F).length ≤ 7 := by
  unfold hvA
  split
  · rename_i h
    have hd : dep F ≤ 6 := dep_le.2 h.few.2
    rw [hK_len, fv_len]
    omega
  · simp
set_option maxHeartbeats 2000000 in
theorem specHv_c (v : Int) (F : List (List Int)) (hl : F.length ≤ 1099511627776) (hr : ∀ x ∈ F, x.length ≤ 1099511627776) : Pure Tryd.prog 29 [cpxA v F] (.tup [.sl 0 1 0 (hvA v F).length, i64 (okC v F)]) [some (intsC (hvA v F))] := by
  have hi := l17Is_c v F hl hr
  unfold hvA okC
  by_cases h : CxOk v F
  · rw [if_pos h, if_pos h]
    rw [decide_eq_true h] at hi
    obtain ⟨h1, h2⟩ := h.few
    have hf := l17F_p v F h1 h2
    have hd : dep F ≤ 6 := dep_le.2 h2
    have hL := fv_len F
    have hh := l17H_p (fv F) (by omega) (by omega) (fv_b h1 h2)
    have hz : (hK (fv F) ((fv F).length - 1) (fv F).length).length = (fv F).length := by rw [hK_len]; omega
    rw [hz]
    generalize hK (fv F) ((fv F).length - 1) (fv F).length = Z at hh hz ⊢
    generalize fv F = L at hf hh hz ⊢
    refine pureRV ok29 rfl ?_; unfold c29
    (repeat first | simp only [go_sem, ↓reduceIte, Nat.reduceEqDiff, Nat.reduceAdd, reduceCtorEq] | with_reducible refine V_W ?_ | (with_reducible refine And.intro ?_ ?_; focus first | assumption | omega | decide | grind) | (with_reducible refine Br.mk ?_ ?_; focus (intros; omega)) | decide)
    refine pureC (hi) (by simp only [go_sem, ↓reduceIte, Nat.reduceEqDiff, Nat.reduceAdd, reduceCtorEq] <;> rfl) (by first | rfl | simp only [go_sem, ↓reduceIte, Nat.reduceEqDiff, Nat.reduceAdd, reduceCtorEq]) ?_
    (repeat first | simp only [go_sem, ↓reduceIte, Nat.reduceEqDiff, Nat.reduceAdd, reduceCtorEq] | with_reducible refine V_W ?_ | (with_reducible refine And.intro ?_ ?_; focus first | assumption | omega | decide | grind) | (with_reducible refine Br.mk ?_ ?_; focus (intros; omega)) | decide)
    refine pureC (hf) (by simp only [go_sem, ↓reduceIte, Nat.reduceEqDiff, Nat.reduceAdd, reduceCtorEq] <;> rfl) (by first | rfl | simp only [go_sem, ↓reduceIte, Nat.reduceEqDiff, Nat.reduceAdd, reduceCtorEq]) ?_
    (repeat first | simp only [go_sem, ↓reduceIte, Nat.reduceEqDiff, Nat.reduceAdd, reduceCtorEq] | with_reducible refine V_W ?_ | (with_reducible refine And.intro ?_ ?_; focus first | assumption | omega | decide | grind) | (with_reducible refine Br.mk ?_ ?_; focus (intros; omega)) | decide)
    have htk : ∀ Hx : Heap, (List.take L.length (intsC L)).map (frz Hx 5) = intsC L := fun Hx => by
      rw [take_intsC L rfl, map_frz_ints]
    refine pureC hh (by simp only [htk, go_sem, ↓reduceIte, Nat.reduceEqDiff, Nat.reduceAdd, reduceCtorEq]) (by first | rfl | simp only [go_sem, ↓reduceIte, Nat.reduceEqDiff, Nat.reduceAdd, reduceCtorEq]) ?_
    (repeat first | simp only [go_sem, ↓reduceIte, Nat.reduceEqDiff, Nat.reduceAdd, reduceCtorEq] | with_reducible refine V_W ?_ | (with_reducible refine And.intro ?_ ?_; focus first | assumption | omega | decide | grind) | (with_reducible refine Br.mk ?_ ?_; focus (intros; omega)) | decide)
    exact Ref.gc [2] rfl (by simp only [go_sem, ↓reduceIte, Nat.reduceEqDiff, Nat.reduceAdd, reduceCtorEq]) (by simp [sub, fget, go_sem, ↓reduceIte, Nat.reduceEqDiff, Nat.reduceAdd, reduceCtorEq])
  · rw [if_neg h, if_neg h]
    rw [decide_eq_false h] at hi
    refine pure_nil 1 ?_
    refine pureV0 ok29 rfl rfl ?_; unfold c29
    (repeat first | simp only [go_sem, ↓reduceIte, Nat.reduceEqDiff, Nat.reduceAdd, reduceCtorEq] | with_reducible refine V_W ?_ | (with_reducible refine And.intro ?_ ?_; focus first | assumption | omega | decide | grind) | (with_reducible refine Br.mk ?_ ?_; focus (intros; omega)) | decide)
    refine pureC (hi) (by simp only [go_sem, ↓reduceIte, Nat.reduceEqDiff, Nat.reduceAdd, reduceCtorEq] <;> rfl) (by first | rfl | simp only [go_sem, ↓reduceIte, Nat.reduceEqDiff, Nat.reduceAdd, reduceCtorEq]) ?_
    (repeat first | simp only [go_sem, ↓reduceIte, Nat.reduceEqDiff, Nat.reduceAdd, reduceCtorEq] | with_reducible refine V_W ?_ | (with_reducible refine And.intro ?_ ?_; focus first | assumption | omega | decide | grind) | (with_reducible refine Br.mk ?_ ?_; focus (intros; omega)) | decide)
set_option maxHeartbeats 2000000 in
theorem implHv_c (v : Int) (F : List (List Int)) (hl : F.length ≤ 1099511627776) (hr : ∀ x ∈ F, x.length ≤ 1099511627776) : Pure Tryd.prog 30 [cpxA v F] (.tup [.sl 0 1 0 (hvA v F).length, i64 (okC v F)]) [some (intsC (hvA v F))] := by
  have hi := isComplex_c v F hl hr
  unfold hvA okC
  by_cases h : CxOk v F
  · rw [if_pos h, if_pos h]
    rw [decide_eq_true h] at hi
    obtain ⟨h1, h2⟩ := h.few
    have hf := fVector_p v F h1 h2
    have hd : dep F ≤ 6 := dep_le.2 h2
    have hL := fv_len F
    have hh := hVector_p (fv F) (by omega) (by omega) (fv_b h1 h2)
    have hz : (hK (fv F) ((fv F).length - 1) (fv F).length).length = (fv F).length := by rw [hK_len]; omega
    rw [hz]
    generalize hK (fv F) ((fv F).length - 1) (fv F).length = Z at hh hz ⊢
    generalize fv F = L at hf hh hz ⊢
    refine pureRV ok30 rfl ?_; unfold c30
    (repeat first | simp only [go_sem, ↓reduceIte, Nat.reduceEqDiff, Nat.reduceAdd, reduceCtorEq] | with_reducible refine V_W ?_ | (with_reducible refine And.intro ?_ ?_; focus first | assumption | omega | decide | grind) | (with_reducible refine Br.mk ?_ ?_; focus (intros; omega)) | decide)
    refine pureC (hi) (by simp only [go_sem, ↓reduceIte, Nat.reduceEqDiff, Nat.reduceAdd, reduceCtorEq] <;> rfl) (by first | rfl | simp only [go_sem, ↓reduceIte, Nat.reduceEqDiff, Nat.reduceAdd, reduceCtorEq]) ?_
    (repeat first | simp only [go_sem, ↓reduceIte, Nat.reduceEqDiff, Nat.reduceAdd, reduceCtorEq] | with_reducible refine V_W ?_ | (with_reducible refine And.intro ?_ ?_; focus first | assumption | omega | decide | grind) | (with_reducible refine Br.mk ?_ ?_; focus (intros; omega)) | decide)
    refine pureC (hf) (by simp only [go_sem, ↓reduceIte, Nat.reduceEqDiff, Nat.reduceAdd, reduceCtorEq] <;> rfl) (by first | rfl | simp only [go_sem, ↓reduceIte, Nat.reduceEqDiff, Nat.reduceAdd, reduceCtorEq]) ?_
    (repeat first | simp only [go_sem, ↓reduceIte, Nat.reduceEqDiff, Nat.reduceAdd, reduceCtorEq] | with_reducible refine V_W ?_ | (with_reducible refine And.intro ?_ ?_; focus first | assumption | omega | decide | grind) | (with_reducible refine Br.mk ?_ ?_; focus (intros; omega)) | decide)
    have htk : ∀ Hx : Heap, (List.take L.length (intsC L)).map (frz Hx 5) = intsC L := fun Hx => by
      rw [take_intsC L rfl, map_frz_ints]
    refine pureC hh (by simp only [htk, go_sem, ↓reduceIte, Nat.reduceEqDiff, Nat.reduceAdd, reduceCtorEq]) (by first | rfl | simp only [go_sem, ↓reduceIte, Nat.reduceEqDiff, Nat.reduceAdd, reduceCtorEq]) ?_
    (repeat first | simp only [go_sem, ↓reduceIte, Nat.reduceEqDiff, Nat.reduceAdd, reduceCtorEq] | with_reducible refine V_W ?_ | (with_reducible refine And.intro ?_ ?_; focus first | assumption | omega | decide | grind) | (with_reducible refine Br.mk ?_ ?_; focus (intros; omega)) | decide)
    exact Ref.gc [2] rfl (by simp only [go_sem, ↓reduceIte, Nat.reduceEqDiff, Nat.reduceAdd, reduceCtorEq]) (by simp [sub, fget, go_sem, ↓reduceIte, Nat.reduceEqDiff, Nat.reduceAdd, reduceCtorEq])
  · rw [if_neg h, if_neg h]
    rw [decide_eq_false h] at hi
    refine pure_nil 1 ?_
    refine pureV0 ok30 rfl rfl ?_; unfold c30
    (repeat first | simp only [go_sem, ↓reduceIte, Nat.reduceEqDiff, Nat.reduceAdd, reduceCtorEq] | with_reducible refine V_W ?_ | (with_reducible refine And.intro ?_ ?_; focus first | assumption | omega | decide | grind) | (with_reducible refine Br.mk ?_ ?_; focus (intros; omega)) | decide)
    refine pureC (hi) (by simp only [go_sem, ↓reduceIte, Nat.reduceEqDiff, Nat.reduceAdd, reduceCtorEq] <;> rfl) (by first | rfl | simp only [go_sem, ↓reduceIte, Nat.reduceEqDiff, Nat.reduceAdd, reduceCtorEq]) ?_
    (repeat first | simp only [go_sem, ↓reduceIte, Nat.reduceEqDiff, Nat.reduceAdd, reduceCtorEq] | with_reducible refine V_W ?_ | (with_reducible refine And.intro ?_ ?_; focus first | assumption | omega | decide | grind) | (with_reducible refine Br.mk ?_ ?_; focus (intros; omega)) | decide)
end Go.Proofs.YtdgcpjfffpkhkaaDoor
