/- Texts that belong together. -/
import Derived.KernelRfl
import Derived.Test.YtcmahhfjpgoceaaGreatZn
import Derived.Test.YtcmahhfjpgoceaaGreatZy
set_option linter.unusedSimpArgs false
set_option linter.unusedVariables false
set_option maxRecDepth 100000
namespace Go.Cl
open Classical

theorem inj_len {α β : Type} [DecidableEq β] : ∀ {A : List α} {B : List β} (g : α → β), A.Nodup → (∀ a ∈ A, g a ∈ B) → (∀ a ∈ A, ∀ b ∈ A, g a = g b → a = b) → A.length ≤ B.length
  | [], _, _, _, _, _ => Nat.zero_le _
  | a :: A, B, g, hn, hm, hi => by
    have hn' := List.nodup_cons.1 hn
    have h1 := hm a (by simp)
    have h2 := inj_len (A := A) (B := B.erase (g a)) g hn'.2 (fun b hb => (List.mem_erase_of_ne (fun e => by
      have := hi b (by simp [hb]) a (by simp) e
      exact hn'.1 (this ▸ hb))).2 (hm b (by simp [hb]))) (fun b hb c hc => hi b (by simp [hb]) c (by simp [hc]))
    have h3 := List.length_erase_of_mem h1
    have h4 : 0 < B.length := List.length_pos_of_mem h1
    simp only [List.length_cons]
    omega

structure Eqv (n : Nat) (R : Nat → Nat → Prop) : Prop where
  refl : ∀ x, x < n → R x x
  symm : ∀ x y, x < n → y < n → R x y → R y x
  trans : ∀ x y z, x < n → y < n → z < n → R x y → R y z → R x z
structure Sys (n : Nat) (R : Nat → Nat → Prop) (V : List Nat) : Prop where
  nd : V.Nodup
  lt : ∀ v ∈ V, v < n
  ne : ∀ v ∈ V, ∀ u ∈ V, R v u → v = u
  all : ∀ x, x < n → ∃ v ∈ V, R v x
theorem sum_add {α : Type} (f g : α → Nat) : ∀ V : List α, (V.map fun v => f v + g v).sum = (V.map f).sum + (V.map g).sum
  | [] => rfl
  | v :: V => by
    simp only [List.map_cons, List.sum_cons, sum_add f g V]
    omega
theorem countP_mem {n : Nat} {p : Nat → Bool} {W : List Nat} (hn : W.Nodup) (hp : ∀ x, x < n → (p x = true ↔ x ∈ W)) (hl : ∀ x ∈ W, x < n) : (List.range n).countP p = W.length := by
  rw [List.countP_eq_length_filter]
  refine Nat.le_antisymm (inj_len id (List.nodup_range.filter _) (fun a ha => ?_) fun _ _ _ _ h => h) (inj_len id hn (fun a ha => ?_) fun _ _ _ _ h => h)
  · obtain ⟨h1, h2⟩ := List.mem_filter.1 ha
    exact (hp a (List.mem_range.1 h1)).1 h2
  · exact List.mem_filter.2 ⟨List.mem_range.2 (hl a ha), (hp a (hl a ha)).2 ha⟩
end Go.Cl
set_option maxRecDepth 100000
namespace Go.Proofs.YtcmahhfjpgoceaaGreat
open Go.Cl
open Classical

def mv (M : List (List Int)) (i x : Nat) : Nat := ((M.getD i []).getD x 0).toNat
structure MvI (n : Nat) (M : List (List Int)) : Prop where
  len : M.length = 3
  row : ∀ i, i < 3 → (M.getD i []).length = n
  val : ∀ i x, i < 3 → x < n → (M.getD i []).getD x 0 = (mv M i x : Nat)
  lt : ∀ i x, i < 3 → x < n → mv M i x < n
  inv : ∀ i x, i < 3 → x < n → mv M i (mv M i x) = x
  fre : ∀ i x, i < 3 → x < n → mv M i x ≠ x
  com : ∀ x, x < n → mv M 2 (mv M 0 x) = mv M 0 (mv M 2 x)
  dif : ∀ x, x < n → mv M 0 x ≠ mv M 2 x
theorem IsMap.mvi {M : List (List Int)} (h : IsMap M) : MvI (fl M) M := by
  obtain ⟨h1, h2⟩ := h
  have hr : ∀ i, i < 3 → RowOk (fl M) (M.getD i []) := fun i hi => h1.rows i (by omega)
  have hv : ∀ i x, i < 3 → x < fl M → (M.getD i []).getD x 0 = (mv M i x : Nat) ∧ mv M i x < fl M := fun i x hi hx => by
    obtain ⟨a, b, c⟩ := hr i hi
    have := b.at (k := x) (by omega)
    unfold mv
    omega
  refine ⟨h2, fun i hi => (hr i hi).1, fun i x hi hx => (hv i x hi hx).1, fun i x hi hx => (hv i x hi hx).2, fun i x hi hx => ?_, fun i x hi hx => ?_, fun x hx => ?_, fun x hx => ?_⟩
  · obtain ⟨a, b, c⟩ := hr i hi
    have := (c x (by omega)).2
    have h3 : mv M i (mv M i x) = ((M.getD i []).getD ((M.getD i []).getD x 0).toNat 0).toNat := rfl
    rw [h3, this]
    omega
  · obtain ⟨a, b, c⟩ := hr i hi
    have := (c x (by omega)).1
    rw [(hv i x hi hx).1] at this
    omega
  · have := (h1.com 0 2 x (by omega) (by omega) hx).2
    unfold mv
    rw [this]
  · have := (h1.com 0 2 x (by omega) (by omega) hx).1
    rw [(hv 0 x (by omega) hx).1, (hv 2 x (by omega) hx).1] at this
    omega
def tpP (T : List (List Tg)) (i j : Nat) : Nat := (tg T j i).1.toNat
end Go.Proofs.YtcmahhfjpgoceaaGreat
set_option maxRecDepth 100000
namespace Go.Proofs.YtcmahhfjpgoceaaGreat
open Go.Cl
open Classical

inductive Lk (M : List (List Int)) (S : List Nat) (x : Nat) : Nat → Prop
  | refl : Lk M S x x
  | step {y i : Nat} : Lk M S x y → i ∈ S → Lk M S x (mv M i y)
variable {n : Nat} {M : List (List Int)} {T : List (List Tg)} {S : List Nat}
theorem rch_lk {L : List (List Int)} (hL : L = S.map fun i => M.getD i []) {x y : Nat} : Rch L x y ↔ Lk M S x y := by
  subst hL
  constructor
  · intro h
    induction h with
    | refl => exact .refl
    | step _ hp ih =>
      obtain ⟨i, hi, rfl⟩ := List.mem_map.1 hp
      exact ih.step hi
  · intro h
    induction h with
    | refl => exact .refl
    | step _ hi ih => exact ih.step (List.mem_map.2 ⟨_, hi, rfl⟩)
def two (i : Nat) : List Nat := if i = 0 then [1, 2] else if i = 1 then [0, 2] else [0, 1]
theorem oth_two (h : M.length = 3) {i : Nat} (hi : i < 3) : oth M i M.length = (two i).map fun k => M.getD k [] := by
  match M, h with
  | [a, b, c], _ =>
    have : i = 0 ∨ i = 1 ∨ i = 2 := by omega
    rcases this with rfl | rfl | rfl <;> rfl
inductive Pl (T : List (List Tg)) (S : List Nat) (j : Nat) : Nat → Prop
  | refl : Pl T S j j
  | step {k i : Nat} : Pl T S j k → i ∈ S → (tg T k i).2 < 0 → Pl T S j (tpP T i k)
structure Kd (T : List (List Tg)) (S : List Nat) (C : Nat → Nat) (Q : Nat → List Nat) : Prop where
  c : ∀ j, j < T.length → C j < T.length ∧ C (C j) = C j
  to : ∀ j, j < T.length → ∀ i ∈ S, if (tg T j i).2 < 0 then C (tpP T i j) = C j else tpP T i j = j ∧ (tg T j i).2.toNat ∈ Q (C j)
  pl : ∀ j, j < T.length → Pl T S j (C j)
  re : ∀ j, j < T.length → ∀ m ∈ Q (C j), ∃ k, k < T.length ∧ C k = C j ∧ ∃ i ∈ S, tg T k i = ((k : Int), (m : Int))
end Go.Proofs.YtcmahhfjpgoceaaGreat
set_option maxRecDepth 100000
namespace Go.Proofs.YtcmahhfjpgoceaaGreat
open Go.Cl
open Classical
variable {n : Nat} {M : List (List Int)} {T U : List (List Tg)} {S : List Nat}

def tA : List (List Tg) := [[(0, 1), (0, 0), (1, -1)], [(1, 1), (1, 2), (0, -1)]]
def tC : List (List Tg) := [[(1, -1), (0, 2), (0, 1)], [(0, -1), (2, -1), (1, 1)], [(2, 0), (1, -1), (3, -1)], [(3, 0), (3, 1), (2, -1)]]
structure Nice (T : List (List Tg)) (d : Nat → Nat) : Prop where
  ok : IsTpl T
  all : Kd T [0, 1, 2] (fun _ => 0) fun _ => [0, 1, 2]
  d0 : d 0 = 0
  d1 : ∀ j, j < T.length → d j < 2
  par : ∀ j i, j < T.length → i < 3 → (tg T j i).2 < 0 → d (tpP T i j) ≠ d j
end Go.Proofs.YtcmahhfjpgoceaaGreat
set_option maxRecDepth 100000
namespace Go.Proofs.YtcmahhfjpgoceaaGreat
open Go.Cl
open Classical
variable {n : Nat} {M : List (List Int)} {T U : List (List Tg)}

end Go.Proofs.YtcmahhfjpgoceaaGreat
