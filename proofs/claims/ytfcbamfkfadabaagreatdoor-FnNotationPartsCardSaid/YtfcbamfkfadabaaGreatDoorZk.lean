/- Texts that belong together. -/
import Derived.KernelRfl
import Derived.Test.YtfcbamfkfadabaaGreatDoorZg
import Derived.Test.YtfcbamfkfadabaaGreatDoorZj
set_option linter.unusedSimpArgs false
set_option linter.unusedVariables false
set_option maxRecDepth 100000
namespace Go.Proofs.YtfcbamfkfadabaaGreatDoor
open Go.Gov
open Classical

def PrK (p : List Int) (k : Nat) : Prop := ∀ j, j < k → (0 ≤ p.getD j 0 ∧ p.getD j 0 ≤ (p.length : Int) - 1) ∧ ∀ i, i < j → p.getD i 0 ≠ p.getD j 0
def IsPrm (p : List Int) : Prop := p.length ≤ 400 ∧ PrK p p.length
def Fr1 (p : List Int) (k : Nat) : Prop := p.getD k 0 ≠ (k : Int) ∧ p.getD (p.getD k 0).toNat 0 = (k : Int)
def IsFre (p : List Int) : Prop := ∀ k, k < p.length → Fr1 p k
end Go.Proofs.YtfcbamfkfadabaaGreatDoor
set_option maxRecDepth 100000
namespace Go.Proofs.YtfcbamfkfadabaaGreatDoor
open Go.Gov Go.Sort

theorem mul_c (x y : Nat) (hx : x < 18446744073709551616) (hy : y < 18446744073709551616) : Pure Tryz.prog 202 [.val (.int .u64 x), .val (.int .u64 y)] (.tup [.val (.int .u64 ((x * y / 18446744073709551616 : Nat) : Int)), .val (.int .u64 ((x * y % 18446744073709551616 : Nat) : Int))]) [] := by
  intro g w vals hp hl1 hr
  have h0 := hr 0 (by simp)
  have h1 := hr 1 (by simp)
  simp only [List.getElem_cons_zero, List.getElem_cons_succ] at h0 h1
  have hv : vals = #[.int .u64 x, .int .u64 y] := by
    refine Array.ext (by simpa using hl1) fun i h2 h3 => ?_
    have e0 := h0.val_inv.1
    have e1 := h1.val_inv.1
    match i, h3 with
    | 0, _ => simpa [h2] using e0
    | 1, _ => simpa [h2] using e1
  subst hv
  refine (Any.bits_Mul Tryz.mulL x y hx hy w).mono ?_
  rintro e w' ⟨rfl, rfl⟩
  refine ⟨_, g, _, [], rfl, Mv.refl hp, .tup (by simp) (fun m hm => ?_), fun _ _ _ => rfl, rfl, rfl⟩
  match m, hm with
  | 0, _ => exact .val
  | 1, _ => exact .val

theorem wrapU (n : Nat) (h : n < 18446744073709551616) : IntKind.wrap .u64 (n : Int) = n := by
  show (if (false && decide ((n : Int) % 2 ^ 64 ≥ 2 ^ (64 - 1))) = true then (n : Int) % 2 ^ 64 - 2 ^ 64 else (n : Int) % 2 ^ 64) = (n : Int)
  rw [Bool.false_and, if_neg (by decide)]
  omega
theorem wrapI (n : Nat) (h : n < 9223372036854775808) : IntKind.wrap .i64 (n : Int) = n := by
  show (if (true && decide ((n : Int) % 2 ^ 64 ≥ 2 ^ (64 - 1))) = true then (n : Int) % 2 ^ 64 - 2 ^ 64 else (n : Int) % 2 ^ 64) = (n : Int)
  rw [Bool.true_and, if_neg (by simp; omega)]
  omega

theorem repeat_c (v : Int) (n : Nat) (hn : n ≤ 1099511627776) : Pure Tryz.prog 156 [ints [v], i64 n] (.sl 0 1 0 n) [some (intsC (List.replicate n v))] := by
  have e1 : IntKind.wrap .u64 ((1 : Nat) : Int) = ((1 : Nat) : Int) := wrapU 1 (by omega)
  have e2 := wrapU n (by omega)
  refine pureV ok156 rfl ?_; unfold c156
  refine RN ?_
  refine fun _ => ?_
  refine RN ?_
  rw [e1, e2]
  have e3 : 1 * n / 18446744073709551616 = 0 := by omega
  have e4 : 1 * n % 18446744073709551616 = n := by omega
  have e5 := wrapI n (by omega)
  have hm := mul_c 1 n (by omega) (by omega)
  rw [e3, e4] at hm
  refine pureC1 (hm) ?_
  refine RN ?_
  refine fun _ => ?_
  refine RN ?_
  have h0 : Nat.min 1 n ≤ n := Nat.min_le_right _ _
  have h1 : 0 < n → 0 < Nat.min 1 n := fun h => by rw [show Nat.min 1 n = 1 from Nat.min_eq_left (by omega)]; omega
  have hc0 : List.take (Nat.min 1 n) (intsC [v]) ++ List.drop (Nat.min 1 n) (intsC (List.replicate n 0)) = intsC (List.replicate (Nat.min 1 n) v ++ List.replicate (n - Nat.min 1 n) 0) := by
    rw [take_intsC, drop_intsC, app_intsC]
    congr 2
    · rcases Nat.eq_zero_or_pos n with h | h
      · subst h; simp
      · rw [show Nat.min 1 n = 1 from Nat.min_eq_left (by omega)]; rfl
    · simp
  rw [hc0]
  generalize Nat.min 1 n = m0 at h0 h1
  refine V_loop (α := Nat) (S := fun m => ([(7, .sl 0 1 0 n), (8, i64 m)], [some (intsC (List.replicate m v ++ List.replicate (n - m) 0))])) (C := fun m => m ≤ n ∧ (0 < n → 0 < m)) (μ := fun m => n - m) m0 ⟨h0, h1⟩ (by exact Ref.frame (by simp [sub, fget])) ?_
  rintro m ⟨hm1, hm2⟩
  have hlen : (List.replicate m v ++ List.replicate (n - m) (0 : Int)).length = n := by simp; omega
  refine RN ?_
  refine ⟨fun hc => ?_, fun hc => ?_⟩
  · have hmp := hm2 (by omega)
    refine RN ?_
    refine V_alts ?_
    refine RN ?_
    have t1 : ((m : Int) - 0).toNat = m := by omega
    have t2 : Int.toNat 0 = 0 := rfl
    have t3 : ((n : Int) - (m : Int)).toNat = n - m := by omega
    have hq1 : Nat.min m (n - m) ≤ n - m := Nat.min_le_right _ _
    have hq3 : Nat.min m (n - m) ≤ m := Nat.min_le_left _ _
    have hq2 : 0 < Nat.min m (n - m) := Nat.lt_min.2 ⟨hmp, by omega⟩
    simp only [t1, t2, t3, List.drop_zero, take_intsC, all_plain_intsC, all_one_intsC, drop_intsC, app_intsC, true_and]
    generalize Nat.min m (n - m) = q at hq1 hq2 hq3
    refine ⟨by omega, m + q, ⟨by omega, by omega⟩, by omega, Ref.to ?_ (by simp [sub, fget])⟩
    have u1 : (List.replicate m v ++ List.replicate (n - m) (0 : Int)).take m = List.replicate m v := by rw [List.take_append_of_le_length (by simp)]; simp
    have u2 : (List.replicate m v).take q = List.replicate q v := by rw [List.take_replicate, Nat.min_eq_left hq3]
    have u3 : (List.replicate m v ++ List.replicate (n - m) (0 : Int)).drop (m + q) = List.replicate (n - (m + q)) 0 := by
      rw [List.drop_append, List.drop_of_length_le (by simp), List.nil_append, List.drop_replicate, List.length_replicate]
      congr 1; omega
    rw [u1, u2, u3, List.replicate_append_replicate]
  · obtain rfl : m = n := by omega
    refine RN ?_
    simp

end Go.Proofs.YtfcbamfkfadabaaGreatDoor
set_option maxRecDepth 100000
namespace Go.Proofs.YtfcbamfkfadabaaGreatDoor
open Classical

def MvOk (n : Nat) (L : List (List Int)) : Prop := ∀ p ∈ L, p.length = n ∧ ∀ x, x < n → 0 ≤ p.getD x 0 ∧ p.getD x 0 < n ∧ p.getD (p.getD x 0).toNat 0 = x

inductive Rch (L : List (List Int)) (x : Nat) : Nat → Prop
  | refl : Rch L x x
  | step {y : Nat} {p : List Int} : Rch L x y → p ∈ L → Rch L x (p.getD y 0).toNat

theorem Rch.lt {n : Nat} {L : List (List Int)} (hL : MvOk n L) {x y : Nat} (h : Rch L x y) (hx : x < n) : y < n := by
  induction h with
  | refl => exact hx
  | step _ hp ih => have := (hL _ hp).2 _ ih; omega
noncomputable def fst (L : List (List Int)) (x : Nat) : Nat := ((List.range (x + 1)).find? fun y => decide (Rch L y x)).getD x
noncomputable def ncnt (L : List (List Int)) (k : Nat) : Nat := (List.range k).countP fun m => decide (fst L m = m)
noncomputable def lab (L : List (List Int)) (x : Nat) : Nat := ncnt L (fst L x)
end Go.Proofs.YtfcbamfkfadabaaGreatDoor
set_option maxRecDepth 100000
namespace Go.Proofs.YtfcbamfkfadabaaGreatDoor
open Go.Gov
open Classical

structure OrbI (L : List (List Int)) (n i : Nat) (V O : List Nat) (x : Option (Nat × Nat)) : Prop where
  nd : V.Nodup
  start : i ∈ V
  reach : ∀ y ∈ V, y < n ∧ Rch L i y
  wait : ∀ y ∈ O, y ∈ V
  done : ∀ y ∈ V, y ∉ O → (∀ q, x = some q → y ≠ q.1) → ∀ p ∈ L, (p.getD y 0).toNat ∈ V
  now : ∀ q, x = some q → q.1 ∈ V ∧ ∀ j, j < q.2 → ((L.getD j []).getD q.1 0).toNat ∈ V
  short : O.length ≤ V.length

theorem OrbI.skip {L : List (List Int)} {n i : Nat} {V O : List Nat} {x k : Nat} (h : OrbI L n i V O (some (x, k))) (hy : ((L.getD k []).getD x 0).toNat ∈ V) : OrbI L n i V O (some (x, k + 1)) :=
  ⟨h.nd, h.start, h.reach, h.wait, fun y hy hno hx => h.done y hy hno fun q hq => by cases hq; exact hx (x, k + 1) rfl, fun q hq => by
    cases hq
    obtain ⟨h1, h2⟩ := h.now (x, k) rfl
    refine ⟨h1, fun j hj => ?_⟩
    rcases Nat.lt_or_ge j k with h3 | h3
    · exact h2 j h3
    · obtain rfl : j = k := by dsimp only at hj; omega
      exact hy, h.short⟩
theorem OrbI.add {L : List (List Int)} {n i : Nat} {V O : List Nat} {x k : Nat} (h : OrbI L n i V O (some (x, k))) (hy : ((L.getD k []).getD x 0).toNat ∉ V) (hn : ((L.getD k []).getD x 0).toNat < n) (hr : Rch L i ((L.getD k []).getD x 0).toNat) :
    OrbI L n i (V ++ [((L.getD k []).getD x 0).toNat]) (O ++ [((L.getD k []).getD x 0).toNat]) (some (x, k + 1)) := by
  generalize hz : ((L.getD k []).getD x 0).toNat = z at hy hn hr
  refine ⟨?_, by simp [h.start], fun y hy' => ?_, fun y hy' => ?_, fun y hy' hno hx p hp => ?_, fun q hq => ?_, by have := h.short; simp; omega⟩
  · rw [List.nodup_append]
    exact ⟨h.nd, by simp, fun a ha b hb => by simp at hb; subst hb; exact fun e => hy (e ▸ ha)⟩
  · rcases List.mem_append.1 hy' with h1 | h1
    · exact h.reach y h1
    · simp at h1; subst h1; exact ⟨hn, hr⟩
  · rcases List.mem_append.1 hy' with h1 | h1
    · simp [h.wait y h1]
    · simp [List.mem_singleton.1 h1]
  · have hyO : y ∉ O := fun hm => hno (by simp [hm])
    have hyz : y ≠ z := fun e => hno (by simp [e])
    have hyV : y ∈ V := by
      rcases List.mem_append.1 hy' with h1 | h1
      · exact h1
      · exact absurd (List.mem_singleton.1 h1) hyz
    exact List.mem_append_left _ (h.done y hyV hyO (fun q hq => by cases hq; exact hx (x, k + 1) rfl) p hp)
  · cases hq
    obtain ⟨h1, h2⟩ := h.now (x, k) rfl
    refine ⟨by simp [h1], fun j hj => ?_⟩
    rcases Nat.lt_or_ge j k with h3 | h3
    · exact List.mem_append_left _ (h2 j h3)
    · obtain rfl : j = k := by dsimp only at hj; omega
      dsimp only
      rw [hz]
      exact List.mem_append_right _ (List.mem_singleton.2 rfl)
theorem OrbI.fin {L : List (List Int)} {n i : Nat} {V O : List Nat} {x : Nat} (h : OrbI L n i V O (some (x, L.length))) : OrbI L n i V O none :=
  ⟨h.nd, h.start, h.reach, h.wait, fun y hy hno _ p hp => by
    by_cases e : y = x
    · subst e
      obtain ⟨j, hj, rfl⟩ := List.mem_iff_getElem.1 hp
      have := (h.now (y, L.length) rfl).2 j hj
      simpa [hj] using this
    · exact h.done y hy hno (fun q hq => by cases hq; exact e) p hp, fun q hq => (by cases hq), h.short⟩

end Go.Proofs.YtfcbamfkfadabaaGreatDoor
set_option maxRecDepth 100000
namespace Go.Proofs.YtfcbamfkfadabaaGreatDoor
open Go.Gov
open Classical

end Go.Proofs.YtfcbamfkfadabaaGreatDoor
set_option maxRecDepth 100000
namespace Go.Proofs.YtfcbamfkfadabaaGreatDoor
open Go.Gov
open Classical

end Go.Proofs.YtfcbamfkfadabaaGreatDoor
