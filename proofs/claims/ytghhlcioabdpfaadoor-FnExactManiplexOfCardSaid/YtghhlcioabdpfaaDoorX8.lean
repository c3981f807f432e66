/- Texts that belong together. -/
import Derived.Test.YtghhlcioabdpfaaDoorX6
import Derived.Test.YtghhlcioabdpfaaDoorX7
set_option linter.unusedSimpArgs false
set_option linter.unusedVariables false
set_option maxRecDepth 100000
namespace Go.Proofs.YtghhlcioabdpfaaDoor
open Go.Gov
open Classical

def Grt (F G : List (List Int)) : Prop := G.Nodup ∧ ∀ x, x ∈ G ↔ x ∈ F ∧ x ≠ [] ∧ ∀ y ∈ F, x.Sublist y → y = x
def DescL (l : List (List Int)) : Prop := l.Pairwise fun a b => b.length ≤ a.length
structure GrI (T : List (List Int)) (j : Nat) (O : List (List Int)) : Prop where
  mem : ∀ x ∈ O, x ≠ [] ∧ x ∈ T.take j
  cov : ∀ x ∈ T.take j, x ≠ [] → ∃ y ∈ O, x.Sublist y
  apart : O.Pairwise fun a b => b.length ≤ a.length ∧ ¬ b.Sublist a
theorem GrI.start (T : List (List Int)) : GrI T 0 [] := ⟨by simp, by simp, List.Pairwise.nil⟩
theorem take_one {T : List (List Int)} {j : Nat} (hj : j < T.length) : T.take (j + 1) = T.take j ++ [T.getD j []] := by
  rw [List.take_succ_eq_append_getElem hj]
  simp [hj]
theorem GrI.skip {T O : List (List Int)} {j : Nat} (h : GrI T j O) (hj : j < T.length) (hs : T.getD j [] = [] ∨ ∃ y ∈ O, (T.getD j []).Sublist y) : GrI T (j + 1) O := by
  refine ⟨fun x hx => ⟨(h.mem x hx).1, ?_⟩, fun x hx hx0 => ?_, h.apart⟩
  · rw [take_one hj]; exact List.mem_append_left _ (h.mem x hx).2
  · rw [take_one hj] at hx
    rcases List.mem_append.1 hx with hx | hx
    · exact h.cov x hx hx0
    · obtain rfl := List.mem_singleton.1 hx
      rcases hs with hs | hs
      · exact absurd hs hx0
      · exact hs
theorem desc_take {T : List (List Int)} (hD : DescL T) {j : Nat} (hj : j < T.length) {x : List Int} (hx : x ∈ T.take j) : (T.getD j []).length ≤ x.length := by
  obtain ⟨i, hi, rfl⟩ := List.mem_iff_getElem.1 hx
  have hil : i < j := by rw [List.length_take] at hi; omega
  have := (List.pairwise_iff_getElem.1 hD) i j (by omega) hj hil
  rw [List.getElem_take]
  simpa [hj] using this
theorem GrI.put {T O : List (List Int)} {j : Nat} (h : GrI T j O) (hD : DescL T) (hj : j < T.length) (h0 : T.getD j [] ≠ []) (hs : ¬ ∃ y ∈ O, (T.getD j []).Sublist y) : GrI T (j + 1) (O ++ [T.getD j []]) := by
  refine ⟨fun x hx => ?_, fun x hx hx0 => ?_, ?_⟩
  · rw [take_one hj]
    rcases List.mem_append.1 hx with hx | hx
    · exact ⟨(h.mem x hx).1, List.mem_append_left _ (h.mem x hx).2⟩
    · obtain rfl := List.mem_singleton.1 hx
      exact ⟨h0, List.mem_append_right _ (by simp)⟩
  · rw [take_one hj] at hx
    rcases List.mem_append.1 hx with hx | hx
    · obtain ⟨y, hy, hxy⟩ := h.cov x hx hx0
      exact ⟨y, List.mem_append_left _ hy, hxy⟩
    · obtain rfl := List.mem_singleton.1 hx
      exact ⟨_, List.mem_append_right _ (by simp), List.Sublist.refl _⟩
  · refine List.pairwise_append.2 ⟨h.apart, by simp, fun a ha b hb => ?_⟩
    obtain rfl := List.mem_singleton.1 hb
    exact ⟨desc_take hD hj (h.mem a ha).2, fun hab => hs ⟨a, ha, hab⟩⟩
theorem GrI.done {T O : List (List Int)} (h : GrI T T.length O) : Grt T O := by
  have hm := h.mem
  have hc := h.cov
  rw [List.take_length] at hm hc
  have hanti : ∀ a ∈ O, ∀ b ∈ O, a.Sublist b → a = b := by
    have hp : O.Pairwise fun a b => (a.Sublist b → a = b) ∧ (b.Sublist a → b = a) := h.apart.imp fun {a b} ⟨h1, h2⟩ => ⟨fun hab => hab.eq_of_length_le h1, fun hba => absurd hba h2⟩
    intro a ha b hb
    obtain ⟨i, hi, rfl⟩ := List.mem_iff_getElem.1 ha
    obtain ⟨k, hk, rfl⟩ := List.mem_iff_getElem.1 hb
    rcases Nat.lt_trichotomy i k with h5 | h5 | h5
    · exact (List.pairwise_iff_getElem.1 hp i k hi hk h5).1
    · subst h5; exact fun _ => rfl
    · exact (List.pairwise_iff_getElem.1 hp k i hk hi h5).2
  refine ⟨h.apart.imp fun {a b} ⟨_, h2⟩ e => h2 (e ▸ List.Sublist.refl _), fun x => ⟨fun hx => ⟨(hm x hx).2, (hm x hx).1, fun y hy hxy => ?_⟩, fun ⟨h1, h2, h3⟩ => ?_⟩⟩
  · have hy0 : y ≠ [] := fun e => (hm x hx).1 (by subst e; exact List.sublist_nil.1 hxy)
    obtain ⟨z, hz, hyz⟩ := hc y hy hy0
    have := hanti x hx z hz (hxy.trans hyz)
    subst this
    exact hyz.eq_of_length_le hxy.length_le
  · obtain ⟨y, hy, hxy⟩ := hc x h1 h2
    exact h3 y (hm y hy).2 hxy ▸ hy
theorem len_of_sub : ∀ {G F : List (List Int)}, G.Nodup → (∀ x ∈ G, x ∈ F) → G.length ≤ F.length
  | [], F, _, _ => Nat.zero_le _
  | x :: G, F, hG, hs => by
    obtain ⟨h1, h2⟩ := List.nodup_cons.1 hG
    have hp := List.perm_cons_erase (hs x List.mem_cons_self)
    have hlen := hp.length_eq
    have := len_of_sub h2 (F := F.erase x) fun z hz => by
      rcases List.mem_cons.1 (hp.mem_iff.1 (hs z (List.mem_cons_of_mem _ hz))) with e | e
      · exact absurd (e ▸ hz) h1
      · exact e
    simp only [List.length_cons] at *
    omega
theorem GrI.len {T O : List (List Int)} {j : Nat} (h : GrI T j O) : O.length ≤ T.length :=
  len_of_sub (h.apart.imp fun {a b} ⟨_, h2⟩ e => h2 (e ▸ List.Sublist.refl _)) fun x hx => List.mem_of_mem_take (h.mem x hx).2
def Seen (O : List (List Int)) (n : ByteArray) : Prop := ∃ x ∈ O, ∃ p : List Int, p.Sublist x ∧ n = kT p
def SeenK (O : List (List Int)) (x : List Int) (k i : Nat) (n : ByteArray) : Prop := Seen O n ∨ (∃ p : List Int, p.Sublist x ∧ p.length < k ∧ n = kT p) ∨ ∃ p ∈ (prt k x).take i, n = kT p
theorem SeenK.zero (O : List (List Int)) (x : List Int) (n : ByteArray) : Seen O n ↔ SeenK O x 0 0 n := by simp [SeenK]
theorem SeenK.step {O : List (List Int)} {x : List Int} {k i : Nat} (hi : i < (prt k x).length) (n : ByteArray) : (SeenK O x k i n ∨ n = kT ((prt k x).getD i [])) ↔ SeenK O x k (i + 1) n := by
  unfold SeenK
  rw [take_one hi]
  simp only [List.mem_append, List.mem_singleton]
  constructor
  · rintro ((h | h | ⟨p, hp, h⟩) | h)
    · exact .inl h
    · exact .inr (.inl h)
    · exact .inr (.inr ⟨p, .inl hp, h⟩)
    · exact .inr (.inr ⟨_, .inr rfl, h⟩)
  · rintro (h | h | ⟨p, hp | hp, h⟩)
    · exact .inl (.inl h)
    · exact .inl (.inr (.inl h))
    · exact .inl (.inr (.inr ⟨p, hp, h⟩))
    · exact .inr (by rw [h, hp])
theorem SeenK.next {O : List (List Int)} {x : List Int} {k : Nat} (n : ByteArray) : SeenK O x k (prt k x).length n ↔ SeenK O x (k + 1) 0 n := by
  unfold SeenK
  rw [List.take_length]
  simp only [List.take_zero, List.not_mem_nil, false_and, exists_const, or_false]
  constructor
  · rintro (h | ⟨p, h1, h2, h3⟩ | ⟨p, h1, h2⟩)
    · exact .inl h
    · exact .inr ⟨p, h1, by omega, h3⟩
    · obtain ⟨h3, h4⟩ := (prt_mem _ _ _).1 h1
      exact .inr ⟨p, h3, by omega, h2⟩
  · rintro (h | ⟨p, h1, h2, h3⟩)
    · exact .inl h
    · by_cases e : p.length = k
      · exact .inr (.inr ⟨p, (prt_mem _ _ _).2 ⟨h1, e⟩, h3⟩)
      · exact .inr (.inl ⟨p, h1, by omega, h3⟩)
theorem SeenK.all {O : List (List Int)} {x : List Int} (n : ByteArray) : SeenK O x (x.length + 1) 0 n ↔ Seen (O ++ [x]) n := by
  unfold SeenK Seen
  simp only [List.take_zero, List.not_mem_nil, false_and, exists_const, or_false, List.mem_append, List.mem_singleton]
  constructor
  · rintro (⟨y, hy, h⟩ | ⟨p, h1, h2, h3⟩)
    · exact ⟨y, .inl hy, h⟩
    · exact ⟨x, .inr rfl, p, h1, h3⟩
  · rintro ⟨y, hy | rfl, p, h1, h2⟩
    · exact .inl ⟨y, hy, p, h1, h2⟩
    · exact .inr ⟨p, h1, Nat.lt_succ_of_le h1.length_le, h2⟩
end Go.Proofs.YtghhlcioabdpfaaDoor
