/- Texts that belong together. -/
import Derived.Test.YtghhlcioabdpfaaDoorZj
import Derived.Test.YtghhlcioabdpfaaDoorZq
import Derived.Test.YtghhlcioabdpfaaDoorZr
import Derived.Test.YtghhlcioabdpfaaDoorX1
set_option linter.unusedSimpArgs false
set_option linter.unusedVariables false
set_option maxRecDepth 100000
namespace Go.Proofs.YtghhlcioabdpfaaDoor
open Go.Gov
open Classical

theorem getD_el (l : List Int) (i : Nat) (h : i < l.length) : l.getD i 0 = l[i] := by simp [h]
end Go.Proofs.YtghhlcioabdpfaaDoor
set_option maxRecDepth 100000
namespace Go.Proofs.YtghhlcioabdpfaaDoor
open Go.Gov
open Classical

abbrev cpxA (v : Int) (M : List (List Int)) : AV := .agg [i64 v, mat M]
theorem eqCpx_c (v v' : Int) (M M' : List (List Int)) (hl : M.length ≤ 1099511627776) (hr : ∀ xs ∈ M, xs.length ≤ 1099511627776) (hl' : M'.length ≤ 1099511627776) (hr' : ∀ xs ∈ M', xs.length ≤ 1099511627776) : Pure Tryd.prog 12 [cpxA v M, cpxA v' M'] (bl (decide (v = v' ∧ M = M'))) [] := by
  refine pureV0 ok12 rfl rfl ?_; unfold c12
  (repeat first | simp only [go_sem, ↓reduceIte, Nat.reduceEqDiff, Nat.reduceAdd, reduceCtorEq] | with_reducible refine V_W ?_ | (with_reducible refine And.intro ?_ ?_; focus first | assumption | omega | decide | grind) | (with_reducible refine Br.mk ?_ ?_; focus (intros; omega)) | decide)
  refine ⟨fun hc => ?_, fun hc => ?_⟩
  · (repeat first | simp only [go_sem, ↓reduceIte, Nat.reduceEqDiff, Nat.reduceAdd, reduceCtorEq] | with_reducible refine V_W ?_ | (with_reducible refine And.intro ?_ ?_; focus first | assumption | omega | decide | grind) | (with_reducible refine Br.mk ?_ ?_; focus (intros; omega)) | decide)
    rw [decide_eq_false fun h => hc h.1]
  · (repeat first | simp only [go_sem, ↓reduceIte, Nat.reduceEqDiff, Nat.reduceAdd, reduceCtorEq] | with_reducible refine V_W ?_ | (with_reducible refine And.intro ?_ ?_; focus first | assumption | omega | decide | grind) | (with_reducible refine Br.mk ?_ ?_; focus (intros; omega)) | decide)
    refine pureC (eqInt64SS_c M M' hl hl' hr hr') (by simp only [go_sem, ↓reduceIte, Nat.reduceEqDiff, Nat.reduceAdd, reduceCtorEq] <;> rfl) (by first | rfl | simp only [go_sem, ↓reduceIte, Nat.reduceEqDiff, Nat.reduceAdd, reduceCtorEq]) ?_
    (repeat first | simp only [go_sem, ↓reduceIte, Nat.reduceEqDiff, Nat.reduceAdd, reduceCtorEq] | with_reducible refine V_W ?_ | (with_reducible refine And.intro ?_ ?_; focus first | assumption | omega | decide | grind) | (with_reducible refine Br.mk ?_ ?_; focus (intros; omega)) | decide)
    refine ⟨fun hc2 => ?_, fun hc2 => ?_⟩
    · (repeat first | simp only [go_sem, ↓reduceIte, Nat.reduceEqDiff, Nat.reduceAdd, reduceCtorEq] | with_reducible refine V_W ?_ | (with_reducible refine And.intro ?_ ?_; focus first | assumption | omega | decide | grind) | (with_reducible refine Br.mk ?_ ?_; focus (intros; omega)) | decide)
      rw [decide_eq_false fun h => hc2 h.2]
    · (repeat first | simp only [go_sem, ↓reduceIte, Nat.reduceEqDiff, Nat.reduceAdd, reduceCtorEq] | with_reducible refine V_W ?_ | (with_reducible refine And.intro ?_ ?_; focus first | assumption | omega | decide | grind) | (with_reducible refine Br.mk ?_ ?_; focus (intros; omega)) | decide)
      rw [decide_eq_true (And.intro hc hc2)]
end Go.Proofs.YtghhlcioabdpfaaDoor
set_option maxRecDepth 100000
namespace Go.Proofs.YtghhlcioabdpfaaDoor
open Go.Gov
open Classical

theorem least {p : Nat → Prop} : ∀ n, p n → ∃ n, p n ∧ ∀ m, m < n → ¬ p m := fun n => by
  induction n using Nat.strongRecOn with
  | ind n ih =>
    intro h
    by_cases hm : ∃ m, m < n ∧ p m
    · obtain ⟨m, h1, h2⟩ := hm
      exact ih m h1 h2
    · exact ⟨n, h, fun m h1 h2 => hm ⟨m, h1, h2⟩⟩
def Ab (B : List (List Int)) (x y : Nat) : Prop := (x : Int) ∈ B.getD y []
def Cv (n : Nat) (B : List (List Int)) (x y : Nat) : Prop := y < n ∧ Ab B x y ∧ ∀ z : Nat, Ab B x z → ¬ Ab B z y
structure Ord (n : Nat) (B : List (List Int)) : Prop where
  lt : ∀ {x y : Nat}, y < n → Ab B x y → x < y
  trn : ∀ {x y z : Nat}, z < n → Ab B x y → Ab B y z → Ab B x z

def Tl (n : Nat) (B : List (List Int)) : Nat → List Nat → Prop
  | x, [] => ∀ f, f < n → ¬ Ab B x f
  | x, y :: ys => Cv n B x y ∧ Tl n B y ys
def MaxC (n : Nat) (B : List (List Int)) : List Nat → Prop
  | [] => False
  | x :: xs => x < n ∧ (∀ y, ¬ Ab B y x) ∧ Tl n B x xs

section
variable {n : Nat} {B : List (List Int)} (ho : Ord n B)
include ho
theorem Tl.above : ∀ {x : Nat} {ys : List Nat}, Tl n B x ys → ∀ y ∈ ys, y < n ∧ Ab B x y
  | _, [], _, y, hy => by simp at hy
  | x, z :: ys, h, y, hy => by
    rcases List.mem_cons.1 hy with rfl | hy
    · exact ⟨h.1.1, h.1.2.1⟩
    · have h2 := Tl.above h.2 y hy
      exact ⟨h2.1, ho.trn h2.1 h.1.2.1 h2.2⟩
theorem Tl.same : ∀ {x : Nat} {xs ys : List Nat}, Tl n B x xs → Tl n B x ys → (∀ y ∈ xs, y ∈ ys) → xs = ys
  | _, [], [], _, _, _ => rfl
  | _, [], y :: ys, h, k, _ => absurd k.1.2.1 (h y k.1.1)
  | _, y :: xs, [], _, _, h => by simpa using h y (by simp)
  | x, y :: xs, z :: ys, h, k, hs => by
    have hyz : y = z := by
      rcases List.mem_cons.1 (hs y (by simp)) with h1 | h1
      · exact h1
      · exact absurd (Tl.above ho k.2 y h1).2 (h.1.2.2 z k.1.2.1)
    subst hyz
    rw [Tl.same h.2 k.2 fun w hw => ?_]
    rcases List.mem_cons.1 (hs w (List.mem_cons_of_mem _ hw)) with h1 | h1
    · have h2 := Tl.above ho h.2 w hw
      have := ho.lt h2.1 h2.2
      omega
    · exact h1
theorem MaxC.same {a b : List Nat} (h : MaxC n B a) (k : MaxC n B b) (hs : ∀ y ∈ a, y ∈ b) : a = b := by
  cases a with
  | nil => exact h.elim
  | cons x xs =>
    cases b with
    | nil => exact k.elim
    | cons z ys =>
      obtain ⟨h1, h2, h3⟩ := h
      obtain ⟨k1, k2, k3⟩ := k
      have hxz : x = z := by
        rcases List.mem_cons.1 (hs x (by simp)) with h4 | h4
        · exact h4
        · exact absurd (Tl.above ho k3 x h4).2 (h2 z)
      subst hxz
      rw [Tl.same ho h3 k3 fun w hw => ?_]
      rcases List.mem_cons.1 (hs w (List.mem_cons_of_mem _ hw)) with h4 | h4
      · have h5 := Tl.above ho h3 w hw
        have := ho.lt h5.1 h5.2
        omega
      · exact h4
theorem Tl.some : ∀ (k x : Nat), n ≤ x + k → x < n → ∃ ys, Tl n B x ys
  | 0, x, h, hx => by omega
  | k + 1, x, h, hx => by
    by_cases hf : ∃ f, f < n ∧ Ab B x f
    · obtain ⟨f0, hf0⟩ := hf
      obtain ⟨f, hm, hl⟩ := least (p := fun f => f < n ∧ Ab B x f) f0 hf0
      have := ho.lt hm.1 hm.2
      obtain ⟨ys, hys⟩ := Tl.some k f (by omega) hm.1
      refine ⟨f :: ys, ⟨hm.1, hm.2, fun z h1 h2 => ?_⟩, hys⟩
      have hz := ho.lt hm.1 h2
      exact hl z hz ⟨by omega, h1⟩
    · exact ⟨[], fun f hf' h => hf ⟨f, hf', h⟩⟩
theorem MaxC.some : ∀ (x : Nat) (ys : List Nat), x < n → Tl n B x ys → ∃ c, MaxC n B c ∧ ∀ y ∈ x :: ys, y ∈ c
  | x, ys, hx, h => by
    by_cases hf : ∃ f, f < n ∧ Ab B f x
    · have hex : ∃ f, Ab B f x ∧ ∀ g, Ab B g x → g ≤ f := by
        obtain ⟨f, h1, h2⟩ := hf
        have := ho.lt hx h2
        obtain ⟨k, hm, hl⟩ := least (p := fun k => k ≤ x ∧ Ab B (x - k) x) (x - f) ⟨by omega, by rwa [show x - (x - f) = f by omega]⟩
        refine ⟨x - k, hm.2, fun g hg => ?_⟩
        have hgx := ho.lt hx hg
        rcases Nat.lt_or_ge (x - k) g with h | h
        · exact absurd ⟨by omega, by rwa [show x - (x - g) = g by omega]⟩ (hl (x - g) (by omega))
        · exact h
      obtain ⟨f, hfa, hfm⟩ := hex
      have hlt := ho.lt hx hfa
      obtain ⟨c, h1, h2⟩ := MaxC.some f (x :: ys) (by omega) ⟨⟨hx, hfa, fun z h1 h2 => by
        have := ho.lt (y := z) (by have := ho.lt hx h2; omega) h1
        have := hfm z h2
        omega⟩, h⟩
      exact ⟨c, h1, fun y hy => h2 y (List.mem_cons_of_mem _ hy)⟩
    · exact ⟨x :: ys, ⟨hx, fun y hy => hf ⟨y, by have := ho.lt hx hy; omega, hy⟩, h⟩, fun y hy => hy⟩
termination_by x => x
end
end Go.Proofs.YtghhlcioabdpfaaDoor
set_option maxRecDepth 100000
namespace Go.Proofs.YtghhlcioabdpfaaDoor
open Go.Gov
open Classical

section
variable (n : Nat) (B : List (List Int))
end
section
variable {n : Nat} {B : List (List Int)}
end
section
variable {r : Int} {R : List Int} {B : List (List Int)} (hp : IsPos r R B)
include hp
end
section
variable {r : Int} {R : List Int} {B : List (List Int)} (hp : IsPos r R B)
include hp
end
end Go.Proofs.YtghhlcioabdpfaaDoor
set_option maxRecDepth 100000
namespace Go.Proofs.YtghhlcioabdpfaaDoor
open Go.Gov
open Classical

theorem filt_take {α : Type} (S : List α) (p : α → Bool) (d : α) (k : Nat) (hk : k ≤ S.length) (h1 : ∀ i, i < k → p (S.getD i d) = true) (h2 : ∀ i, k ≤ i → i < S.length → p (S.getD i d) = false) : S.filter p = S.take k ∧ (S.filter fun y => !p y) = S.drop k := by
  have e : S = S.take k ++ S.drop k := (List.take_append_drop k S).symm
  have ht : ∀ y ∈ S.take k, p y = true := fun y hy => by
    obtain ⟨i, hi, rfl⟩ := List.mem_iff_getElem.1 hy
    have hi' : i < k := by rw [List.length_take] at hi; omega
    have := h1 i hi'
    rw [List.getElem_take]
    simpa [show i < S.length by omega] using this
  have hd : ∀ y ∈ S.drop k, p y = false := fun y hy => by
    obtain ⟨i, hi, rfl⟩ := List.mem_iff_getElem.1 hy
    rw [List.length_drop] at hi
    have := h2 (k + i) (by omega) (by omega)
    rw [List.getElem_drop]
    simpa [show k + i < S.length by omega] using this
  constructor
  · conv => lhs; rw [e]
    rw [List.filter_append, List.filter_eq_self.2 ht, List.filter_eq_nil_iff.2 fun y hy => by simp [hd y hy]]
    simp
  · conv => lhs; rw [e]
    rw [List.filter_append, List.filter_eq_nil_iff.2 fun y hy => by simp [ht y hy], List.filter_eq_self.2 fun y hy => by simp [hd y hy]]
    simp

theorem filt_len {α : Type} (S : List α) (p : α → Bool) : (S.filter p).length + (S.filter fun y => !p y).length = S.length := by
  induction S with
  | nil => rfl
  | cons x S ih =>
    by_cases h : p x
    · simp [List.filter_cons, h]; omega
    · simp [List.filter_cons, h]; omega
noncomputable def putL (S : List (List Int)) (x : List Int) : List (List Int) := if x ∈ S then S else S.filter (fun y => lexL y x) ++ x :: S.filter (fun y => !lexL y x)
abbrev Srt (S : List (List Int)) : Prop := S.Pairwise (lexL · · = true)
theorem putL_sorted {S : List (List Int)} {x : List Int} (h : Srt S) : Srt (putL S x) := by
  unfold putL
  split
  · exact h
  · rename_i hx
    refine List.pairwise_append.2 ⟨h.filter _, List.pairwise_cons.2 ⟨fun y hy => ?_, h.filter _⟩, fun a ha b hb => ?_⟩
    · obtain ⟨h1, h2⟩ := List.mem_filter.1 hy
      cases h3 : lexL x y with
      | true => rfl
      | false => exact absurd (lexL_tri h3 (by simpa using h2) ▸ h1) hx
    · have ha2 : lexL a x = true := by simpa using (List.mem_filter.1 ha).2
      rcases List.mem_cons.1 hb with rfl | hb
      · exact ha2
      · obtain ⟨h1, h2⟩ := List.mem_filter.1 hb
        cases h3 : lexL x b with
        | true => exact lexL_trans ha2 h3
        | false =>
          have := lexL_tri h3 (by simpa using h2)
          exact this ▸ ha2
theorem putL_mem {S : List (List Int)} {x y : List Int} : y ∈ putL S x ↔ y ∈ S ∨ y = x := by
  unfold putL
  split
  · rename_i hx
    constructor
    · exact .inl
    · rintro (h | rfl)
      · exact h
      · exact hx
  · simp only [List.mem_append, List.mem_cons, List.mem_filter]
    constructor
    · rintro (h | rfl | h)
      · exact .inl h.1
      · exact .inr rfl
      · exact .inl h.1
    · rintro (h | rfl)
      · cases h2 : lexL y x
        · exact .inr (.inr ⟨h, by simp⟩)
        · exact .inl ⟨h, by simp⟩
      · exact .inr (.inl rfl)
theorem putL_len (S : List (List Int)) (x : List Int) : (putL S x).length ≤ S.length + 1 := by
  unfold putL
  split
  · omega
  · have := filt_len S (fun y => lexL y x)
    simp only [List.length_append, List.length_cons]
    omega
noncomputable def srtF (L : List (List Int)) : List (List Int) := (L.filter fun l => decide (0 < l.length)).foldl putL []
theorem srtF_take_yes {L : List (List Int)} {i : Nat} (hi : i < L.length) (h : 0 < (L.getD i []).length) : srtF (L.take (i + 1)) = putL (srtF (L.take i)) (L.getD i []) := by
  unfold srtF
  rw [show L.getD i [] = L[i] by simp [hi]] at h ⊢
  rw [List.take_succ_eq_append_getElem hi, List.filter_append, List.foldl_append, List.filter_cons_of_pos (by simpa using h)]
  rfl
theorem srtF_take_no {L : List (List Int)} {i : Nat} (hi : i < L.length) (h : ¬ 0 < (L.getD i []).length) : srtF (L.take (i + 1)) = srtF (L.take i) := by
  unfold srtF
  rw [show L.getD i [] = L[i] by simp [hi]] at h
  rw [List.take_succ_eq_append_getElem hi, List.filter_append, List.filter_cons_of_neg (by simpa using h)]
  simp
theorem foldl_put : ∀ (l S : List (List Int)), Srt S → Srt (l.foldl putL S) ∧ (∀ y, y ∈ l.foldl putL S ↔ y ∈ S ∨ y ∈ l) ∧ (l.foldl putL S).length ≤ S.length + l.length
  | [], S, h => ⟨h, fun y => by simp, by simp⟩
  | x :: l, S, h => by
    obtain ⟨h1, h2, h3⟩ := foldl_put l (putL S x) (putL_sorted h)
    refine ⟨h1, fun y => ?_, ?_⟩
    · rw [List.foldl_cons, h2 y, putL_mem, List.mem_cons, or_assoc]
    · rw [List.foldl_cons]
      have := putL_len S x
      simp only [List.length_cons]
      omega
theorem srtF_srt (L : List (List Int)) : Srt (srtF L) := (foldl_put _ _ .nil).1
theorem srtF_mem (L : List (List Int)) (y : List Int) : y ∈ srtF L ↔ y ∈ L ∧ 0 < y.length := by
  rw [srtF, (foldl_put _ _ .nil).2.1 y]
  simp
theorem srtF_len (L : List (List Int)) : (srtF L).length ≤ L.length := by
  have h1 := (foldl_put (L.filter fun l => decide (0 < l.length)) [] .nil).2.2
  have h2 := List.length_filter_le (fun l : List Int => decide (0 < l.length)) L
  unfold srtF
  simp only [List.length_nil] at h1
  omega
theorem srt_ext {a b : List (List Int)} (ha : Srt a) (hb : Srt b) (h : ∀ y, y ∈ a ↔ y ∈ b) : a = b := by
  induction a generalizing b with
  | nil =>
    cases b with
    | nil => rfl
    | cons y b => exact absurd ((h y).2 (by simp)) (by simp)
  | cons x a ih =>
    cases b with
    | nil => exact absurd ((h x).1 (by simp)) (by simp)
    | cons y b =>
      obtain ⟨ha1, ha2⟩ := List.pairwise_cons.1 ha
      obtain ⟨hb1, hb2⟩ := List.pairwise_cons.1 hb
      have hxy : x = y := by
        rcases List.mem_cons.1 ((h x).1 (by simp)) with h1 | h1
        · exact h1
        · rcases List.mem_cons.1 ((h y).2 (by simp)) with h2 | h2
          · exact h2.symm
          · have := lexL_trans (hb1 x h1) (ha1 y h2)
            rw [lexL_irr] at this
            cases this
      subst hxy
      rw [ih ha2 hb2 fun z => ?_]
      constructor
      · intro hz
        rcases List.mem_cons.1 ((h z).1 (List.mem_cons_of_mem _ hz)) with h1 | h1
        · subst h1
          have := ha1 z hz
          rw [lexL_irr] at this
          cases this
        · exact h1
      · intro hz
        rcases List.mem_cons.1 ((h z).2 (List.mem_cons_of_mem _ hz)) with h1 | h1
        · subst h1
          have := hb1 z hz
          rw [lexL_irr] at this
          cases this
        · exact h1
def Win (a b : List Int) : Prop := ∀ e, e ∈ a → e ∈ b
def Top (S : List (List Int)) (a : List Int) : Prop := ∀ b, b ∈ S → b ≠ a → ¬ Win a b
noncomputable def facL (S : List (List Int)) : List (List Int) := S.filter fun a => decide (Top S a)
noncomputable def facT (S : List (List Int)) (i : Nat) : List (List Int) := (S.take i).filter fun a => decide (Top S a)
theorem facT_yes {S : List (List Int)} {i : Nat} (hi : i < S.length) (h : Top S (S.getD i [])) : facT S (i + 1) = facT S i ++ [S.getD i []] := by
  unfold facT
  rw [show S.getD i [] = S[i] by simp [hi]] at h ⊢
  rw [List.take_succ_eq_append_getElem hi, List.filter_append, List.filter_cons_of_pos (by simpa using h)]
  rfl
theorem facT_no {S : List (List Int)} {i : Nat} (hi : i < S.length) (h : ¬ Top S (S.getD i [])) : facT S (i + 1) = facT S i := by
  unfold facT
  rw [show S.getD i [] = S[i] by simp [hi]] at h
  rw [List.take_succ_eq_append_getElem hi, List.filter_append, List.filter_cons_of_neg (by simpa using h)]
  simp
theorem facT_all (S : List (List Int)) : facT S S.length = facL S := by
  unfold facT facL
  rw [List.take_length]
theorem facT_len (S : List (List Int)) (i : Nat) : (facT S i).length ≤ i := by
  unfold facT
  refine Nat.le_trans (List.length_filter_le _ _) ?_
  rw [List.length_take]
  exact Nat.min_le_left _ _
theorem srt_inj {S : List (List Int)} (h : Srt S) {i k : Nat} (hi : i < S.length) (hk : k < S.length) (e : S.getD i [] = S.getD k []) : i = k := by
  rw [show S.getD i [] = S[i] by simp [hi], show S.getD k [] = S[k] by simp [hk]] at e
  rcases Nat.lt_trichotomy i k with h1 | h1 | h1
  · have := List.pairwise_iff_getElem.1 h i k hi hk h1
    rw [e, lexL_irr] at this
    cases this
  · exact h1
  · have := List.pairwise_iff_getElem.1 h k i hk hi h1
    rw [e, lexL_irr] at this
    cases this
theorem top_iff {S : List (List Int)} (h : Srt S) {i : Nat} (hi : i < S.length) : Top S (S.getD i []) ↔ ∀ k, k < S.length → i = k ∨ ¬ Win (S.getD i []) (S.getD k []) := by
  constructor
  · intro ht k hk
    by_cases e : i = k
    · exact .inl e
    · refine .inr (ht _ ?_ fun h2 => e (srt_inj h hi hk h2.symm))
      rw [show S.getD k [] = S[k] by simp [hk]]
      exact List.getElem_mem hk
  · intro ha b hb hne
    obtain ⟨k, hk, rfl⟩ := List.mem_iff_getElem.1 hb
    have e : S.getD k [] = S[k] := by simp [hk]
    rw [← e] at hne ⊢
    rcases ha k hk with h1 | h1
    · subst h1; exact absurd rfl hne
    · exact h1
def insI (V : List Int) (n : Int) : List Int := if n ∈ V then V else V.filter (fun y => decide (y < n)) ++ n :: V.filter (fun y => !decide (y < n))
theorem insI_mem {V : List Int} {n y : Int} : y ∈ insI V n ↔ y ∈ V ∨ y = n := by
  unfold insI
  split
  · rename_i hx
    constructor
    · exact .inl
    · rintro (h | rfl)
      · exact h
      · exact hx
  · simp only [List.mem_append, List.mem_cons, List.mem_filter]
    constructor
    · rintro (h | rfl | h)
      · exact .inl h.1
      · exact .inr rfl
      · exact .inl h.1
    · rintro (h | rfl)
      · by_cases h2 : y < n
        · exact .inl ⟨h, by simpa using h2⟩
        · exact .inr (.inr ⟨h, by simpa using h2⟩)
      · exact .inr (.inl rfl)
theorem insI_sst {V : List Int} {n : Int} (h : sst V) : sst (insI V n) := by
  unfold insI
  split
  · exact h
  · rename_i hx
    refine List.pairwise_append.2 ⟨h.filter _, List.pairwise_cons.2 ⟨fun y hy => ?_, h.filter _⟩, fun a ha b hb => ?_⟩
    · obtain ⟨h1, h2⟩ := List.mem_filter.1 hy
      have h2 : ¬ y < n := by simpa using h2
      have : y ≠ n := fun e => hx (e ▸ h1)
      omega
    · have ha2 : a < n := by simpa using (List.mem_filter.1 ha).2
      rcases List.mem_cons.1 hb with rfl | hb
      · exact ha2
      · have h2 : ¬ b < n := by simpa using (List.mem_filter.1 hb).2
        omega
theorem insI_len (V : List Int) (n : Int) : (insI V n).length ≤ V.length + 1 := by
  unfold insI
  split
  · omega
  · have := filt_len V (fun y => decide (y < n))
    simp only [List.length_append, List.length_cons]
    omega
theorem foldl_ins : ∀ (l V : List Int), sst V → sst (l.foldl insI V) ∧ (∀ y, y ∈ l.foldl insI V ↔ y ∈ V ∨ y ∈ l) ∧ (l.foldl insI V).length ≤ V.length + l.length
  | [], V, h => ⟨h, fun y => by simp, by simp⟩
  | x :: l, V, h => by
    obtain ⟨h1, h2, h3⟩ := foldl_ins l (insI V x) (insI_sst h)
    refine ⟨h1, fun y => ?_, ?_⟩
    · rw [List.foldl_cons, h2 y, insI_mem, List.mem_cons, or_assoc]
    · rw [List.foldl_cons]
      have := insI_len V x
      simp only [List.length_cons]
      omega
def vtsL (F : List (List Int)) : List Int := F.flatten.foldl insI []
theorem vtsL_sst (F : List (List Int)) : sst (vtsL F) := (foldl_ins _ _ .nil).1
theorem vtsL_mem (F : List (List Int)) (y : Int) : y ∈ vtsL F ↔ ∃ f ∈ F, y ∈ f := by
  rw [vtsL, (foldl_ins _ _ .nil).2.1 y]
  simp
end Go.Proofs.YtghhlcioabdpfaaDoor
set_option maxRecDepth 100000
namespace Go.Proofs.YtghhlcioabdpfaaDoor
open Go.Gov
open Classical

section
variable {r : Int} {R : List Int} {B : List (List Int)} (hp : IsPos r R B)
include hp
theorem IsPos.rk {x y : Nat} (hy : y < R.length) (h : Ab B x y) : R.getD x 0 < R.getD y 0 := by
  obtain ⟨j, hj, he⟩ := List.mem_iff_getElem.1 h
  have := ((hp.2 y hy).2 j hj).1
  unfold CvrP at this
  rw [getD_el _ j hj, he] at this
  simpa using this.2.2.1
theorem Tl.len : ∀ {x : Nat} {ys : List Nat}, x < R.length → Tl R.length B x ys → (ys.length : Int) + R.getD x 0 ≤ r - 1
  | x, [], hx, _ => by
    have := (hp.2 x hx).1
    unfold RkP at this
    simp only [List.length_nil]
    omega
  | x, y :: ys, hx, h => by
    have h1 := Tl.len h.1.1 h.2
    have h2 := IsPos.rk hp h.1.1 h.1.2.1
    simp only [List.length_cons]
    omega
end
end Go.Proofs.YtghhlcioabdpfaaDoor
