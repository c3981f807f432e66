/- Texts that belong together. -/
import Derived.Test.YtdgcpjfffpkhkaaDoorZe
import Derived.Test.YtdgcpjfffpkhkaaDoorZq
import Derived.Test.YtdgcpjfffpkhkaaDoorX1
import Derived.Test.YtdgcpjfffpkhkaaDoorX2
set_option linter.unusedSimpArgs false
set_option linter.unusedVariables false
set_option maxRecDepth 100000
namespace Go.Proofs.YtdgcpjfffpkhkaaDoor
open Go.Gov
open Classical

def lst (l : List Int) : Int := if l = [] then -1 else l.getLastD 0
theorem lst_nil : lst [] = -1 := rfl
theorem lst_pos {l : List Int} (h : 0 < l.length) : lst l = l.getD (l.length - 1) 0 := by
  rcases List.eq_nil_or_concat l with rfl | ⟨a, x, rfl⟩
  · simp at h
  · simp [lst]
theorem lst_app (l : List Int) (x : Int) : lst (l ++ [x]) = x := by simp [lst]
theorem lst_ne {l : List Int} (h : l ≠ []) : lst l = l.getLastD 0 := if_neg h
def Bt (B : List (List Int)) (la : Int) (y i : Nat) : Prop := 0 ≤ la ∧ ∃ i', i' < i ∧ la ∈ B.getD ((B.getD y []).getD i' 0).toNat []
theorem bt_zero (B : List (List Int)) (la : Int) (y : Nat) : ¬ Bt B la y 0 := by
  rintro ⟨_, i, h, _⟩
  omega
theorem bt_succ (B : List (List Int)) (la : Int) (y i : Nat) : Bt B la y (i + 1) ↔ Bt B la y i ∨ (0 ≤ la ∧ la ∈ B.getD ((B.getD y []).getD i 0).toNat []) := by
  unfold Bt
  constructor
  · rintro ⟨h0, i', h1, h2⟩
    rcases Nat.lt_or_ge i' i with h | h
    · exact .inl ⟨h0, i', h, h2⟩
    · obtain rfl : i' = i := by omega
      exact .inr ⟨h0, h2⟩
  · rintro (⟨h0, i', h1, h2⟩ | ⟨h0, h⟩)
    · exact ⟨h0, i', by omega, h2⟩
    · exact ⟨h0, i, by omega, h⟩
theorem nxc_la {B : List (List Int)} {l : List Int} {y : Nat} (hl : l ≠ [] → 0 ≤ lst l) : nxc B l y ↔ ¬ ((0 ≤ lst l ∧ ¬ lst l ∈ B.getD y []) ∨ (lst l < 0 ∧ 0 < (B.getD y []).length)) ∧ ¬ Bt B (lst l) y (B.getD y []).length := by
  unfold nxc
  by_cases h : l = []
  · rw [if_pos h, h, lst_nil]
    constructor
    · intro h2
      rw [h2]
      refine ⟨?_, fun h3 => ?_⟩
      · rintro (⟨h3, _⟩ | ⟨_, h3⟩)
        · omega
        · simp at h3
      · have := h3.1; omega
    · rintro ⟨h2, _⟩
      refine List.eq_nil_of_length_eq_zero ?_
      have : ¬ 0 < (B.getD y []).length := fun h3 => h2 (.inr ⟨by omega, h3⟩)
      omega
  · rw [if_neg h, ← lst_ne h]
    have h0 := hl h
    constructor
    · rintro ⟨h2, h3⟩
      refine ⟨?_, fun h4 => ?_⟩
      · rintro (⟨_, h4⟩ | ⟨h4, _⟩)
        · exact h4 h2
        · omega
      · obtain ⟨_, i, h5, h6⟩ := h4
        exact h3 _ (by rw [getD_el _ i h5]; exact List.getElem_mem h5) h6
    · rintro ⟨h2, h3⟩
      refine ⟨Classical.byContradiction fun h4 => h2 (.inl ⟨h0, h4⟩), fun z hz h4 => h3 ⟨h0, ?_⟩⟩
      obtain ⟨i, h5, h6⟩ := List.mem_iff_getElem.1 hz
      exact ⟨i, h5, by rw [getD_el _ i h5, h6]; exact h4⟩
def Ov (B : List (List Int)) (la : Int) (i : Nat) : Prop := ∃ e, e < i ∧ la ∈ B.getD e []
theorem ov_zero (B : List (List Int)) (la : Int) : ¬ Ov B la 0 := by
  rintro ⟨e, h, _⟩
  omega
theorem ov_succ (B : List (List Int)) (la : Int) (i : Nat) : Ov B la (i + 1) ↔ Ov B la i ∨ la ∈ B.getD i [] := by
  unfold Ov
  constructor
  · rintro ⟨e, h1, h2⟩
    rcases Nat.lt_or_ge e i with h | h
    · exact .inl ⟨e, h, h2⟩
    · obtain rfl : e = i := by omega
      exact .inr h2
  · rintro (⟨e, h1, h2⟩ | h)
    · exact ⟨e, by omega, h2⟩
    · exact ⟨i, by omega, h⟩
theorem leaf_ov {n : Nat} {B : List (List Int)} {l : List Int} (h : l ≠ []) : leaf n B l ↔ ¬ Ov B (lst l) n := by
  unfold leaf Ov
  rw [lst_ne h]
  constructor
  · rintro ⟨_, h2⟩ ⟨e, h3, h4⟩
    exact h2 e h3 h4
  · exact fun h2 => ⟨h, fun e h3 h4 => h2 ⟨e, h3, h4⟩⟩

theorem take_app {α : Type} (n : Nat) (l a b : List α) : ((l ++ a).take n ++ b).take n = (l ++ a ++ b).take n := by
  rw [List.take_append (l₁ := (l ++ a).take n), List.take_append (l₁ := l ++ a), List.take_take, Nat.min_self]
  congr 1
  rcases Nat.lt_or_ge n (l ++ a).length with h | h
  · rw [List.length_take, Nat.min_eq_left (by omega), Nat.sub_self, Nat.sub_eq_zero_of_le (by omega)]
  · rw [List.take_of_length_le h]
theorem take_full {α : Type} {n : Nat} {l : List α} (h : l.length = n) (a : List α) : (l ++ a).take n = l := by
  rw [← h, List.take_left']
  rfl
theorem chto_leaf {n : Nat} {B : List (List Int)} {k : Nat} {l : List Int} (h : ∀ y, y < n → ¬ nxc B l y) : ∀ j, j ≤ n → chto n B k l j = []
  | 0, _ => rfl
  | j + 1, hj => by rw [chto_no (h j (by omega)), chto_leaf h j (by omega)]
theorem chto_pre {n : Nat} {B : List (List Int)} {k : Nat} {l : List Int} (j : Nat) : ∀ m, ∃ z, chto n B k l (j + m) = chto n B k l j ++ z
  | 0 => ⟨[], by simp⟩
  | m + 1 => by
    obtain ⟨z, hz⟩ := chto_pre j m
    by_cases h : nxc B l (j + m)
    · exact ⟨z ++ chs n B k (l ++ [((j + m : Nat) : Int)]), by rw [← Nat.add_assoc, chto_yes h, hz, List.append_assoc]⟩
    · exact ⟨z, by rw [← Nat.add_assoc, chto_no h, hz]⟩

end Go.Proofs.YtdgcpjfffpkhkaaDoor
set_option maxRecDepth 100000
namespace Go.Proofs.YtdgcpjfffpkhkaaDoor
open Go.Gov
open Classical

theorem withinL_c (a b : List Int) (ha : a.length ≤ 1099511627776) (hb : b.length ≤ 1099511627776) : Pure Tryd.prog 50 [ints a, ints b] (bl (decide (Win a b))) [] := by
  refine pureV0 ok50 rfl rfl ?_; unfold c50
  (repeat first | simp only [go_sem, ↓reduceIte, Nat.reduceEqDiff, Nat.reduceAdd, reduceCtorEq] | with_reducible refine V_W ?_ | (with_reducible refine And.intro ?_ ?_; focus first | assumption | omega | decide | grind) | (with_reducible refine Br.mk ?_ ?_; focus (intros; omega)) | decide)
  refine V_loop (α := Nat) (S := fun i => ([(0, ints a), (1, ints b), (5, i64 (i : Int))], [])) (C := fun i => i ≤ a.length ∧ ∀ j, j < i → a.getD j 0 ∈ b) (μ := fun i => a.length - i) 0 ⟨Nat.zero_le _, fun j hj => by omega⟩ (by exact Ref.frame (by simp [sub, fget])) ?_
  rintro i ⟨hi, hall⟩
  (repeat first | simp only [go_sem, ↓reduceIte, Nat.reduceEqDiff, Nat.reduceAdd, reduceCtorEq] | with_reducible refine V_W ?_ | (with_reducible refine And.intro ?_ ?_; focus first | assumption | omega | decide | grind) | (with_reducible refine Br.mk ?_ ?_; focus (intros; omega)) | decide)
  refine ⟨fun hc => ?_, fun hc => ?_⟩
  · (repeat first | simp only [go_sem, ↓reduceIte, Nat.reduceEqDiff, Nat.reduceAdd, reduceCtorEq] | with_reducible refine V_W ?_ | (with_reducible refine And.intro ?_ ?_; focus first | assumption | omega | decide | grind) | (with_reducible refine Br.mk ?_ ?_; focus (intros; omega)) | decide)
    refine pureC (l01Has_c b (a.getD i 0) hb) (by simp only [go_sem, ↓reduceIte, Nat.reduceEqDiff, Nat.reduceAdd, reduceCtorEq] <;> rfl) (by first | rfl | simp only [go_sem, ↓reduceIte, Nat.reduceEqDiff, Nat.reduceAdd, reduceCtorEq]) ?_
    (repeat first | simp only [go_sem, ↓reduceIte, Nat.reduceEqDiff, Nat.reduceAdd, reduceCtorEq] | with_reducible refine V_W ?_ | (with_reducible refine And.intro ?_ ?_; focus first | assumption | omega | decide | grind) | (with_reducible refine Br.mk ?_ ?_; focus (intros; omega)) | decide)
    refine ⟨fun hc2 => ?_, fun hc2 => ?_⟩
    · (repeat first | simp only [go_sem, ↓reduceIte, Nat.reduceEqDiff, Nat.reduceAdd, reduceCtorEq] | with_reducible refine V_W ?_ | (with_reducible refine And.intro ?_ ?_; focus first | assumption | omega | decide | grind) | (with_reducible refine Br.mk ?_ ?_; focus (intros; omega)) | decide)
      rw [decide_eq_false fun h => hc2 (h _ (by rw [getD_el _ i (by omega)]; exact List.getElem_mem _))]
    · (repeat first | simp only [go_sem, ↓reduceIte, Nat.reduceEqDiff, Nat.reduceAdd, reduceCtorEq] | with_reducible refine V_W ?_ | (with_reducible refine And.intro ?_ ?_; focus first | assumption | omega | decide | grind) | (with_reducible refine Br.mk ?_ ?_; focus (intros; omega)) | decide)
      refine ⟨i + 1, ⟨by omega, fun j hj => ?_⟩, by omega, by exact Ref.frame (by simp [sub, fget])⟩
      rcases Nat.lt_or_ge j i with h | h
      · exact hall j h
      · obtain rfl : j = i := by omega
        exact hc2
  · (repeat first | simp only [go_sem, ↓reduceIte, Nat.reduceEqDiff, Nat.reduceAdd, reduceCtorEq] | with_reducible refine V_W ?_ | (with_reducible refine And.intro ?_ ?_; focus first | assumption | omega | decide | grind) | (with_reducible refine Br.mk ?_ ?_; focus (intros; omega)) | decide)
    rw [decide_eq_true (p := Win a b) fun e he => ?_]
    obtain ⟨j, hj, rfl⟩ := List.mem_iff_getElem.1 he
    have := hall j (by omega)
    rwa [getD_el _ j hj] at this

theorem filt_at {α : Type} {S : List α} {p : α → Bool} {d : α} {k : Nat} (hk : k ≤ S.length) (h1 : ∀ i, i < k → p (S.getD i d) = true) (h2 : ∀ i, k ≤ i → i < S.length → p (S.getD i d) = false) (x : α) : S.filter p ++ x :: S.filter (fun y => !p y) = S.take k ++ ([x] ++ S.drop k) := by
  obtain ⟨e1, e2⟩ := filt_take S p d k hk h1 h2
  rw [e1, e2]
  rfl

theorem plain_rows (L : List (List Int)) : (L.map ints).all plainC = true := List.all_eq_true.2 fun x hx => by
  obtain ⟨y, _, rfl⟩ := List.mem_map.1 hx
  rfl
theorem one_rows (L : List (List Int)) : (L.map ints).all oneA = true := List.all_eq_true.2 fun x hx => by
  obtain ⟨y, _, rfl⟩ := List.mem_map.1 hx
  rfl
theorem srt_at {S : List (List Int)} (hS : Srt S) {i j : Nat} (h : i < j) (hj : j < S.length) : lexL (S.getD i []) (S.getD j []) = true := by
  rw [show S.getD i [] = S[i] by simp [show i < S.length by omega], show S.getD j [] = S[j] by simp [hj]]
  exact List.pairwise_iff_getElem.1 hS i j (by omega) hj h
theorem srt_lo {S : List (List Int)} {x : List Int} (hS : Srt S) {m : Nat} (hm : m < S.length) (h : lexL (S.getD m []) x = true) : ∀ j, j ≤ m → lexL (S.getD j []) x = true := fun j hj => by
  rcases Nat.eq_or_lt_of_le hj with h2 | h2
  · rw [h2]; exact h
  · exact lexL_trans (srt_at hS h2 hm) h
theorem srt_hi {S : List (List Int)} {x : List Int} (hS : Srt S) {m : Nat} (hm : m < S.length) (h : lexL (S.getD m []) x = false) : ∀ j, m ≤ j → j < S.length → lexL (S.getD j []) x = false := fun j hj hj2 => by
  rcases Nat.eq_or_lt_of_le hj with h2 | h2
  · rw [← h2]; exact h
  · cases h3 : lexL (S.getD j []) x with
    | false => rfl
    | true => rw [lexL_trans (srt_at hS h2 hj2) h3] at h; cases h
set_option maxHeartbeats 2000000 in
theorem l17Put_w (S : List (List Int)) (x : List Int) (hS : Srt S) (hl : S.length ≤ 1099511627776) (hr : ∀ i : Nat, (S.getD i []).length ≤ 1099511627776) (hx : x.length ≤ 1099511627776) : Wri Tryd.prog 78 [.sl 0 1 0 S.length, ints x] [some (S.map ints)] (.sl 1 1 0 (putL S x).length) [none, some ((putL S x).map ints)] := by
  refine wriRV ok78 rfl ?_; unfold c78
  (repeat first | simp only [go_sem, ↓reduceIte, Nat.reduceEqDiff, Nat.reduceAdd, reduceCtorEq] | with_reducible refine V_W ?_ | (with_reducible refine And.intro ?_ ?_; focus first | assumption | omega | decide | grind) | (with_reducible refine Br.mk ?_ ?_; focus (intros; omega)) | decide)
  refine V_loop (α := Nat × Nat) (S := fun q => ([(0, .sl 0 1 0 S.length), (1, ints x), (5, i64 (q.1 : Int)), (6, i64 (q.2 : Int))], [some (S.map ints)])) (C := fun q => q.1 ≤ q.2 ∧ q.2 ≤ S.length ∧ (∀ j, j < q.1 → lexL (S.getD j []) x = true) ∧ ∀ j, q.2 ≤ j → j < S.length → lexL (S.getD j []) x = false) (μ := fun q => q.2 - q.1) (0, S.length) ⟨Nat.zero_le _, Nat.le_refl _, fun j hj => by omega, fun j h1 h2 => by omega⟩ (by exact Ref.frame (by simp [sub, fget])) ?_
  rintro ⟨lo, hi⟩ ⟨h1, h2, h3, h4⟩
  dsimp only at h1 h2 h3 h4 ⊢
  (repeat first | simp only [go_sem, ↓reduceIte, Nat.reduceEqDiff, Nat.reduceAdd, reduceCtorEq] | with_reducible refine V_W ?_ | (with_reducible refine And.intro ?_ ?_; focus first | assumption | omega | decide | grind) | (with_reducible refine Br.mk ?_ ?_; focus (intros; omega)) | decide)
  refine ⟨fun hc => ?_, fun hc => ?_⟩
  · have hmid : ((lo : Int) + (hi : Int)).tdiv 2 = (((lo + hi) / 2 : Nat) : Int) := by
      rw [Int.tdiv_eq_ediv_of_nonneg (by omega)]; omega
    obtain ⟨m, hm⟩ : ∃ m, m = (lo + hi) / 2 := ⟨_, rfl⟩
    rw [← hm] at hmid
    have hrm := hr m
    (repeat first | simp only [go_sem, ↓reduceIte, Nat.reduceEqDiff, Nat.reduceAdd, reduceCtorEq] | with_reducible refine V_W ?_ | (with_reducible refine And.intro ?_ ?_; focus first | assumption | omega | decide | grind) | (with_reducible refine Br.mk ?_ ?_; focus (intros; omega)) | decide)
    simp only [hmid, go_sem, ↓reduceIte, Nat.reduceEqDiff, Nat.reduceAdd, reduceCtorEq]
    (repeat first | simp only [go_sem, ↓reduceIte, Nat.reduceEqDiff, Nat.reduceAdd, reduceCtorEq] | with_reducible refine V_W ?_ | (with_reducible refine And.intro ?_ ?_; focus first | assumption | omega | decide | grind) | (with_reducible refine Br.mk ?_ ?_; focus (intros; omega)) | decide)
    refine pureC (less_c (S.getD m []) x hrm hx) (by simp only [go_sem, ↓reduceIte, Nat.reduceEqDiff, Nat.reduceAdd, reduceCtorEq] <;> rfl) (by first | rfl | simp only [go_sem, ↓reduceIte, Nat.reduceEqDiff, Nat.reduceAdd, reduceCtorEq]) ?_
    (repeat first | simp only [go_sem, ↓reduceIte, Nat.reduceEqDiff, Nat.reduceAdd, reduceCtorEq] | with_reducible refine V_W ?_ | (with_reducible refine And.intro ?_ ?_; focus first | assumption | omega | decide | grind) | (with_reducible refine Br.mk ?_ ?_; focus (intros; omega)) | decide)
    refine ⟨fun hc2 => ?_, fun hc2 => ?_⟩
    · (repeat first | simp only [go_sem, ↓reduceIte, Nat.reduceEqDiff, Nat.reduceAdd, reduceCtorEq] | with_reducible refine V_W ?_ | (with_reducible refine And.intro ?_ ?_; focus first | assumption | omega | decide | grind) | (with_reducible refine Br.mk ?_ ?_; focus (intros; omega)) | decide)
      exact ⟨(m + 1, hi), ⟨by dsimp only; omega, h2, fun j hj => srt_lo hS (by omega) hc2 j (by dsimp only at hj; omega), h4⟩, by dsimp only; omega, by exact Ref.frame (by simp [sub, fget])⟩
    · (repeat first | simp only [go_sem, ↓reduceIte, Nat.reduceEqDiff, Nat.reduceAdd, reduceCtorEq] | with_reducible refine V_W ?_ | (with_reducible refine And.intro ?_ ?_; focus first | assumption | omega | decide | grind) | (with_reducible refine Br.mk ?_ ?_; focus (intros; omega)) | decide)
      exact ⟨(lo, m), ⟨by dsimp only; omega, by dsimp only; omega, h3, fun j hj hj2 => srt_hi hS (by omega) (by simpa using hc2) j hj hj2⟩, by dsimp only; omega, by exact Ref.frame (by simp [sub, fget])⟩
  · obtain rfl : lo = hi := by omega
    have hrm := hr lo
    (repeat first | simp only [go_sem, ↓reduceIte, Nat.reduceEqDiff, Nat.reduceAdd, reduceCtorEq] | with_reducible refine V_W ?_ | (with_reducible refine And.intro ?_ ?_; focus first | assumption | omega | decide | grind) | (with_reducible refine Br.mk ?_ ?_; focus (intros; omega)) | decide)
    refine GCall.mk (bl (decide (S.getD lo [] = x)) ) (fun hg => by first | exact pureC ( same_c (S.getD lo []) x hrm hx) (by simp only [go_sem, ↓reduceIte, Nat.reduceEqDiff, Nat.reduceAdd, reduceCtorEq] <;> rfl) (by first | rfl | simp only [go_sem, ↓reduceIte, Nat.reduceEqDiff, Nat.reduceAdd, reduceCtorEq]) (by first | exact ⟨rfl, rfl⟩ | simp only [go_sem, ↓reduceIte, Nat.reduceEqDiff, Nat.reduceAdd, reduceCtorEq]) | exact ⟨hg, pureC ( same_c (S.getD lo []) x hrm hx) (by simp only [go_sem, ↓reduceIte, Nat.reduceEqDiff, Nat.reduceAdd, reduceCtorEq] <;> rfl) (by first | rfl | simp only [go_sem, ↓reduceIte, Nat.reduceEqDiff, Nat.reduceAdd, reduceCtorEq]) (by first | exact ⟨rfl, rfl⟩ | simp only [go_sem, ↓reduceIte, Nat.reduceEqDiff, Nat.reduceAdd, reduceCtorEq])⟩ | exact ⟨by grind, pureC ( same_c (S.getD lo []) x hrm hx) (by simp only [go_sem, ↓reduceIte, Nat.reduceEqDiff, Nat.reduceAdd, reduceCtorEq] <;> rfl) (by first | rfl | simp only [go_sem, ↓reduceIte, Nat.reduceEqDiff, Nat.reduceAdd, reduceCtorEq]) (by first | exact ⟨rfl, rfl⟩ | simp only [go_sem, ↓reduceIte, Nat.reduceEqDiff, Nat.reduceAdd, reduceCtorEq])⟩) ?_
    (repeat first | simp only [go_sem, ↓reduceIte, Nat.reduceEqDiff, Nat.reduceAdd, reduceCtorEq] | with_reducible refine V_W ?_ | (with_reducible refine And.intro ?_ ?_; focus first | assumption | omega | decide | grind) | (with_reducible refine Br.mk ?_ ?_; focus (intros; omega)) | decide)
    refine ⟨fun hc2 => ?_, fun hc2 => ?_⟩
    · have hm : x ∈ S := by
        have h5 : lo < S.length := by omega
        rw [← hc2.2, show S.getD lo [] = S[lo] by simp [h5]]
        exact List.getElem_mem h5
      have he : putL S x = S := by unfold putL; rw [if_pos hm]
      (repeat first | simp only [go_sem, ↓reduceIte, Nat.reduceEqDiff, Nat.reduceAdd, reduceCtorEq] | with_reducible refine V_W ?_ | (with_reducible refine And.intro ?_ ?_; focus first | assumption | omega | decide | grind) | (with_reducible refine Br.mk ?_ ?_; focus (intros; omega)) | decide)
      rw [he]
      exact (Ref.mv 0 (cs := S.map ints) (F' := [(0, .sl 1 1 0 S.length)]) (H' := [none, some (S.map ints)]) rfl (by simp only [go_sem, ↓reduceIte, Nat.reduceEqDiff, Nat.reduceAdd, reduceCtorEq]) (by simp [sub, fget, go_sem, ↓reduceIte, Nat.reduceEqDiff, Nat.reduceAdd, reduceCtorEq]))
    · have hn : x ∉ S := fun hm => by
        obtain ⟨j, hj, hje⟩ := List.mem_iff_getElem.1 hm
        have hjd : S.getD j [] = x := by rw [show S.getD j [] = S[j] by simp [hj]]; exact hje
        have h5 : lo ≤ j := by
          rcases Nat.lt_or_ge j lo with h | h
          · have := h3 j h
            rw [hjd, lexL_irr] at this
            cases this
          · exact h
        rcases Nat.eq_or_lt_of_le h5 with h6 | h6
        · subst h6
          rcases hc2 with h | h
          · omega
          · exact h hjd
        · have h7 := h4 lo (Nat.le_refl _) (by omega)
          have h8 := srt_at hS h6 hj
          rw [hjd, h7] at h8
          cases h8
      have he : putL S x = S.take lo ++ ([x] ++ S.drop lo) := by
        unfold putL
        rw [if_neg hn]
        exact filt_at h2 (d := []) h3 h4 x
      (repeat first | simp only [go_sem, ↓reduceIte, Nat.reduceEqDiff, Nat.reduceAdd, reduceCtorEq] | with_reducible refine V_W ?_ | (with_reducible refine And.intro ?_ ?_; focus first | assumption | omega | decide | grind) | (with_reducible refine Br.mk ?_ ?_; focus (intros; omega)) | decide)
      have n1 : ((S.length : Int) - (lo : Int)).toNat = S.length - lo := by omega
      have n2 : ((lo : Int) - 0).toNat = lo := by omega
      have ht : List.take (S.length - lo) (List.drop lo (S.map ints)) = (S.drop lo).map ints := by
        rw [List.take_of_length_le (by simp)]
        simp
      have ht2 : List.take lo (S.map ints) = (S.take lo).map ints := by simp
      have ht3 : List.take (1 + (S.length - lo)) (ints x :: (S.drop lo).map ints) = ints x :: (S.drop lo).map ints := List.take_of_length_le (by simp; omega)
      simp only [n1, n2, ht, ht2, ht3, plain_rows, one_rows, go_sem, ↓reduceIte, Nat.reduceEqDiff, Nat.reduceAdd, reduceCtorEq]
      (repeat first | simp only [go_sem, ↓reduceIte, Nat.reduceEqDiff, Nat.reduceAdd, reduceCtorEq] | with_reducible refine V_W ?_ | (with_reducible refine And.intro ?_ ?_; focus first | assumption | omega | decide | grind) | (with_reducible refine Br.mk ?_ ?_; focus (intros; omega)) | decide)
      simp only [n1, n2, ht, ht2, ht3, plain_rows, one_rows, go_sem, ↓reduceIte, Nat.reduceEqDiff, Nat.reduceAdd, reduceCtorEq]
      (repeat first | simp only [go_sem, ↓reduceIte, Nat.reduceEqDiff, Nat.reduceAdd, reduceCtorEq] | with_reducible refine V_W ?_ | (with_reducible refine And.intro ?_ ?_; focus first | assumption | omega | decide | grind) | (with_reducible refine Br.mk ?_ ?_; focus (intros; omega)) | decide)
      have hc4 : List.take lo ((S.take lo).map ints) ++ ints x :: (S.drop lo).map ints = (putL S x).map ints := by
        rw [he, List.take_of_length_le (by simp; omega)]
        simp
      have hlen : (putL S x).length = lo + (1 + (S.length - lo)) := by
        rw [he]
        simp
        omega
      rw [hc4, ← hlen]
      exact (Ref.kill 0).trans (Ref.gc [0, 5] rfl (by simp only [go_sem, ↓reduceIte, Nat.reduceEqDiff, Nat.reduceAdd, reduceCtorEq]) (by simp [sub, fget, go_sem, ↓reduceIte, Nat.reduceEqDiff, Nat.reduceAdd, reduceCtorEq]))
end Go.Proofs.YtdgcpjfffpkhkaaDoor
