/- Texts that belong together. -/
import Derived.Test.YtgdijhchndjhlaaGreatDoorZe
import Derived.Test.YtgdijhchndjhlaaGreatDoorZq
import Derived.Test.YtgdijhchndjhlaaGreatDoorX1
import Derived.Test.YtgdijhchndjhlaaGreatDoorX2
set_option linter.unusedSimpArgs false
set_option linter.unusedVariables false
set_option maxRecDepth 100000
namespace Go.Proofs.YtgdijhchndjhlaaGreatDoor
open Go.Gov
open Classical

def lst (l : List Int) : Int := if l = [] then -1 else l.getLastD 0
theorem lst_nil : lst [] = -1 := rfl
theorem lst_pos {l : List Int} (h : 0 < l.length) : lst l = l.getD (l.length - 1) 0 := by
  rcases List.eq_nil_or_concat l with rfl | ⟨a, x, rfl⟩
  · simp at h
  · simp [lst]
theorem lst_app (l : List Int) (x : Int) : lst (l ++ [x]) = x := by simp [lst]
theorem lst_ne {l : List Int} (h : l ≠ []) : lst l = l.getLastD 0 := if_neg h
def Bt (B : List (List Int)) (la : Int) (y i : Nat) : Prop := 0 ≤ la ∧ ∃ i', i' < i ∧ la ∈ B.getD ((B.getD y []).getD i' 0).toNat []
theorem bt_zero (B : List (List Int)) (la : Int) (y : Nat) : ¬ Bt B la y 0 := by
  rintro ⟨_, i, h, _⟩
  omega
theorem bt_succ (B : List (List Int)) (la : Int) (y i : Nat) : Bt B la y (i + 1) ↔ Bt B la y i ∨ (0 ≤ la ∧ la ∈ B.getD ((B.getD y []).getD i 0).toNat []) := by
  unfold Bt
  constructor
  · rintro ⟨h0, i', h1, h2⟩
    rcases Nat.lt_or_ge i' i with h | h
    · exact .inl ⟨h0, i', h, h2⟩
    · obtain rfl : i' = i := by omega
      exact .inr ⟨h0, h2⟩
  · rintro (⟨h0, i', h1, h2⟩ | ⟨h0, h⟩)
    · exact ⟨h0, i', by omega, h2⟩
    · exact ⟨h0, i, by omega, h⟩
theorem nxc_la {B : List (List Int)} {l : List Int} {y : Nat} (hl : l ≠ [] → 0 ≤ lst l) : nxc B l y ↔ ¬ ((0 ≤ lst l ∧ ¬ lst l ∈ B.getD y []) ∨ (lst l < 0 ∧ 0 < (B.getD y []).length)) ∧ ¬ Bt B (lst l) y (B.getD y []).length := by
  unfold nxc
  by_cases h : l = []
  · rw [if_pos h, h, lst_nil]
    constructor
    · intro h2
      rw [h2]
      refine ⟨?_, fun h3 => ?_⟩
      · rintro (⟨h3, _⟩ | ⟨_, h3⟩)
        · omega
        · simp at h3
      · have := h3.1; omega
    · rintro ⟨h2, _⟩
      refine List.eq_nil_of_length_eq_zero ?_
      have : ¬ 0 < (B.getD y []).length := fun h3 => h2 (.inr ⟨by omega, h3⟩)
      omega
  · rw [if_neg h, ← lst_ne h]
    have h0 := hl h
    constructor
    · rintro ⟨h2, h3⟩
      refine ⟨?_, fun h4 => ?_⟩
      · rintro (⟨_, h4⟩ | ⟨h4, _⟩)
        · exact h4 h2
        · omega
      · obtain ⟨_, i, h5, h6⟩ := h4
        exact h3 _ (by rw [getD_el _ i h5]; exact List.getElem_mem h5) h6
    · rintro ⟨h2, h3⟩
      refine ⟨Classical.byContradiction fun h4 => h2 (.inl ⟨h0, h4⟩), fun z hz h4 => h3 ⟨h0, ?_⟩⟩
      obtain ⟨i, h5, h6⟩ := List.mem_iff_getElem.1 hz
      exact ⟨i, h5, by rw [getD_el _ i h5, h6]; exact h4⟩
def Ov (B : List (List Int)) (la : Int) (i : Nat) : Prop := ∃ e, e < i ∧ la ∈ B.getD e []
theorem ov_zero (B : List (List Int)) (la : Int) : ¬ Ov B la 0 := by
  rintro ⟨e, h, _⟩
  omega
theorem ov_succ (B : List (List Int)) (la : Int) (i : Nat) : Ov B la (i + 1) ↔ Ov B la i ∨ la ∈ B.getD i [] := by
  unfold Ov
  constructor
  · rintro ⟨e, h1, h2⟩
    rcases Nat.lt_or_ge e i with h | h
    · exact .inl ⟨e, h, h2⟩
    · obtain rfl : e = i := by omega
      exact .inr h2
  · rintro (⟨e, h1, h2⟩ | h)
    · exact ⟨e, by omega, h2⟩
    · exact ⟨i, by omega, h⟩
theorem leaf_ov {n : Nat} {B : List (List Int)} {l : List Int} (h : l ≠ []) : leaf n B l ↔ ¬ Ov B (lst l) n := by
  unfold leaf Ov
  rw [lst_ne h]
  constructor
  · rintro ⟨_, h2⟩ ⟨e, h3, h4⟩
    exact h2 e h3 h4
  · exact fun h2 => ⟨h, fun e h3 h4 => h2 ⟨e, h3, h4⟩⟩

theorem take_app {α : Type} (n : Nat) (l a b : List α) : ((l ++ a).take n ++ b).take n = (l ++ a ++ b).take n := by
  rw [List.take_append (l₁ := (l ++ a).take n), List.take_append (l₁ := l ++ a), List.take_take, Nat.min_self]
  congr 1
  rcases Nat.lt_or_ge n (l ++ a).length with h | h
  · rw [List.length_take, Nat.min_eq_left (by omega), Nat.sub_self, Nat.sub_eq_zero_of_le (by omega)]
  · rw [List.take_of_length_le h]
theorem take_full {α : Type} {n : Nat} {l : List α} (h : l.length = n) (a : List α) : (l ++ a).take n = l := by
  rw [← h, List.take_left']
  rfl
theorem chto_leaf {n : Nat} {B : List (List Int)} {k : Nat} {l : List Int} (h : ∀ y, y < n → ¬ nxc B l y) : ∀ j, j ≤ n → chto n B k l j = []
  | 0, _ => rfl
  | j + 1, hj => by rw [chto_no (h j (by omega)), chto_leaf h j (by omega)]
theorem chto_pre {n : Nat} {B : List (List Int)} {k : Nat} {l : List Int} (j : Nat) : ∀ m, ∃ z, chto n B k l (j + m) = chto n B k l j ++ z
  | 0 => ⟨[], by simp⟩
  | m + 1 => by
    obtain ⟨z, hz⟩ := chto_pre j m
    by_cases h : nxc B l (j + m)
    · exact ⟨z ++ chs n B k (l ++ [((j + m : Nat) : Int)]), by rw [← Nat.add_assoc, chto_yes h, hz, List.append_assoc]⟩
    · exact ⟨z, by rw [← Nat.add_assoc, chto_no h, hz]⟩

end Go.Proofs.YtgdijhchndjhlaaGreatDoor
set_option maxRecDepth 100000
namespace Go.Proofs.YtgdijhchndjhlaaGreatDoor
open Go.Gov
open Classical

theorem withinL_c (a b : List Int) (ha : a.length ≤ 1099511627776) (hb : b.length ≤ 1099511627776) : Pure Tryz.prog 42 [ints a, ints b] (bl (decide (Win a b))) [] := by
  refine pureV0 ok42 rfl rfl ?_; unfold c42
  (repeat first | simp only [go_sem, ↓reduceIte, Nat.reduceEqDiff, Nat.reduceAdd, reduceCtorEq] | with_reducible refine V_W ?_ | (with_reducible refine And.intro ?_ ?_; focus first | assumption | omega | decide | grind) | (with_reducible refine Br.mk ?_ ?_; focus (intros; omega)) | decide)
  refine V_loop (α := Nat) (S := fun i => ([(0, ints a), (1, ints b), (5, i64 (i : Int))], [])) (C := fun i => i ≤ a.length ∧ ∀ j, j < i → a.getD j 0 ∈ b) (μ := fun i => a.length - i) 0 ⟨Nat.zero_le _, fun j hj => by omega⟩ (by exact Ref.frame (by simp [sub, fget])) ?_
  rintro i ⟨hi, hall⟩
  (repeat first | simp only [go_sem, ↓reduceIte, Nat.reduceEqDiff, Nat.reduceAdd, reduceCtorEq] | with_reducible refine V_W ?_ | (with_reducible refine And.intro ?_ ?_; focus first | assumption | omega | decide | grind) | (with_reducible refine Br.mk ?_ ?_; focus (intros; omega)) | decide)
  refine ⟨fun hc => ?_, fun hc => ?_⟩
  · (repeat first | simp only [go_sem, ↓reduceIte, Nat.reduceEqDiff, Nat.reduceAdd, reduceCtorEq] | with_reducible refine V_W ?_ | (with_reducible refine And.intro ?_ ?_; focus first | assumption | omega | decide | grind) | (with_reducible refine Br.mk ?_ ?_; focus (intros; omega)) | decide)
    refine pureC (l01Has_c b (a.getD i 0) hb) (by simp only [go_sem, ↓reduceIte, Nat.reduceEqDiff, Nat.reduceAdd, reduceCtorEq] <;> rfl) (by first | rfl | simp only [go_sem, ↓reduceIte, Nat.reduceEqDiff, Nat.reduceAdd, reduceCtorEq]) ?_
    (repeat first | simp only [go_sem, ↓reduceIte, Nat.reduceEqDiff, Nat.reduceAdd, reduceCtorEq] | with_reducible refine V_W ?_ | (with_reducible refine And.intro ?_ ?_; focus first | assumption | omega | decide | grind) | (with_reducible refine Br.mk ?_ ?_; focus (intros; omega)) | decide)
    refine ⟨fun hc2 => ?_, fun hc2 => ?_⟩
    · (repeat first | simp only [go_sem, ↓reduceIte, Nat.reduceEqDiff, Nat.reduceAdd, reduceCtorEq] | with_reducible refine V_W ?_ | (with_reducible refine And.intro ?_ ?_; focus first | assumption | omega | decide | grind) | (with_reducible refine Br.mk ?_ ?_; focus (intros; omega)) | decide)
      rw [decide_eq_false fun h => hc2 (h _ (by rw [getD_el _ i (by omega)]; exact List.getElem_mem _))]
    · (repeat first | simp only [go_sem, ↓reduceIte, Nat.reduceEqDiff, Nat.reduceAdd, reduceCtorEq] | with_reducible refine V_W ?_ | (with_reducible refine And.intro ?_ ?_; focus first | assumption | omega | decide | grind) | (with_reducible refine Br.mk ?_ ?_; focus (intros; omega)) | decide)
      refine ⟨i + 1, ⟨by omega, fun j hj => ?_⟩, by omega, by exact Ref.frame (by simp [sub, fget])⟩
      rcases Nat.lt_or_ge j i with h | h
      · exact hall j h
      · obtain rfl : j = i := by omega
        exact hc2
  · (repeat first | simp only [go_sem, ↓reduceIte, Nat.reduceEqDiff, Nat.reduceAdd, reduceCtorEq] | with_reducible refine V_W ?_ | (with_reducible refine And.intro ?_ ?_; focus first | assumption | omega | decide | grind) | (with_reducible refine Br.mk ?_ ?_; focus (intros; omega)) | decide)
    rw [decide_eq_true (p := Win a b) fun e he => ?_]
    obtain ⟨j, hj, rfl⟩ := List.mem_iff_getElem.1 he
    have := hall j (by omega)
    rwa [getD_el _ j hj] at this

theorem filt_at {α : Type} {S : List α} {p : α → Bool} {d : α} {k : Nat} (hk : k ≤ S.length) (h1 : ∀ i, i < k → p (S.getD i d) = true) (h2 : ∀ i, k ≤ i → i < S.length → p (S.getD i d) = false) (x : α) : S.filter p ++ x :: S.filter (fun y => !p y) = S.take k ++ ([x] ++ S.drop k) := by
  obtain ⟨e1, e2⟩ := filt_take S p d k hk h1 h2
  rw [e1, e2]
  rfl

theorem l13Insert_p (V : List Int) (n : Int) (hV : sst V) (hn : n ∉ V) (hl : V.length ≤ 1099511627776) : Pure Tryz.prog 65 [ints V, i64 n] (.sl 0 1 0 (insI V n).length) [some (intsC (insI V n))] := by
  refine pureRV ok65 rfl ?_; unfold c65
  (repeat first | simp only [go_sem, ↓reduceIte, Nat.reduceEqDiff, Nat.reduceAdd, reduceCtorEq] | with_reducible refine V_W ?_ | (with_reducible refine And.intro ?_ ?_; focus first | assumption | omega | decide | grind) | (with_reducible refine Br.mk ?_ ?_; focus (intros; omega)) | decide)
  refine V_loop (α := Nat) (S := fun i => ([(0, ints V), (1, i64 n), (5, i64 (i : Int))], [])) (C := fun i => i ≤ V.length ∧ ∀ j, j < i → V.getD j 0 < n) (μ := fun i => V.length - i) 0 ⟨Nat.zero_le _, fun j hj => by omega⟩ (by exact Ref.frame (by simp [sub, fget])) ?_
  rintro i ⟨hi, hall⟩
  (repeat first | simp only [go_sem, ↓reduceIte, Nat.reduceEqDiff, Nat.reduceAdd, reduceCtorEq] | with_reducible refine V_W ?_ | (with_reducible refine And.intro ?_ ?_; focus first | assumption | omega | decide | grind) | (with_reducible refine Br.mk ?_ ?_; focus (intros; omega)) | decide)
  refine ⟨fun hc => ?_, fun hc => ?_⟩
  · (repeat first | simp only [go_sem, ↓reduceIte, Nat.reduceEqDiff, Nat.reduceAdd, reduceCtorEq] | with_reducible refine V_W ?_ | (with_reducible refine And.intro ?_ ?_; focus first | assumption | omega | decide | grind) | (with_reducible refine Br.mk ?_ ?_; focus (intros; omega)) | decide)
    refine ⟨i + 1, ⟨by omega, fun j hj => ?_⟩, by omega, by exact Ref.frame (by simp [sub, fget])⟩
    rcases Nat.lt_or_ge j i with h | h
    · exact hall j h
    · obtain rfl : j = i := by omega
      exact hc.2
  · have he : insI V n = V.take i ++ ([n] ++ V.drop i) := by
      unfold insI
      rw [if_neg hn]
      refine filt_at hi (d := 0) (fun j hj => decide_eq_true (hall j hj)) (fun j hj hj2 => decide_eq_false ?_) n
      have h1 : ¬ V.getD i 0 < n := by
        rcases hc with h | h
        · omega
        · omega
      have h2 := srt_le (fun k hk => Int.le_of_lt (lt_of_sst hV k hk)) hj hj2
      omega
    (repeat first | simp only [go_sem, ↓reduceIte, Nat.reduceEqDiff, Nat.reduceAdd, reduceCtorEq] | with_reducible refine V_W ?_ | (with_reducible refine And.intro ?_ ?_; focus first | assumption | omega | decide | grind) | (with_reducible refine Br.mk ?_ ?_; focus (intros; omega)) | decide)
    have n1 : ((V.length : Int) - (i : Int)).toNat = V.length - i := by omega
    have n2 : ((i : Int) - 0).toNat = i := by omega
    have ht : List.take (V.length - i) (List.drop i (intsC V)) = intsC (V.drop i) := by
      rw [List.take_of_length_le (by simp [intsC])]
      simp [intsC]
    have ht2 : List.take i (intsC V) = intsC (V.take i) := by simp [intsC]
    have ht3 : List.take (1 + (V.length - i)) (i64 n :: intsC (V.drop i)) = i64 n :: intsC (V.drop i) := List.take_of_length_le (by simp [intsC]; omega)
    simp only [n1, n2, ht, ht2, ht3, go_sem, ↓reduceIte, Nat.reduceEqDiff, Nat.reduceAdd, reduceCtorEq]
    (repeat first | simp only [go_sem, ↓reduceIte, Nat.reduceEqDiff, Nat.reduceAdd, reduceCtorEq] | with_reducible refine V_W ?_ | (with_reducible refine And.intro ?_ ?_; focus first | assumption | omega | decide | grind) | (with_reducible refine Br.mk ?_ ?_; focus (intros; omega)) | decide)
    simp only [n1, n2, ht, ht2, ht3, go_sem, ↓reduceIte, Nat.reduceEqDiff, Nat.reduceAdd, reduceCtorEq]
    (repeat first | simp only [go_sem, ↓reduceIte, Nat.reduceEqDiff, Nat.reduceAdd, reduceCtorEq] | with_reducible refine V_W ?_ | (with_reducible refine And.intro ?_ ?_; focus first | assumption | omega | decide | grind) | (with_reducible refine Br.mk ?_ ?_; focus (intros; omega)) | decide)
    have hc4 : List.take i (intsC (V.take i)) ++ i64 n :: intsC (V.drop i) = intsC (insI V n) := by
      rw [he, List.take_of_length_le (by simp [intsC]; omega)]
      simp [intsC]
    have hlen : (insI V n).length = i + (1 + (V.length - i)) := by
      rw [he]
      simp
      omega
    rw [hc4, ← hlen]
    exact Ref.gc [4] rfl (by simp only [go_sem, ↓reduceIte, Nat.reduceEqDiff, Nat.reduceAdd, reduceCtorEq]) (by simp [sub, fget, go_sem, ↓reduceIte, Nat.reduceEqDiff, Nat.reduceAdd, reduceCtorEq])

theorem l17Insert_w (V : List Int) (n : Int) (hV : sst V) (hl : V.length ≤ 1099511627776) : Wri Tryz.prog 45 [.sl 0 1 0 V.length, i64 n] [some (intsC V)] (.sl 1 1 0 (insI V n).length) [none, some (intsC (insI V n))] := by
  refine wriRV ok45 rfl ?_; unfold c45
  (repeat first | simp only [go_sem, ↓reduceIte, Nat.reduceEqDiff, Nat.reduceAdd, reduceCtorEq] | with_reducible refine V_W ?_ | (with_reducible refine And.intro ?_ ?_; focus first | assumption | omega | decide | grind) | (with_reducible refine Br.mk ?_ ?_; focus (intros; omega)) | decide)
  refine pureC (l01Has_c V n hl) (by simp only [go_sem, ↓reduceIte, Nat.reduceEqDiff, Nat.reduceAdd, reduceCtorEq] <;> rfl) (by first | rfl | simp only [go_sem, ↓reduceIte, Nat.reduceEqDiff, Nat.reduceAdd, reduceCtorEq]) ?_
  (repeat first | simp only [go_sem, ↓reduceIte, Nat.reduceEqDiff, Nat.reduceAdd, reduceCtorEq] | with_reducible refine V_W ?_ | (with_reducible refine And.intro ?_ ?_; focus first | assumption | omega | decide | grind) | (with_reducible refine Br.mk ?_ ?_; focus (intros; omega)) | decide)
  refine ⟨fun hc => ?_, fun hc => ?_⟩
  · have he : insI V n = V := by unfold insI; rw [if_pos hc]
    (repeat first | simp only [go_sem, ↓reduceIte, Nat.reduceEqDiff, Nat.reduceAdd, reduceCtorEq] | with_reducible refine V_W ?_ | (with_reducible refine And.intro ?_ ?_; focus first | assumption | omega | decide | grind) | (with_reducible refine Br.mk ?_ ?_; focus (intros; omega)) | decide)
    rw [he]
    exact (Ref.mv 0 (cs := intsC V) (F' := [(0, .sl 1 1 0 V.length)]) (H' := [none, some (intsC V)]) rfl (by simp only [go_sem, ↓reduceIte, Nat.reduceEqDiff, Nat.reduceAdd, reduceCtorEq]) (by simp [sub, fget, go_sem, ↓reduceIte, Nat.reduceEqDiff, Nat.reduceAdd, reduceCtorEq]))
  · (repeat first | simp only [go_sem, ↓reduceIte, Nat.reduceEqDiff, Nat.reduceAdd, reduceCtorEq] | with_reducible refine V_W ?_ | (with_reducible refine And.intro ?_ ?_; focus first | assumption | omega | decide | grind) | (with_reducible refine Br.mk ?_ ?_; focus (intros; omega)) | decide)
    have hi := l13Insert_p V n hV hc hl
    generalize insI V n = V' at hi ⊢
    refine pureC (hi) (by simp only [go_sem, ↓reduceIte, Nat.reduceEqDiff, Nat.reduceAdd, reduceCtorEq] <;> rfl) (by first | rfl | simp only [go_sem, ↓reduceIte, Nat.reduceEqDiff, Nat.reduceAdd, reduceCtorEq]) ?_
    (repeat first | simp only [go_sem, ↓reduceIte, Nat.reduceEqDiff, Nat.reduceAdd, reduceCtorEq] | with_reducible refine V_W ?_ | (with_reducible refine And.intro ?_ ?_; focus first | assumption | omega | decide | grind) | (with_reducible refine Br.mk ?_ ?_; focus (intros; omega)) | decide)
    exact (Ref.kill 0).trans (Ref.to (by simp) (by simp [sub, fget]))

theorem plain_rows (L : List (List Int)) : (L.map ints).all plainC = true := List.all_eq_true.2 fun x hx => by
  obtain ⟨y, _, rfl⟩ := List.mem_map.1 hx
  rfl
theorem one_rows (L : List (List Int)) : (L.map ints).all oneA = true := List.all_eq_true.2 fun x hx => by
  obtain ⟨y, _, rfl⟩ := List.mem_map.1 hx
  rfl
theorem srt_at {S : List (List Int)} (hS : Srt S) {i j : Nat} (h : i < j) (hj : j < S.length) : lexL (S.getD i []) (S.getD j []) = true := by
  rw [show S.getD i [] = S[i] by simp [show i < S.length by omega], show S.getD j [] = S[j] by simp [hj]]
  exact List.pairwise_iff_getElem.1 hS i j (by omega) hj h
theorem srt_lo {S : List (List Int)} {x : List Int} (hS : Srt S) {m : Nat} (hm : m < S.length) (h : lexL (S.getD m []) x = true) : ∀ j, j ≤ m → lexL (S.getD j []) x = true := fun j hj => by
  rcases Nat.eq_or_lt_of_le hj with h2 | h2
  · rw [h2]; exact h
  · exact lexL_trans (srt_at hS h2 hm) h
theorem srt_hi {S : List (List Int)} {x : List Int} (hS : Srt S) {m : Nat} (hm : m < S.length) (h : lexL (S.getD m []) x = false) : ∀ j, m ≤ j → j < S.length → lexL (S.getD j []) x = false := fun j hj hj2 => by
  rcases Nat.eq_or_lt_of_le hj with h2 | h2
  · rw [← h2]; exact h
  · cases h3 : lexL (S.getD j []) x with
    | false => rfl
    | true => rw [lexL_trans (srt_at hS h2 hj2) h3] at h; cases h
set_option maxHeartbeats 2000000 in
theorem l17Put_w (S : List (List Int)) (x : List Int) (hS : Srt S) (hl : S.length ≤ 1099511627776) (hr : ∀ i : Nat, (S.getD i []).length ≤ 1099511627776) (hx : x.length ≤ 1099511627776) : Wri Tryz.prog 43 [.sl 0 1 0 S.length, ints x] [some (S.map ints)] (.sl 1 1 0 (putL S x).length) [none, some ((putL S x).map ints)] := by
  refine wriRV ok43 rfl ?_; unfold c43
  (repeat first | simp only [go_sem, ↓reduceIte, Nat.reduceEqDiff, Nat.reduceAdd, reduceCtorEq] | with_reducible refine V_W ?_ | (with_reducible refine And.intro ?_ ?_; focus first | assumption | omega | decide | grind) | (with_reducible refine Br.mk ?_ ?_; focus (intros; omega)) | decide)
  refine V_loop (α := Nat × Nat) (S := fun q => ([(0, .sl 0 1 0 S.length), (1, ints x), (5, i64 (q.1 : Int)), (6, i64 (q.2 : Int))], [some (S.map ints)])) (C := fun q => q.1 ≤ q.2 ∧ q.2 ≤ S.length ∧ (∀ j, j < q.1 → lexL (S.getD j []) x = true) ∧ ∀ j, q.2 ≤ j → j < S.length → lexL (S.getD j []) x = false) (μ := fun q => q.2 - q.1) (0, S.length) ⟨Nat.zero_le _, Nat.le_refl _, fun j hj => by omega, fun j h1 h2 => by omega⟩ (by exact Ref.frame (by simp [sub, fget])) ?_
  rintro ⟨lo, hi⟩ ⟨h1, h2, h3, h4⟩
  dsimp only at h1 h2 h3 h4 ⊢
  (repeat first | simp only [go_sem, ↓reduceIte, Nat.reduceEqDiff, Nat.reduceAdd, reduceCtorEq] | with_reducible refine V_W ?_ | (with_reducible refine And.intro ?_ ?_; focus first | assumption | omega | decide | grind) | (with_reducible refine Br.mk ?_ ?_; focus (intros; omega)) | decide)
  refine ⟨fun hc => ?_, fun hc => ?_⟩
  · have hmid : ((lo : Int) + (hi : Int)).tdiv 2 = (((lo + hi) / 2 : Nat) : Int) := by
      rw [Int.tdiv_eq_ediv_of_nonneg (by omega)]; omega
    obtain ⟨m, hm⟩ : ∃ m, m = (lo + hi) / 2 := ⟨_, rfl⟩
    rw [← hm] at hmid
    have hrm := hr m
    (repeat first | simp only [go_sem, ↓reduceIte, Nat.reduceEqDiff, Nat.reduceAdd, reduceCtorEq] | with_reducible refine V_W ?_ | (with_reducible refine And.intro ?_ ?_; focus first | assumption | omega | decide | grind) | (with_reducible refine Br.mk ?_ ?_; focus (intros; omega)) | decide)
    simp only [hmid, go_sem, ↓reduceIte, Nat.reduceEqDiff, Nat.reduceAdd, reduceCtorEq]
    (repeat first | simp only [go_sem, ↓reduceIte, Nat.reduceEqDiff, Nat.reduceAdd, reduceCtorEq] | with_reducible refine V_W ?_ | (with_reducible refine And.intro ?_ ?_; focus first | assumption | omega | decide | grind) | (with_reducible refine Br.mk ?_ ?_; focus (intros; omega)) | decide)
    refine pureC (less_c (S.getD m []) x hrm hx) (by simp only [go_sem, ↓reduceIte, Nat.reduceEqDiff, Nat.reduceAdd, reduceCtorEq] <;> rfl) (by first | rfl | simp only [go_sem, ↓reduceIte, Nat.reduceEqDiff, Nat.reduceAdd, reduceCtorEq]) ?_
    (repeat first | simp only [go_sem, ↓reduceIte, Nat.reduceEqDiff, Nat.reduceAdd, reduceCtorEq] | with_reducible refine V_W ?_ | (with_reducible refine And.intro ?_ ?_; focus first | assumption | omega | decide | grind) | (with_reducible refine Br.mk ?_ ?_; focus (intros; omega)) | decide)
    refine ⟨fun hc2 => ?_, fun hc2 => ?_⟩
    · (repeat first | simp only [go_sem, ↓reduceIte, Nat.reduceEqDiff, Nat.reduceAdd, reduceCtorEq] | with_reducible refine V_W ?_ | (with_reducible refine And.intro ?_ ?_; focus first | assumption | omega | decide | grind) | (with_reducible refine Br.mk ?_ ?_; focus (intros; omega)) | decide)
      exact ⟨(m + 1, hi), ⟨by dsimp only; omega, h2, fun j hj => srt_lo hS (by omega) hc2 j (by dsimp only at hj; omega), h4⟩, by dsimp only; omega, by exact Ref.frame (by simp [sub, fget])⟩
    · (repeat first | simp only [go_sem, ↓reduceIte, Nat.reduceEqDiff, Nat.reduceAdd, reduceCtorEq] | with_reducible refine V_W ?_ | (with_reducible refine And.intro ?_ ?_; focus first | assumption | omega | decide | grind) | (with_reducible refine Br.mk ?_ ?_; focus (intros; omega)) | decide)
      exact ⟨(lo, m), ⟨by dsimp only; omega, by dsimp only; omega, h3, fun j hj hj2 => srt_hi hS (by omega) (by simpa using hc2) j hj hj2⟩, by dsimp only; omega, by exact Ref.frame (by simp [sub, fget])⟩
  · obtain rfl : lo = hi := by omega
    have hrm := hr lo
    (repeat first | simp only [go_sem, ↓reduceIte, Nat.reduceEqDiff, Nat.reduceAdd, reduceCtorEq] | with_reducible refine V_W ?_ | (with_reducible refine And.intro ?_ ?_; focus first | assumption | omega | decide | grind) | (with_reducible refine Br.mk ?_ ?_; focus (intros; omega)) | decide)
    refine GCall.mk (bl (decide (S.getD lo [] = x)) ) (fun hg => by first | exact pureC ( same_c (S.getD lo []) x hrm hx) (by simp only [go_sem, ↓reduceIte, Nat.reduceEqDiff, Nat.reduceAdd, reduceCtorEq] <;> rfl) (by first | rfl | simp only [go_sem, ↓reduceIte, Nat.reduceEqDiff, Nat.reduceAdd, reduceCtorEq]) (by first | exact ⟨rfl, rfl⟩ | simp only [go_sem, ↓reduceIte, Nat.reduceEqDiff, Nat.reduceAdd, reduceCtorEq]) | exact ⟨hg, pureC ( same_c (S.getD lo []) x hrm hx) (by simp only [go_sem, ↓reduceIte, Nat.reduceEqDiff, Nat.reduceAdd, reduceCtorEq] <;> rfl) (by first | rfl | simp only [go_sem, ↓reduceIte, Nat.reduceEqDiff, Nat.reduceAdd, reduceCtorEq]) (by first | exact ⟨rfl, rfl⟩ | simp only [go_sem, ↓reduceIte, Nat.reduceEqDiff, Nat.reduceAdd, reduceCtorEq])⟩ | exact ⟨by grind, pureC ( same_c (S.getD lo []) x hrm hx) (by simp only [go_sem, ↓reduceIte, Nat.reduceEqDiff, Nat.reduceAdd, reduceCtorEq] <;> rfl) (by first | rfl | simp only [go_sem, ↓reduceIte, Nat.reduceEqDiff, Nat.reduceAdd, reduceCtorEq]) (by first | exact ⟨rfl, rfl⟩ | simp only [go_sem, ↓reduceIte, Nat.reduceEqDiff, Nat.reduceAdd, reduceCtorEq])⟩) ?_
    (repeat first | simp only [go_sem, ↓reduceIte, Nat.reduceEqDiff, Nat.reduceAdd, reduceCtorEq] | with_reducible refine V_W ?_ | (with_reducible refine And.intro ?_ ?_; focus first | assumption | omega | decide | grind) | (with_reducible refine Br.mk ?_ ?_; focus (intros; omega)) | decide)
    refine ⟨fun hc2 => ?_, fun hc2 => ?_⟩
    · have hm : x ∈ S := by
        have h5 : lo < S.length := by omega
        rw [← hc2.2, show S.getD lo [] = S[lo] by simp [h5]]
        exact List.getElem_mem h5
      have he : putL S x = S := by unfold putL; rw [if_pos hm]
      (repeat first | simp only [go_sem, ↓reduceIte, Nat.reduceEqDiff, Nat.reduceAdd, reduceCtorEq] | with_reducible refine V_W ?_ | (with_reducible refine And.intro ?_ ?_; focus first | assumption | omega | decide | grind) | (with_reducible refine Br.mk ?_ ?_; focus (intros; omega)) | decide)
      rw [he]
      exact (Ref.mv 0 (cs := S.map ints) (F' := [(0, .sl 1 1 0 S.length)]) (H' := [none, some (S.map ints)]) rfl (by simp only [go_sem, ↓reduceIte, Nat.reduceEqDiff, Nat.reduceAdd, reduceCtorEq]) (by simp [sub, fget, go_sem, ↓reduceIte, Nat.reduceEqDiff, Nat.reduceAdd, reduceCtorEq]))
    · have hn : x ∉ S := fun hm => by
        obtain ⟨j, hj, hje⟩ := List.mem_iff_getElem.1 hm
        have hjd : S.getD j [] = x := by rw [show S.getD j [] = S[j] by simp [hj]]; exact hje
        have h5 : lo ≤ j := by
          rcases Nat.lt_or_ge j lo with h | h
          · have := h3 j h
            rw [hjd, lexL_irr] at this
            cases this
          · exact h
        rcases Nat.eq_or_lt_of_le h5 with h6 | h6
        · subst h6
          rcases hc2 with h | h
          · omega
          · exact h hjd
        · have h7 := h4 lo (Nat.le_refl _) (by omega)
          have h8 := srt_at hS h6 hj
          rw [hjd, h7] at h8
          cases h8
      have he : putL S x = S.take lo ++ ([x] ++ S.drop lo) := by
        unfold putL
        rw [if_neg hn]
        exact filt_at h2 (d := []) h3 h4 x
      (repeat first | simp only [go_sem, ↓reduceIte, Nat.reduceEqDiff, Nat.reduceAdd, reduceCtorEq] | with_reducible refine V_W ?_ | (with_reducible refine And.intro ?_ ?_; focus first | assumption | omega | decide | grind) | (with_reducible refine Br.mk ?_ ?_; focus (intros; omega)) | decide)
      have n1 : ((S.length : Int) - (lo : Int)).toNat = S.length - lo := by omega
      have n2 : ((lo : Int) - 0).toNat = lo := by omega
      have ht : List.take (S.length - lo) (List.drop lo (S.map ints)) = (S.drop lo).map ints := by
        rw [List.take_of_length_le (by simp)]
        simp
      have ht2 : List.take lo (S.map ints) = (S.take lo).map ints := by simp
      have ht3 : List.take (1 + (S.length - lo)) (ints x :: (S.drop lo).map ints) = ints x :: (S.drop lo).map ints := List.take_of_length_le (by simp; omega)
      simp only [n1, n2, ht, ht2, ht3, plain_rows, one_rows, go_sem, ↓reduceIte, Nat.reduceEqDiff, Nat.reduceAdd, reduceCtorEq]
      (repeat first | simp only [go_sem, ↓reduceIte, Nat.reduceEqDiff, Nat.reduceAdd, reduceCtorEq] | with_reducible refine V_W ?_ | (with_reducible refine And.intro ?_ ?_; focus first | assumption | omega | decide | grind) | (with_reducible refine Br.mk ?_ ?_; focus (intros; omega)) | decide)
      simp only [n1, n2, ht, ht2, ht3, plain_rows, one_rows, go_sem, ↓reduceIte, Nat.reduceEqDiff, Nat.reduceAdd, reduceCtorEq]
      (repeat first | simp only [go_sem, ↓reduceIte, Nat.reduceEqDiff, Nat.reduceAdd, reduceCtorEq] | with_reducible refine V_W ?_ | (with_reducible refine And.intro ?_ ?_; focus first | assumption | omega | decide | grind) | (with_reducible refine Br.mk ?_ ?_; focus (intros; omega)) | decide)
      have hc4 : List.take lo ((S.take lo).map ints) ++ ints x :: (S.drop lo).map ints = (putL S x).map ints := by
        rw [he, List.take_of_length_le (by simp; omega)]
        simp
      have hlen : (putL S x).length = lo + (1 + (S.length - lo)) := by
        rw [he]
        simp
        omega
      rw [hc4, ← hlen]
      exact (Ref.kill 0).trans (Ref.gc [0, 5] rfl (by simp only [go_sem, ↓reduceIte, Nat.reduceEqDiff, Nat.reduceAdd, reduceCtorEq]) (by simp [sub, fget, go_sem, ↓reduceIte, Nat.reduceEqDiff, Nat.reduceAdd, reduceCtorEq]))
end Go.Proofs.YtgdijhchndjhlaaGreatDoor
set_option maxRecDepth 100000
namespace Go.Proofs.YtgdijhchndjhlaaGreatDoor
open Go.Gov
open Classical

noncomputable def mkF (L : List (List Int)) : List (List Int) := facL (srtF L)
noncomputable def mkV (L : List (List Int)) : List Int := vtsL (mkF L)
noncomputable def mkR (L : List (List Int)) : List (List Int) := (mkF L).map fun f => f.map (idx (mkV L))
def Tp (S : List (List Int)) (i k : Nat) : Prop := ∀ k', k' < k → i = k' ∨ ¬ Win (S.getD i []) (S.getD k' [])
theorem tp_zero (S : List (List Int)) (i : Nat) : Tp S i 0 := fun k h => by omega
theorem tp_succ (S : List (List Int)) (i k : Nat) (h : Tp S i k) : Tp S i (k + 1) ↔ i = k ∨ ¬ Win (S.getD i []) (S.getD k []) := by
  constructor
  · exact fun h2 => h2 k (by omega)
  · intro h2 k' hk
    rcases Nat.lt_or_ge k' k with h3 | h3
    · exact h k' h3
    · obtain rfl : k' = k := by omega
      exact h2
theorem vtsL_snoc (F : List (List Int)) (f : List Int) : vtsL (F ++ [f]) = f.foldl insI (vtsL F) := by
  unfold vtsL
  rw [List.flatten_append, List.foldl_append]
  simp
theorem foldl_take {V f : List Int} {m : Nat} (h : m < f.length) : (f.take (m + 1)).foldl insI V = insI ((f.take m).foldl insI V) (f.getD m 0) := by
  rw [List.take_succ_eq_append_getElem h, List.foldl_append, getD_el _ m h]
  rfl
theorem srtF_nil : srtF [] = [] := rfl
theorem facT_zero (S : List (List Int)) : facT S 0 = [] := rfl
theorem row_take {f : List Int} {g : Int → Int} {m : Nat} (h : m < f.length) : (f.take (m + 1)).map g = (f.take m).map g ++ [g (f.getD m 0)] := by
  rw [List.take_succ_eq_append_getElem h, List.map_append, getD_el _ m h]
  rfl
theorem rows_take {F : List (List Int)} {g : List Int → List Int} {m : Nat} (h : m < F.length) : (F.take (m + 1)).map g = (F.take m).map g ++ [g (F.getD m [])] := by
  rw [List.take_succ_eq_append_getElem h, List.map_append, show F.getD m [] = F[m] by simp [h]]
  rfl
theorem flat_len : ∀ (F : List (List Int)), (∀ f ∈ F, f.length ≤ 6) → F.flatten.length ≤ 6 * F.length
  | [], _ => by simp
  | f :: F, h => by
    have h1 := flat_len F fun g hg => h g (List.mem_cons_of_mem _ hg)
    have h2 := h f (by simp)
    simp only [List.flatten_cons, List.length_append, List.length_cons]
    omega
theorem vts_len (F : List (List Int)) (h : ∀ f ∈ F, f.length ≤ 6) : (vtsL F).length ≤ 6 * F.length := by
  have := (foldl_ins F.flatten [] .nil).2.2
  have h2 := flat_len F h
  unfold vtsL
  simp only [List.length_nil] at this
  omega
theorem facT_6 {S : List (List Int)} (hS6 : ∀ i : Nat, (S.getD i []).length ≤ 6) {i : Nat} (f : List Int) (hf : f ∈ facT S i) : f.length ≤ 6 := by
  have h1 := List.mem_of_mem_take (List.mem_filter.1 hf).1
  obtain ⟨j, hj, rfl⟩ := List.mem_iff_getElem.1 h1
  have := hS6 j
  rwa [show S.getD j [] = S[j] by simp [hj]] at this

set_option maxHeartbeats 4000000 in
theorem l17Make_p (L : List (List Int)) (hL : L.length ≤ 1048576) (hr : ∀ i : Nat, (L.getD i []).length ≤ 6) (hV : (mkV L).length ≤ 60) (hF : (mkF L).length ≤ 400) : Pure Tryz.prog 25 [mat L] (.tup [.agg [i64 (mkV L).length, .sl 0 1 0 (mkR L).length], i64 0]) [some ((mkR L).map oints)] := by
  have hrm : ∀ f ∈ L, f.length ≤ 6 := fun f hf => by
    obtain ⟨i, hi, rfl⟩ := List.mem_iff_getElem.1 hf
    have := hr i
    rwa [show L.getD i [] = L[i] by simp [hi]] at this
  have hS6 : ∀ (T : List (List Int)), (∀ f ∈ T, f ∈ L) → ∀ i : Nat, ((srtF T).getD i []).length ≤ 6 := fun T hT i => by
    by_cases h : i < (srtF T).length
    · rw [show (srtF T).getD i [] = (srtF T)[i] by simp [h]]
      exact hrm _ (hT _ ((srtF_mem T _).1 (List.getElem_mem h)).1)
    · simp [h]
  refine pureRV ok25 rfl ?_; unfold c25
  (repeat first | simp only [go_sem, ↓reduceIte, Nat.reduceEqDiff, Nat.reduceAdd, reduceCtorEq] | with_reducible refine V_W ?_ | (with_reducible refine And.intro ?_ ?_; focus first | assumption | omega | decide | grind) | (with_reducible refine Br.mk ?_ ?_; focus (intros; omega)) | decide)
  refine V_loop (α := Nat) (S := fun i => ([(0, mat L), (2, .ref 0 0), (4, .sl 1 1 0 (srtF (L.take i)).length), (5, i64 (i : Int))], [some [i64 0, nilS], some ((srtF (L.take i)).map ints)])) (C := fun i => i ≤ L.length) (μ := fun i => L.length - i) 0 (Nat.zero_le _) (Ref.to (by simp [srtF_nil]) (by simp [sub, fget, srtF_nil])) ?_
  intro i hi
  have hSl := srtF_len (L.take i)
  have hSt := List.length_take (i := i) (l := L)
  (repeat first | simp only [go_sem, ↓reduceIte, Nat.reduceEqDiff, Nat.reduceAdd, reduceCtorEq] | with_reducible refine V_W ?_ | (with_reducible refine And.intro ?_ ?_; focus first | assumption | omega | decide | grind) | (with_reducible refine Br.mk ?_ ?_; focus (intros; omega)) | decide)
  refine ⟨fun hc => ?_, fun hc => ?_⟩
  · have hri := hr i
    have hput := l17Put_w (srtF (L.take i)) (L.getD i []) (srtF_srt _) (by omega) (fun j => Nat.le_trans (hS6 _ (fun f hf => List.mem_of_mem_take hf) j) (by omega)) (by omega)
    (repeat first | simp only [go_sem, ↓reduceIte, Nat.reduceEqDiff, Nat.reduceAdd, reduceCtorEq] | with_reducible refine V_W ?_ | (with_reducible refine And.intro ?_ ?_; focus first | assumption | omega | decide | grind) | (with_reducible refine Br.mk ?_ ?_; focus (intros; omega)) | decide)
    refine ⟨fun hc2 => ?_, fun hc2 => ?_⟩
    · rw [← srtF_take_yes (by omega) (by omega)] at hput
      (repeat first | simp only [go_sem, ↓reduceIte, Nat.reduceEqDiff, Nat.reduceAdd, reduceCtorEq] | with_reducible refine V_W ?_ | (with_reducible refine And.intro ?_ ?_; focus first | assumption | omega | decide | grind) | (with_reducible refine Br.mk ?_ ?_; focus (intros; omega)) | decide)
      refine wriCF (hput) [1] (by first | rfl | simp) (by simp only [go_sem, ↓reduceIte, Nat.reduceEqDiff, Nat.reduceAdd, reduceCtorEq] <;> rfl) (by simp only [go_sem, ↓reduceIte, Nat.reduceEqDiff, Nat.reduceAdd, reduceCtorEq] <;> rfl) ?_
      (repeat first | simp only [go_sem, ↓reduceIte, Nat.reduceEqDiff, Nat.reduceAdd, reduceCtorEq] | with_reducible refine V_W ?_ | (with_reducible refine And.intro ?_ ?_; focus first | assumption | omega | decide | grind) | (with_reducible refine Br.mk ?_ ?_; focus (intros; omega)) | decide)
      exact ⟨i + 1, by omega, by omega, Ref.gc [0, 2] rfl (by simp only [go_sem, ↓reduceIte, Nat.reduceEqDiff, Nat.reduceAdd, reduceCtorEq]) (by simp [sub, fget, go_sem, ↓reduceIte, Nat.reduceEqDiff, Nat.reduceAdd, reduceCtorEq])⟩
    · have he := srtF_take_no (L := L) (i := i) (by omega) (by omega)
      (repeat first | simp only [go_sem, ↓reduceIte, Nat.reduceEqDiff, Nat.reduceAdd, reduceCtorEq] | with_reducible refine V_W ?_ | (with_reducible refine And.intro ?_ ?_; focus first | assumption | omega | decide | grind) | (with_reducible refine Br.mk ?_ ?_; focus (intros; omega)) | decide)
      exact ⟨i + 1, by omega, by omega, Ref.to (by rw [he]) (by simp [sub, fget, he])⟩
  · obtain rfl : i = L.length := by omega
    rw [List.take_length]
    obtain ⟨S, hSd⟩ : ∃ S, S = srtF L := ⟨_, rfl⟩
    have hS : Srt S := hSd ▸ srtF_srt L
    have hS6 : ∀ i : Nat, (S.getD i []).length ≤ 6 := hSd ▸ hS6 L (fun f hf => hf)
    have hSl : S.length ≤ L.length := hSd ▸ srtF_len L
    rw [← hSd]
    (repeat first | simp only [go_sem, ↓reduceIte, Nat.reduceEqDiff, Nat.reduceAdd, reduceCtorEq] | with_reducible refine V_W ?_ | (with_reducible refine And.intro ?_ ?_; focus first | assumption | omega | decide | grind) | (with_reducible refine Br.mk ?_ ?_; focus (intros; omega)) | decide)
    refine V_loop (α := Nat) (S := fun i => ([(2, .ref 0 0), (4, .sl 1 1 0 S.length), (6, .sl 2 1 0 (facT S i).length), (7, .sl 3 1 0 (vtsL (facT S i)).length), (8, i64 (i : Int))], [some [i64 0, nilS], some (S.map ints), some ((facT S i).map ints), some (intsC (vtsL (facT S i)))])) (C := fun i => i ≤ S.length) (μ := fun i => S.length - i) 0 (Nat.zero_le _) (Ref.to rfl (by simp [sub, fget, facT_zero, vtsL])) ?_
    intro i hi
    have hfl := facT_len S i
    (repeat first | simp only [go_sem, ↓reduceIte, Nat.reduceEqDiff, Nat.reduceAdd, reduceCtorEq] | with_reducible refine V_W ?_ | (with_reducible refine And.intro ?_ ?_; focus first | assumption | omega | decide | grind) | (with_reducible refine Br.mk ?_ ?_; focus (intros; omega)) | decide)
    refine ⟨fun hc3 => ?_, fun hc3 => ?_⟩
    · have hiS : i < S.length := by omega
      have hri := hS6 i
      (repeat first | simp only [go_sem, ↓reduceIte, Nat.reduceEqDiff, Nat.reduceAdd, reduceCtorEq] | with_reducible refine V_W ?_ | (with_reducible refine And.intro ?_ ?_; focus first | assumption | omega | decide | grind) | (with_reducible refine Br.mk ?_ ?_; focus (intros; omega)) | decide)
      refine V_loop (α := Nat) (S := fun k => ([(2, .ref 0 0), (4, .sl 1 1 0 S.length), (6, .sl 2 1 0 (facT S i).length), (7, .sl 3 1 0 (vtsL (facT S i)).length), (8, i64 (i : Int)), (9, bl (decide (Tp S i k))), (10, i64 (k : Int))], [some [i64 0, nilS], some (S.map ints), some ((facT S i).map ints), some (intsC (vtsL (facT S i)))])) (C := fun k => k ≤ S.length) (μ := fun k => S.length - k) 0 (Nat.zero_le _) (Ref.to rfl (by simp [sub, fget, tp_zero])) ?_
      intro k hk
      have hrk := hS6 k
      (repeat first | simp only [go_sem, ↓reduceIte, Nat.reduceEqDiff, Nat.reduceAdd, reduceCtorEq] | with_reducible refine V_W ?_ | (with_reducible refine And.intro ?_ ?_; focus first | assumption | omega | decide | grind) | (with_reducible refine Br.mk ?_ ?_; focus (intros; omega)) | decide)
      refine ⟨fun hc4 => ?_, fun hc4 => ?_⟩
      · have htp := tp_succ S i k hc4.2
        (repeat first | simp only [go_sem, ↓reduceIte, Nat.reduceEqDiff, Nat.reduceAdd, reduceCtorEq] | with_reducible refine V_W ?_ | (with_reducible refine And.intro ?_ ?_; focus first | assumption | omega | decide | grind) | (with_reducible refine Br.mk ?_ ?_; focus (intros; omega)) | decide)
        refine GCall.mk (bl (decide (Win (S.getD i []) (S.getD k []))) ) (fun hg => by first | exact pureC ( withinL_c (S.getD i []) (S.getD k []) (by omega) (by omega)) (by simp only [go_sem, ↓reduceIte, Nat.reduceEqDiff, Nat.reduceAdd, reduceCtorEq] <;> rfl) (by first | rfl | simp only [go_sem, ↓reduceIte, Nat.reduceEqDiff, Nat.reduceAdd, reduceCtorEq]) (by first | exact ⟨rfl, rfl⟩ | simp only [go_sem, ↓reduceIte, Nat.reduceEqDiff, Nat.reduceAdd, reduceCtorEq]) | exact ⟨hg, pureC ( withinL_c (S.getD i []) (S.getD k []) (by omega) (by omega)) (by simp only [go_sem, ↓reduceIte, Nat.reduceEqDiff, Nat.reduceAdd, reduceCtorEq] <;> rfl) (by first | rfl | simp only [go_sem, ↓reduceIte, Nat.reduceEqDiff, Nat.reduceAdd, reduceCtorEq]) (by first | exact ⟨rfl, rfl⟩ | simp only [go_sem, ↓reduceIte, Nat.reduceEqDiff, Nat.reduceAdd, reduceCtorEq])⟩ | exact ⟨by grind, pureC ( withinL_c (S.getD i []) (S.getD k []) (by omega) (by omega)) (by simp only [go_sem, ↓reduceIte, Nat.reduceEqDiff, Nat.reduceAdd, reduceCtorEq] <;> rfl) (by first | rfl | simp only [go_sem, ↓reduceIte, Nat.reduceEqDiff, Nat.reduceAdd, reduceCtorEq]) (by first | exact ⟨rfl, rfl⟩ | simp only [go_sem, ↓reduceIte, Nat.reduceEqDiff, Nat.reduceAdd, reduceCtorEq])⟩) ?_
        (repeat first | simp only [go_sem, ↓reduceIte, Nat.reduceEqDiff, Nat.reduceAdd, reduceCtorEq] | with_reducible refine V_W ?_ | (with_reducible refine And.intro ?_ ?_; focus first | assumption | omega | decide | grind) | (with_reducible refine Br.mk ?_ ?_; focus (intros; omega)) | decide)
        have hik : ((i : Int) == (k : Int)) = decide (i = k) := by rw [Bool.eq_iff_iff]; simp; omega
        exact ⟨k + 1, by omega, by omega, Ref.to rfl (by simp [sub, fget, htp, hik])⟩
      · (repeat first | simp only [go_sem, ↓reduceIte, Nat.reduceEqDiff, Nat.reduceAdd, reduceCtorEq] | with_reducible refine V_W ?_ | (with_reducible refine And.intro ?_ ?_; focus first | assumption | omega | decide | grind) | (with_reducible refine Br.mk ?_ ?_; focus (intros; omega)) | decide)
        refine ⟨fun hc5 => ?_, fun hc5 => ?_⟩
        · have htop : Top S (S.getD i []) := by
            rw [top_iff hS hiS]
            rcases hc4 with h | h
            · obtain rfl : k = S.length := by omega
              exact hc5
            · exact absurd hc5 h
          have hvl := vts_len (facT S i) (fun f hf => facT_6 hS6 f hf)
          (repeat first | simp only [go_sem, ↓reduceIte, Nat.reduceEqDiff, Nat.reduceAdd, reduceCtorEq] | with_reducible refine V_W ?_ | (with_reducible refine And.intro ?_ ?_; focus first | assumption | omega | decide | grind) | (with_reducible refine Br.mk ?_ ?_; focus (intros; omega)) | decide)
          refine V_loop (α := Nat) (S := fun m => ([(2, .ref 0 0), (4, .sl 1 1 0 S.length), (6, .sl 2 1 0 (facT S (i + 1)).length), (7, .sl 3 1 0 (((S.getD i []).take m).foldl insI (vtsL (facT S i))).length), (8, i64 (i : Int)), (11, i64 (m : Int))], [some [i64 0, nilS], some (S.map ints), some ((facT S (i + 1)).map ints), some (intsC (((S.getD i []).take m).foldl insI (vtsL (facT S i))))])) (C := fun m => m ≤ (S.getD i []).length) (μ := fun m => (S.getD i []).length - m) 0 (Nat.zero_le _) ?_ ?_
          · rw [facT_yes hiS htop]
            refine Ref.gc [0, 1, 5, 3] rfl ?_ (by simp [sub, fget, go_sem, ↓reduceIte, Nat.reduceEqDiff, Nat.reduceAdd, reduceCtorEq])
            simp only [go_sem, ↓reduceIte, Nat.reduceEqDiff, Nat.reduceAdd, reduceCtorEq]
            simp
          intro m hm
          obtain ⟨Vm, hVm⟩ : ∃ Vm, Vm = ((S.getD i []).take m).foldl insI (vtsL (facT S i)) := ⟨_, rfl⟩
          have hVs : sst Vm := hVm ▸ (foldl_ins _ _ (vtsL_sst _)).1
          have hVl : Vm.length ≤ (vtsL (facT S i)).length + m := by
            have := (foldl_ins ((S.getD i []).take m) _ (vtsL_sst (facT S i))).2.2
            rw [← hVm, List.length_take] at this
            omega
          have hfl2 := facT_len S (i + 1)
          rw [← hVm]
          (repeat first | simp only [go_sem, ↓reduceIte, Nat.reduceEqDiff, Nat.reduceAdd, reduceCtorEq] | with_reducible refine V_W ?_ | (with_reducible refine And.intro ?_ ?_; focus first | assumption | omega | decide | grind) | (with_reducible refine Br.mk ?_ ?_; focus (intros; omega)) | decide)
          refine ⟨fun hc6 => ?_, fun hc6 => ?_⟩
          · have hmi : m < (S.getD i []).length := by omega
            have hins := l17Insert_w Vm ((S.getD i []).getD m 0) hVs (by omega)
            have hnv : ((S.getD i []).take (m + 1)).foldl insI (vtsL (facT S i)) = insI Vm ((S.getD i []).getD m 0) := by rw [foldl_take hmi, hVm]
            generalize insI Vm ((S.getD i []).getD m 0) = V2 at hins hnv
            (repeat first | simp only [go_sem, ↓reduceIte, Nat.reduceEqDiff, Nat.reduceAdd, reduceCtorEq] | with_reducible refine V_W ?_ | (with_reducible refine And.intro ?_ ?_; focus first | assumption | omega | decide | grind) | (with_reducible refine Br.mk ?_ ?_; focus (intros; omega)) | decide)
            refine wriC (hins) [3] (by first | rfl | simp) (by simp only [go_sem, ↓reduceIte, Nat.reduceEqDiff, Nat.reduceAdd, reduceCtorEq] <;> rfl) (by simp only [go_sem, ↓reduceIte, Nat.reduceEqDiff, Nat.reduceAdd, reduceCtorEq] <;> rfl) (by first | rfl | simp only [go_sem, ↓reduceIte, Nat.reduceEqDiff, Nat.reduceAdd, reduceCtorEq]) ?_
            (repeat first | simp only [go_sem, ↓reduceIte, Nat.reduceEqDiff, Nat.reduceAdd, reduceCtorEq] | with_reducible refine V_W ?_ | (with_reducible refine And.intro ?_ ?_; focus first | assumption | omega | decide | grind) | (with_reducible refine Br.mk ?_ ?_; focus (intros; omega)) | decide)
            exact ⟨m + 1, by omega, by omega, Ref.gc [0, 1, 2, 4] rfl (by simp only [hnv, go_sem, ↓reduceIte, Nat.reduceEqDiff, Nat.reduceAdd, reduceCtorEq]) (by rw [hnv]; simp [sub, fget, go_sem, ↓reduceIte, Nat.reduceEqDiff, Nat.reduceAdd, reduceCtorEq])⟩
          · have hvn : Vm = vtsL (facT S (i + 1)) := by
              rw [hVm, List.take_of_length_le (by omega), facT_yes hiS htop, vtsL_snoc]
            (repeat first | simp only [go_sem, ↓reduceIte, Nat.reduceEqDiff, Nat.reduceAdd, reduceCtorEq] | with_reducible refine V_W ?_ | (with_reducible refine And.intro ?_ ?_; focus first | assumption | omega | decide | grind) | (with_reducible refine Br.mk ?_ ?_; focus (intros; omega)) | decide)
            exact ⟨i + 1, by omega, by omega, Ref.to (by rw [hvn]) (by simp [sub, fget, hvn])⟩
        · have htop : ¬ Top S (S.getD i []) := fun h => hc5 fun k' hk' => (top_iff hS hiS).1 h k' (by omega)
          have he := facT_no hiS htop
          (repeat first | simp only [go_sem, ↓reduceIte, Nat.reduceEqDiff, Nat.reduceAdd, reduceCtorEq] | with_reducible refine V_W ?_ | (with_reducible refine And.intro ?_ ?_; focus first | assumption | omega | decide | grind) | (with_reducible refine Br.mk ?_ ?_; focus (intros; omega)) | decide)
          exact ⟨i + 1, by omega, by omega, Ref.to (by rw [he]) (by simp [sub, fget, he])⟩
    · obtain rfl : i = S.length := by omega
      rw [facT_all]
      obtain ⟨F, hFd⟩ : ∃ F, F = facL S := ⟨_, rfl⟩
      have hFL : mkF L = F := by unfold mkF; rw [hFd, hSd]
      have hVL : mkV L = vtsL F := by unfold mkV; rw [hFL]
      have hRL : mkR L = F.map fun f => f.map (idx (vtsL F)) := by unfold mkR; rw [hFL, hVL]
      rw [hFL] at hF
      rw [hVL] at hV
      have hF6 : ∀ i : Nat, (F.getD i []).length ≤ 6 := fun i => by
        by_cases h : i < F.length
        · rw [show F.getD i [] = F[i] by simp [h]]
          exact facT_6 hS6 (i := S.length) _ (by rw [facT_all, ← hFd]; exact List.getElem_mem h)
        · simp [h]
      rw [hVL, hRL, ← hFd]
      obtain ⟨V, hVd⟩ : ∃ V, V = vtsL F := ⟨_, rfl⟩
      rw [← hVd] at hV ⊢
      (repeat first | simp only [go_sem, ↓reduceIte, Nat.reduceEqDiff, Nat.reduceAdd, reduceCtorEq] | with_reducible refine V_W ?_ | (with_reducible refine And.intro ?_ ?_; focus first | assumption | omega | decide | grind) | (with_reducible refine Br.mk ?_ ?_; focus (intros; omega)) | decide)
      refine V_loop (α := Nat) (S := fun i => ([(2, .ref 0 0), (6, .sl 2 1 0 F.length), (7, .sl 3 1 0 V.length), (12, .ref 4 0), (13, i64 (i : Int))], [some [i64 0, nilS], some (S.map ints), some (F.map ints), some (intsC V), some [i64 V.length, .sl 5 1 0 i], some (((F.take i).map fun f => f.map (idx V)).map oints)])) (C := fun i => i ≤ F.length) (μ := fun i => F.length - i) 0 (Nat.zero_le _) ?_ ?_
      · exact (Ref.nilC 4 1 1 (cs := [i64 V.length, nilS]) rfl rfl).trans (Ref.to (by simp) (by simp [sub, fget]))
      intro i hi
      (repeat first | simp only [go_sem, ↓reduceIte, Nat.reduceEqDiff, Nat.reduceAdd, reduceCtorEq] | with_reducible refine V_W ?_ | (with_reducible refine And.intro ?_ ?_; focus first | assumption | omega | decide | grind) | (with_reducible refine Br.mk ?_ ?_; focus (intros; omega)) | decide)
      refine ⟨fun hc7 => ?_, fun hc7 => ?_⟩
      · have hiF : i < F.length := by omega
        have hri := hF6 i
        (repeat first | simp only [go_sem, ↓reduceIte, Nat.reduceEqDiff, Nat.reduceAdd, reduceCtorEq] | with_reducible refine V_W ?_ | (with_reducible refine And.intro ?_ ?_; focus first | assumption | omega | decide | grind) | (with_reducible refine Br.mk ?_ ?_; focus (intros; omega)) | decide)
        refine V_loop (α := Nat) (S := fun m => ([(2, .ref 0 0), (6, .sl 2 1 0 F.length), (7, .sl 3 1 0 V.length), (12, .ref 4 0), (13, i64 (i : Int)), (14, .sl 6 1 0 m), (15, i64 (m : Int))], [some [i64 0, nilS], some (S.map ints), some (F.map ints), some (intsC V), some [i64 V.length, .sl 5 1 0 i], some (((F.take i).map fun f => f.map (idx V)).map oints), some (intsC (((F.getD i []).take m).map (idx V)))])) (C := fun m => m ≤ (F.getD i []).length) (μ := fun m => (F.getD i []).length - m) 0 (Nat.zero_le _) (Ref.to (by simp [intsC]) (by simp [sub, fget])) ?_
        intro m hm
        have hrl : (intsC (((F.getD i []).take m).map (idx V))).length = m := by rw [intsC, List.length_map, List.length_map, List.length_take]; omega
        (repeat first | simp only [go_sem, ↓reduceIte, Nat.reduceEqDiff, Nat.reduceAdd, reduceCtorEq] | with_reducible refine V_W ?_ | (with_reducible refine And.intro ?_ ?_; focus first | assumption | omega | decide | grind) | (with_reducible refine Br.mk ?_ ?_; focus (intros; omega)) | decide)
        refine ⟨fun hc8 => ?_, fun hc8 => ?_⟩
        · have hmi : m < (F.getD i []).length := by omega
          (repeat first | simp only [go_sem, ↓reduceIte, Nat.reduceEqDiff, Nat.reduceAdd, reduceCtorEq] | with_reducible refine V_W ?_ | (with_reducible refine And.intro ?_ ?_; focus first | assumption | omega | decide | grind) | (with_reducible refine Br.mk ?_ ?_; focus (intros; omega)) | decide)
          refine pureC (l01Index_c V ((F.getD i []).getD m 0) (by omega)) (by simp only [go_sem, ↓reduceIte, Nat.reduceEqDiff, Nat.reduceAdd, reduceCtorEq] <;> rfl) (by first | rfl | simp only [go_sem, ↓reduceIte, Nat.reduceEqDiff, Nat.reduceAdd, reduceCtorEq]) ?_
          (repeat first | simp only [go_sem, ↓reduceIte, Nat.reduceEqDiff, Nat.reduceAdd, reduceCtorEq] | with_reducible refine V_W ?_ | (with_reducible refine And.intro ?_ ?_; focus first | assumption | omega | decide | grind) | (with_reducible refine Br.mk ?_ ?_; focus (intros; omega)) | decide)
          have hx : List.take m (intsC (((F.getD i []).take m).map (idx V))) ++ [i64 (idx V ((F.getD i []).getD m 0))] = intsC (((F.getD i []).take (m + 1)).map (idx V)) := by
            rw [row_take hmi, List.take_of_length_le (by omega)]
            simp [intsC]
          rw [hx]
          exact ⟨m + 1, by omega, by omega, Ref.gc [0, 1, 2, 3, 4, 5, 8] rfl (by simp only [go_sem, ↓reduceIte, Nat.reduceEqDiff, Nat.reduceAdd, reduceCtorEq]) (by simp [sub, fget, go_sem, ↓reduceIte, Nat.reduceEqDiff, Nat.reduceAdd, reduceCtorEq])⟩
        · obtain rfl : m = (F.getD i []).length := by omega
          rw [List.take_length]
          (repeat first | simp only [go_sem, ↓reduceIte, Nat.reduceEqDiff, Nat.reduceAdd, reduceCtorEq] | with_reducible refine V_W ?_ | (with_reducible refine And.intro ?_ ?_; focus first | assumption | omega | decide | grind) | (with_reducible refine Br.mk ?_ ?_; focus (intros; omega)) | decide)
          intro hc9
          (repeat first | simp only [go_sem, ↓reduceIte, Nat.reduceEqDiff, Nat.reduceAdd, reduceCtorEq] | with_reducible refine V_W ?_ | (with_reducible refine And.intro ?_ ?_; focus first | assumption | omega | decide | grind) | (with_reducible refine Br.mk ?_ ?_; focus (intros; omega)) | decide)
          have hRl : (((F.take i).map fun f => f.map (idx V)).map oints).length = i := by
            rw [List.length_map, List.length_map, List.length_take]; omega
          have hRn : ((F.take (i + 1)).map fun f => f.map (idx V)).map oints = ((F.take i).map fun f => f.map (idx V)).map oints ++ [oints ((F.getD i []).map (idx V))] := by
            rw [rows_take hiF, List.map_append]
            rfl
          rw [List.take_of_length_le (by omega)]
          refine ⟨i + 1, by omega, by omega, ?_⟩
          rw [hRn]
          have hrn : ∀ τ, rnmL τ (((F.take i).map fun f => f.map (idx V)).map oints) = ((F.take i).map fun f => f.map (idx V)).map oints := fun τ => rnmL_orows τ _
          generalize ((F.take i).map fun f => f.map (idx V)).map oints = Ri at hRl hrn ⊢
          refine (Ref.close 8 i 6 (k := 1) (n := (F.getD i []).length) (cs := Ri ++ [.sl 6 1 0 (F.getD i []).length]) (cs2 := intsC ((F.getD i []).map (idx V))) rfl (by rw [List.getElem?_append_right (by omega), hRl, Nat.sub_self]; rfl) rfl (by decide) (by simp [intsC])).trans (Ref.gc [0, 1, 2, 3, 4, 8] rfl ?_ (by simp [sub, fget, go_sem, ↓reduceIte, Nat.reduceEqDiff, Nat.reduceAdd, reduceCtorEq]))
          have hse : ∀ Z X : AV, (Ri ++ [Z]).set i X = Ri ++ [X] := fun Z X => by
            rw [List.set_append_right _ _ (by omega), hRl, Nat.sub_self]
            rfl
          simp only [hse, hrn, go_sem, ↓reduceIte, Nat.reduceEqDiff, Nat.reduceAdd, reduceCtorEq]
          rw [show oints ((F.getD i []).map (idx V)) = .osl 1 (F.getD i []).length (intsC ((F.getD i []).map (idx V))) by rw [oints, List.length_map]]
      · obtain rfl : i = F.length := by omega
        rw [List.take_length]
        (repeat first | simp only [go_sem, ↓reduceIte, Nat.reduceEqDiff, Nat.reduceAdd, reduceCtorEq] | with_reducible refine V_W ?_ | (with_reducible refine And.intro ?_ ?_; focus first | assumption | omega | decide | grind) | (with_reducible refine Br.mk ?_ ?_; focus (intros; omega)) | decide)
        intro hc9
        (repeat first | simp only [go_sem, ↓reduceIte, Nat.reduceEqDiff, Nat.reduceAdd, reduceCtorEq] | with_reducible refine V_W ?_ | (with_reducible refine And.intro ?_ ?_; focus first | assumption | omega | decide | grind) | (with_reducible refine Br.mk ?_ ?_; focus (intros; omega)) | decide)
        exact Ref.gc [5] rfl (by simp only [go_sem, ↓reduceIte, Nat.reduceEqDiff, Nat.reduceAdd, reduceCtorEq]) (by simp [sub, fget, go_sem, ↓reduceIte, Nat.reduceEqDiff, Nat.reduceAdd, reduceCtorEq])
end Go.Proofs.YtgdijhchndjhlaaGreatDoor
