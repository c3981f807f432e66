/- Texts that belong together. -/
import Derived.Test.YtghhlcioabdpfaaDoorZe
import Derived.Test.YtghhlcioabdpfaaDoorZq
import Derived.Test.YtghhlcioabdpfaaDoorX1
import Derived.Test.YtghhlcioabdpfaaDoorX2
set_option linter.unusedSimpArgs false
set_option linter.unusedVariables false
set_option maxRecDepth 100000
namespace Go.Proofs.YtghhlcioabdpfaaDoor
open Go.Gov
open Classical

end Go.Proofs.YtghhlcioabdpfaaDoor
set_option maxRecDepth 100000
namespace Go.Proofs.YtghhlcioabdpfaaDoor
open Go.Gov
open Classical

theorem withinL_c (a b : List Int) (ha : a.length ≤ 1099511627776) (hb : b.length ≤ 1099511627776) : Pure Tryd.prog 74 [ints a, ints b] (bl (decide (Win a b))) [] := by
  refine pureV0 ok74 rfl rfl ?_; unfold c74
  (repeat first | simp only [go_sem, ↓reduceIte, Nat.reduceEqDiff, Nat.reduceAdd, reduceCtorEq] | with_reducible refine V_W ?_ | (with_reducible refine And.intro ?_ ?_; focus first | assumption | omega | decide | grind) | (with_reducible refine Br.mk ?_ ?_; focus (intros; omega)) | decide)
  refine V_loop (α := Nat) (S := fun i => ([(0, ints a), (1, ints b), (5, i64 (i : Int))], [])) (C := fun i => i ≤ a.length ∧ ∀ j, j < i → a.getD j 0 ∈ b) (μ := fun i => a.length - i) 0 ⟨Nat.zero_le _, fun j hj => by omega⟩ (by exact Ref.frame (by simp [sub, fget])) ?_
  rintro i ⟨hi, hall⟩
  (repeat first | simp only [go_sem, ↓reduceIte, Nat.reduceEqDiff, Nat.reduceAdd, reduceCtorEq] | with_reducible refine V_W ?_ | (with_reducible refine And.intro ?_ ?_; focus first | assumption | omega | decide | grind) | (with_reducible refine Br.mk ?_ ?_; focus (intros; omega)) | decide)
  refine ⟨fun hc => ?_, fun hc => ?_⟩
  · (repeat first | simp only [go_sem, ↓reduceIte, Nat.reduceEqDiff, Nat.reduceAdd, reduceCtorEq] | with_reducible refine V_W ?_ | (with_reducible refine And.intro ?_ ?_; focus first | assumption | omega | decide | grind) | (with_reducible refine Br.mk ?_ ?_; focus (intros; omega)) | decide)
    refine pureC (l01Has_c b (a.getD i 0) hb) (by simp only [go_sem, ↓reduceIte, Nat.reduceEqDiff, Nat.reduceAdd, reduceCtorEq] <;> rfl) (by first | rfl | simp only [go_sem, ↓reduceIte, Nat.reduceEqDiff, Nat.reduceAdd, reduceCtorEq]) ?_
    (repeat first | simp only [go_sem, ↓reduceIte, Nat.reduceEqDiff, Nat.reduceAdd, reduceCtorEq] | with_reducible refine V_W ?_ | (with_reducible refine And.intro ?_ ?_; focus first | assumption | omega | decide | grind) | (with_reducible refine Br.mk ?_ ?_; focus (intros; omega)) | decide)
    refine ⟨fun hc2 => ?_, fun hc2 => ?_⟩
    · (repeat first | simp only [go_sem, ↓reduceIte, Nat.reduceEqDiff, Nat.reduceAdd, reduceCtorEq] | with_reducible refine V_W ?_ | (with_reducible refine And.intro ?_ ?_; focus first | assumption | omega | decide | grind) | (with_reducible refine Br.mk ?_ ?_; focus (intros; omega)) | decide)
      rw [decide_eq_false fun h => hc2 (h _ (by rw [getD_el _ i (by omega)]; exact List.getElem_mem _))]
    · (repeat first | simp only [go_sem, ↓reduceIte, Nat.reduceEqDiff, Nat.reduceAdd, reduceCtorEq] | with_reducible refine V_W ?_ | (with_reducible refine And.intro ?_ ?_; focus first | assumption | omega | decide | grind) | (with_reducible refine Br.mk ?_ ?_; focus (intros; omega)) | decide)
      refine ⟨i + 1, ⟨by omega, fun j hj => ?_⟩, by omega, by exact Ref.frame (by simp [sub, fget])⟩
      rcases Nat.lt_or_ge j i with h | h
      · exact hall j h
      · obtain rfl : j = i := by omega
        exact hc2
  · (repeat first | simp only [go_sem, ↓reduceIte, Nat.reduceEqDiff, Nat.reduceAdd, reduceCtorEq] | with_reducible refine V_W ?_ | (with_reducible refine And.intro ?_ ?_; focus first | assumption | omega | decide | grind) | (with_reducible refine Br.mk ?_ ?_; focus (intros; omega)) | decide)
    rw [decide_eq_true (p := Win a b) fun e he => ?_]
    obtain ⟨j, hj, rfl⟩ := List.mem_iff_getElem.1 he
    have := hall j (by omega)
    rwa [getD_el _ j hj] at this

theorem filt_at {α : Type} {S : List α} {p : α → Bool} {d : α} {k : Nat} (hk : k ≤ S.length) (h1 : ∀ i, i < k → p (S.getD i d) = true) (h2 : ∀ i, k ≤ i → i < S.length → p (S.getD i d) = false) (x : α) : S.filter p ++ x :: S.filter (fun y => !p y) = S.take k ++ ([x] ++ S.drop k) := by
  obtain ⟨e1, e2⟩ := filt_take S p d k hk h1 h2
  rw [e1, e2]
  rfl

theorem l13Insert_p (V : List Int) (n : Int) (hV : sst V) (hn : n ∉ V) (hl : V.length ≤ 1099511627776) : Pure Tryd.prog 114 [ints V, i64 n] (.sl 0 1 0 (insI V n).length) [some (intsC (insI V n))] := by
  refine pureRV ok114 rfl ?_; unfold c114
  (repeat first | simp only [go_sem, ↓reduceIte, Nat.reduceEqDiff, Nat.reduceAdd, reduceCtorEq] | with_reducible refine V_W ?_ | (with_reducible refine And.intro ?_ ?_; focus first | assumption | omega | decide | grind) | (with_reducible refine Br.mk ?_ ?_; focus (intros; omega)) | decide)
  refine V_loop (α := Nat) (S := fun i => ([(0, ints V), (1, i64 n), (5, i64 (i : Int))], [])) (C := fun i => i ≤ V.length ∧ ∀ j, j < i → V.getD j 0 < n) (μ := fun i => V.length - i) 0 ⟨Nat.zero_le _, fun j hj => by omega⟩ (by exact Ref.frame (by simp [sub, fget])) ?_
  rintro i ⟨hi, hall⟩
  (repeat first | simp only [go_sem, ↓reduceIte, Nat.reduceEqDiff, Nat.reduceAdd, reduceCtorEq] | with_reducible refine V_W ?_ | (with_reducible refine And.intro ?_ ?_; focus first | assumption | omega | decide | grind) | (with_reducible refine Br.mk ?_ ?_; focus (intros; omega)) | decide)
  refine ⟨fun hc => ?_, fun hc => ?_⟩
  · (repeat first | simp only [go_sem, ↓reduceIte, Nat.reduceEqDiff, Nat.reduceAdd, reduceCtorEq] | with_reducible refine V_W ?_ | (with_reducible refine And.intro ?_ ?_; focus first | assumption | omega | decide | grind) | (with_reducible refine Br.mk ?_ ?_; focus (intros; omega)) | decide)
    refine ⟨i + 1, ⟨by omega, fun j hj => ?_⟩, by omega, by exact Ref.frame (by simp [sub, fget])⟩
    rcases Nat.lt_or_ge j i with h | h
    · exact hall j h
    · obtain rfl : j = i := by omega
      exact hc.2
  · have he : insI V n = V.take i ++ ([n] ++ V.drop i) := by
      unfold insI
      rw [if_neg hn]
      refine filt_at hi (d := 0) (fun j hj => decide_eq_true (hall j hj)) (fun j hj hj2 => decide_eq_false ?_) n
      have h1 : ¬ V.getD i 0 < n := by
        rcases hc with h | h
        · omega
        · omega
      have h2 := srt_le (fun k hk => Int.le_of_lt (lt_of_sst hV k hk)) hj hj2
      omega
    (repeat first | simp only [go_sem, ↓reduceIte, Nat.reduceEqDiff, Nat.reduceAdd, reduceCtorEq] | with_reducible refine V_W ?_ | (with_reducible refine And.intro ?_ ?_; focus first | assumption | omega | decide | grind) | (with_reducible refine Br.mk ?_ ?_; focus (intros; omega)) | decide)
    have n1 : ((V.length : Int) - (i : Int)).toNat = V.length - i := by omega
    have n2 : ((i : Int) - 0).toNat = i := by omega
    have ht : List.take (V.length - i) (List.drop i (intsC V)) = intsC (V.drop i) := by
      rw [List.take_of_length_le (by simp [intsC])]
      simp [intsC]
    have ht2 : List.take i (intsC V) = intsC (V.take i) := by simp [intsC]
    have ht3 : List.take (1 + (V.length - i)) (i64 n :: intsC (V.drop i)) = i64 n :: intsC (V.drop i) := List.take_of_length_le (by simp [intsC]; omega)
    simp only [n1, n2, ht, ht2, ht3, go_sem, ↓reduceIte, Nat.reduceEqDiff, Nat.reduceAdd, reduceCtorEq]
    (repeat first | simp only [go_sem, ↓reduceIte, Nat.reduceEqDiff, Nat.reduceAdd, reduceCtorEq] | with_reducible refine V_W ?_ | (with_reducible refine And.intro ?_ ?_; focus first | assumption | omega | decide | grind) | (with_reducible refine Br.mk ?_ ?_; focus (intros; omega)) | decide)
    simp only [n1, n2, ht, ht2, ht3, go_sem, ↓reduceIte, Nat.reduceEqDiff, Nat.reduceAdd, reduceCtorEq]
    (repeat first | simp only [go_sem, ↓reduceIte, Nat.reduceEqDiff, Nat.reduceAdd, reduceCtorEq] | with_reducible refine V_W ?_ | (with_reducible refine And.intro ?_ ?_; focus first | assumption | omega | decide | grind) | (with_reducible refine Br.mk ?_ ?_; focus (intros; omega)) | decide)
    have hc4 : List.take i (intsC (V.take i)) ++ i64 n :: intsC (V.drop i) = intsC (insI V n) := by
      rw [he, List.take_of_length_le (by simp [intsC]; omega)]
      simp [intsC]
    have hlen : (insI V n).length = i + (1 + (V.length - i)) := by
      rw [he]
      simp
      omega
    rw [hc4, ← hlen]
    exact Ref.gc [4] rfl (by simp only [go_sem, ↓reduceIte, Nat.reduceEqDiff, Nat.reduceAdd, reduceCtorEq]) (by simp [sub, fget, go_sem, ↓reduceIte, Nat.reduceEqDiff, Nat.reduceAdd, reduceCtorEq])

theorem l17Insert_w (V : List Int) (n : Int) (hV : sst V) (hl : V.length ≤ 1099511627776) : Wri Tryd.prog 77 [.sl 0 1 0 V.length, i64 n] [some (intsC V)] (.sl 1 1 0 (insI V n).length) [none, some (intsC (insI V n))] := by
  refine wriRV ok77 rfl ?_; unfold c77
  (repeat first | simp only [go_sem, ↓reduceIte, Nat.reduceEqDiff, Nat.reduceAdd, reduceCtorEq] | with_reducible refine V_W ?_ | (with_reducible refine And.intro ?_ ?_; focus first | assumption | omega | decide | grind) | (with_reducible refine Br.mk ?_ ?_; focus (intros; omega)) | decide)
  refine pureC (l01Has_c V n hl) (by simp only [go_sem, ↓reduceIte, Nat.reduceEqDiff, Nat.reduceAdd, reduceCtorEq] <;> rfl) (by first | rfl | simp only [go_sem, ↓reduceIte, Nat.reduceEqDiff, Nat.reduceAdd, reduceCtorEq]) ?_
  (repeat first | simp only [go_sem, ↓reduceIte, Nat.reduceEqDiff, Nat.reduceAdd, reduceCtorEq] | with_reducible refine V_W ?_ | (with_reducible refine And.intro ?_ ?_; focus first | assumption | omega | decide | grind) | (with_reducible refine Br.mk ?_ ?_; focus (intros; omega)) | decide)
  refine ⟨fun hc => ?_, fun hc => ?_⟩
  · have he : insI V n = V := by unfold insI; rw [if_pos hc]
    (repeat first | simp only [go_sem, ↓reduceIte, Nat.reduceEqDiff, Nat.reduceAdd, reduceCtorEq] | with_reducible refine V_W ?_ | (with_reducible refine And.intro ?_ ?_; focus first | assumption | omega | decide | grind) | (with_reducible refine Br.mk ?_ ?_; focus (intros; omega)) | decide)
    rw [he]
    exact (Ref.mv 0 (cs := intsC V) (F' := [(0, .sl 1 1 0 V.length)]) (H' := [none, some (intsC V)]) rfl (by simp only [go_sem, ↓reduceIte, Nat.reduceEqDiff, Nat.reduceAdd, reduceCtorEq]) (by simp [sub, fget, go_sem, ↓reduceIte, Nat.reduceEqDiff, Nat.reduceAdd, reduceCtorEq]))
  · (repeat first | simp only [go_sem, ↓reduceIte, Nat.reduceEqDiff, Nat.reduceAdd, reduceCtorEq] | with_reducible refine V_W ?_ | (with_reducible refine And.intro ?_ ?_; focus first | assumption | omega | decide | grind) | (with_reducible refine Br.mk ?_ ?_; focus (intros; omega)) | decide)
    have hi := l13Insert_p V n hV hc hl
    generalize insI V n = V' at hi ⊢
    refine pureC (hi) (by simp only [go_sem, ↓reduceIte, Nat.reduceEqDiff, Nat.reduceAdd, reduceCtorEq] <;> rfl) (by first | rfl | simp only [go_sem, ↓reduceIte, Nat.reduceEqDiff, Nat.reduceAdd, reduceCtorEq]) ?_
    (repeat first | simp only [go_sem, ↓reduceIte, Nat.reduceEqDiff, Nat.reduceAdd, reduceCtorEq] | with_reducible refine V_W ?_ | (with_reducible refine And.intro ?_ ?_; focus first | assumption | omega | decide | grind) | (with_reducible refine Br.mk ?_ ?_; focus (intros; omega)) | decide)
    exact (Ref.kill 0).trans (Ref.to (by simp) (by simp [sub, fget]))

theorem plain_rows (L : List (List Int)) : (L.map ints).all plainC = true := List.all_eq_true.2 fun x hx => by
  obtain ⟨y, _, rfl⟩ := List.mem_map.1 hx
  rfl
theorem one_rows (L : List (List Int)) : (L.map ints).all oneA = true := List.all_eq_true.2 fun x hx => by
  obtain ⟨y, _, rfl⟩ := List.mem_map.1 hx
  rfl
theorem srt_at {S : List (List Int)} (hS : Srt S) {i j : Nat} (h : i < j) (hj : j < S.length) : lexL (S.getD i []) (S.getD j []) = true := by
  rw [show S.getD i [] = S[i] by simp [show i < S.length by omega], show S.getD j [] = S[j] by simp [hj]]
  exact List.pairwise_iff_getElem.1 hS i j (by omega) hj h
theorem srt_lo {S : List (List Int)} {x : List Int} (hS : Srt S) {m : Nat} (hm : m < S.length) (h : lexL (S.getD m []) x = true) : ∀ j, j ≤ m → lexL (S.getD j []) x = true := fun j hj => by
  rcases Nat.eq_or_lt_of_le hj with h2 | h2
  · rw [h2]; exact h
  · exact lexL_trans (srt_at hS h2 hm) h
theorem srt_hi {S : List (List Int)} {x : List Int} (hS : Srt S) {m : Nat} (hm : m < S.length) (h : lexL (S.getD m []) x = false) : ∀ j, m ≤ j → j < S.length → lexL (S.getD j []) x = false := fun j hj hj2 => by
  rcases Nat.eq_or_lt_of_le hj with h2 | h2
  · rw [← h2]; exact h
  · cases h3 : lexL (S.getD j []) x with
    | false => rfl
    | true => rw [lexL_trans (srt_at hS h2 hj2) h3] at h; cases h
set_option maxHeartbeats 2000000 in
theorem l17Put_w (S : List (List Int)) (x : List Int) (hS : Srt S) (hl : S.length ≤ 1099511627776) (hr : ∀ i : Nat, (S.getD i []).length ≤ 1099511627776) (hx : x.length ≤ 1099511627776) : Wri Tryd.prog 76 [.sl 0 1 0 S.length, ints x] [some (S.map ints)] (.sl 1 1 0 (putL S x).length) [none, some ((putL S x).map ints)] := by
  refine wriRV ok76 rfl ?_; unfold c76
  (repeat first | simp only [go_sem, ↓reduceIte, Nat.reduceEqDiff, Nat.reduceAdd, reduceCtorEq] | with_reducible refine V_W ?_ | (with_reducible refine And.intro ?_ ?_; focus first | assumption | omega | decide | grind) | (with_reducible refine Br.mk ?_ ?_; focus (intros; omega)) | decide)
  refine V_loop (α := Nat × Nat) (S := fun q => ([(0, .sl 0 1 0 S.length), (1, ints x), (5, i64 (q.1 : Int)), (6, i64 (q.2 : Int))], [some (S.map ints)])) (C := fun q => q.1 ≤ q.2 ∧ q.2 ≤ S.length ∧ (∀ j, j < q.1 → lexL (S.getD j []) x = true) ∧ ∀ j, q.2 ≤ j → j < S.length → lexL (S.getD j []) x = false) (μ := fun q => q.2 - q.1) (0, S.length) ⟨Nat.zero_le _, Nat.le_refl _, fun j hj => by omega, fun j h1 h2 => by omega⟩ (by exact Ref.frame (by simp [sub, fget])) ?_
  rintro ⟨lo, hi⟩ ⟨h1, h2, h3, h4⟩
  dsimp only at h1 h2 h3 h4 ⊢
  (repeat first | simp only [go_sem, ↓reduceIte, Nat.reduceEqDiff, Nat.reduceAdd, reduceCtorEq] | with_reducible refine V_W ?_ | (with_reducible refine And.intro ?_ ?_; focus first | assumption | omega | decide | grind) | (with_reducible refine Br.mk ?_ ?_; focus (intros; omega)) | decide)
  refine ⟨fun hc => ?_, fun hc => ?_⟩
  · have hmid : ((lo : Int) + (hi : Int)).tdiv 2 = (((lo + hi) / 2 : Nat) : Int) := by
      rw [Int.tdiv_eq_ediv_of_nonneg (by omega)]; omega
    obtain ⟨m, hm⟩ : ∃ m, m = (lo + hi) / 2 := ⟨_, rfl⟩
    rw [← hm] at hmid
    have hrm := hr m
    (repeat first | simp only [go_sem, ↓reduceIte, Nat.reduceEqDiff, Nat.reduceAdd, reduceCtorEq] | with_reducible refine V_W ?_ | (with_reducible refine And.intro ?_ ?_; focus first | assumption | omega | decide | grind) | (with_reducible refine Br.mk ?_ ?_; focus (intros; omega)) | decide)
    simp only [hmid, go_sem, ↓reduceIte, Nat.reduceEqDiff, Nat.reduceAdd, reduceCtorEq]
    (repeat first | simp only [go_sem, ↓reduceIte, Nat.reduceEqDiff, Nat.reduceAdd, reduceCtorEq] | with_reducible refine V_W ?_ | (with_reducible refine And.intro ?_ ?_; focus first | assumption | omega | decide | grind) | (with_reducible refine Br.mk ?_ ?_; focus (intros; omega)) | decide)
    refine pureC (less_c (S.getD m []) x hrm hx) (by simp only [go_sem, ↓reduceIte, Nat.reduceEqDiff, Nat.reduceAdd, reduceCtorEq] <;> rfl) (by first | rfl | simp only [go_sem, ↓reduceIte, Nat.reduceEqDiff, Nat.reduceAdd, reduceCtorEq]) ?_
    (repeat first | simp only [go_sem, ↓reduceIte, Nat.reduceEqDiff, Nat.reduceAdd, reduceCtorEq] | with_reducible refine V_W ?_ | (with_reducible refine And.intro ?_ ?_; focus first | assumption | omega | decide | grind) | (with_reducible refine Br.mk ?_ ?_; focus (intros; omega)) | decide)
    refine ⟨fun hc2 => ?_, fun hc2 => ?_⟩
    · (repeat first | simp only [go_sem, ↓reduceIte, Nat.reduceEqDiff, Nat.reduceAdd, reduceCtorEq] | with_reducible refine V_W ?_ | (with_reducible refine And.intro ?_ ?_; focus first | assumption | omega | decide | grind) | (with_reducible refine Br.mk ?_ ?_; focus (intros; omega)) | decide)
      exact ⟨(m + 1, hi), ⟨by dsimp only; omega, h2, fun j hj => srt_lo hS (by omega) hc2 j (by dsimp only at hj; omega), h4⟩, by dsimp only; omega, by exact Ref.frame (by simp [sub, fget])⟩
    · (repeat first | simp only [go_sem, ↓reduceIte, Nat.reduceEqDiff, Nat.reduceAdd, reduceCtorEq] | with_reducible refine V_W ?_ | (with_reducible refine And.intro ?_ ?_; focus first | assumption | omega | decide | grind) | (with_reducible refine Br.mk ?_ ?_; focus (intros; omega)) | decide)
      exact ⟨(lo, m), ⟨by dsimp only; omega, by dsimp only; omega, h3, fun j hj hj2 => srt_hi hS (by omega) (by simpa using hc2) j hj hj2⟩, by dsimp only; omega, by exact Ref.frame (by simp [sub, fget])⟩
  · obtain rfl : lo = hi := by omega
    have hrm := hr lo
    (repeat first | simp only [go_sem, ↓reduceIte, Nat.reduceEqDiff, Nat.reduceAdd, reduceCtorEq] | with_reducible refine V_W ?_ | (with_reducible refine And.intro ?_ ?_; focus first | assumption | omega | decide | grind) | (with_reducible refine Br.mk ?_ ?_; focus (intros; omega)) | decide)
    refine GCall.mk (bl (decide (S.getD lo [] = x)) ) (fun hg => by first | exact pureC ( same_c (S.getD lo []) x hrm hx) (by simp only [go_sem, ↓reduceIte, Nat.reduceEqDiff, Nat.reduceAdd, reduceCtorEq] <;> rfl) (by first | rfl | simp only [go_sem, ↓reduceIte, Nat.reduceEqDiff, Nat.reduceAdd, reduceCtorEq]) (by first | exact ⟨rfl, rfl⟩ | simp only [go_sem, ↓reduceIte, Nat.reduceEqDiff, Nat.reduceAdd, reduceCtorEq]) | exact ⟨hg, pureC ( same_c (S.getD lo []) x hrm hx) (by simp only [go_sem, ↓reduceIte, Nat.reduceEqDiff, Nat.reduceAdd, reduceCtorEq] <;> rfl) (by first | rfl | simp only [go_sem, ↓reduceIte, Nat.reduceEqDiff, Nat.reduceAdd, reduceCtorEq]) (by first | exact ⟨rfl, rfl⟩ | simp only [go_sem, ↓reduceIte, Nat.reduceEqDiff, Nat.reduceAdd, reduceCtorEq])⟩ | exact ⟨by grind, pureC ( same_c (S.getD lo []) x hrm hx) (by simp only [go_sem, ↓reduceIte, Nat.reduceEqDiff, Nat.reduceAdd, reduceCtorEq] <;> rfl) (by first | rfl | simp only [go_sem, ↓reduceIte, Nat.reduceEqDiff, Nat.reduceAdd, reduceCtorEq]) (by first | exact ⟨rfl, rfl⟩ | simp only [go_sem, ↓reduceIte, Nat.reduceEqDiff, Nat.reduceAdd, reduceCtorEq])⟩) ?_
    (repeat first | simp only [go_sem, ↓reduceIte, Nat.reduceEqDiff, Nat.reduceAdd, reduceCtorEq] | with_reducible refine V_W ?_ | (with_reducible refine And.intro ?_ ?_; focus first | assumption | omega | decide | grind) | (with_reducible refine Br.mk ?_ ?_; focus (intros; omega)) | decide)
    refine ⟨fun hc2 => ?_, fun hc2 => ?_⟩
    · have hm : x ∈ S := by
        have h5 : lo < S.length := by omega
        rw [← hc2.2, show S.getD lo [] = S[lo] by simp [h5]]
        exact List.getElem_mem h5
      have he : putL S x = S := by unfold putL; rw [if_pos hm]
      (repeat first | simp only [go_sem, ↓reduceIte, Nat.reduceEqDiff, Nat.reduceAdd, reduceCtorEq] | with_reducible refine V_W ?_ | (with_reducible refine And.intro ?_ ?_; focus first | assumption | omega | decide | grind) | (with_reducible refine Br.mk ?_ ?_; focus (intros; omega)) | decide)
      rw [he]
      exact (Ref.mv 0 (cs := S.map ints) (F' := [(0, .sl 1 1 0 S.length)]) (H' := [none, some (S.map ints)]) rfl (by simp only [go_sem, ↓reduceIte, Nat.reduceEqDiff, Nat.reduceAdd, reduceCtorEq]) (by simp [sub, fget, go_sem, ↓reduceIte, Nat.reduceEqDiff, Nat.reduceAdd, reduceCtorEq]))
    · have hn : x ∉ S := fun hm => by
        obtain ⟨j, hj, hje⟩ := List.mem_iff_getElem.1 hm
        have hjd : S.getD j [] = x := by rw [show S.getD j [] = S[j] by simp [hj]]; exact hje
        have h5 : lo ≤ j := by
          rcases Nat.lt_or_ge j lo with h | h
          · have := h3 j h
            rw [hjd, lexL_irr] at this
            cases this
          · exact h
        rcases Nat.eq_or_lt_of_le h5 with h6 | h6
        · subst h6
          rcases hc2 with h | h
          · omega
          · exact h hjd
        · have h7 := h4 lo (Nat.le_refl _) (by omega)
          have h8 := srt_at hS h6 hj
          rw [hjd, h7] at h8
          cases h8
      have he : putL S x = S.take lo ++ ([x] ++ S.drop lo) := by
        unfold putL
        rw [if_neg hn]
        exact filt_at h2 (d := []) h3 h4 x
      (repeat first | simp only [go_sem, ↓reduceIte, Nat.reduceEqDiff, Nat.reduceAdd, reduceCtorEq] | with_reducible refine V_W ?_ | (with_reducible refine And.intro ?_ ?_; focus first | assumption | omega | decide | grind) | (with_reducible refine Br.mk ?_ ?_; focus (intros; omega)) | decide)
      have n1 : ((S.length : Int) - (lo : Int)).toNat = S.length - lo := by omega
      have n2 : ((lo : Int) - 0).toNat = lo := by omega
      have ht : List.take (S.length - lo) (List.drop lo (S.map ints)) = (S.drop lo).map ints := by
        rw [List.take_of_length_le (by simp)]
        simp
      have ht2 : List.take lo (S.map ints) = (S.take lo).map ints := by simp
      have ht3 : List.take (1 + (S.length - lo)) (ints x :: (S.drop lo).map ints) = ints x :: (S.drop lo).map ints := List.take_of_length_le (by simp; omega)
      simp only [n1, n2, ht, ht2, ht3, plain_rows, one_rows, go_sem, ↓reduceIte, Nat.reduceEqDiff, Nat.reduceAdd, reduceCtorEq]
      (repeat first | simp only [go_sem, ↓reduceIte, Nat.reduceEqDiff, Nat.reduceAdd, reduceCtorEq] | with_reducible refine V_W ?_ | (with_reducible refine And.intro ?_ ?_; focus first | assumption | omega | decide | grind) | (with_reducible refine Br.mk ?_ ?_; focus (intros; omega)) | decide)
      simp only [n1, n2, ht, ht2, ht3, plain_rows, one_rows, go_sem, ↓reduceIte, Nat.reduceEqDiff, Nat.reduceAdd, reduceCtorEq]
      (repeat first | simp only [go_sem, ↓reduceIte, Nat.reduceEqDiff, Nat.reduceAdd, reduceCtorEq] | with_reducible refine V_W ?_ | (with_reducible refine And.intro ?_ ?_; focus first | assumption | omega | decide | grind) | (with_reducible refine Br.mk ?_ ?_; focus (intros; omega)) | decide)
      have hc4 : List.take lo ((S.take lo).map ints) ++ ints x :: (S.drop lo).map ints = (putL S x).map ints := by
        rw [he, List.take_of_length_le (by simp; omega)]
        simp
      have hlen : (putL S x).length = lo + (1 + (S.length - lo)) := by
        rw [he]
        simp
        omega
      rw [hc4, ← hlen]
      exact (Ref.kill 0).trans (Ref.gc [0, 5] rfl (by simp only [go_sem, ↓reduceIte, Nat.reduceEqDiff, Nat.reduceAdd, reduceCtorEq]) (by simp [sub, fget, go_sem, ↓reduceIte, Nat.reduceEqDiff, Nat.reduceAdd, reduceCtorEq]))
end Go.Proofs.YtghhlcioabdpfaaDoor
set_option maxRecDepth 100000
namespace Go.Proofs.YtghhlcioabdpfaaDoor
open Go.Gov
open Classical

noncomputable def mkF (L : List (List Int)) : List (List Int) := facL (srtF L)
noncomputable def mkV (L : List (List Int)) : List Int := vtsL (mkF L)
noncomputable def mkR (L : List (List Int)) : List (List Int) := (mkF L).map fun f => f.map (idx (mkV L))
def Tp (S : List (List Int)) (i k : Nat) : Prop := ∀ k', k' < k → i = k' ∨ ¬ Win (S.getD i []) (S.getD k' [])
theorem tp_zero (S : List (List Int)) (i : Nat) : Tp S i 0 := fun k h => by omega
theorem tp_succ (S : List (List Int)) (i k : Nat) (h : Tp S i k) : Tp S i (k + 1) ↔ i = k ∨ ¬ Win (S.getD i []) (S.getD k []) := by
  constructor
  · exact fun h2 => h2 k (by omega)
  · intro h2 k' hk
    rcases Nat.lt_or_ge k' k with h3 | h3
    · exact h k' h3
    · obtain rfl : k' = k := by omega
      exact h2
theorem vtsL_snoc (F : List (List Int)) (f : List Int) : vtsL (F ++ [f]) = f.foldl insI (vtsL F) := by
  unfold vtsL
  rw [List.flatten_append, List.foldl_append]
  simp
theorem foldl_take {V f : List Int} {m : Nat} (h : m < f.length) : (f.take (m + 1)).foldl insI V = insI ((f.take m).foldl insI V) (f.getD m 0) := by
  rw [List.take_succ_eq_append_getElem h, List.foldl_append, getD_el _ m h]
  rfl
theorem srtF_nil : srtF [] = [] := rfl
theorem facT_zero (S : List (List Int)) : facT S 0 = [] := rfl
theorem row_take {f : List Int} {g : Int → Int} {m : Nat} (h : m < f.length) : (f.take (m + 1)).map g = (f.take m).map g ++ [g (f.getD m 0)] := by
  rw [List.take_succ_eq_append_getElem h, List.map_append, getD_el _ m h]
  rfl
theorem rows_take {F : List (List Int)} {g : List Int → List Int} {m : Nat} (h : m < F.length) : (F.take (m + 1)).map g = (F.take m).map g ++ [g (F.getD m [])] := by
  rw [List.take_succ_eq_append_getElem h, List.map_append, show F.getD m [] = F[m] by simp [h]]
  rfl
end Go.Proofs.YtghhlcioabdpfaaDoor
