/- Texts that belong together. -/
import Derived.Test.YtghhlcioabdpfaaDoorZj
import Derived.Test.YtghhlcioabdpfaaDoorZr
import Derived.Test.YtghhlcioabdpfaaDoorX2
import Derived.Test.YtghhlcioabdpfaaDoorX3
import Derived.Test.YtghhlcioabdpfaaDoorX5
import Derived.Test.YtghhlcioabdpfaaDoorX8
set_option linter.unusedSimpArgs false
set_option linter.unusedVariables false
set_option maxRecDepth 100000
namespace Go.Proofs.YtghhlcioabdpfaaDoor
open Go.Gov
open Classical
theorem indexB_c (Y : List Bool) (hl : Y.length ≤ 1099511627776) : Pure Tryd.prog 118 [bools Y, bl false] (i64 (if false ∈ Y then (Y.findIdx fun b => b == false : Nat) else -1)) [] := by
  refine pureV0 ok118 rfl rfl ?_; unfold c118
  (repeat first | simp only [go_sem, ↓reduceIte, Nat.reduceEqDiff, Nat.reduceAdd, reduceCtorEq] | with_reducible refine V_W ?_ | (with_reducible refine And.intro ?_ ?_; focus first | assumption | omega | decide | grind) | (with_reducible refine Br.mk ?_ ?_; focus (intros; omega)) | decide)
  refine V_loop (α := Nat) (S := fun i => ([(0, bools Y), (1, bl false), (6, bools Y), (7, i64 Y.length), (8, i64 i)], [])) (C := fun i => i ≤ Y.length ∧ ∀ j, j < i → Y.getD j false = true) (μ := fun i => Y.length - i) 0 ⟨Nat.zero_le _, fun j hj => by omega⟩ (by exact Ref.frame (by simp [sub, fget])) ?_
  rintro i ⟨hi, hall⟩
  (repeat first | simp only [go_sem, ↓reduceIte, Nat.reduceEqDiff, Nat.reduceAdd, reduceCtorEq] | with_reducible refine V_W ?_ | (with_reducible refine And.intro ?_ ?_; focus first | assumption | omega | decide | grind) | (with_reducible refine Br.mk ?_ ?_; focus (intros; omega)) | decide)
  refine ⟨fun hc => ?_, fun hc => ?_⟩
  · (repeat first | simp only [go_sem, ↓reduceIte, Nat.reduceEqDiff, Nat.reduceAdd, reduceCtorEq] | with_reducible refine V_W ?_ | (with_reducible refine And.intro ?_ ?_; focus first | assumption | omega | decide | grind) | (with_reducible refine Br.mk ?_ ?_; focus (intros; omega)) | decide)
    refine ⟨fun hc2 => ?_, fun hc2 => ?_⟩
    · (repeat first | simp only [go_sem, ↓reduceIte, Nat.reduceEqDiff, Nat.reduceAdd, reduceCtorEq] | with_reducible refine V_W ?_ | (with_reducible refine And.intro ?_ ?_; focus first | assumption | omega | decide | grind) | (with_reducible refine Br.mk ?_ ?_; focus (intros; omega)) | decide)
      have hi' : i < Y.length := by omega
      have h3 : Y[i] = false := by
        have : Y.getD i false = false := by simpa using hc2
        simpa [hi'] using this
      have hm : false ∈ Y := h3 ▸ List.getElem_mem hi'
      rw [if_pos hm, (List.findIdx_eq hi').2 ⟨by simp [h3], fun j hj => ?_⟩]
      have := hall j hj
      simp [show j < Y.length by omega] at this
      simp [this]
    · (repeat first | simp only [go_sem, ↓reduceIte, Nat.reduceEqDiff, Nat.reduceAdd, reduceCtorEq] | with_reducible refine V_W ?_ | (with_reducible refine And.intro ?_ ?_; focus first | assumption | omega | decide | grind) | (with_reducible refine Br.mk ?_ ?_; focus (intros; omega)) | decide)
      refine ⟨i + 1, ⟨by omega, fun j hj => ?_⟩, by omega, by exact Ref.frame (by simp [sub, fget])⟩
      rcases Nat.lt_or_ge j i with h | h
      · exact hall j h
      · obtain rfl : j = i := by omega
        simpa using hc2
  · (repeat first | simp only [go_sem, ↓reduceIte, Nat.reduceEqDiff, Nat.reduceAdd, reduceCtorEq] | with_reducible refine V_W ?_ | (with_reducible refine And.intro ?_ ?_; focus first | assumption | omega | decide | grind) | (with_reducible refine Br.mk ?_ ?_; focus (intros; omega)) | decide)
    rw [if_neg fun hm => ?_]
    obtain ⟨j, hj, hje⟩ := List.mem_iff_getElem.1 hm
    have := hall j (by omega)
    simp [hj, hje] at this
theorem containsB_c (Y : List Bool) (hl : Y.length ≤ 1099511627776) : Pure Tryd.prog 83 [bools Y, bl false] (bl (decide (false ∈ Y))) [] := by
  refine pureV0 ok83 rfl rfl ?_; unfold c83
  (repeat first | simp only [go_sem, ↓reduceIte, Nat.reduceEqDiff, Nat.reduceAdd, reduceCtorEq] | with_reducible refine V_W ?_ | (with_reducible refine And.intro ?_ ?_; focus first | assumption | omega | decide | grind) | (with_reducible refine Br.mk ?_ ?_; focus (intros; omega)) | decide)
  refine pureC (indexB_c Y hl) (by simp only [go_sem, ↓reduceIte, Nat.reduceEqDiff, Nat.reduceAdd, reduceCtorEq] <;> rfl) (by first | rfl | simp only [go_sem, ↓reduceIte, Nat.reduceEqDiff, Nat.reduceAdd, reduceCtorEq]) ?_
  (repeat first | simp only [go_sem, ↓reduceIte, Nat.reduceEqDiff, Nat.reduceAdd, reduceCtorEq] | with_reducible refine V_W ?_ | (with_reducible refine And.intro ?_ ?_; focus first | assumption | omega | decide | grind) | (with_reducible refine Br.mk ?_ ?_; focus (intros; omega)) | decide)
  refine congrArg (fun b => AV.val (.bool b)) ?_
  by_cases h : false ∈ Y
  · simp [h]
  · simp [h]

end Go.Proofs.YtghhlcioabdpfaaDoor
set_option maxRecDepth 100000
namespace Go.Proofs.YtghhlcioabdpfaaDoor
open Go.Gov
open Classical

def RiseAt (m : Int) (x : List Int) (i : Nat) : Prop := (0 ≤ x.getD i 0 ∧ x.getD i 0 ≤ m) ∧ (0 < i → x.getD (i - 1) 0 < x.getD i 0)
theorem rises_c (x : List Int) (m : Int) (hl : x.length ≤ 1099511627776) : Pure Tryd.prog 72 [ints x, i64 m] (bl (decide (Rise m x))) [] := by
  refine pureV0 ok72 rfl rfl ?_; unfold c72
  (repeat first | simp only [go_sem, ↓reduceIte, Nat.reduceEqDiff, Nat.reduceAdd, reduceCtorEq] | with_reducible refine V_W ?_ | (with_reducible refine And.intro ?_ ?_; focus first | assumption | omega | decide | grind) | (with_reducible refine Br.mk ?_ ?_; focus (intros; omega)) | decide)
  refine V_loop (α := Nat) (S := fun i => ([(0, ints x), (1, i64 m), (5, i64 (i : Int))], [])) (C := fun i => i ≤ x.length ∧ ∀ j, j < i → RiseAt m x j) (μ := fun i => x.length - i) 0 ⟨Nat.zero_le _, fun j hj => by omega⟩ (by exact Ref.frame (by simp [sub, fget])) ?_
  rintro i ⟨hi, hall⟩
  (repeat first | simp only [go_sem, ↓reduceIte, Nat.reduceEqDiff, Nat.reduceAdd, reduceCtorEq] | with_reducible refine V_W ?_ | (with_reducible refine And.intro ?_ ?_; focus first | assumption | omega | decide | grind) | (with_reducible refine Br.mk ?_ ?_; focus (intros; omega)) | decide)
  refine ⟨fun hc => ?_, fun hc => ?_⟩
  · (repeat first | simp only [go_sem, ↓reduceIte, Nat.reduceEqDiff, Nat.reduceAdd, reduceCtorEq] | with_reducible refine V_W ?_ | (with_reducible refine And.intro ?_ ?_; focus first | assumption | omega | decide | grind) | (with_reducible refine Br.mk ?_ ?_; focus (intros; omega)) | decide)
    refine pureC (l01In_c (x.getD i 0) 0 m) (by simp only [go_sem, ↓reduceIte, Nat.reduceEqDiff, Nat.reduceAdd, reduceCtorEq] <;> rfl) (by first | rfl | simp only [go_sem, ↓reduceIte, Nat.reduceEqDiff, Nat.reduceAdd, reduceCtorEq]) ?_
    (repeat first | simp only [go_sem, ↓reduceIte, Nat.reduceEqDiff, Nat.reduceAdd, reduceCtorEq] | with_reducible refine V_W ?_ | (with_reducible refine And.intro ?_ ?_; focus first | assumption | omega | decide | grind) | (with_reducible refine Br.mk ?_ ?_; focus (intros; omega)) | decide)
    refine ⟨fun hc2 => ?_, fun hc2 => ?_⟩
    · have hno : ¬ Rise m x := fun h => by
        have := h i (by omega)
        rcases hc2 with hc2 | hc2
        · omega
        · have := this.2 (by omega); omega
      (repeat first | simp only [go_sem, ↓reduceIte, Nat.reduceEqDiff, Nat.reduceAdd, reduceCtorEq] | with_reducible refine V_W ?_ | (with_reducible refine And.intro ?_ ?_; focus first | assumption | omega | decide | grind) | (with_reducible refine Br.mk ?_ ?_; focus (intros; omega)) | decide)
      rw [decide_eq_false hno]
    · (repeat first | simp only [go_sem, ↓reduceIte, Nat.reduceEqDiff, Nat.reduceAdd, reduceCtorEq] | with_reducible refine V_W ?_ | (with_reducible refine And.intro ?_ ?_; focus first | assumption | omega | decide | grind) | (with_reducible refine Br.mk ?_ ?_; focus (intros; omega)) | decide)
      refine ⟨i + 1, ⟨by omega, fun j hj => ?_⟩, by omega, by exact Ref.frame (by simp [sub, fget])⟩
      rcases Nat.lt_or_ge j i with h | h
      · exact hall j h
      · obtain rfl : j = i := by omega
        exact ⟨hc2.1, fun h0 => by rcases hc2.2 with h3 | h3 <;> omega⟩
  · (repeat first | simp only [go_sem, ↓reduceIte, Nat.reduceEqDiff, Nat.reduceAdd, reduceCtorEq] | with_reducible refine V_W ?_ | (with_reducible refine And.intro ?_ ?_; focus first | assumption | omega | decide | grind) | (with_reducible refine Br.mk ?_ ?_; focus (intros; omega)) | decide)
    rw [decide_eq_true (p := Rise m x) fun j hj => hall j (by omega)]
noncomputable def metB (v : Int) (F : List (List Int)) (i : Nat) : List Bool := (List.range v.toNat).map fun n => decide (Met F i n)
noncomputable def metK (v : Int) (F : List (List Int)) (i k : Nat) : List Bool := (List.range v.toNat).map fun n => decide (Met F i n ∨ ∃ j, j < k ∧ (F.getD i []).getD j 0 = n)
theorem metB_len (v : Int) (F : List (List Int)) (i : Nat) : (metB v F i).length = v.toNat := by simp [metB]
theorem metK_len (v : Int) (F : List (List Int)) (i k : Nat) : (metK v F i k).length = v.toNat := by simp [metK]
theorem metB_zero (v : Int) (F : List (List Int)) : metB v F 0 = List.replicate v.toNat false := by
  refine List.ext_getElem (by simp [metB]) fun n h1 h2 => ?_
  simp [metB, Met]
theorem metK_zero (v : Int) (F : List (List Int)) (i : Nat) : metK v F i 0 = metB v F i := by
  refine List.ext_getElem (by simp [metB, metK]) fun n h1 h2 => ?_
  simp [metB, metK]
theorem metK_step {v : Int} {F : List (List Int)} {i k : Nat} (n : Nat) (hn : (F.getD i []).getD k 0 = n) (hv : n < v.toNat) : (metK v F i k).set n true = metK v F i (k + 1) := by
  refine List.ext_getElem (by simp [metK]) fun m h1 h2 => ?_
  rw [List.getElem_set]
  simp only [metK, List.getElem_map, List.getElem_range]
  by_cases e : n = m
  · subst e
    rw [if_pos rfl, decide_eq_true (.inr ⟨k, Nat.lt_succ_self k, hn⟩)]
  · rw [if_neg e, decide_eq_decide]
    constructor
    · rintro (h | ⟨j, hj, h⟩)
      · exact .inl h
      · exact .inr ⟨j, by omega, h⟩
    · rintro (h | ⟨j, hj, h⟩)
      · exact .inl h
      · rcases Nat.lt_or_ge j k with h3 | h3
        · exact .inr ⟨j, h3, h⟩
        · obtain rfl : j = k := by omega
          rw [hn] at h
          omega
theorem met_next {F : List (List Int)} {i : Nat} (hi : i < F.length) (n : Nat) : Met F (i + 1) n ↔ Met F i n ∨ ∃ j, j < (F.getD i []).length ∧ (F.getD i []).getD j 0 = n := by
  unfold Met
  rw [take_one hi]
  simp only [List.mem_append, List.mem_singleton]
  constructor
  · rintro ⟨x, hx | rfl, h⟩
    · exact .inl ⟨x, hx, h⟩
    · obtain ⟨j, hj, e⟩ := List.mem_iff_getElem.1 h
      exact .inr ⟨j, hj, by rw [← e, getD_el _ j hj]⟩
  · rintro (⟨x, hx, h⟩ | ⟨j, hj, h⟩)
    · exact ⟨x, .inl hx, h⟩
    · refine ⟨_, .inr rfl, ?_⟩
      rw [← h, getD_el _ j hj]
      exact List.getElem_mem hj
theorem metK_all {v : Int} {F : List (List Int)} {i : Nat} (hi : i < F.length) : metK v F i (F.getD i []).length = metB v F (i + 1) := by
  refine List.ext_getElem (by simp [metB, metK]) fun n h1 h2 => ?_
  simp only [metK, metB, List.getElem_map, List.getElem_range, decide_eq_decide]
  exact (met_next hi n).symm
theorem metB_at {v : Int} {F : List (List Int)} {i n : Nat} (h : n < v.toNat) : (metB v F i).getD n false = decide (Met F i n) := by
  simp [metB, h]
set_option maxHeartbeats 4000000 in
theorem l17Is_c (v : Int) (F : List (List Int)) (hl : F.length ≤ 1099511627776) (hr : ∀ x ∈ F, x.length ≤ 1099511627776) : Pure Tryd.prog 34 [cpxA v F] (bl (decide (CxOk v F))) [] := by
  have hrow : ∀ i : Nat, (F.getD i []).length ≤ 1099511627776 := fun i => by
    by_cases h : i < F.length
    · exact hr _ (getD_mem h)
    · simp [h]
  refine pureV0 ok34 rfl rfl ?_; unfold c34
  (repeat first | simp only [go_sem, ↓reduceIte, Nat.reduceEqDiff, Nat.reduceAdd, reduceCtorEq] | with_reducible refine V_W ?_ | (with_reducible refine And.intro ?_ ?_; focus first | assumption | omega | decide | grind) | (with_reducible refine Br.mk ?_ ?_; focus (intros; omega)) | decide)
  refine pureC (l01In_c v 0 60) (by simp only [go_sem, ↓reduceIte, Nat.reduceEqDiff, Nat.reduceAdd, reduceCtorEq] <;> rfl) (by first | rfl | simp only [go_sem, ↓reduceIte, Nat.reduceEqDiff, Nat.reduceAdd, reduceCtorEq]) ?_
  (repeat first | simp only [go_sem, ↓reduceIte, Nat.reduceEqDiff, Nat.reduceAdd, reduceCtorEq] | with_reducible refine V_W ?_ | (with_reducible refine And.intro ?_ ?_; focus first | assumption | omega | decide | grind) | (with_reducible refine Br.mk ?_ ?_; focus (intros; omega)) | decide)
  refine ⟨fun hc => ?_, fun hc => ?_⟩
  · have hno : ¬ CxOk v F := fun h => by have := h.1.1; have := h.1.2; omega
    (repeat first | simp only [go_sem, ↓reduceIte, Nat.reduceEqDiff, Nat.reduceAdd, reduceCtorEq] | with_reducible refine V_W ?_ | (with_reducible refine And.intro ?_ ?_; focus first | assumption | omega | decide | grind) | (with_reducible refine Br.mk ?_ ?_; focus (intros; omega)) | decide)
    rw [decide_eq_false hno]
  have hA : CxA v F := by unfold CxA; omega
  (repeat first | simp only [go_sem, ↓reduceIte, Nat.reduceEqDiff, Nat.reduceAdd, reduceCtorEq] | with_reducible refine V_W ?_ | (with_reducible refine And.intro ?_ ?_; focus first | assumption | omega | decide | grind) | (with_reducible refine Br.mk ?_ ?_; focus (intros; omega)) | decide)
  refine V_loop (α := Nat) (S := fun i => ([(1, .ref 0 0), (3, .sl 1 1 0 v.toNat), (4, i64 (i : Int))], [some [i64 v, mat F], some (boolsC (metB v F i))])) (C := fun i => i ≤ F.length ∧ ∀ j, j < i → Rk v F j) (μ := fun i => F.length - i) 0 ⟨Nat.zero_le _, fun j hj => by omega⟩ ?_ ?_
  · rw [metB_zero]
    exact Ref.to rfl (by simp [sub, fget])
  rintro i ⟨hi, hall⟩
  dsimp only
  have hml := metB_len v F i
  (repeat first | simp only [go_sem, ↓reduceIte, Nat.reduceEqDiff, Nat.reduceAdd, reduceCtorEq] | with_reducible refine V_W ?_ | (with_reducible refine And.intro ?_ ?_; focus first | assumption | omega | decide | grind) | (with_reducible refine Br.mk ?_ ?_; focus (intros; omega)) | decide)
  refine ⟨fun hc1 => ?_, fun hc1 => ?_⟩
  · have hx := hrow i
    have hp := hrow (i - 1)
    have hri := rises_c (F.getD i []) (v - 1) hx
    have hle := less_c (F.getD (i - 1) []) (F.getD i []) hp hx
    (repeat first | simp only [go_sem, ↓reduceIte, Nat.reduceEqDiff, Nat.reduceAdd, reduceCtorEq] | with_reducible refine V_W ?_ | (with_reducible refine And.intro ?_ ?_; focus first | assumption | omega | decide | grind) | (with_reducible refine Br.mk ?_ ?_; focus (intros; omega)) | decide)
    refine GCall.mk (bl (decide (Rise (v - 1) (F.getD i []))) ) (fun hg => by first | exact pureC ( hri) (by simp only [go_sem, ↓reduceIte, Nat.reduceEqDiff, Nat.reduceAdd, reduceCtorEq] <;> rfl) (by first | rfl | simp only [go_sem, ↓reduceIte, Nat.reduceEqDiff, Nat.reduceAdd, reduceCtorEq]) (by first | exact ⟨rfl, rfl⟩ | simp only [go_sem, ↓reduceIte, Nat.reduceEqDiff, Nat.reduceAdd, reduceCtorEq]) | exact ⟨hg, pureC ( hri) (by simp only [go_sem, ↓reduceIte, Nat.reduceEqDiff, Nat.reduceAdd, reduceCtorEq] <;> rfl) (by first | rfl | simp only [go_sem, ↓reduceIte, Nat.reduceEqDiff, Nat.reduceAdd, reduceCtorEq]) (by first | exact ⟨rfl, rfl⟩ | simp only [go_sem, ↓reduceIte, Nat.reduceEqDiff, Nat.reduceAdd, reduceCtorEq])⟩ | exact ⟨by grind, pureC ( hri) (by simp only [go_sem, ↓reduceIte, Nat.reduceEqDiff, Nat.reduceAdd, reduceCtorEq] <;> rfl) (by first | rfl | simp only [go_sem, ↓reduceIte, Nat.reduceEqDiff, Nat.reduceAdd, reduceCtorEq]) (by first | exact ⟨rfl, rfl⟩ | simp only [go_sem, ↓reduceIte, Nat.reduceEqDiff, Nat.reduceAdd, reduceCtorEq])⟩) ?_
    (repeat first | simp only [go_sem, ↓reduceIte, Nat.reduceEqDiff, Nat.reduceAdd, reduceCtorEq] | with_reducible refine V_W ?_ | (with_reducible refine And.intro ?_ ?_; focus first | assumption | omega | decide | grind) | (with_reducible refine Br.mk ?_ ?_; focus (intros; omega)) | decide)
    refine GCall.mk (bl (lexL (F.getD (i - 1) []) (F.getD i [])) ) (fun hg => by first | exact pureC ( hle) (by simp only [go_sem, ↓reduceIte, Nat.reduceEqDiff, Nat.reduceAdd, reduceCtorEq] <;> rfl) (by first | rfl | simp only [go_sem, ↓reduceIte, Nat.reduceEqDiff, Nat.reduceAdd, reduceCtorEq]) (by first | exact ⟨rfl, rfl⟩ | simp only [go_sem, ↓reduceIte, Nat.reduceEqDiff, Nat.reduceAdd, reduceCtorEq]) | exact ⟨hg, pureC ( hle) (by simp only [go_sem, ↓reduceIte, Nat.reduceEqDiff, Nat.reduceAdd, reduceCtorEq] <;> rfl) (by first | rfl | simp only [go_sem, ↓reduceIte, Nat.reduceEqDiff, Nat.reduceAdd, reduceCtorEq]) (by first | exact ⟨rfl, rfl⟩ | simp only [go_sem, ↓reduceIte, Nat.reduceEqDiff, Nat.reduceAdd, reduceCtorEq])⟩ | exact ⟨by grind, pureC ( hle) (by simp only [go_sem, ↓reduceIte, Nat.reduceEqDiff, Nat.reduceAdd, reduceCtorEq] <;> rfl) (by first | rfl | simp only [go_sem, ↓reduceIte, Nat.reduceEqDiff, Nat.reduceAdd, reduceCtorEq]) (by first | exact ⟨rfl, rfl⟩ | simp only [go_sem, ↓reduceIte, Nat.reduceEqDiff, Nat.reduceAdd, reduceCtorEq])⟩) ?_
    (repeat first | simp only [go_sem, ↓reduceIte, Nat.reduceEqDiff, Nat.reduceAdd, reduceCtorEq] | with_reducible refine V_W ?_ | (with_reducible refine And.intro ?_ ?_; focus first | assumption | omega | decide | grind) | (with_reducible refine Br.mk ?_ ?_; focus (intros; omega)) | decide)
    refine ⟨fun hc2 => ?_, fun hc2 => ?_⟩
    · have hno : ¬ CxOk v F := fun h => by
        obtain ⟨⟨h1, h2⟩, h3, h4⟩ := h.2.1 i (by omega)
        rcases hc2 with (hc2 | hc2) | ⟨hc2, hc3⟩
        · omega
        · exact hc2 h3
        · rw [h4 (by omega)] at hc3
          cases hc3
      (repeat first | simp only [go_sem, ↓reduceIte, Nat.reduceEqDiff, Nat.reduceAdd, reduceCtorEq] | with_reducible refine V_W ?_ | (with_reducible refine And.intro ?_ ?_; focus first | assumption | omega | decide | grind) | (with_reducible refine Br.mk ?_ ?_; focus (intros; omega)) | decide)
      rw [decide_eq_false hno]
    have hRk : Rk v F i := by
      obtain ⟨⟨h1, h2⟩, h3⟩ := hc2
      refine ⟨by omega, h2, fun h0 => ?_⟩
      rcases h3 with h3 | h3
      · omega
      · exact h3
    (repeat first | simp only [go_sem, ↓reduceIte, Nat.reduceEqDiff, Nat.reduceAdd, reduceCtorEq] | with_reducible refine V_W ?_ | (with_reducible refine And.intro ?_ ?_; focus first | assumption | omega | decide | grind) | (with_reducible refine Br.mk ?_ ?_; focus (intros; omega)) | decide)
    refine V_loop (α := Nat) (S := fun k => ([(1, .ref 0 0), (3, .sl 1 1 0 v.toNat), (4, i64 (i : Int)), (5, i64 (k : Int))], [some [i64 v, mat F], some (boolsC (metK v F i k))])) (C := fun k => k ≤ (F.getD i []).length) (μ := fun k => (F.getD i []).length - k) 0 (Nat.zero_le _) ?_ ?_
    · rw [metK_zero]
      exact Ref.to rfl (by simp [sub, fget])
    intro k hk
    have hkl := metK_len v F i k
    have hv := hRk.2.1
    (repeat first | simp only [go_sem, ↓reduceIte, Nat.reduceEqDiff, Nat.reduceAdd, reduceCtorEq] | with_reducible refine V_W ?_ | (with_reducible refine And.intro ?_ ?_; focus first | assumption | omega | decide | grind) | (with_reducible refine Br.mk ?_ ?_; focus (intros; omega)) | decide)
    refine ⟨fun hc3 => ?_, fun hc3 => ?_⟩
    · have hvk := (hv k (by omega)).1
      obtain ⟨y, hy⟩ : ∃ y : Nat, (F.getD i []).getD k 0 = y := ⟨((F.getD i []).getD k 0).toNat, by omega⟩
      have hst := metK_step (v := v) (F := F) (i := i) (k := k) y hy (by omega)
      (repeat first | simp only [go_sem, ↓reduceIte, Nat.reduceEqDiff, Nat.reduceAdd, reduceCtorEq] | with_reducible refine V_W ?_ | (with_reducible refine And.intro ?_ ?_; focus first | assumption | omega | decide | grind) | (with_reducible refine Br.mk ?_ ?_; focus (intros; omega)) | decide)
      simp only [hy, go_sem, ↓reduceIte, Nat.reduceEqDiff, Nat.reduceAdd, reduceCtorEq]
      rw [hst]
      exact ⟨k + 1, by omega, by omega, Ref.to rfl (by simp [sub, fget])⟩
    · obtain rfl : k = (F.getD i []).length := by omega
      rw [metK_all (by omega)]
      (repeat first | simp only [go_sem, ↓reduceIte, Nat.reduceEqDiff, Nat.reduceAdd, reduceCtorEq] | with_reducible refine V_W ?_ | (with_reducible refine And.intro ?_ ?_; focus first | assumption | omega | decide | grind) | (with_reducible refine Br.mk ?_ ?_; focus (intros; omega)) | decide)
      refine ⟨i + 1, ⟨by omega, fun j hj => ?_⟩, by omega, Ref.to rfl (by simp [sub, fget])⟩
      rcases Nat.lt_or_ge j i with h | h
      · exact hall j h
      · obtain rfl : j = i := by omega
        exact hRk
  · have hB : CxB v F := fun j hj => hall j (by omega)
    obtain rfl : i = F.length := by omega
    clear hall hi
    (repeat first | simp only [go_sem, ↓reduceIte, Nat.reduceEqDiff, Nat.reduceAdd, reduceCtorEq] | with_reducible refine V_W ?_ | (with_reducible refine And.intro ?_ ?_; focus first | assumption | omega | decide | grind) | (with_reducible refine Br.mk ?_ ?_; focus (intros; omega)) | decide)
    refine V_loop (α := Nat) (S := fun n => ([(1, .ref 0 0), (3, .sl 1 1 0 v.toNat), (6, i64 (n : Int))], [some [i64 v, mat F], some (boolsC (metB v F F.length))])) (C := fun n => n ≤ v.toNat ∧ ∀ m, m < n → Met F F.length m) (μ := fun n => v.toNat - n) 0 ⟨Nat.zero_le _, fun m hm => by omega⟩ ?_ ?_
    · exact Ref.to rfl (by simp [sub, fget])
    rintro n ⟨hn, hmet⟩
    (repeat first | simp only [go_sem, ↓reduceIte, Nat.reduceEqDiff, Nat.reduceAdd, reduceCtorEq] | with_reducible refine V_W ?_ | (with_reducible refine And.intro ?_ ?_; focus first | assumption | omega | decide | grind) | (with_reducible refine Br.mk ?_ ?_; focus (intros; omega)) | decide)
    refine ⟨fun hc2 => ?_, fun hc2 => ?_⟩
    · have hat := metB_at (v := v) (F := F) (i := F.length) (n := n) (by omega)
      (repeat first | simp only [go_sem, ↓reduceIte, Nat.reduceEqDiff, Nat.reduceAdd, reduceCtorEq] | with_reducible refine V_W ?_ | (with_reducible refine And.intro ?_ ?_; focus first | assumption | omega | decide | grind) | (with_reducible refine Br.mk ?_ ?_; focus (intros; omega)) | decide)
      simp only [hat, go_sem, ↓reduceIte, Nat.reduceEqDiff, Nat.reduceAdd, reduceCtorEq]
      refine ⟨fun hc3 => ?_, fun hc3 => ?_⟩
      · have hno : ¬ CxOk v F := fun h => hc3 (h.2.2.1 n (by omega))
        (repeat first | simp only [go_sem, ↓reduceIte, Nat.reduceEqDiff, Nat.reduceAdd, reduceCtorEq] | with_reducible refine V_W ?_ | (with_reducible refine And.intro ?_ ?_; focus first | assumption | omega | decide | grind) | (with_reducible refine Br.mk ?_ ?_; focus (intros; omega)) | decide)
        rw [decide_eq_false hno]
      · (repeat first | simp only [go_sem, ↓reduceIte, Nat.reduceEqDiff, Nat.reduceAdd, reduceCtorEq] | with_reducible refine V_W ?_ | (with_reducible refine And.intro ?_ ?_; focus first | assumption | omega | decide | grind) | (with_reducible refine Br.mk ?_ ?_; focus (intros; omega)) | decide)
        refine ⟨n + 1, ⟨by omega, fun m hm => ?_⟩, by omega, Ref.to rfl (by simp [sub, fget])⟩
        rcases Nat.lt_or_ge m n with h | h
        · exact hmet m h
        · obtain rfl : m = n := by omega
          exact hc3
    · have hC : CxC v F := fun m hm => hmet m (by omega)
      clear hmet
      (repeat first | simp only [go_sem, ↓reduceIte, Nat.reduceEqDiff, Nat.reduceAdd, reduceCtorEq] | with_reducible refine V_W ?_ | (with_reducible refine And.intro ?_ ?_; focus first | assumption | omega | decide | grind) | (with_reducible refine Br.mk ?_ ?_; focus (intros; omega)) | decide)
      refine V_loop (α := Nat) (S := fun i => ([(1, .ref 0 0), (7, i64 (i : Int))], [some [i64 v, mat F]])) (C := fun i => i ≤ F.length ∧ ∀ a b, a < i → b < F.length → a ≠ b → ¬ Win (F.getD a []) (F.getD b [])) (μ := fun i => F.length - i) 0 ⟨Nat.zero_le _, fun a b h => by omega⟩ ?_ ?_
      · exact Ref.gc [0] rfl (by simp only [go_sem, ↓reduceIte, Nat.reduceEqDiff, Nat.reduceAdd, reduceCtorEq]) (by simp [sub, fget, go_sem, ↓reduceIte, Nat.reduceEqDiff, Nat.reduceAdd, reduceCtorEq])
      rintro i ⟨hi, hall⟩
      (repeat first | simp only [go_sem, ↓reduceIte, Nat.reduceEqDiff, Nat.reduceAdd, reduceCtorEq] | with_reducible refine V_W ?_ | (with_reducible refine And.intro ?_ ?_; focus first | assumption | omega | decide | grind) | (with_reducible refine Br.mk ?_ ?_; focus (intros; omega)) | decide)
      refine ⟨fun hc3 => ?_, fun hc3 => ?_⟩
      · (repeat first | simp only [go_sem, ↓reduceIte, Nat.reduceEqDiff, Nat.reduceAdd, reduceCtorEq] | with_reducible refine V_W ?_ | (with_reducible refine And.intro ?_ ?_; focus first | assumption | omega | decide | grind) | (with_reducible refine Br.mk ?_ ?_; focus (intros; omega)) | decide)
        refine V_loop (α := Nat) (S := fun k => ([(1, .ref 0 0), (7, i64 (i : Int)), (8, i64 (k : Int))], [some [i64 v, mat F]])) (C := fun k => k ≤ F.length ∧ ∀ b, b < k → i ≠ b → ¬ Win (F.getD i []) (F.getD b [])) (μ := fun k => F.length - k) 0 ⟨Nat.zero_le _, fun b h => by omega⟩ ?_ ?_
        · exact Ref.to rfl (by simp [sub, fget])
        rintro k ⟨hk, hrk⟩
        have hwi := withinL_c (F.getD i []) (F.getD k []) (hrow i) (hrow k)
        (repeat first | simp only [go_sem, ↓reduceIte, Nat.reduceEqDiff, Nat.reduceAdd, reduceCtorEq] | with_reducible refine V_W ?_ | (with_reducible refine And.intro ?_ ?_; focus first | assumption | omega | decide | grind) | (with_reducible refine Br.mk ?_ ?_; focus (intros; omega)) | decide)
        refine ⟨fun hc4 => ?_, fun hc4 => ?_⟩
        · (repeat first | simp only [go_sem, ↓reduceIte, Nat.reduceEqDiff, Nat.reduceAdd, reduceCtorEq] | with_reducible refine V_W ?_ | (with_reducible refine And.intro ?_ ?_; focus first | assumption | omega | decide | grind) | (with_reducible refine Br.mk ?_ ?_; focus (intros; omega)) | decide)
          refine GCall.mk (bl (decide (Win (F.getD i []) (F.getD k []))) ) (fun hg => by first | exact pureC ( hwi) (by simp only [go_sem, ↓reduceIte, Nat.reduceEqDiff, Nat.reduceAdd, reduceCtorEq] <;> rfl) (by first | rfl | simp only [go_sem, ↓reduceIte, Nat.reduceEqDiff, Nat.reduceAdd, reduceCtorEq]) (by first | exact ⟨rfl, rfl⟩ | simp only [go_sem, ↓reduceIte, Nat.reduceEqDiff, Nat.reduceAdd, reduceCtorEq]) | exact ⟨hg, pureC ( hwi) (by simp only [go_sem, ↓reduceIte, Nat.reduceEqDiff, Nat.reduceAdd, reduceCtorEq] <;> rfl) (by first | rfl | simp only [go_sem, ↓reduceIte, Nat.reduceEqDiff, Nat.reduceAdd, reduceCtorEq]) (by first | exact ⟨rfl, rfl⟩ | simp only [go_sem, ↓reduceIte, Nat.reduceEqDiff, Nat.reduceAdd, reduceCtorEq])⟩ | exact ⟨by grind, pureC ( hwi) (by simp only [go_sem, ↓reduceIte, Nat.reduceEqDiff, Nat.reduceAdd, reduceCtorEq] <;> rfl) (by first | rfl | simp only [go_sem, ↓reduceIte, Nat.reduceEqDiff, Nat.reduceAdd, reduceCtorEq]) (by first | exact ⟨rfl, rfl⟩ | simp only [go_sem, ↓reduceIte, Nat.reduceEqDiff, Nat.reduceAdd, reduceCtorEq])⟩) ?_
          (repeat first | simp only [go_sem, ↓reduceIte, Nat.reduceEqDiff, Nat.reduceAdd, reduceCtorEq] | with_reducible refine V_W ?_ | (with_reducible refine And.intro ?_ ?_; focus first | assumption | omega | decide | grind) | (with_reducible refine Br.mk ?_ ?_; focus (intros; omega)) | decide)
          refine ⟨fun hc5 => ?_, fun hc5 => ?_⟩
          · have hno : ¬ CxOk v F := fun h => h.2.2.2 i k (by omega) (by omega) (by omega) hc5.2
            (repeat first | simp only [go_sem, ↓reduceIte, Nat.reduceEqDiff, Nat.reduceAdd, reduceCtorEq] | with_reducible refine V_W ?_ | (with_reducible refine And.intro ?_ ?_; focus first | assumption | omega | decide | grind) | (with_reducible refine Br.mk ?_ ?_; focus (intros; omega)) | decide)
            rw [decide_eq_false hno]
          · (repeat first | simp only [go_sem, ↓reduceIte, Nat.reduceEqDiff, Nat.reduceAdd, reduceCtorEq] | with_reducible refine V_W ?_ | (with_reducible refine And.intro ?_ ?_; focus first | assumption | omega | decide | grind) | (with_reducible refine Br.mk ?_ ?_; focus (intros; omega)) | decide)
            refine ⟨k + 1, ⟨by omega, fun b hb hib => ?_⟩, by omega, Ref.to rfl (by simp [sub, fget])⟩
            rcases Nat.lt_or_ge b k with h | h
            · exact hrk b h hib
            · obtain rfl : b = k := by omega
              rcases hc5 with hc5 | hc5
              · omega
              · exact hc5
        · obtain rfl : k = F.length := by omega
          (repeat first | simp only [go_sem, ↓reduceIte, Nat.reduceEqDiff, Nat.reduceAdd, reduceCtorEq] | with_reducible refine V_W ?_ | (with_reducible refine And.intro ?_ ?_; focus first | assumption | omega | decide | grind) | (with_reducible refine Br.mk ?_ ?_; focus (intros; omega)) | decide)
          refine ⟨i + 1, ⟨by omega, fun a b ha hb hab => ?_⟩, by omega, Ref.to rfl (by simp [sub, fget])⟩
          rcases Nat.lt_or_ge a i with h | h
          · exact hall a b h hb hab
          · obtain rfl : a = i := by omega
            exact hrk b hb hab
      · obtain rfl : i = F.length := by omega
        have hok : CxOk v F := ⟨hA, hB, hC, fun a b ha hb hab => hall a b ha hb hab⟩
        (repeat first | simp only [go_sem, ↓reduceIte, Nat.reduceEqDiff, Nat.reduceAdd, reduceCtorEq] | with_reducible refine V_W ?_ | (with_reducible refine And.intro ?_ ?_; focus first | assumption | omega | decide | grind) | (with_reducible refine Br.mk ?_ ?_; focus (intros; omega)) | decide)
        rw [decide_eq_true hok]
end Go.Proofs.YtghhlcioabdpfaaDoor
set_option maxRecDepth 100000
namespace Go.Proofs.YtghhlcioabdpfaaDoor
open Go.Gov
open Classical

theorem met_all {v : Int} {F : List (List Int)} : false ∈ metB v F F.length ↔ ¬ CxC v F := by
  unfold metB CxC
  rw [List.mem_map]
  constructor
  · rintro ⟨n, hn, h⟩ hc
    rw [decide_eq_true (hc n (List.mem_range.1 hn))] at h
    cases h
  · intro h
    obtain ⟨n, hn⟩ := Classical.not_forall.1 h
    obtain ⟨h1, h2⟩ := Classical.not_imp.1 hn
    exact ⟨n, List.mem_range.2 h1, decide_eq_false h2⟩
theorem getD_memI {x : List Int} {i : Nat} (h : i < x.length) : x.getD i 0 ∈ x := by
  rw [List.getD_eq_getElem?_getD, List.getElem?_eq_getElem h]
  exact List.getElem_mem h
set_option maxHeartbeats 4000000 in
theorem isComplex_c (v : Int) (F : List (List Int)) (hl : F.length ≤ 1099511627776) (hr : ∀ x ∈ F, x.length ≤ 1099511627776) : Pure Tryd.prog 43 [cpxA v F] (bl (decide (CxOk v F))) [] := by
  have hrow : ∀ i : Nat, (F.getD i []).length ≤ 1099511627776 := fun i => by
    by_cases h : i < F.length
    · exact hr _ (getD_mem h)
    · simp [h]
  refine pureV0 ok43 rfl rfl ?_; unfold c43
  (repeat first | simp only [go_sem, ↓reduceIte, Nat.reduceEqDiff, Nat.reduceAdd, reduceCtorEq] | with_reducible refine V_W ?_ | (with_reducible refine And.intro ?_ ?_; focus first | assumption | omega | decide | grind) | (with_reducible refine Br.mk ?_ ?_; focus (intros; omega)) | decide)
  refine pureC (within_c v 0 60) (by simp only [go_sem, ↓reduceIte, Nat.reduceEqDiff, Nat.reduceAdd, reduceCtorEq] <;> rfl) (by first | rfl | simp only [go_sem, ↓reduceIte, Nat.reduceEqDiff, Nat.reduceAdd, reduceCtorEq]) ?_
  (repeat first | simp only [go_sem, ↓reduceIte, Nat.reduceEqDiff, Nat.reduceAdd, reduceCtorEq] | with_reducible refine V_W ?_ | (with_reducible refine And.intro ?_ ?_; focus first | assumption | omega | decide | grind) | (with_reducible refine Br.mk ?_ ?_; focus (intros; omega)) | decide)
  refine ⟨fun hc => ?_, fun hc => ?_⟩
  · have hno : ¬ CxOk v F := fun h => by have := h.1.1; have := h.1.2; omega
    (repeat first | simp only [go_sem, ↓reduceIte, Nat.reduceEqDiff, Nat.reduceAdd, reduceCtorEq] | with_reducible refine V_W ?_ | (with_reducible refine And.intro ?_ ?_; focus first | assumption | omega | decide | grind) | (with_reducible refine Br.mk ?_ ?_; focus (intros; omega)) | decide)
    rw [decide_eq_false hno]
  have hA : CxA v F := by unfold CxA; omega
  (repeat first | simp only [go_sem, ↓reduceIte, Nat.reduceEqDiff, Nat.reduceAdd, reduceCtorEq] | with_reducible refine V_W ?_ | (with_reducible refine And.intro ?_ ?_; focus first | assumption | omega | decide | grind) | (with_reducible refine Br.mk ?_ ?_; focus (intros; omega)) | decide)
  refine V_loop (α := Nat) (S := fun i => ([(1, .ref 0 0), (3, .sl 1 1 0 v.toNat), (22, mat F), (23, i64 (F.length : Int)), (24, i64 (i : Int))], [some [i64 v, mat F], some (boolsC (metB v F i))])) (C := fun i => i ≤ F.length ∧ ∀ j, j < i → Rk v F j) (μ := fun i => F.length - i) 0 ⟨Nat.zero_le _, fun j hj => by omega⟩ ?_ ?_
  · rw [metB_zero]
    exact Ref.to rfl (by simp [sub, fget])
  rintro i ⟨hi, hall⟩
  dsimp only
  have hml := metB_len v F i
  (repeat first | simp only [go_sem, ↓reduceIte, Nat.reduceEqDiff, Nat.reduceAdd, reduceCtorEq] | with_reducible refine V_W ?_ | (with_reducible refine And.intro ?_ ?_; focus first | assumption | omega | decide | grind) | (with_reducible refine Br.mk ?_ ?_; focus (intros; omega)) | decide)
  refine ⟨fun hc1 => ?_, fun hc1 => ?_⟩
  · have hx := hrow i
    have hp := hrow (i - 1)
    have hri := areWithin_c (F.getD i []) 0 (v - 1) hx
    have hle := compare_c (F.getD (i - 1) []) (F.getD i []) hp hx
    (repeat first | simp only [go_sem, ↓reduceIte, Nat.reduceEqDiff, Nat.reduceAdd, reduceCtorEq] | with_reducible refine V_W ?_ | (with_reducible refine And.intro ?_ ?_; focus first | assumption | omega | decide | grind) | (with_reducible refine Br.mk ?_ ?_; focus (intros; omega)) | decide)
    refine pureC (size_c (F.getD i []) hx) (by simp only [go_sem, ↓reduceIte, Nat.reduceEqDiff, Nat.reduceAdd, reduceCtorEq] <;> rfl) (by first | rfl | simp only [go_sem, ↓reduceIte, Nat.reduceEqDiff, Nat.reduceAdd, reduceCtorEq]) ?_
    (repeat first | simp only [go_sem, ↓reduceIte, Nat.reduceEqDiff, Nat.reduceAdd, reduceCtorEq] | with_reducible refine V_W ?_ | (with_reducible refine And.intro ?_ ?_; focus first | assumption | omega | decide | grind) | (with_reducible refine Br.mk ?_ ?_; focus (intros; omega)) | decide)
    refine pureC (within_c ((F.getD i []).length : Int) 1 6) (by simp only [go_sem, ↓reduceIte, Nat.reduceEqDiff, Nat.reduceAdd, reduceCtorEq] <;> rfl) (by first | rfl | simp only [go_sem, ↓reduceIte, Nat.reduceEqDiff, Nat.reduceAdd, reduceCtorEq]) ?_
    (repeat first | simp only [go_sem, ↓reduceIte, Nat.reduceEqDiff, Nat.reduceAdd, reduceCtorEq] | with_reducible refine V_W ?_ | (with_reducible refine And.intro ?_ ?_; focus first | assumption | omega | decide | grind) | (with_reducible refine Br.mk ?_ ?_; focus (intros; omega)) | decide)
    refine GCall.mk (bl ((F.getD i []).all fun n => decide (0 ≤ n) && decide (n ≤ v - 1)) ) (fun hg => by first | exact pureC ( hri) (by simp only [go_sem, ↓reduceIte, Nat.reduceEqDiff, Nat.reduceAdd, reduceCtorEq] <;> rfl) (by first | rfl | simp only [go_sem, ↓reduceIte, Nat.reduceEqDiff, Nat.reduceAdd, reduceCtorEq]) (by first | exact ⟨rfl, rfl⟩ | simp only [go_sem, ↓reduceIte, Nat.reduceEqDiff, Nat.reduceAdd, reduceCtorEq]) | exact ⟨hg, pureC ( hri) (by simp only [go_sem, ↓reduceIte, Nat.reduceEqDiff, Nat.reduceAdd, reduceCtorEq] <;> rfl) (by first | rfl | simp only [go_sem, ↓reduceIte, Nat.reduceEqDiff, Nat.reduceAdd, reduceCtorEq]) (by first | exact ⟨rfl, rfl⟩ | simp only [go_sem, ↓reduceIte, Nat.reduceEqDiff, Nat.reduceAdd, reduceCtorEq])⟩ | exact ⟨by grind, pureC ( hri) (by simp only [go_sem, ↓reduceIte, Nat.reduceEqDiff, Nat.reduceAdd, reduceCtorEq] <;> rfl) (by first | rfl | simp only [go_sem, ↓reduceIte, Nat.reduceEqDiff, Nat.reduceAdd, reduceCtorEq]) (by first | exact ⟨rfl, rfl⟩ | simp only [go_sem, ↓reduceIte, Nat.reduceEqDiff, Nat.reduceAdd, reduceCtorEq])⟩) ?_
    (repeat first | simp only [go_sem, ↓reduceIte, Nat.reduceEqDiff, Nat.reduceAdd, reduceCtorEq] | with_reducible refine V_W ?_ | (with_reducible refine And.intro ?_ ?_; focus first | assumption | omega | decide | grind) | (with_reducible refine Br.mk ?_ ?_; focus (intros; omega)) | decide)
    refine GCall.mk (i64 (cmpL (F.getD (i - 1) []) (F.getD i [])) ) (fun hg => by first | exact pureC ( hle) (by simp only [go_sem, ↓reduceIte, Nat.reduceEqDiff, Nat.reduceAdd, reduceCtorEq] <;> rfl) (by first | rfl | simp only [go_sem, ↓reduceIte, Nat.reduceEqDiff, Nat.reduceAdd, reduceCtorEq]) (by first | exact ⟨rfl, rfl⟩ | simp only [go_sem, ↓reduceIte, Nat.reduceEqDiff, Nat.reduceAdd, reduceCtorEq]) | exact ⟨hg, pureC ( hle) (by simp only [go_sem, ↓reduceIte, Nat.reduceEqDiff, Nat.reduceAdd, reduceCtorEq] <;> rfl) (by first | rfl | simp only [go_sem, ↓reduceIte, Nat.reduceEqDiff, Nat.reduceAdd, reduceCtorEq]) (by first | exact ⟨rfl, rfl⟩ | simp only [go_sem, ↓reduceIte, Nat.reduceEqDiff, Nat.reduceAdd, reduceCtorEq])⟩ | exact ⟨by grind, pureC ( hle) (by simp only [go_sem, ↓reduceIte, Nat.reduceEqDiff, Nat.reduceAdd, reduceCtorEq] <;> rfl) (by first | rfl | simp only [go_sem, ↓reduceIte, Nat.reduceEqDiff, Nat.reduceAdd, reduceCtorEq]) (by first | exact ⟨rfl, rfl⟩ | simp only [go_sem, ↓reduceIte, Nat.reduceEqDiff, Nat.reduceAdd, reduceCtorEq])⟩) ?_
    (repeat first | simp only [go_sem, ↓reduceIte, Nat.reduceEqDiff, Nat.reduceAdd, reduceCtorEq] | with_reducible refine V_W ?_ | (with_reducible refine And.intro ?_ ?_; focus first | assumption | omega | decide | grind) | (with_reducible refine Br.mk ?_ ?_; focus (intros; omega)) | decide)
    refine ⟨fun hc2 => ?_, fun hc2 => ?_⟩
    · have hno : ¬ CxOk v F := fun h => by
        obtain ⟨⟨h1, h2⟩, h3, h4⟩ := h.2.1 i (by omega)
        rcases hc2 with (hc2 | hc2) | hc2
        · omega
        · refine absurd (List.all_eq_true.2 fun y hy => ?_) (by rw [hc2]; decide)
          obtain ⟨j, hj, rfl⟩ := List.mem_iff_getElem.1 hy
          have h5 := (h3 j hj).1
          rw [List.getD_eq_getElem?_getD, List.getElem?_eq_getElem hj] at h5
          simpa using h5
        · have h5 := (cmpL_lt _ _).2 (h4 (by omega))
          omega
      (repeat first | simp only [go_sem, ↓reduceIte, Nat.reduceEqDiff, Nat.reduceAdd, reduceCtorEq] | with_reducible refine V_W ?_ | (with_reducible refine And.intro ?_ ?_; focus first | assumption | omega | decide | grind) | (with_reducible refine Br.mk ?_ ?_; focus (intros; omega)) | decide)
      rw [decide_eq_false hno]
    have hRk : ((1 ≤ (F.getD i []).length ∧ (F.getD i []).length ≤ 6) ∧ ∀ y ∈ F.getD i [], 0 ≤ y ∧ y ≤ v - 1) ∧ (0 < i → lexL (F.getD (i - 1) []) (F.getD i []) = true) := by
      obtain ⟨⟨⟨h1, h2⟩, h3⟩, h4⟩ := hc2
      refine ⟨⟨⟨by omega, by omega⟩, fun y hy => ?_⟩, fun h0 => (cmpL_lt _ _).1 (by rcases h4 with h4 | h4 <;> omega)⟩
      simpa using List.all_eq_true.1 h3 y hy
    clear hc2
    (repeat first | simp only [go_sem, ↓reduceIte, Nat.reduceEqDiff, Nat.reduceAdd, reduceCtorEq] | with_reducible refine V_W ?_ | (with_reducible refine And.intro ?_ ?_; focus first | assumption | omega | decide | grind) | (with_reducible refine Br.mk ?_ ?_; focus (intros; omega)) | decide)
    refine V_loop (α := Nat) (S := fun k => ([(1, .ref 0 0), (3, .sl 1 1 0 v.toNat), (5, ints (F.getD i [])), (22, mat F), (23, i64 (F.length : Int)), (24, i64 (i : Int)), (56, ints (F.getD i [])), (57, i64 ((F.getD i []).length : Int)), (58, i64 (k : Int))], [some [i64 v, mat F], some (boolsC (metK v F i k))])) (C := fun k => k ≤ (F.getD i []).length ∧ ∀ j, j < k → 0 < j → (F.getD i []).getD (j - 1) 0 < (F.getD i []).getD j 0) (μ := fun k => (F.getD i []).length - k) 0 ⟨Nat.zero_le _, fun j hj => by omega⟩ ?_ ?_
    · rw [metK_zero]
      exact Ref.to rfl (by simp [sub, fget])
    rintro k ⟨hk, hup⟩
    have hkl := metK_len v F i k
    (repeat first | simp only [go_sem, ↓reduceIte, Nat.reduceEqDiff, Nat.reduceAdd, reduceCtorEq] | with_reducible refine V_W ?_ | (with_reducible refine And.intro ?_ ?_; focus first | assumption | omega | decide | grind) | (with_reducible refine Br.mk ?_ ?_; focus (intros; omega)) | decide)
    refine ⟨fun hc3 => ?_, fun hc3 => ?_⟩
    · have hvk := hRk.1.2 _ (getD_memI (by omega : k < (F.getD i []).length))
      obtain ⟨y, hy⟩ : ∃ y : Nat, (F.getD i []).getD k 0 = y := ⟨((F.getD i []).getD k 0).toNat, by omega⟩
      have hst := metK_step (v := v) (F := F) (i := i) (k := k) y hy (by omega)
      (repeat first | simp only [go_sem, ↓reduceIte, Nat.reduceEqDiff, Nat.reduceAdd, reduceCtorEq] | with_reducible refine V_W ?_ | (with_reducible refine And.intro ?_ ?_; focus first | assumption | omega | decide | grind) | (with_reducible refine Br.mk ?_ ?_; focus (intros; omega)) | decide)
      refine ⟨fun hc4 => ?_, fun hc4 => ?_⟩
      · have hno : ¬ CxOk v F := fun h => by
          have := (h.2.1 i (by omega)).2.1 k (by omega)
          have h5 := this.2 (by omega)
          omega
        (repeat first | simp only [go_sem, ↓reduceIte, Nat.reduceEqDiff, Nat.reduceAdd, reduceCtorEq] | with_reducible refine V_W ?_ | (with_reducible refine And.intro ?_ ?_; focus first | assumption | omega | decide | grind) | (with_reducible refine Br.mk ?_ ?_; focus (intros; omega)) | decide)
        rw [decide_eq_false hno]
      · have hup2 : ∀ j, j < k + 1 → 0 < j → (F.getD i []).getD (j - 1) 0 < (F.getD i []).getD j 0 := fun j hj h0 => by
          rcases Nat.lt_or_ge j k with h | h
          · exact hup j h h0
          · obtain rfl : j = k := by omega
            rcases hc4 with h | h <;> omega
        (repeat first | simp only [go_sem, ↓reduceIte, Nat.reduceEqDiff, Nat.reduceAdd, reduceCtorEq] | with_reducible refine V_W ?_ | (with_reducible refine And.intro ?_ ?_; focus first | assumption | omega | decide | grind) | (with_reducible refine Br.mk ?_ ?_; focus (intros; omega)) | decide)
        simp only [hy, go_sem, ↓reduceIte, Nat.reduceEqDiff, Nat.reduceAdd, reduceCtorEq]
        rw [hst]
        exact ⟨k + 1, ⟨by omega, hup2⟩, by omega, Ref.to rfl (by simp [sub, fget])⟩
    · obtain rfl : k = (F.getD i []).length := by omega
      rw [metK_all (by omega)]
      (repeat first | simp only [go_sem, ↓reduceIte, Nat.reduceEqDiff, Nat.reduceAdd, reduceCtorEq] | with_reducible refine V_W ?_ | (with_reducible refine And.intro ?_ ?_; focus first | assumption | omega | decide | grind) | (with_reducible refine Br.mk ?_ ?_; focus (intros; omega)) | decide)
      refine ⟨i + 1, ⟨by omega, fun j hj => ?_⟩, by omega, Ref.to rfl (by simp [sub, fget])⟩
      rcases Nat.lt_or_ge j i with h | h
      · exact hall j h
      · obtain rfl : j = i := by omega
        exact ⟨hRk.1.1, fun m hm => ⟨hRk.1.2 _ (getD_memI hm), hup m hm⟩, hRk.2⟩
  · have hB : CxB v F := fun j hj => hall j (by omega)
    obtain rfl : i = F.length := by omega
    clear hall hi
    have hcb := containsB_c (metB v F F.length) (by rw [metB_len]; omega)
    have hgo := greatestOf_p F (by have := hA.2; omega) fun x hx => ⟨(hB.row hx).1.2, (hB.row hx).2.sml (by have := hA.1; omega)⟩
    by_cases hC : CxC v F
    · rw [decide_eq_false (p := false ∈ metB v F F.length) (fun h => met_all.1 h hC)] at hcb
      (repeat first | simp only [go_sem, ↓reduceIte, Nat.reduceEqDiff, Nat.reduceAdd, reduceCtorEq] | with_reducible refine V_W ?_ | (with_reducible refine And.intro ?_ ?_; focus first | assumption | omega | decide | grind) | (with_reducible refine Br.mk ?_ ?_; focus (intros; omega)) | decide)
      have htk : ∀ Hx : Heap, (List.take v.toNat (boolsC (metB v F F.length))).map (frz Hx 5) = boolsC (metB v F F.length) := fun Hx => by
        rw [List.take_of_length_le (by simp [boolsC, hml]), map_frz_bools]
      refine pureC hcb (by simp only [go_sem, ↓reduceIte, Nat.reduceEqDiff, Nat.reduceAdd, reduceCtorEq, htk, bools, hml]) (by first | rfl | simp only [go_sem, ↓reduceIte, Nat.reduceEqDiff, Nat.reduceAdd, reduceCtorEq]) ?_
      (repeat first | simp only [go_sem, ↓reduceIte, Nat.reduceEqDiff, Nat.reduceAdd, reduceCtorEq] | with_reducible refine V_W ?_ | (with_reducible refine And.intro ?_ ?_; focus first | assumption | omega | decide | grind) | (with_reducible refine Br.mk ?_ ?_; focus (intros; omega)) | decide)
      refine GCall.on rfl ?_
      (repeat first | simp only [go_sem, ↓reduceIte, Nat.reduceEqDiff, Nat.reduceAdd, reduceCtorEq] | with_reducible refine V_W ?_ | (with_reducible refine And.intro ?_ ?_; focus first | assumption | omega | decide | grind) | (with_reducible refine Br.mk ?_ ?_; focus (intros; omega)) | decide)
      refine pureEZ (hgo) (by (try simp only [go_sem, ↓reduceIte, Nat.reduceEqDiff, Nat.reduceAdd, reduceCtorEq, Nat.reduceMul, List.take_succ_cons, List.take_zero]); try rfl) fun o ho => ?_
      have hgl := grt_len hB ho.1
      (repeat first | simp only [go_sem, ↓reduceIte, Nat.reduceEqDiff, Nat.reduceAdd, reduceCtorEq] | with_reducible refine V_W ?_ | (with_reducible refine And.intro ?_ ?_; focus first | assumption | omega | decide | grind) | (with_reducible refine Br.mk ?_ ?_; focus (intros; omega)) | decide)
      refine congrArg (fun b => AV.val (.bool b)) ?_
      rw [Bool.eq_iff_iff, beq_iff_eq, decide_eq_true_iff]
      exact ⟨fun e => ⟨hA, hB, hC, hgl.1 (by omega)⟩, fun h => by have := hgl.2 h.2.2.2; omega⟩
    · have hno : ¬ CxOk v F := fun h => hC h.2.2.1
      rw [decide_eq_true (p := false ∈ metB v F F.length) (met_all.2 hC)] at hcb
      (repeat first | simp only [go_sem, ↓reduceIte, Nat.reduceEqDiff, Nat.reduceAdd, reduceCtorEq] | with_reducible refine V_W ?_ | (with_reducible refine And.intro ?_ ?_; focus first | assumption | omega | decide | grind) | (with_reducible refine Br.mk ?_ ?_; focus (intros; omega)) | decide)
      have htk : ∀ Hx : Heap, (List.take v.toNat (boolsC (metB v F F.length))).map (frz Hx 5) = boolsC (metB v F F.length) := fun Hx => by
        rw [List.take_of_length_le (by simp [boolsC, hml]), map_frz_bools]
      refine pureC hcb (by simp only [go_sem, ↓reduceIte, Nat.reduceEqDiff, Nat.reduceAdd, reduceCtorEq, htk, bools, hml]) (by first | rfl | simp only [go_sem, ↓reduceIte, Nat.reduceEqDiff, Nat.reduceAdd, reduceCtorEq]) ?_
      (repeat first | simp only [go_sem, ↓reduceIte, Nat.reduceEqDiff, Nat.reduceAdd, reduceCtorEq] | with_reducible refine V_W ?_ | (with_reducible refine And.intro ?_ ?_; focus first | assumption | omega | decide | grind) | (with_reducible refine Br.mk ?_ ?_; focus (intros; omega)) | decide)
      refine GCall_no (ints []) rfl ?_
      (repeat first | simp only [go_sem, ↓reduceIte, Nat.reduceEqDiff, Nat.reduceAdd, reduceCtorEq] | with_reducible refine V_W ?_ | (with_reducible refine And.intro ?_ ?_; focus first | assumption | omega | decide | grind) | (with_reducible refine Br.mk ?_ ?_; focus (intros; omega)) | decide)
      rw [decide_eq_false hno]
end Go.Proofs.YtghhlcioabdpfaaDoor
set_option maxRecDepth 100000
namespace Go.Proofs.YtghhlcioabdpfaaDoor
open Go.Gov
open Classical

theorem szCpx_c (v : Int) (M : List (List Int)) (b : Int) (h0 : 0 ≤ b) (hb : b ≤ 1048576) (hl : M.length ≤ 9223372036854775807) (hr : ∀ xs ∈ M, xs.length ≤ 9223372036854775807) : Pure Tryd.prog 8 [cpxA v M, i64 b] (i64 (left b (M.length + tot M))) [] := by
  refine pureV0 ok8 rfl rfl ?_; unfold c8
  (repeat first | simp only [go_sem, ↓reduceIte, Nat.reduceEqDiff, Nat.reduceAdd, reduceCtorEq] | with_reducible refine V_W ?_ | (with_reducible refine And.intro ?_ ?_; focus first | assumption | omega | decide | grind) | (with_reducible refine Br.mk ?_ ?_; focus (intros; omega)) | decide)
  refine pureC (szInt64SS_c M b h0 hb hl hr) (by simp only [go_sem, ↓reduceIte, Nat.reduceEqDiff, Nat.reduceAdd, reduceCtorEq] <;> rfl) (by first | rfl | simp only [go_sem, ↓reduceIte, Nat.reduceEqDiff, Nat.reduceAdd, reduceCtorEq]) ?_
  (repeat first | simp only [go_sem, ↓reduceIte, Nat.reduceEqDiff, Nat.reduceAdd, reduceCtorEq] | with_reducible refine V_W ?_ | (with_reducible refine And.intro ?_ ?_; focus first | assumption | omega | decide | grind) | (with_reducible refine Br.mk ?_ ?_; focus (intros; omega)) | decide)
  refine ⟨fun hc => ?_, fun hc => ?_⟩
  · (repeat first | simp only [go_sem, ↓reduceIte, Nat.reduceEqDiff, Nat.reduceAdd, reduceCtorEq] | with_reducible refine V_W ?_ | (with_reducible refine And.intro ?_ ?_; focus first | assumption | omega | decide | grind) | (with_reducible refine Br.mk ?_ ?_; focus (intros; omega)) | decide)
    have := left_neg h0 hc
    rw [show left b (M.length + tot M) = -1 from if_neg (by omega)]
  · (repeat first | simp only [go_sem, ↓reduceIte, Nat.reduceEqDiff, Nat.reduceAdd, reduceCtorEq] | with_reducible refine V_W ?_ | (with_reducible refine And.intro ?_ ?_; focus first | assumption | omega | decide | grind) | (with_reducible refine Br.mk ?_ ?_; focus (intros; omega)) | decide)
theorem toCpx_c (v : Int) (M : List (List Int)) (hl : M.length ≤ 1099511627776) (hr : ∀ xs ∈ M, xs.length ≤ 1099511627776) : Pure Tryd.prog 10 [cpxA v M] (.agg [i64 v, .sl 0 1 0 M.length]) [some (M.map oints)] := by
  refine pureVg [3] ok10 rfl ?_; unfold c10
  (repeat first | simp only [go_sem, ↓reduceIte, Nat.reduceEqDiff, Nat.reduceAdd, reduceCtorEq] | with_reducible refine V_W ?_ | (with_reducible refine And.intro ?_ ?_; focus first | assumption | omega | decide | grind) | (with_reducible refine Br.mk ?_ ?_; focus (intros; omega)) | decide)
  refine pureC (toInt64SS_c M hl hr) (by simp only [go_sem, ↓reduceIte, Nat.reduceEqDiff, Nat.reduceAdd, reduceCtorEq] <;> rfl) (by first | rfl | simp only [go_sem, ↓reduceIte, Nat.reduceEqDiff, Nat.reduceAdd, reduceCtorEq]) ?_
  (repeat first | simp only [go_sem, ↓reduceIte, Nat.reduceEqDiff, Nat.reduceAdd, reduceCtorEq] | with_reducible refine V_W ?_ | (with_reducible refine And.intro ?_ ?_; focus first | assumption | omega | decide | grind) | (with_reducible refine Br.mk ?_ ?_; focus (intros; omega)) | decide)
end Go.Proofs.YtghhlcioabdpfaaDoor
set_option maxRecDepth 100000
namespace Go.Proofs.YtghhlcioabdpfaaDoor
open Go.Gov
open Classical

end Go.Proofs.YtghhlcioabdpfaaDoor
