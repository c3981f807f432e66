/- Texts that belong together. -/
import Derived.Test.YtghhlcioabdpfaaDoorZe
import Derived.Test.YtghhlcioabdpfaaDoorX3
import Derived.Test.YtghhlcioabdpfaaDoorX8
set_option linter.unusedSimpArgs false
set_option linter.unusedVariables false
set_option maxRecDepth 100000
namespace Go.Proofs.YtghhlcioabdpfaaDoor
open Go.Gov
open Classical

theorem idx_lt {V : List Int} (hV : sst V) {a b : Int} (ha : a ∈ V) (hb : b ∈ V) : idx V a < idx V b ↔ a < b := by
  obtain ⟨i, hi, rfl⟩ := List.mem_iff_getElem.1 ha
  obtain ⟨j, hj, rfl⟩ := List.mem_iff_getElem.1 hb
  have nd : ∀ p q (hp : p < V.length) (hq : q < V.length), p < q → V[p] < V[q] := fun p q hp hq h => List.pairwise_iff_getElem.1 hV p q hp hq h
  have at' : ∀ p (hp : p < V.length), idx V V[p] = p := fun p hp => idx_at (fun q hq => by
    have := nd q p (by omega) hp hq
    rw [show V.getD q 0 = V[q] by simp [show q < V.length by omega]]
    omega) hp (by simp [hp])
  rw [at' i hi, at' j hj]
  constructor
  · intro h
    exact nd i j hi hj (by omega)
  · intro h
    rcases Nat.lt_trichotomy i j with h2 | h2 | h2
    · omega
    · subst h2; omega
    · have := nd j i hj hi h2
      omega
theorem lexL_map {V : List Int} (hV : sst V) : ∀ {x y : List Int}, (∀ e ∈ x, e ∈ V) → (∀ e ∈ y, e ∈ V) → lexL (x.map (idx V)) (y.map (idx V)) = lexL x y
  | [], [], _, _ => rfl
  | [], _ :: _, _, _ => rfl
  | _ :: _, [], _, _ => rfl
  | a :: x, b :: y, hx, hy => by
    have ha := hx a (by simp)
    have hb := hy b (by simp)
    have h1 := idx_lt hV ha hb
    have h2 := idx_lt hV hb ha
    simp only [List.map_cons, lexL]
    rw [lexL_map hV (fun e he => hx e (by simp [he])) (fun e he => hy e (by simp [he]))]
    simp only [h1, h2]
def SR (L : List (List Int)) : Prop := ∀ x ∈ L, sst x
theorem mkF_mem {L : List (List Int)} (hL : SR L) (x : List Int) : x ∈ mkF L ↔ x ∈ L ∧ x ≠ [] ∧ ∀ y ∈ L, x.Sublist y → y = x := by
  unfold mkF facL
  rw [List.mem_filter, decide_eq_true_iff, srtF_mem]
  constructor
  · rintro ⟨⟨h1, h2⟩, h3⟩
    refine ⟨h1, List.length_pos_iff.1 h2, fun y hy hxy => Classical.byContradiction fun hne => ?_⟩
    have hy0 : 0 < y.length := Nat.lt_of_lt_of_le h2 hxy.length_le
    exact h3 y ((srtF_mem L y).2 ⟨hy, hy0⟩) hne fun e he => hxy.subset he
  · rintro ⟨h1, h2, h3⟩
    refine ⟨⟨h1, List.length_pos_iff.2 h2⟩, fun b hb hne hw => hne (h3 b ((srtF_mem L b).1 hb).1 (sub_of_win (hL x h1) (hL b ((srtF_mem L b).1 hb).1) hw))⟩
theorem top_above {L : List (List Int)} (hL : SR L) {x : List Int} (hx : x ∈ L) (h0 : x ≠ []) : ∃ t ∈ mkF L, x.Sublist t := by
  obtain ⟨m, hm⟩ : ∃ m, ∀ y ∈ L, y.length ≤ m := by
    refine ⟨(L.map List.length).sum, fun y hy => ?_⟩
    clear hx hL
    induction L with
    | nil => cases hy
    | cons z L ih =>
      simp only [List.map_cons, List.sum_cons]
      rcases List.mem_cons.1 hy with rfl | h
      · omega
      · have := ih h; omega
  have key : ∀ (k : Nat) (x : List Int), x ∈ L → x ≠ [] → m ≤ x.length + k → ∃ t ∈ mkF L, x.Sublist t := by
    intro k
    induction k with
    | zero =>
      intro x hx h0 hk
      refine ⟨x, (mkF_mem hL x).2 ⟨hx, h0, fun y hy hxy => ?_⟩, .refl _⟩
      exact (hxy.eq_of_length_le (by have := hm y hy; omega)).symm
    | succ k ih =>
      intro x hx h0 hk
      by_cases ht : ∀ y ∈ L, x.Sublist y → y = x
      · exact ⟨x, (mkF_mem hL x).2 ⟨hx, h0, ht⟩, .refl _⟩
      · obtain ⟨y, hy⟩ := Classical.not_forall.1 ht
        obtain ⟨h1, h2⟩ := Classical.not_imp.1 hy
        obtain ⟨h2, h3⟩ := Classical.not_imp.1 h2
        have hlt : x.length < y.length := by
          rcases Nat.lt_or_ge x.length y.length with h | h
          · exact h
          · exact absurd (h2.eq_of_length_le h).symm h3
        obtain ⟨t, t1, t2⟩ := ih y h1 (fun e => by rw [e] at hlt; simp at hlt) (by omega)
        exact ⟨t, t1, h2.trans t2⟩
  exact key m x hx h0 (by omega)
theorem mkV_mem {L : List (List Int)} (hL : SR L) (e : Int) : e ∈ mkV L ↔ ∃ x ∈ L, e ∈ x := by
  unfold mkV
  rw [vtsL_mem]
  constructor
  · rintro ⟨x, hx, he⟩
    exact ⟨x, ((mkF_mem hL x).1 hx).1, he⟩
  · rintro ⟨x, hx, he⟩
    obtain ⟨t, ht, hxt⟩ := top_above hL hx (List.ne_nil_of_mem he)
    exact ⟨t, ht, hxt.subset he⟩
theorem big_iff {L : List (List Int)} (hL : SR L) : (∃ x ∈ mkF L, 6 < x.length) ↔ ∃ x ∈ L, 6 < x.length := by
  constructor
  · rintro ⟨x, hx, h⟩
    exact ⟨x, ((mkF_mem hL x).1 hx).1, h⟩
  · rintro ⟨x, hx, h⟩
    obtain ⟨t, ht, hxt⟩ := top_above hL hx (fun e => by rw [e] at h; simp at h)
    exact ⟨t, ht, Nat.lt_of_lt_of_le h hxt.length_le⟩
def MkOk (L : List (List Int)) : Prop := (∀ x ∈ L, x.length ≤ 6) ∧ (mkV L).length ≤ 60 ∧ (mkF L).length ≤ 400
noncomputable def ckV (L : List (List Int)) : Int := if MkOk L then (mkV L).length else 0
noncomputable def ckF (L : List (List Int)) : List (List Int) := if MkOk L then mkR L else []
noncomputable def ckK (L : List (List Int)) : Int := if MkOk L then 0 else 3
theorem mkR_len (L : List (List Int)) : (mkR L).length = (mkF L).length := by simp [mkR]
theorem ckF_b {L : List (List Int)} (hL : SR L) : (ckF L).length ≤ 400 ∧ ∀ x ∈ ckF L, x.length ≤ 6 := by
  unfold ckF
  split
  · rename_i h
    refine ⟨by rw [mkR_len]; exact h.2.2, fun x hx => ?_⟩
    obtain ⟨y, hy, rfl⟩ := List.mem_map.1 hx
    rw [List.length_map]
    exact h.1 y ((mkF_mem hL y).1 hy).1
  · simp
end Go.Proofs.YtghhlcioabdpfaaDoor
set_option maxRecDepth 100000
namespace Go.Proofs.YtghhlcioabdpfaaDoor
open Go.Gov
open Classical

theorem flat_lenB : ∀ (F : List (List Int)), (∀ f ∈ F, f.length ≤ 1048576) → F.flatten.length ≤ 1048576 * F.length
  | [], _ => by simp
  | f :: F, h => by
    have h1 := flat_lenB F fun g hg => h g (List.mem_cons_of_mem _ hg)
    have h2 := h f (by simp)
    simp only [List.flatten_cons, List.length_append, List.length_cons]
    omega
theorem vts_lenB (F : List (List Int)) (h : ∀ f ∈ F, f.length ≤ 1048576) : (vtsL F).length ≤ 1048576 * F.length := by
  have := (foldl_ins F.flatten [] .nil).2.2
  have h2 := flat_lenB F h
  unfold vtsL
  simp only [List.length_nil] at this
  omega
theorem facT_B {S : List (List Int)} (hS6 : ∀ i : Nat, (S.getD i []).length ≤ 1048576) {i : Nat} (f : List Int) (hf : f ∈ facT S i) : f.length ≤ 1048576 := by
  have h1 := List.mem_of_mem_take (List.mem_filter.1 hf).1
  obtain ⟨j, hj, rfl⟩ := List.mem_iff_getElem.1 h1
  have := hS6 j
  rwa [show S.getD j [] = S[j] by simp [hj]] at this
theorem err_end {H : Heap} {k : Int} : Ref 0 [(0, AV.tup [.agg [i64 0, nilS], i64 k])] H [(0, AV.tup [.agg [i64 0, .sl 0 1 0 0], i64 k])] [some []] :=
  (Ref.gc [] (F' := [(0, AV.tup [.agg [i64 0, nilS], i64 k])]) (H' := []) rfl rfl (by simp [sub, fget, go_sem, ↓reduceIte, Nat.reduceEqDiff, Nat.reduceAdd, reduceCtorEq])).trans ((Ref.nilC2 1).trans (Ref.to rfl (by simp [sub, fget])))
set_option maxHeartbeats 4000000 in
theorem l17Make_g (L : List (List Int)) (hL : L.length ≤ 1048576) (hr : ∀ i : Nat, (L.getD i []).length ≤ 1048576) (hSR : SR L) : Pure Tryd.prog 38 [mat L] (.tup [.agg [i64 (ckV L), .sl 0 1 0 (ckF L).length], i64 (ckK L)]) [some ((ckF L).map oints)] := by
  have hrm : ∀ f ∈ L, f.length ≤ 1048576 := fun f hf => by
    obtain ⟨i, hi, rfl⟩ := List.mem_iff_getElem.1 hf
    have := hr i
    rwa [show L.getD i [] = L[i] by simp [hi]] at this
  have hS6 : ∀ (T : List (List Int)), (∀ f ∈ T, f ∈ L) → ∀ i : Nat, ((srtF T).getD i []).length ≤ 1048576 := fun T hT i => by
    by_cases h : i < (srtF T).length
    · rw [show (srtF T).getD i [] = (srtF T)[i] by simp [h]]
      exact hrm _ (hT _ ((srtF_mem T _).1 (List.getElem_mem h)).1)
    · simp [h]
  refine pureRV ok38 rfl ?_; unfold c38
  (repeat first | simp only [go_sem, ↓reduceIte, Nat.reduceEqDiff, Nat.reduceAdd, reduceCtorEq] | with_reducible refine V_W ?_ | (with_reducible refine And.intro ?_ ?_; focus first | assumption | omega | decide | grind) | (with_reducible refine Br.mk ?_ ?_; focus (intros; omega)) | decide)
  refine V_loop (α := Nat) (S := fun i => ([(0, mat L), (2, .ref 0 0), (4, .sl 1 1 0 (srtF (L.take i)).length), (5, i64 (i : Int))], [some [i64 0, nilS], some ((srtF (L.take i)).map ints)])) (C := fun i => i ≤ L.length) (μ := fun i => L.length - i) 0 (Nat.zero_le _) (Ref.to (by simp [srtF_nil]) (by simp [sub, fget, srtF_nil])) ?_
  intro i hi
  have hSl := srtF_len (L.take i)
  have hSt := List.length_take (i := i) (l := L)
  (repeat first | simp only [go_sem, ↓reduceIte, Nat.reduceEqDiff, Nat.reduceAdd, reduceCtorEq] | with_reducible refine V_W ?_ | (with_reducible refine And.intro ?_ ?_; focus first | assumption | omega | decide | grind) | (with_reducible refine Br.mk ?_ ?_; focus (intros; omega)) | decide)
  refine ⟨fun hc => ?_, fun hc => ?_⟩
  · have hri := hr i
    have hput := l17Put_w (srtF (L.take i)) (L.getD i []) (srtF_srt _) (by omega) (fun j => Nat.le_trans (hS6 _ (fun f hf => List.mem_of_mem_take hf) j) (by omega)) (by omega)
    (repeat first | simp only [go_sem, ↓reduceIte, Nat.reduceEqDiff, Nat.reduceAdd, reduceCtorEq] | with_reducible refine V_W ?_ | (with_reducible refine And.intro ?_ ?_; focus first | assumption | omega | decide | grind) | (with_reducible refine Br.mk ?_ ?_; focus (intros; omega)) | decide)
    refine ⟨fun hc2 => ?_, fun hc2 => ?_⟩
    · rw [← srtF_take_yes (by omega) (by omega)] at hput
      (repeat first | simp only [go_sem, ↓reduceIte, Nat.reduceEqDiff, Nat.reduceAdd, reduceCtorEq] | with_reducible refine V_W ?_ | (with_reducible refine And.intro ?_ ?_; focus first | assumption | omega | decide | grind) | (with_reducible refine Br.mk ?_ ?_; focus (intros; omega)) | decide)
      refine wriCF (hput) [1] (by first | rfl | simp) (by simp only [go_sem, ↓reduceIte, Nat.reduceEqDiff, Nat.reduceAdd, reduceCtorEq] <;> rfl) (by simp only [go_sem, ↓reduceIte, Nat.reduceEqDiff, Nat.reduceAdd, reduceCtorEq] <;> rfl) ?_
      (repeat first | simp only [go_sem, ↓reduceIte, Nat.reduceEqDiff, Nat.reduceAdd, reduceCtorEq] | with_reducible refine V_W ?_ | (with_reducible refine And.intro ?_ ?_; focus first | assumption | omega | decide | grind) | (with_reducible refine Br.mk ?_ ?_; focus (intros; omega)) | decide)
      exact ⟨i + 1, by omega, by omega, Ref.gc [0, 2] rfl (by simp only [go_sem, ↓reduceIte, Nat.reduceEqDiff, Nat.reduceAdd, reduceCtorEq]) (by simp [sub, fget, go_sem, ↓reduceIte, Nat.reduceEqDiff, Nat.reduceAdd, reduceCtorEq])⟩
    · have he := srtF_take_no (L := L) (i := i) (by omega) (by omega)
      (repeat first | simp only [go_sem, ↓reduceIte, Nat.reduceEqDiff, Nat.reduceAdd, reduceCtorEq] | with_reducible refine V_W ?_ | (with_reducible refine And.intro ?_ ?_; focus first | assumption | omega | decide | grind) | (with_reducible refine Br.mk ?_ ?_; focus (intros; omega)) | decide)
      exact ⟨i + 1, by omega, by omega, Ref.to (by rw [he]) (by simp [sub, fget, he])⟩
  · obtain rfl : i = L.length := by omega
    rw [List.take_length]
    obtain ⟨S, hSd⟩ : ∃ S, S = srtF L := ⟨_, rfl⟩
    have hS : Srt S := hSd ▸ srtF_srt L
    have hS6 : ∀ i : Nat, (S.getD i []).length ≤ 1048576 := hSd ▸ hS6 L (fun f hf => hf)
    have hSl : S.length ≤ L.length := hSd ▸ srtF_len L
    rw [← hSd]
    (repeat first | simp only [go_sem, ↓reduceIte, Nat.reduceEqDiff, Nat.reduceAdd, reduceCtorEq] | with_reducible refine V_W ?_ | (with_reducible refine And.intro ?_ ?_; focus first | assumption | omega | decide | grind) | (with_reducible refine Br.mk ?_ ?_; focus (intros; omega)) | decide)
    refine V_loop (α := Nat) (S := fun i => ([(2, .ref 0 0), (4, .sl 1 1 0 S.length), (6, .sl 2 1 0 (facT S i).length), (7, .sl 3 1 0 (vtsL (facT S i)).length), (8, i64 (i : Int))], [some [i64 0, nilS], some (S.map ints), some ((facT S i).map ints), some (intsC (vtsL (facT S i)))])) (C := fun i => i ≤ S.length) (μ := fun i => S.length - i) 0 (Nat.zero_le _) (Ref.to rfl (by simp [sub, fget, facT_zero, vtsL])) ?_
    intro i hi
    have hfl := facT_len S i
    (repeat first | simp only [go_sem, ↓reduceIte, Nat.reduceEqDiff, Nat.reduceAdd, reduceCtorEq] | with_reducible refine V_W ?_ | (with_reducible refine And.intro ?_ ?_; focus first | assumption | omega | decide | grind) | (with_reducible refine Br.mk ?_ ?_; focus (intros; omega)) | decide)
    refine ⟨fun hc3 => ?_, fun hc3 => ?_⟩
    · have hiS : i < S.length := by omega
      have hri := hS6 i
      (repeat first | simp only [go_sem, ↓reduceIte, Nat.reduceEqDiff, Nat.reduceAdd, reduceCtorEq] | with_reducible refine V_W ?_ | (with_reducible refine And.intro ?_ ?_; focus first | assumption | omega | decide | grind) | (with_reducible refine Br.mk ?_ ?_; focus (intros; omega)) | decide)
      refine V_loop (α := Nat) (S := fun k => ([(2, .ref 0 0), (4, .sl 1 1 0 S.length), (6, .sl 2 1 0 (facT S i).length), (7, .sl 3 1 0 (vtsL (facT S i)).length), (8, i64 (i : Int)), (9, bl (decide (Tp S i k))), (10, i64 (k : Int))], [some [i64 0, nilS], some (S.map ints), some ((facT S i).map ints), some (intsC (vtsL (facT S i)))])) (C := fun k => k ≤ S.length) (μ := fun k => S.length - k) 0 (Nat.zero_le _) (Ref.to rfl (by simp [sub, fget, tp_zero])) ?_
      intro k hk
      have hrk := hS6 k
      (repeat first | simp only [go_sem, ↓reduceIte, Nat.reduceEqDiff, Nat.reduceAdd, reduceCtorEq] | with_reducible refine V_W ?_ | (with_reducible refine And.intro ?_ ?_; focus first | assumption | omega | decide | grind) | (with_reducible refine Br.mk ?_ ?_; focus (intros; omega)) | decide)
      refine ⟨fun hc4 => ?_, fun hc4 => ?_⟩
      · have htp := tp_succ S i k hc4.2
        (repeat first | simp only [go_sem, ↓reduceIte, Nat.reduceEqDiff, Nat.reduceAdd, reduceCtorEq] | with_reducible refine V_W ?_ | (with_reducible refine And.intro ?_ ?_; focus first | assumption | omega | decide | grind) | (with_reducible refine Br.mk ?_ ?_; focus (intros; omega)) | decide)
        refine GCall.mk (bl (decide (Win (S.getD i []) (S.getD k []))) ) (fun hg => by first | exact pureC ( withinL_c (S.getD i []) (S.getD k []) (by omega) (by omega)) (by simp only [go_sem, ↓reduceIte, Nat.reduceEqDiff, Nat.reduceAdd, reduceCtorEq] <;> rfl) (by first | rfl | simp only [go_sem, ↓reduceIte, Nat.reduceEqDiff, Nat.reduceAdd, reduceCtorEq]) (by first | exact ⟨rfl, rfl⟩ | simp only [go_sem, ↓reduceIte, Nat.reduceEqDiff, Nat.reduceAdd, reduceCtorEq]) | exact ⟨hg, pureC ( withinL_c (S.getD i []) (S.getD k []) (by omega) (by omega)) (by simp only [go_sem, ↓reduceIte, Nat.reduceEqDiff, Nat.reduceAdd, reduceCtorEq] <;> rfl) (by first | rfl | simp only [go_sem, ↓reduceIte, Nat.reduceEqDiff, Nat.reduceAdd, reduceCtorEq]) (by first | exact ⟨rfl, rfl⟩ | simp only [go_sem, ↓reduceIte, Nat.reduceEqDiff, Nat.reduceAdd, reduceCtorEq])⟩ | exact ⟨by grind, pureC ( withinL_c (S.getD i []) (S.getD k []) (by omega) (by omega)) (by simp only [go_sem, ↓reduceIte, Nat.reduceEqDiff, Nat.reduceAdd, reduceCtorEq] <;> rfl) (by first | rfl | simp only [go_sem, ↓reduceIte, Nat.reduceEqDiff, Nat.reduceAdd, reduceCtorEq]) (by first | exact ⟨rfl, rfl⟩ | simp only [go_sem, ↓reduceIte, Nat.reduceEqDiff, Nat.reduceAdd, reduceCtorEq])⟩) ?_
        (repeat first | simp only [go_sem, ↓reduceIte, Nat.reduceEqDiff, Nat.reduceAdd, reduceCtorEq] | with_reducible refine V_W ?_ | (with_reducible refine And.intro ?_ ?_; focus first | assumption | omega | decide | grind) | (with_reducible refine Br.mk ?_ ?_; focus (intros; omega)) | decide)
        have hik : ((i : Int) == (k : Int)) = decide (i = k) := by rw [Bool.eq_iff_iff]; simp; omega
        exact ⟨k + 1, by omega, by omega, Ref.to rfl (by simp [sub, fget, htp, hik])⟩
      · (repeat first | simp only [go_sem, ↓reduceIte, Nat.reduceEqDiff, Nat.reduceAdd, reduceCtorEq] | with_reducible refine V_W ?_ | (with_reducible refine And.intro ?_ ?_; focus first | assumption | omega | decide | grind) | (with_reducible refine Br.mk ?_ ?_; focus (intros; omega)) | decide)
        refine ⟨fun hc5 => ?_, fun hc5 => ?_⟩
        · have htop : Top S (S.getD i []) := by
            rw [top_iff hS hiS]
            rcases hc4 with h | h
            · obtain rfl : k = S.length := by omega
              exact hc5
            · exact absurd hc5 h
          have hvl := vts_lenB (facT S i) (fun f hf => facT_B hS6 f hf)
          (repeat first | simp only [go_sem, ↓reduceIte, Nat.reduceEqDiff, Nat.reduceAdd, reduceCtorEq] | with_reducible refine V_W ?_ | (with_reducible refine And.intro ?_ ?_; focus first | assumption | omega | decide | grind) | (with_reducible refine Br.mk ?_ ?_; focus (intros; omega)) | decide)
          refine V_loop (α := Nat) (S := fun m => ([(2, .ref 0 0), (4, .sl 1 1 0 S.length), (6, .sl 2 1 0 (facT S (i + 1)).length), (7, .sl 3 1 0 (((S.getD i []).take m).foldl insI (vtsL (facT S i))).length), (8, i64 (i : Int)), (11, i64 (m : Int))], [some [i64 0, nilS], some (S.map ints), some ((facT S (i + 1)).map ints), some (intsC (((S.getD i []).take m).foldl insI (vtsL (facT S i))))])) (C := fun m => m ≤ (S.getD i []).length) (μ := fun m => (S.getD i []).length - m) 0 (Nat.zero_le _) ?_ ?_
          · rw [facT_yes hiS htop]
            refine Ref.gc [0, 1, 5, 3] rfl ?_ (by simp [sub, fget, go_sem, ↓reduceIte, Nat.reduceEqDiff, Nat.reduceAdd, reduceCtorEq])
            simp only [go_sem, ↓reduceIte, Nat.reduceEqDiff, Nat.reduceAdd, reduceCtorEq]
            simp
          intro m hm
          obtain ⟨Vm, hVm⟩ : ∃ Vm, Vm = ((S.getD i []).take m).foldl insI (vtsL (facT S i)) := ⟨_, rfl⟩
          have hVs : sst Vm := hVm ▸ (foldl_ins _ _ (vtsL_sst _)).1
          have hVl : Vm.length ≤ (vtsL (facT S i)).length + m := by
            have := (foldl_ins ((S.getD i []).take m) _ (vtsL_sst (facT S i))).2.2
            rw [← hVm, List.length_take] at this
            omega
          have hfl2 := facT_len S (i + 1)
          rw [← hVm]
          (repeat first | simp only [go_sem, ↓reduceIte, Nat.reduceEqDiff, Nat.reduceAdd, reduceCtorEq] | with_reducible refine V_W ?_ | (with_reducible refine And.intro ?_ ?_; focus first | assumption | omega | decide | grind) | (with_reducible refine Br.mk ?_ ?_; focus (intros; omega)) | decide)
          refine ⟨fun hc6 => ?_, fun hc6 => ?_⟩
          · have hmi : m < (S.getD i []).length := by omega
            have hins := l17Insert_w Vm ((S.getD i []).getD m 0) hVs (by omega)
            have hnv : ((S.getD i []).take (m + 1)).foldl insI (vtsL (facT S i)) = insI Vm ((S.getD i []).getD m 0) := by rw [foldl_take hmi, hVm]
            generalize insI Vm ((S.getD i []).getD m 0) = V2 at hins hnv
            (repeat first | simp only [go_sem, ↓reduceIte, Nat.reduceEqDiff, Nat.reduceAdd, reduceCtorEq] | with_reducible refine V_W ?_ | (with_reducible refine And.intro ?_ ?_; focus first | assumption | omega | decide | grind) | (with_reducible refine Br.mk ?_ ?_; focus (intros; omega)) | decide)
            refine wriC (hins) [3] (by first | rfl | simp) (by simp only [go_sem, ↓reduceIte, Nat.reduceEqDiff, Nat.reduceAdd, reduceCtorEq] <;> rfl) (by simp only [go_sem, ↓reduceIte, Nat.reduceEqDiff, Nat.reduceAdd, reduceCtorEq] <;> rfl) (by first | rfl | simp only [go_sem, ↓reduceIte, Nat.reduceEqDiff, Nat.reduceAdd, reduceCtorEq]) ?_
            (repeat first | simp only [go_sem, ↓reduceIte, Nat.reduceEqDiff, Nat.reduceAdd, reduceCtorEq] | with_reducible refine V_W ?_ | (with_reducible refine And.intro ?_ ?_; focus first | assumption | omega | decide | grind) | (with_reducible refine Br.mk ?_ ?_; focus (intros; omega)) | decide)
            exact ⟨m + 1, by omega, by omega, Ref.gc [0, 1, 2, 4] rfl (by simp only [hnv, go_sem, ↓reduceIte, Nat.reduceEqDiff, Nat.reduceAdd, reduceCtorEq]) (by rw [hnv]; simp [sub, fget, go_sem, ↓reduceIte, Nat.reduceEqDiff, Nat.reduceAdd, reduceCtorEq])⟩
          · have hvn : Vm = vtsL (facT S (i + 1)) := by
              rw [hVm, List.take_of_length_le (by omega), facT_yes hiS htop, vtsL_snoc]
            (repeat first | simp only [go_sem, ↓reduceIte, Nat.reduceEqDiff, Nat.reduceAdd, reduceCtorEq] | with_reducible refine V_W ?_ | (with_reducible refine And.intro ?_ ?_; focus first | assumption | omega | decide | grind) | (with_reducible refine Br.mk ?_ ?_; focus (intros; omega)) | decide)
            exact ⟨i + 1, by omega, by omega, Ref.to (by rw [hvn]) (by simp [sub, fget, hvn])⟩
        · have htop : ¬ Top S (S.getD i []) := fun h => hc5 fun k' hk' => (top_iff hS hiS).1 h k' (by omega)
          have he := facT_no hiS htop
          (repeat first | simp only [go_sem, ↓reduceIte, Nat.reduceEqDiff, Nat.reduceAdd, reduceCtorEq] | with_reducible refine V_W ?_ | (with_reducible refine And.intro ?_ ?_; focus first | assumption | omega | decide | grind) | (with_reducible refine Br.mk ?_ ?_; focus (intros; omega)) | decide)
          exact ⟨i + 1, by omega, by omega, Ref.to (by rw [he]) (by simp [sub, fget, he])⟩
    · obtain rfl : i = S.length := by omega
      rw [facT_all]
      obtain ⟨F, hFd⟩ : ∃ F, F = facL S := ⟨_, rfl⟩
      have hFL : mkF L = F := by unfold mkF; rw [hFd, hSd]
      have hVL : mkV L = vtsL F := by unfold mkV; rw [hFL]
      have hRL : mkR L = F.map fun f => f.map (idx (vtsL F)) := by unfold mkR; rw [hFL, hVL]
      have hF6 : ∀ i : Nat, (F.getD i []).length ≤ 1048576 := fun i => by
        by_cases h : i < F.length
        · rw [show F.getD i [] = F[i] by simp [h]]
          exact facT_B hS6 (i := S.length) _ (by rw [facT_all, ← hFd]; exact List.getElem_mem h)
        · simp [h]
      have hbig := big_iff hSR
      rw [hFL] at hbig
      have hFl : F.length ≤ S.length := by rw [hFd]; exact List.length_filter_le _ _
      have hVl0 := vts_lenB F (fun f hf => by
        obtain ⟨j, hj, rfl⟩ := List.mem_iff_getElem.1 hf
        have := hF6 j
        rwa [show F.getD j [] = F[j] by simp [hj]] at this)
      have hok : MkOk L ↔ (∀ x ∈ L, x.length ≤ 6) ∧ (vtsL F).length ≤ 60 ∧ F.length ≤ 400 := by unfold MkOk; rw [hVL, hFL]
      have hno : ¬ MkOk L → ckV L = 0 ∧ ckF L = [] ∧ ckK L = 3 := fun h => ⟨if_neg h, if_neg h, if_neg h⟩
      have hyes : MkOk L → ckV L = ((vtsL F).length : Int) ∧ ckF L = F.map (fun f => f.map (idx (vtsL F))) ∧ ckK L = 0 := fun h => ⟨(if_pos h).trans (by rw [hVL]), (if_pos h).trans hRL, if_pos h⟩
      obtain ⟨V, hVd⟩ : ∃ V, V = vtsL F := ⟨_, rfl⟩
      rw [← hFd]
      rw [← hVd] at hVl0 hok hyes ⊢
      (repeat first | simp only [go_sem, ↓reduceIte, Nat.reduceEqDiff, Nat.reduceAdd, reduceCtorEq] | with_reducible refine V_W ?_ | (with_reducible refine And.intro ?_ ?_; focus first | assumption | omega | decide | grind) | (with_reducible refine Br.mk ?_ ?_; focus (intros; omega)) | decide)
      refine V_loop (α := Nat) (S := fun i => ([(2, .ref 0 0), (6, .sl 2 1 0 F.length), (7, .sl 3 1 0 V.length), (12, .ref 4 0), (13, i64 (i : Int))], [some [i64 0, nilS], some (S.map ints), some (F.map ints), some (intsC V), some [i64 V.length, .sl 5 1 0 i], some (((F.take i).map fun f => f.map (idx V)).map oints)])) (C := fun i => i ≤ F.length ∧ ∀ j, j < i → (F.getD j []).length ≤ 6) (μ := fun i => F.length - i) 0 ⟨Nat.zero_le _, fun j hj => by omega⟩ ?_ ?_
      · exact (Ref.nilC 4 1 1 (cs := [i64 V.length, nilS]) rfl rfl).trans (Ref.to (by simp) (by simp [sub, fget]))
      rintro i ⟨hi, hall6⟩
      (repeat first | simp only [go_sem, ↓reduceIte, Nat.reduceEqDiff, Nat.reduceAdd, reduceCtorEq] | with_reducible refine V_W ?_ | (with_reducible refine And.intro ?_ ?_; focus first | assumption | omega | decide | grind) | (with_reducible refine Br.mk ?_ ?_; focus (intros; omega)) | decide)
      refine ⟨fun hc7 => ?_, fun hc7 => ?_⟩
      · have hiF : i < F.length := by omega
        have hri := hF6 i
        (repeat first | simp only [go_sem, ↓reduceIte, Nat.reduceEqDiff, Nat.reduceAdd, reduceCtorEq] | with_reducible refine V_W ?_ | (with_reducible refine And.intro ?_ ?_; focus first | assumption | omega | decide | grind) | (with_reducible refine Br.mk ?_ ?_; focus (intros; omega)) | decide)
        refine V_loop (α := Nat) (S := fun m => ([(2, .ref 0 0), (6, .sl 2 1 0 F.length), (7, .sl 3 1 0 V.length), (12, .ref 4 0), (13, i64 (i : Int)), (14, .sl 6 1 0 m), (15, i64 (m : Int))], [some [i64 0, nilS], some (S.map ints), some (F.map ints), some (intsC V), some [i64 V.length, .sl 5 1 0 i], some (((F.take i).map fun f => f.map (idx V)).map oints), some (intsC (((F.getD i []).take m).map (idx V)))])) (C := fun m => m ≤ (F.getD i []).length) (μ := fun m => (F.getD i []).length - m) 0 (Nat.zero_le _) (Ref.to (by simp [intsC]) (by simp [sub, fget])) ?_
        intro m hm
        have hrl : (intsC (((F.getD i []).take m).map (idx V))).length = m := by rw [intsC, List.length_map, List.length_map, List.length_take]; omega
        (repeat first | simp only [go_sem, ↓reduceIte, Nat.reduceEqDiff, Nat.reduceAdd, reduceCtorEq] | with_reducible refine V_W ?_ | (with_reducible refine And.intro ?_ ?_; focus first | assumption | omega | decide | grind) | (with_reducible refine Br.mk ?_ ?_; focus (intros; omega)) | decide)
        refine ⟨fun hc8 => ?_, fun hc8 => ?_⟩
        · have hmi : m < (F.getD i []).length := by omega
          (repeat first | simp only [go_sem, ↓reduceIte, Nat.reduceEqDiff, Nat.reduceAdd, reduceCtorEq] | with_reducible refine V_W ?_ | (with_reducible refine And.intro ?_ ?_; focus first | assumption | omega | decide | grind) | (with_reducible refine Br.mk ?_ ?_; focus (intros; omega)) | decide)
          refine pureC (l01Index_c V ((F.getD i []).getD m 0) (by omega)) (by simp only [go_sem, ↓reduceIte, Nat.reduceEqDiff, Nat.reduceAdd, reduceCtorEq] <;> rfl) (by first | rfl | simp only [go_sem, ↓reduceIte, Nat.reduceEqDiff, Nat.reduceAdd, reduceCtorEq]) ?_
          (repeat first | simp only [go_sem, ↓reduceIte, Nat.reduceEqDiff, Nat.reduceAdd, reduceCtorEq] | with_reducible refine V_W ?_ | (with_reducible refine And.intro ?_ ?_; focus first | assumption | omega | decide | grind) | (with_reducible refine Br.mk ?_ ?_; focus (intros; omega)) | decide)
          have hx : List.take m (intsC (((F.getD i []).take m).map (idx V))) ++ [i64 (idx V ((F.getD i []).getD m 0))] = intsC (((F.getD i []).take (m + 1)).map (idx V)) := by
            rw [row_take hmi, List.take_of_length_le (by omega)]
            simp [intsC]
          rw [hx]
          exact ⟨m + 1, by omega, by omega, Ref.gc [0, 1, 2, 3, 4, 5, 8] rfl (by simp only [go_sem, ↓reduceIte, Nat.reduceEqDiff, Nat.reduceAdd, reduceCtorEq]) (by simp [sub, fget, go_sem, ↓reduceIte, Nat.reduceEqDiff, Nat.reduceAdd, reduceCtorEq])⟩
        · obtain rfl : m = (F.getD i []).length := by omega
          rw [List.take_length]
          (repeat first | simp only [go_sem, ↓reduceIte, Nat.reduceEqDiff, Nat.reduceAdd, reduceCtorEq] | with_reducible refine V_W ?_ | (with_reducible refine And.intro ?_ ?_; focus first | assumption | omega | decide | grind) | (with_reducible refine Br.mk ?_ ?_; focus (intros; omega)) | decide)
          refine ⟨fun hc9 => ?_, fun hc9 => ?_⟩
          · obtain ⟨n1, n2, n3⟩ := hno fun h => by
              obtain ⟨x, hx, hx2⟩ := hbig.1 ⟨F.getD i [], by rw [show F.getD i [] = F[i] by simp [hiF]]; exact List.getElem_mem hiF, by omega⟩
              have := (hok.1 h).1 x hx
              omega
            rw [n1, n2, n3]
            (repeat first | simp only [go_sem, ↓reduceIte, Nat.reduceEqDiff, Nat.reduceAdd, reduceCtorEq] | with_reducible refine V_W ?_ | (with_reducible refine And.intro ?_ ?_; focus first | assumption | omega | decide | grind) | (with_reducible refine Br.mk ?_ ?_; focus (intros; omega)) | decide)
            exact err_end
          (repeat first | simp only [go_sem, ↓reduceIte, Nat.reduceEqDiff, Nat.reduceAdd, reduceCtorEq] | with_reducible refine V_W ?_ | (with_reducible refine And.intro ?_ ?_; focus first | assumption | omega | decide | grind) | (with_reducible refine Br.mk ?_ ?_; focus (intros; omega)) | decide)
          have hRl : (((F.take i).map fun f => f.map (idx V)).map oints).length = i := by
            rw [List.length_map, List.length_map, List.length_take]; omega
          have hRn : ((F.take (i + 1)).map fun f => f.map (idx V)).map oints = ((F.take i).map fun f => f.map (idx V)).map oints ++ [oints ((F.getD i []).map (idx V))] := by
            rw [rows_take hiF, List.map_append]
            rfl
          rw [List.take_of_length_le (by omega)]
          refine ⟨i + 1, ⟨by omega, fun j hj => by
            rcases Nat.lt_or_ge j i with h | h
            · exact hall6 j h
            · obtain rfl : j = i := by omega
              omega⟩, by omega, ?_⟩
          rw [hRn]
          have hrn : ∀ τ, rnmL τ (((F.take i).map fun f => f.map (idx V)).map oints) = ((F.take i).map fun f => f.map (idx V)).map oints := fun τ => rnmL_orows τ _
          generalize ((F.take i).map fun f => f.map (idx V)).map oints = Ri at hRl hrn ⊢
          refine (Ref.close 8 i 6 (k := 1) (n := (F.getD i []).length) (cs := Ri ++ [.sl 6 1 0 (F.getD i []).length]) (cs2 := intsC ((F.getD i []).map (idx V))) rfl (by rw [List.getElem?_append_right (by omega), hRl, Nat.sub_self]; rfl) rfl (by decide) (by simp [intsC])).trans (Ref.gc [0, 1, 2, 3, 4, 8] rfl ?_ (by simp [sub, fget, go_sem, ↓reduceIte, Nat.reduceEqDiff, Nat.reduceAdd, reduceCtorEq]))
          have hse : ∀ Z X : AV, (Ri ++ [Z]).set i X = Ri ++ [X] := fun Z X => by
            rw [List.set_append_right _ _ (by omega), hRl, Nat.sub_self]
            rfl
          simp only [hse, hrn, go_sem, ↓reduceIte, Nat.reduceEqDiff, Nat.reduceAdd, reduceCtorEq]
          rw [show oints ((F.getD i []).map (idx V)) = .osl 1 (F.getD i []).length (intsC ((F.getD i []).map (idx V))) by rw [oints, List.length_map]]
      · obtain rfl : i = F.length := by omega
        rw [List.take_length]
        (repeat first | simp only [go_sem, ↓reduceIte, Nat.reduceEqDiff, Nat.reduceAdd, reduceCtorEq] | with_reducible refine V_W ?_ | (with_reducible refine And.intro ?_ ?_; focus first | assumption | omega | decide | grind) | (with_reducible refine Br.mk ?_ ?_; focus (intros; omega)) | decide)
        have hall : ∀ x ∈ L, x.length ≤ 6 := fun x hx => Classical.byContradiction fun h => by
          obtain ⟨y, hy, hy2⟩ := hbig.2 ⟨x, hx, by omega⟩
          obtain ⟨j, hj, rfl⟩ := List.mem_iff_getElem.1 hy
          have := hall6 j hj
          rw [show F.getD j [] = F[j] by simp [hj]] at this
          omega
        refine ⟨fun hc9 => ?_, fun hc9 => ?_⟩
        · obtain ⟨n1, n2, n3⟩ := hno fun h => by
            obtain ⟨_, h2, h3⟩ := hok.1 h
            omega
          rw [n1, n2, n3]
          (repeat first | simp only [go_sem, ↓reduceIte, Nat.reduceEqDiff, Nat.reduceAdd, reduceCtorEq] | with_reducible refine V_W ?_ | (with_reducible refine And.intro ?_ ?_; focus first | assumption | omega | decide | grind) | (with_reducible refine Br.mk ?_ ?_; focus (intros; omega)) | decide)
          exact err_end
        · obtain ⟨n1, n2, n3⟩ := hyes (hok.2 ⟨hall, by omega, by omega⟩)
          rw [n1, n2, n3]
          (repeat first | simp only [go_sem, ↓reduceIte, Nat.reduceEqDiff, Nat.reduceAdd, reduceCtorEq] | with_reducible refine V_W ?_ | (with_reducible refine And.intro ?_ ?_; focus first | assumption | omega | decide | grind) | (with_reducible refine Br.mk ?_ ?_; focus (intros; omega)) | decide)
          exact Ref.gc [5] rfl (by simp only [go_sem, ↓reduceIte, Nat.reduceEqDiff, Nat.reduceAdd, reduceCtorEq]) (by simp [sub, fget, go_sem, ↓reduceIte, Nat.reduceEqDiff, Nat.reduceAdd, reduceCtorEq])
end Go.Proofs.YtghhlcioabdpfaaDoor
