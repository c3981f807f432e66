/- Texts that belong together. -/
import Derived.Test.YtgdijhchndjhlaaGreatDoorV3
import Derived.Test.YtgdijhchndjhlaaGreatDoorU5
set_option linter.unusedSimpArgs false
set_option linter.unusedVariables false
set_option maxRecDepth 100000
namespace Go.Proofs.YtgdijhchndjhlaaGreatDoor
open Go.Gov
open Classical

def skL (F : List (List Int)) (k : Nat) : List (List Int) := F.flatMap fun x => prt (min k x.length) x
noncomputable def skS (F : List (List Int)) (k : Nat) : List (List Int) := F.flatMap fun x => if x.length ≤ k then [x] else (prt k x).foldl putL []
theorem skL_succ {F : List (List Int)} {k i : Nat} (hi : i < F.length) : skL (F.take (i + 1)) k = skL (F.take i) k ++ prt (min k (F.getD i []).length) (F.getD i []) := by
  unfold skL
  rw [take_one hi, List.flatMap_append]
  simp
theorem skS_succ {F : List (List Int)} {k i : Nat} (hi : i < F.length) : skS (F.take (i + 1)) k = skS (F.take i) k ++ if (F.getD i []).length ≤ k then [F.getD i []] else (prt k (F.getD i [])).foldl putL [] := by
  unfold skS
  rw [take_one hi, List.flatMap_append]
  simp
theorem skL_mem {F : List (List Int)} {k : Nat} (p : List Int) : p ∈ skL F k ↔ ∃ x ∈ F, p.Sublist x ∧ p.length = min k x.length := by
  unfold skL
  simp only [List.mem_flatMap, prt_mem]
theorem skS_mem {F : List (List Int)} {k : Nat} (p : List Int) : p ∈ skS F k ↔ p ∈ skL F k := by
  rw [skL_mem]
  unfold skS
  simp only [List.mem_flatMap]
  refine exists_congr fun x => and_congr_right fun _ => ?_
  split
  · rename_i h
    rw [List.mem_singleton, Nat.min_eq_right h]
    exact ⟨fun e => by rw [e]; exact ⟨.refl _, rfl⟩, fun ⟨h1, h2⟩ => h1.eq_of_length h2⟩
  · rename_i h
    rw [(foldl_put _ _ .nil).2.1 p, prt_mem, Nat.min_eq_left (by omega)]
    simp
theorem sub_sst {p x : List Int} (h : p.Sublist x) (hx : sst x) : sst p := List.Pairwise.sublist h hx
theorem skL_SR {F : List (List Int)} (hF : SR F) (k : Nat) : SR (skL F k) := fun p hp => by
  obtain ⟨x, hx, h, _⟩ := (skL_mem p).1 hp
  exact sub_sst h (hF x hx)
theorem skL_row {F : List (List Int)} (h : ∀ x ∈ F, x.length ≤ 6) (k : Nat) : ∀ p ∈ skL F k, p.length ≤ 6 := fun p hp => by
  obtain ⟨x, hx, h1, _⟩ := (skL_mem p).1 hp
  exact Nat.le_trans h1.length_le (h x hx)
theorem skS_row {F : List (List Int)} (h : ∀ x ∈ F, x.length ≤ 6) (k : Nat) : ∀ p ∈ skS F k, p.length ≤ 6 := fun p hp => skL_row h k p ((skS_mem p).1 hp)
theorem skL_len {F : List (List Int)} (k : Nat) (h : ∀ x ∈ F, x.length ≤ 6) : (skL F k).length ≤ 64 * F.length := by
  induction F with
  | nil => simp [skL]
  | cons x F ih =>
    have h1 := ih fun y hy => h y (List.mem_cons_of_mem _ hy)
    have h2 := h x List.mem_cons_self
    have h3 := prt_len x (min k x.length)
    have h4 : 2 ^ x.length ≤ 2 ^ 6 := Nat.pow_le_pow_right (by decide) h2
    simp only [skL, List.flatMap_cons, List.length_append, List.length_cons] at *
    omega
theorem skS_len {F : List (List Int)} (k : Nat) (h : ∀ x ∈ F, x.length ≤ 6) : (skS F k).length ≤ 64 * F.length := by
  induction F with
  | nil => simp [skS]
  | cons x F ih =>
    have h1 := ih fun y hy => h y (List.mem_cons_of_mem _ hy)
    have h2 := h x List.mem_cons_self
    have h3 := prt_len x k
    have h4 : 2 ^ x.length ≤ 2 ^ 6 := Nat.pow_le_pow_right (by decide) h2
    have h5 := (foldl_put (prt k x) [] .nil).2.2
    have e : skS (x :: F) k = (if x.length ≤ k then [x] else (prt k x).foldl putL []) ++ skS F k := by simp [skS]
    rw [e, List.length_append, List.length_cons]
    simp only [List.length_nil] at h5
    split
    · simp only [List.length_singleton]; omega
    · omega
def KOk (k : Int) : Prop := 0 ≤ k ∧ k ≤ 6
noncomputable def skV (v : Int) (F : List (List Int)) (k : Int) : Int := if CxOk v F ∧ KOk k then ckV (skL F k.toNat) else 0
noncomputable def skF (v : Int) (F : List (List Int)) (k : Int) : List (List Int) := if CxOk v F ∧ KOk k then ckF (skL F k.toNat) else []
noncomputable def skK (v : Int) (F : List (List Int)) (k : Int) : Int := if CxOk v F then if KOk k then ckK (skL F k.toNat) else 2 else 1
theorem skF_b (v : Int) (F : List (List Int)) (k : Int) : (skF v F k).length ≤ 400 ∧ ∀ x ∈ skF v F k, x.length ≤ 6 := by
  unfold skF
  split
  · rename_i h
    exact ckF_b (skL_SR h.1.sst _)
  · simp
theorem sk_no1 {v : Int} {F : List (List Int)} {k : Int} (h : ¬ CxOk v F) : skV v F k = 0 ∧ skF v F k = [] ∧ skK v F k = 1 := ⟨if_neg fun h2 => h h2.1, if_neg fun h2 => h h2.1, if_neg h⟩
theorem sk_no2 {v : Int} {F : List (List Int)} {k : Int} (h : CxOk v F) (h2 : ¬ KOk k) : skV v F k = 0 ∧ skF v F k = [] ∧ skK v F k = 2 := ⟨if_neg fun h3 => h2 h3.2, if_neg fun h3 => h2 h3.2, by unfold skK; rw [if_pos h, if_neg h2]⟩
theorem sk_yes {v : Int} {F : List (List Int)} {k : Int} (h : CxOk v F) (h2 : KOk k) : skV v F k = ckV (skL F k.toNat) ∧ skF v F k = ckF (skL F k.toNat) ∧ skK v F k = ckK (skL F k.toNat) := ⟨if_pos ⟨h, h2⟩, if_pos ⟨h, h2⟩, by unfold skK; rw [if_pos h, if_pos h2]⟩
theorem partsOf_z (k : Nat) (xs : List Int) (hx : xs.length ≤ 6) (hk : k ≤ 100) : Pure Tryz.prog 29 [ints xs, i64 (k : Int)] (mat (prt k xs)) [] := by
  refine (partsOf_p k xs hx hk).froz ?_
  simp only [go_sem, ↓reduceIte, Nat.reduceEqDiff, Nat.reduceAdd, reduceCtorEq]
set_option maxHeartbeats 4000000 in
theorem implSk_c (v : Int) (F : List (List Int)) (k : Int) (hl : F.length ≤ 1099511627776) (hr : ∀ x ∈ F, x.length ≤ 1099511627776) : Pure Tryz.prog 10 [cpxA v F, i64 k] (.tup [.agg [i64 (skV v F k), .sl 0 1 0 (skF v F k).length], i64 (skK v F k)]) [some ((skF v F k).map oints)] := by
  have hic := isComplex_c v F hl hr
  by_cases h : CxOk v F
  · rw [decide_eq_true h] at hic
    by_cases hk : KOk k
    · obtain ⟨n1, n2, n3⟩ := sk_yes h hk
      obtain ⟨hl4, hr6⟩ := h.six
      obtain ⟨m, rfl⟩ : ∃ m : Nat, k = m := ⟨k.toNat, by have := hk.1; omega⟩
      rw [Int.toNat_natCast] at n1 n2 n3
      have hm6 : m ≤ 6 := by have := hk.2; omega
      have hSR := skL_SR h.sst m
      have hco := complexOf_p (skL F m) (by have := skL_len m hr6; omega) (fun x hx => by have := skL_row hr6 m x hx; omega) (by
        rw [tot_flat]
        have h1 := tot_6 (skL_row hr6 m)
        have h2 := skL_len m hr6
        omega)
      rw [nrm_ids hSR] at hco
      rw [n1, n2, n3]
      generalize ckV (skL F m) = cv at hco ⊢
      generalize ckF (skL F m) = cf at hco ⊢
      generalize ckK (skL F m) = ck at hco ⊢
      have hrow : ∀ i : Nat, (F.getD i []).length ≤ 6 := fun i => by
        by_cases h : i < F.length
        · exact hr6 _ (getD_mem h)
        · simp [h]
      refine pureRV ok10 rfl ?_; unfold c10
      (repeat first | simp only [go_sem, ↓reduceIte, Nat.reduceEqDiff, Nat.reduceAdd, reduceCtorEq] | with_reducible refine V_W ?_ | (with_reducible refine And.intro ?_ ?_; focus first | assumption | omega | decide | grind) | (with_reducible refine Br.mk ?_ ?_; focus (intros; omega)) | decide)
      refine pureC (hic) (by simp only [go_sem, ↓reduceIte, Nat.reduceEqDiff, Nat.reduceAdd, reduceCtorEq] <;> rfl) (by first | rfl | simp only [go_sem, ↓reduceIte, Nat.reduceEqDiff, Nat.reduceAdd, reduceCtorEq]) ?_
      (repeat first | simp only [go_sem, ↓reduceIte, Nat.reduceEqDiff, Nat.reduceAdd, reduceCtorEq] | with_reducible refine V_W ?_ | (with_reducible refine And.intro ?_ ?_; focus first | assumption | omega | decide | grind) | (with_reducible refine Br.mk ?_ ?_; focus (intros; omega)) | decide)
      refine pureC (within_c (m : Int) 0 6) (by simp only [go_sem, ↓reduceIte, Nat.reduceEqDiff, Nat.reduceAdd, reduceCtorEq] <;> rfl) (by first | rfl | simp only [go_sem, ↓reduceIte, Nat.reduceEqDiff, Nat.reduceAdd, reduceCtorEq]) ?_
      (repeat first | simp only [go_sem, ↓reduceIte, Nat.reduceEqDiff, Nat.reduceAdd, reduceCtorEq] | with_reducible refine V_W ?_ | (with_reducible refine And.intro ?_ ?_; focus first | assumption | omega | decide | grind) | (with_reducible refine Br.mk ?_ ?_; focus (intros; omega)) | decide)
      refine fun _ => ?_
      (repeat first | simp only [go_sem, ↓reduceIte, Nat.reduceEqDiff, Nat.reduceAdd, reduceCtorEq] | with_reducible refine V_W ?_ | (with_reducible refine And.intro ?_ ?_; focus first | assumption | omega | decide | grind) | (with_reducible refine Br.mk ?_ ?_; focus (intros; omega)) | decide)
      refine V_loop (α := Nat) (S := fun i => ([(1, i64 (m : Int)), (2, .ref 0 0), (4, .ref 1 0), (6, .sl 2 1 0 (skL (F.take i) m).length), (20, mat F), (21, i64 (F.length : Int)), (22, i64 (i : Int))], [some [i64 v, mat F], some [i64 0, nilS], some ((skL (F.take i) m).map ints)])) (C := fun i => i ≤ F.length) (μ := fun i => F.length - i) 0 (Nat.zero_le _) ?_ ?_
      · exact (Ref.nil 6 1 rfl).trans (Ref.to (by simp [skL]) (by simp [sub, fget, skL]))
      intro i hi
      have hTl := skL_len m (F := F.take i) fun x hx => hr6 x (List.mem_of_mem_take hx)
      have hti : (F.take i).length = i := by rw [List.length_take]; omega
      (repeat first | simp only [go_sem, ↓reduceIte, Nat.reduceEqDiff, Nat.reduceAdd, reduceCtorEq] | with_reducible refine V_W ?_ | (with_reducible refine And.intro ?_ ?_; focus first | assumption | omega | decide | grind) | (with_reducible refine Br.mk ?_ ?_; focus (intros; omega)) | decide)
      refine ⟨fun hc => ?_, fun hc => ?_⟩
      · have hri := hrow i
        have hsc := skL_succ (F := F) (k := m) (i := i) (by omega)
        have hz := partsOf_z (min m (F.getD i []).length) (F.getD i []) hri (by omega)
        have hpl := prt_len (F.getD i []) (min m (F.getD i []).length)
        have hp6 : 2 ^ (F.getD i []).length ≤ 2 ^ 6 := Nat.pow_le_pow_right (by decide) hri
        (repeat first | simp only [go_sem, ↓reduceIte, Nat.reduceEqDiff, Nat.reduceAdd, reduceCtorEq] | with_reducible refine V_W ?_ | (with_reducible refine And.intro ?_ ?_; focus first | assumption | omega | decide | grind) | (with_reducible refine Br.mk ?_ ?_; focus (intros; omega)) | decide)
        refine pureC (size_c (F.getD i []) (by omega)) (by simp only [go_sem, ↓reduceIte, Nat.reduceEqDiff, Nat.reduceAdd, reduceCtorEq] <;> rfl) (by first | rfl | simp only [go_sem, ↓reduceIte, Nat.reduceEqDiff, Nat.reduceAdd, reduceCtorEq]) ?_
        (repeat first | simp only [go_sem, ↓reduceIte, Nat.reduceEqDiff, Nat.reduceAdd, reduceCtorEq] | with_reducible refine V_W ?_ | (with_reducible refine And.intro ?_ ?_; focus first | assumption | omega | decide | grind) | (with_reducible refine Br.mk ?_ ?_; focus (intros; omega)) | decide)
        have hmin : (if ((F.getD i []).length : Int) < (m : Int) then ((F.getD i []).length : Int) else (m : Int)) = ((min m (F.getD i []).length : Nat) : Int) := by
          split <;> omega
        simp only [hmin, go_sem, ↓reduceIte, Nat.reduceEqDiff, Nat.reduceAdd, reduceCtorEq]
        refine call_pureG (hz) (by simp only [go_sem, ↓reduceIte, Nat.reduceEqDiff, Nat.reduceAdd, reduceCtorEq] <;> rfl) ?_
        (repeat first | simp only [go_sem, ↓reduceIte, Nat.reduceEqDiff, Nat.reduceAdd, reduceCtorEq] | with_reducible refine V_W ?_ | (with_reducible refine And.intro ?_ ?_; focus first | assumption | omega | decide | grind) | (with_reducible refine Br.mk ?_ ?_; focus (intros; omega)) | decide)
        refine ⟨plain_rows _, one_rows _, ?_⟩
        (repeat first | simp only [go_sem, ↓reduceIte, Nat.reduceEqDiff, Nat.reduceAdd, reduceCtorEq] | with_reducible refine V_W ?_ | (with_reducible refine And.intro ?_ ?_; focus first | assumption | omega | decide | grind) | (with_reducible refine Br.mk ?_ ?_; focus (intros; omega)) | decide)
        refine ⟨i + 1, by omega, by omega, Ref.gc [0, 1, 3] rfl ?_ (by simp [sub, fget, go_sem, ↓reduceIte, Nat.reduceEqDiff, Nat.reduceAdd, reduceCtorEq, hsc])⟩
        simp only [go_sem, ↓reduceIte, Nat.reduceEqDiff, Nat.reduceAdd, reduceCtorEq]
        rw [hsc]
        simp
      · obtain rfl : i = F.length := by omega
        rw [List.take_length]
        have htk : ∀ Hx : Heap, (List.take (skL F m).length ((skL F m).map ints)).map (frz Hx 5) = (skL F m).map ints := fun Hx => by
          rw [List.take_of_length_le (by simp), map_frz_rows]
        (repeat first | simp only [go_sem, ↓reduceIte, Nat.reduceEqDiff, Nat.reduceAdd, reduceCtorEq] | with_reducible refine V_W ?_ | (with_reducible refine And.intro ?_ ?_; focus first | assumption | omega | decide | grind) | (with_reducible refine Br.mk ?_ ?_; focus (intros; omega)) | decide)
        refine pureC hco (by simp only [htk, go_sem, ↓reduceIte, Nat.reduceEqDiff, Nat.reduceAdd, reduceCtorEq]) (by first | rfl | simp only [go_sem, ↓reduceIte, Nat.reduceEqDiff, Nat.reduceAdd, reduceCtorEq]) ?_
        (repeat first | simp only [go_sem, ↓reduceIte, Nat.reduceEqDiff, Nat.reduceAdd, reduceCtorEq] | with_reducible refine V_W ?_ | (with_reducible refine And.intro ?_ ?_; focus first | assumption | omega | decide | grind) | (with_reducible refine Br.mk ?_ ?_; focus (intros; omega)) | decide)
        exact Ref.gc [3] rfl (by simp only [go_sem, ↓reduceIte, Nat.reduceEqDiff, Nat.reduceAdd, reduceCtorEq]) (by simp [sub, fget, go_sem, ↓reduceIte, Nat.reduceEqDiff, Nat.reduceAdd, reduceCtorEq])
    · obtain ⟨n1, n2, n3⟩ := sk_no2 h hk
      rw [n1, n2, n3]
      refine pureRV ok10 rfl ?_; unfold c10
      (repeat first | simp only [go_sem, ↓reduceIte, Nat.reduceEqDiff, Nat.reduceAdd, reduceCtorEq] | with_reducible refine V_W ?_ | (with_reducible refine And.intro ?_ ?_; focus first | assumption | omega | decide | grind) | (with_reducible refine Br.mk ?_ ?_; focus (intros; omega)) | decide)
      refine pureC (hic) (by simp only [go_sem, ↓reduceIte, Nat.reduceEqDiff, Nat.reduceAdd, reduceCtorEq] <;> rfl) (by first | rfl | simp only [go_sem, ↓reduceIte, Nat.reduceEqDiff, Nat.reduceAdd, reduceCtorEq]) ?_
      (repeat first | simp only [go_sem, ↓reduceIte, Nat.reduceEqDiff, Nat.reduceAdd, reduceCtorEq] | with_reducible refine V_W ?_ | (with_reducible refine And.intro ?_ ?_; focus first | assumption | omega | decide | grind) | (with_reducible refine Br.mk ?_ ?_; focus (intros; omega)) | decide)
      refine pureC (within_c k 0 6) (by simp only [go_sem, ↓reduceIte, Nat.reduceEqDiff, Nat.reduceAdd, reduceCtorEq] <;> rfl) (by first | rfl | simp only [go_sem, ↓reduceIte, Nat.reduceEqDiff, Nat.reduceAdd, reduceCtorEq]) ?_
      (repeat first | simp only [go_sem, ↓reduceIte, Nat.reduceEqDiff, Nat.reduceAdd, reduceCtorEq] | with_reducible refine V_W ?_ | (with_reducible refine And.intro ?_ ?_; focus first | assumption | omega | decide | grind) | (with_reducible refine Br.mk ?_ ?_; focus (intros; omega)) | decide)
      refine ⟨fun hc => ?_, fun hc => absurd hc hk⟩
      (repeat first | simp only [go_sem, ↓reduceIte, Nat.reduceEqDiff, Nat.reduceAdd, reduceCtorEq] | with_reducible refine V_W ?_ | (with_reducible refine And.intro ?_ ?_; focus first | assumption | omega | decide | grind) | (with_reducible refine Br.mk ?_ ?_; focus (intros; omega)) | decide)
      exact err_end
  · rw [decide_eq_false h] at hic
    obtain ⟨n1, n2, n3⟩ := sk_no1 (k := k) h
    rw [n1, n2, n3]
    refine pureRV ok10 rfl ?_; unfold c10
    (repeat first | simp only [go_sem, ↓reduceIte, Nat.reduceEqDiff, Nat.reduceAdd, reduceCtorEq] | with_reducible refine V_W ?_ | (with_reducible refine And.intro ?_ ?_; focus first | assumption | omega | decide | grind) | (with_reducible refine Br.mk ?_ ?_; focus (intros; omega)) | decide)
    refine pureC (hic) (by simp only [go_sem, ↓reduceIte, Nat.reduceEqDiff, Nat.reduceAdd, reduceCtorEq] <;> rfl) (by first | rfl | simp only [go_sem, ↓reduceIte, Nat.reduceEqDiff, Nat.reduceAdd, reduceCtorEq]) ?_
    (repeat first | simp only [go_sem, ↓reduceIte, Nat.reduceEqDiff, Nat.reduceAdd, reduceCtorEq] | with_reducible refine V_W ?_ | (with_reducible refine And.intro ?_ ?_; focus first | assumption | omega | decide | grind) | (with_reducible refine Br.mk ?_ ?_; focus (intros; omega)) | decide)
    exact err_end
set_option maxHeartbeats 4000000 in
theorem specSk_c (v : Int) (F : List (List Int)) (k : Int) (hl : F.length ≤ 1099511627776) (hr : ∀ x ∈ F, x.length ≤ 1099511627776) : Pure Tryz.prog 8 [cpxA v F, i64 k] (.tup [.agg [i64 (skV v F k), .sl 0 1 0 (skF v F k).length], i64 (skK v F k)]) [some ((skF v F k).map oints)] := by
  have hic := l17Is_c v F hl hr
  by_cases h : CxOk v F
  · rw [decide_eq_true h] at hic
    by_cases hk : KOk k
    · obtain ⟨n1, n2, n3⟩ := sk_yes h hk
      obtain ⟨hl4, hr6⟩ := h.six
      obtain ⟨m, rfl⟩ : ∃ m : Nat, k = m := ⟨k.toNat, by have := hk.1; omega⟩
      rw [Int.toNat_natCast] at n1 n2 n3
      have hm6 : m ≤ 6 := by have := hk.2; omega
      have hSR := skL_SR h.sst m
      have hSS : SR (skS F m) := fun p hp => hSR p ((skS_mem p).1 hp)
      have hmk := l17Make_g (skS F m) (by have := skS_len m hr6; omega) (fun i => by
        by_cases h : i < (skS F m).length
        · have := skS_row hr6 m _ (getD_mem h); omega
        · simp [h]) hSS
      obtain ⟨q1, q2, q3⟩ := mk_congr (L := skS F m) (L' := skL F m) fun p => skS_mem p
      rw [q1, q2, q3] at hmk
      rw [n1, n2, n3]
      generalize ckV (skL F m) = cv at hmk ⊢
      generalize ckF (skL F m) = cf at hmk ⊢
      generalize ckK (skL F m) = ck at hmk ⊢
      have hrow : ∀ i : Nat, (F.getD i []).length ≤ 6 := fun i => by
        by_cases h : i < F.length
        · exact hr6 _ (getD_mem h)
        · simp [h]
      refine pureRV ok8 rfl ?_; unfold c8
      (repeat first | simp only [go_sem, ↓reduceIte, Nat.reduceEqDiff, Nat.reduceAdd, reduceCtorEq] | with_reducible refine V_W ?_ | (with_reducible refine And.intro ?_ ?_; focus first | assumption | omega | decide | grind) | (with_reducible refine Br.mk ?_ ?_; focus (intros; omega)) | decide)
      refine pureC (hic) (by simp only [go_sem, ↓reduceIte, Nat.reduceEqDiff, Nat.reduceAdd, reduceCtorEq] <;> rfl) (by first | rfl | simp only [go_sem, ↓reduceIte, Nat.reduceEqDiff, Nat.reduceAdd, reduceCtorEq]) ?_
      (repeat first | simp only [go_sem, ↓reduceIte, Nat.reduceEqDiff, Nat.reduceAdd, reduceCtorEq] | with_reducible refine V_W ?_ | (with_reducible refine And.intro ?_ ?_; focus first | assumption | omega | decide | grind) | (with_reducible refine Br.mk ?_ ?_; focus (intros; omega)) | decide)
      refine pureC (l01In_c (m : Int) 0 6) (by simp only [go_sem, ↓reduceIte, Nat.reduceEqDiff, Nat.reduceAdd, reduceCtorEq] <;> rfl) (by first | rfl | simp only [go_sem, ↓reduceIte, Nat.reduceEqDiff, Nat.reduceAdd, reduceCtorEq]) ?_
      (repeat first | simp only [go_sem, ↓reduceIte, Nat.reduceEqDiff, Nat.reduceAdd, reduceCtorEq] | with_reducible refine V_W ?_ | (with_reducible refine And.intro ?_ ?_; focus first | assumption | omega | decide | grind) | (with_reducible refine Br.mk ?_ ?_; focus (intros; omega)) | decide)
      refine fun _ => ?_
      (repeat first | simp only [go_sem, ↓reduceIte, Nat.reduceEqDiff, Nat.reduceAdd, reduceCtorEq] | with_reducible refine V_W ?_ | (with_reducible refine And.intro ?_ ?_; focus first | assumption | omega | decide | grind) | (with_reducible refine Br.mk ?_ ?_; focus (intros; omega)) | decide)
      refine V_loop (α := Nat) (S := fun i => ([(1, i64 (m : Int)), (2, .ref 0 0), (4, .ref 1 0), (6, .sl 2 1 0 (skS (F.take i) m).length), (7, i64 (i : Int))], [some [i64 v, mat F], some [i64 0, nilS], some ((skS (F.take i) m).map ints)])) (C := fun i => i ≤ F.length) (μ := fun i => F.length - i) 0 (Nat.zero_le _) (Ref.to (by simp [skS]) (by simp [sub, fget, skS])) ?_
      intro i hi
      have hTl := skS_len m (F := F.take i) fun x hx => hr6 x (List.mem_of_mem_take hx)
      have hti : (F.take i).length = i := by rw [List.length_take]; omega
      obtain ⟨T, hT⟩ : ∃ T, T = skS (F.take i) m := ⟨_, rfl⟩
      rw [← hT] at hTl ⊢
      (repeat first | simp only [go_sem, ↓reduceIte, Nat.reduceEqDiff, Nat.reduceAdd, reduceCtorEq] | with_reducible refine V_W ?_ | (with_reducible refine And.intro ?_ ?_; focus first | assumption | omega | decide | grind) | (with_reducible refine Br.mk ?_ ?_; focus (intros; omega)) | decide)
      refine ⟨fun hc => ?_, fun hc => ?_⟩
      · have hri := hrow i
        have hsc := skS_succ (F := F) (k := m) (i := i) (by omega)
        rw [← hT] at hsc
        (repeat first | simp only [go_sem, ↓reduceIte, Nat.reduceEqDiff, Nat.reduceAdd, reduceCtorEq] | with_reducible refine V_W ?_ | (with_reducible refine And.intro ?_ ?_; focus first | assumption | omega | decide | grind) | (with_reducible refine Br.mk ?_ ?_; focus (intros; omega)) | decide)
        refine ⟨fun hc2 => ?_, fun hc2 => ?_⟩
        · rw [if_pos (by omega)] at hsc
          (repeat first | simp only [go_sem, ↓reduceIte, Nat.reduceEqDiff, Nat.reduceAdd, reduceCtorEq] | with_reducible refine V_W ?_ | (with_reducible refine And.intro ?_ ?_; focus first | assumption | omega | decide | grind) | (with_reducible refine Br.mk ?_ ?_; focus (intros; omega)) | decide)
          refine ⟨i + 1, by omega, by omega, Ref.gc [0, 1, 4] rfl ?_ (by rw [hsc]; simp [sub, fget, go_sem, ↓reduceIte, Nat.reduceEqDiff, Nat.reduceAdd, reduceCtorEq])⟩
          rw [hsc]
          simp only [go_sem, ↓reduceIte, Nat.reduceEqDiff, Nat.reduceAdd, reduceCtorEq] <;> simp [rnmL_rows]
        · rw [if_neg (by omega)] at hsc
          have hlp := l17Parts_w (F.getD i []) hri m [] [] 0 .nil (by simp; omega) (by simp) (by simp; omega) (Nat.zero_le _)
          simp only [List.drop_zero, List.nil_append, List.length_nil, Nat.zero_add, List.map_id', List.map_nil] at hlp
          rw [show ints [] = .slc 1 0 [] from rfl] at hlp
          have hpl := (foldl_put (prt m (F.getD i [])) [] .nil).2.2
          have hpl2 := prt_len (F.getD i []) m
          have hp6 : 2 ^ (F.getD i []).length ≤ 2 ^ 6 := Nat.pow_le_pow_right (by decide) hri
          simp only [List.length_nil] at hpl
          obtain ⟨B, hB⟩ : ∃ B, B = (prt m (F.getD i [])).foldl putL [] := ⟨_, rfl⟩
          rw [← hB] at hlp hsc hpl
          have hap := l17Append_w T.length (T.map ints) B (by simp) (fun τ => rnmL_rows τ T) (by omega)
          (repeat first | simp only [go_sem, ↓reduceIte, Nat.reduceEqDiff, Nat.reduceAdd, reduceCtorEq] | with_reducible refine V_W ?_ | (with_reducible refine And.intro ?_ ?_; focus first | assumption | omega | decide | grind) | (with_reducible refine Br.mk ?_ ?_; focus (intros; omega)) | decide)
          refine CallsX.nilA 0 1 rfl ?_
          simp only [go_sem, ↓reduceIte, Nat.reduceEqDiff, Nat.reduceAdd, reduceCtorEq]
          refine CallsX.ice 3 ?_
          simp only [go_sem, ↓reduceIte, Nat.reduceEqDiff, Nat.reduceAdd, reduceCtorEq]
          refine wriCF (hlp) [4] (by first | rfl | simp) (by simp only [go_sem, ↓reduceIte, Nat.reduceEqDiff, Nat.reduceAdd, reduceCtorEq] <;> rfl) (by simp only [go_sem, ↓reduceIte, Nat.reduceEqDiff, Nat.reduceAdd, reduceCtorEq] <;> rfl) ?_
          (repeat first | simp only [go_sem, ↓reduceIte, Nat.reduceEqDiff, Nat.reduceAdd, reduceCtorEq] | with_reducible refine V_W ?_ | (with_reducible refine And.intro ?_ ?_; focus first | assumption | omega | decide | grind) | (with_reducible refine Br.mk ?_ ?_; focus (intros; omega)) | decide)
          refine CallsX.ice 5 ?_
          have htkB : ∀ Hx : Heap, (List.take B.length (B.map ints)).map (frz Hx 5) = B.map ints := fun Hx => by
            rw [List.take_of_length_le (by simp), map_frz_rows]
          simp only [htkB, go_sem, ↓reduceIte, Nat.reduceEqDiff, Nat.reduceAdd, reduceCtorEq]
          refine wriCF (hap) [2] (by first | rfl | simp) (by simp only [go_sem, ↓reduceIte, Nat.reduceEqDiff, Nat.reduceAdd, reduceCtorEq] <;> rfl) (by simp only [go_sem, ↓reduceIte, Nat.reduceEqDiff, Nat.reduceAdd, reduceCtorEq] <;> rfl) ?_
          (repeat first | simp only [go_sem, ↓reduceIte, Nat.reduceEqDiff, Nat.reduceAdd, reduceCtorEq] | with_reducible refine V_W ?_ | (with_reducible refine And.intro ?_ ?_; focus first | assumption | omega | decide | grind) | (with_reducible refine Br.mk ?_ ?_; focus (intros; omega)) | decide)
          refine ⟨i + 1, by omega, by omega, Ref.gc [0, 1, 6] rfl ?_ (by rw [hsc]; simp [sub, fget, go_sem, ↓reduceIte, Nat.reduceEqDiff, Nat.reduceAdd, reduceCtorEq])⟩
          rw [hsc]
          simp only [go_sem, ↓reduceIte, Nat.reduceEqDiff, Nat.reduceAdd, reduceCtorEq] <;> simp [rnmL_rows]
      · obtain rfl : i = F.length := by omega
        rw [List.take_length] at hT
        have htk : ∀ Hx : Heap, (List.take T.length (T.map ints)).map (frz Hx 5) = T.map ints := fun Hx => by
          rw [List.take_of_length_le (by simp), map_frz_rows]
        rw [← hT] at hmk
        (repeat first | simp only [go_sem, ↓reduceIte, Nat.reduceEqDiff, Nat.reduceAdd, reduceCtorEq] | with_reducible refine V_W ?_ | (with_reducible refine And.intro ?_ ?_; focus first | assumption | omega | decide | grind) | (with_reducible refine Br.mk ?_ ?_; focus (intros; omega)) | decide)
        refine pureC hmk (by simp only [htk, go_sem, ↓reduceIte, Nat.reduceEqDiff, Nat.reduceAdd, reduceCtorEq]) (by first | rfl | simp only [go_sem, ↓reduceIte, Nat.reduceEqDiff, Nat.reduceAdd, reduceCtorEq]) ?_
        (repeat first | simp only [go_sem, ↓reduceIte, Nat.reduceEqDiff, Nat.reduceAdd, reduceCtorEq] | with_reducible refine V_W ?_ | (with_reducible refine And.intro ?_ ?_; focus first | assumption | omega | decide | grind) | (with_reducible refine Br.mk ?_ ?_; focus (intros; omega)) | decide)
        exact Ref.gc [3] rfl (by simp only [go_sem, ↓reduceIte, Nat.reduceEqDiff, Nat.reduceAdd, reduceCtorEq]) (by simp [sub, fget, go_sem, ↓reduceIte, Nat.reduceEqDiff, Nat.reduceAdd, reduceCtorEq])
    · obtain ⟨n1, n2, n3⟩ := sk_no2 h hk
      rw [n1, n2, n3]
      refine pureRV ok8 rfl ?_; unfold c8
      (repeat first | simp only [go_sem, ↓reduceIte, Nat.reduceEqDiff, Nat.reduceAdd, reduceCtorEq] | with_reducible refine V_W ?_ | (with_reducible refine And.intro ?_ ?_; focus first | assumption | omega | decide | grind) | (with_reducible refine Br.mk ?_ ?_; focus (intros; omega)) | decide)
      refine pureC (hic) (by simp only [go_sem, ↓reduceIte, Nat.reduceEqDiff, Nat.reduceAdd, reduceCtorEq] <;> rfl) (by first | rfl | simp only [go_sem, ↓reduceIte, Nat.reduceEqDiff, Nat.reduceAdd, reduceCtorEq]) ?_
      (repeat first | simp only [go_sem, ↓reduceIte, Nat.reduceEqDiff, Nat.reduceAdd, reduceCtorEq] | with_reducible refine V_W ?_ | (with_reducible refine And.intro ?_ ?_; focus first | assumption | omega | decide | grind) | (with_reducible refine Br.mk ?_ ?_; focus (intros; omega)) | decide)
      refine pureC (l01In_c k 0 6) (by simp only [go_sem, ↓reduceIte, Nat.reduceEqDiff, Nat.reduceAdd, reduceCtorEq] <;> rfl) (by first | rfl | simp only [go_sem, ↓reduceIte, Nat.reduceEqDiff, Nat.reduceAdd, reduceCtorEq]) ?_
      (repeat first | simp only [go_sem, ↓reduceIte, Nat.reduceEqDiff, Nat.reduceAdd, reduceCtorEq] | with_reducible refine V_W ?_ | (with_reducible refine And.intro ?_ ?_; focus first | assumption | omega | decide | grind) | (with_reducible refine Br.mk ?_ ?_; focus (intros; omega)) | decide)
      refine ⟨fun hc => ?_, fun hc => absurd hc hk⟩
      (repeat first | simp only [go_sem, ↓reduceIte, Nat.reduceEqDiff, Nat.reduceAdd, reduceCtorEq] | with_reducible refine V_W ?_ | (with_reducible refine And.intro ?_ ?_; focus first | assumption | omega | decide | grind) | (with_reducible refine Br.mk ?_ ?_; focus (intros; omega)) | decide)
      exact err_end
  · rw [decide_eq_false h] at hic
    obtain ⟨n1, n2, n3⟩ := sk_no1 (k := k) h
    rw [n1, n2, n3]
    refine pureRV ok8 rfl ?_; unfold c8
    (repeat first | simp only [go_sem, ↓reduceIte, Nat.reduceEqDiff, Nat.reduceAdd, reduceCtorEq] | with_reducible refine V_W ?_ | (with_reducible refine And.intro ?_ ?_; focus first | assumption | omega | decide | grind) | (with_reducible refine Br.mk ?_ ?_; focus (intros; omega)) | decide)
    refine pureC (hic) (by simp only [go_sem, ↓reduceIte, Nat.reduceEqDiff, Nat.reduceAdd, reduceCtorEq] <;> rfl) (by first | rfl | simp only [go_sem, ↓reduceIte, Nat.reduceEqDiff, Nat.reduceAdd, reduceCtorEq]) ?_
    (repeat first | simp only [go_sem, ↓reduceIte, Nat.reduceEqDiff, Nat.reduceAdd, reduceCtorEq] | with_reducible refine V_W ?_ | (with_reducible refine And.intro ?_ ?_; focus first | assumption | omega | decide | grind) | (with_reducible refine Br.mk ?_ ?_; focus (intros; omega)) | decide)
    exact err_end
end Go.Proofs.YtgdijhchndjhlaaGreatDoor
