/- Texts that belong together. -/
import Derived.Test.YtmiapnfhlhgefaaZe
import Derived.Test.YtmiapnfhlhgefaaZv
import Derived.Test.YtmiapnfhlhgefaaY1
set_option linter.unusedSimpArgs false
set_option linter.unusedVariables false
set_option maxRecDepth 100000
namespace Go.Proofs.Ytmiapnfhlhgefaa
open Go.Gov
open Classical

def plcN (R : List Int) (i : Int) (k : Nat) : List Int := ((List.range k).filter fun e => decide (R.getD e 0 = i)).map fun e : Nat => (e : Int)
def plc (R : List Int) (i : Int) : List Int := plcN R i R.length
theorem plcN_succ (R : List Int) (i : Int) (k : Nat) : plcN R i (k + 1) = if R.getD k 0 = i then plcN R i k ++ [(k : Int)] else plcN R i k := by
  unfold plcN
  rw [List.range_succ, List.filter_append, List.map_append]
  by_cases h : R.getD k 0 = i
  · rw [if_pos h, List.filter_cons_of_pos (by simpa using h)]; rfl
  · rw [if_neg h, List.filter_cons_of_neg (by simpa using h)]; simp
theorem plcN_len (R : List Int) (i : Int) (k : Nat) : (plcN R i k).length ≤ k := by
  unfold plcN
  rw [List.length_map]
  have := List.length_filter_le (fun e => decide (R.getD e 0 = i)) (List.range k)
  rwa [List.length_range] at this
theorem mem_plcN {R : List Int} {i : Int} {k : Nat} {e : Int} : e ∈ plcN R i k ↔ 0 ≤ e ∧ e < k ∧ R.getD e.toNat 0 = i := by
  unfold plcN
  simp only [List.mem_map, List.mem_filter, List.mem_range, decide_eq_true_eq]
  constructor
  · rintro ⟨n, ⟨h1, h2⟩, rfl⟩
    exact ⟨by omega, by omega, by simpa using h2⟩
  · rintro ⟨h1, h2, h3⟩
    exact ⟨e.toNat, ⟨by omega, h3⟩, by omega⟩
theorem plcN_sst (R : List Int) (i : Int) : ∀ k : Nat, sst (plcN R i k)
  | 0 => List.Pairwise.nil
  | k + 1 => by
    rw [plcN_succ]
    split
    · refine List.pairwise_append.2 ⟨plcN_sst R i k, List.pairwise_singleton _ _, fun a ha b hb => ?_⟩
      have := (mem_plcN.1 ha).2.1
      rw [List.mem_singleton.1 hb]
      exact this
    · exact plcN_sst R i k

theorem l16Rank_p (r : Int) (R : List Int) (B : List (List Int)) (i : Int) (h1 : R.length ≤ 1048576) : Pure Try.prog 56 [posetA r R B, i64 i] (.sl 0 1 0 (plc R i).length) [some (intsC (plc R i))] := by
  unfold plc
  refine pureVg [1] ok56 rfl ?_; unfold c56
  (repeat first | simp only [go_sem, ↓reduceIte, Nat.reduceEqDiff, Nat.reduceAdd, reduceCtorEq] | with_reducible refine V_W ?_ | (with_reducible refine And.intro ?_ ?_; focus first | assumption | omega | decide | grind) | (with_reducible refine Br.mk ?_ ?_; focus (intros; omega)) | decide)
  refine V_loop (α := Nat) (S := fun k => ([(1, i64 i), (2, .ref 0 0), (5, .sl 1 1 0 (plcN R i k).length), (6, i64 k)], [some [i64 r, ints R, mat B], some (intsC (plcN R i k))])) (C := fun k => k ≤ R.length) (μ := fun k => R.length - k) 0 (by omega) (Ref.to (by simp [intsC, plcN]) (by simp [sub, fget, plcN])) ?_
  intro k hk
  have hln := plcN_len R i k
  have hst := plcN_succ R i k
  generalize hL : plcN R i k = L at hln hst ⊢
  (repeat first | simp only [go_sem, ↓reduceIte, Nat.reduceEqDiff, Nat.reduceAdd, reduceCtorEq] | with_reducible refine V_W ?_ | (with_reducible refine And.intro ?_ ?_; focus first | assumption | omega | decide | grind) | (with_reducible refine Br.mk ?_ ?_; focus (intros; omega)) | decide)
  refine ⟨fun hc => ?_, fun hc => ?_⟩
  · (repeat first | simp only [go_sem, ↓reduceIte, Nat.reduceEqDiff, Nat.reduceAdd, reduceCtorEq] | with_reducible refine V_W ?_ | (with_reducible refine And.intro ?_ ?_; focus first | assumption | omega | decide | grind) | (with_reducible refine Br.mk ?_ ?_; focus (intros; omega)) | decide)
    refine ⟨fun hc2 => ?_, fun hc2 => ?_⟩
    · rw [if_pos hc2] at hst
      (repeat first | simp only [go_sem, ↓reduceIte, Nat.reduceEqDiff, Nat.reduceAdd, reduceCtorEq] | with_reducible refine V_W ?_ | (with_reducible refine And.intro ?_ ?_; focus first | assumption | omega | decide | grind) | (with_reducible refine Br.mk ?_ ?_; focus (intros; omega)) | decide)
      refine ⟨k + 1, by omega, by omega, ?_⟩
      rw [hst]
      refine Ref.gc [0, 3] rfl ?_ (by simp [sub, fget, go_sem, ↓reduceIte, Nat.reduceEqDiff, Nat.reduceAdd, reduceCtorEq])
      (try simp only [go_sem, ↓reduceIte, Nat.reduceEqDiff, Nat.reduceAdd, reduceCtorEq, take_len, one_intsC, app_intsC])
    · rw [if_neg hc2] at hst
      (repeat first | simp only [go_sem, ↓reduceIte, Nat.reduceEqDiff, Nat.reduceAdd, reduceCtorEq] | with_reducible refine V_W ?_ | (with_reducible refine And.intro ?_ ?_; focus first | assumption | omega | decide | grind) | (with_reducible refine Br.mk ?_ ?_; focus (intros; omega)) | decide)
      refine ⟨k + 1, by omega, by omega, ?_⟩
      rw [hst]
      exact Ref.frame (by simp [sub, fget])
  · obtain rfl : k = R.length := by omega
    subst hL
    (repeat first | simp only [go_sem, ↓reduceIte, Nat.reduceEqDiff, Nat.reduceAdd, reduceCtorEq] | with_reducible refine V_W ?_ | (with_reducible refine And.intro ?_ ?_; focus first | assumption | omega | decide | grind) | (with_reducible refine Br.mk ?_ ?_; focus (intros; omega)) | decide)
    (try simp only [go_sem, ↓reduceIte, Nat.reduceEqDiff, Nat.reduceAdd, reduceCtorEq, and_self])

theorem placesOf_p (R : List Int) (i : Int) (h1 : R.length ≤ 1048576) : Pure Try.prog 81 [ints R, i64 i] (.sl 0 1 0 (plc R i).length) [some (intsC (plc R i))] := by
  unfold plc
  refine pureVg [0] ok81 rfl ?_; unfold c81
  (repeat first | simp only [go_sem, ↓reduceIte, Nat.reduceEqDiff, Nat.reduceAdd, reduceCtorEq] | with_reducible refine V_W ?_ | (with_reducible refine And.intro ?_ ?_; focus first | assumption | omega | decide | grind) | (with_reducible refine Br.mk ?_ ?_; focus (intros; omega)) | decide)
  refine V_loop (α := Nat) (S := fun k => ([(1, i64 i), (5, .sl 0 1 0 (plcN R i k).length), (8, ints R), (9, i64 R.length), (10, i64 k)], [some (intsC (plcN R i k))])) (C := fun k => k ≤ R.length) (μ := fun k => R.length - k) 0 (by omega) ((Ref.nil 5 1 rfl).trans (Ref.to (by simp [intsC, plcN]) (by simp [sub, fget, plcN]))) ?_
  intro k hk
  have hln := plcN_len R i k
  have hst := plcN_succ R i k
  generalize hL : plcN R i k = L at hln hst ⊢
  (repeat first | simp only [go_sem, ↓reduceIte, Nat.reduceEqDiff, Nat.reduceAdd, reduceCtorEq] | with_reducible refine V_W ?_ | (with_reducible refine And.intro ?_ ?_; focus first | assumption | omega | decide | grind) | (with_reducible refine Br.mk ?_ ?_; focus (intros; omega)) | decide)
  refine ⟨fun hc => ?_, fun hc => ?_⟩
  · (repeat first | simp only [go_sem, ↓reduceIte, Nat.reduceEqDiff, Nat.reduceAdd, reduceCtorEq] | with_reducible refine V_W ?_ | (with_reducible refine And.intro ?_ ?_; focus first | assumption | omega | decide | grind) | (with_reducible refine Br.mk ?_ ?_; focus (intros; omega)) | decide)
    refine ⟨fun hc2 => ?_, fun hc2 => ?_⟩
    · rw [if_pos (by first | exact hc2 | exact hc2.symm)] at hst
      (repeat first | simp only [go_sem, ↓reduceIte, Nat.reduceEqDiff, Nat.reduceAdd, reduceCtorEq] | with_reducible refine V_W ?_ | (with_reducible refine And.intro ?_ ?_; focus first | assumption | omega | decide | grind) | (with_reducible refine Br.mk ?_ ?_; focus (intros; omega)) | decide)
      refine ⟨k + 1, by omega, by omega, ?_⟩
      rw [hst]
      refine Ref.gc [2] rfl ?_ (by simp [sub, fget, go_sem, ↓reduceIte, Nat.reduceEqDiff, Nat.reduceAdd, reduceCtorEq])
      (try simp only [go_sem, ↓reduceIte, Nat.reduceEqDiff, Nat.reduceAdd, reduceCtorEq, take_len, one_intsC, app_intsC])
    · rw [if_neg (by first | exact hc2 | exact fun h => hc2 h.symm)] at hst
      (repeat first | simp only [go_sem, ↓reduceIte, Nat.reduceEqDiff, Nat.reduceAdd, reduceCtorEq] | with_reducible refine V_W ?_ | (with_reducible refine And.intro ?_ ?_; focus first | assumption | omega | decide | grind) | (with_reducible refine Br.mk ?_ ?_; focus (intros; omega)) | decide)
      refine ⟨k + 1, by omega, by omega, ?_⟩
      rw [hst]
      exact Ref.frame (by simp [sub, fget])
  · obtain rfl : k = R.length := by omega
    subst hL
    (repeat first | simp only [go_sem, ↓reduceIte, Nat.reduceEqDiff, Nat.reduceAdd, reduceCtorEq] | with_reducible refine V_W ?_ | (with_reducible refine And.intro ?_ ?_; focus first | assumption | omega | decide | grind) | (with_reducible refine Br.mk ?_ ?_; focus (intros; omega)) | decide)
    (try simp only [go_sem, ↓reduceIte, Nat.reduceEqDiff, Nat.reduceAdd, reduceCtorEq, and_self])
end Go.Proofs.Ytmiapnfhlhgefaa
set_option maxRecDepth 100000
namespace Go.Proofs.Ytmiapnfhlhgefaa
open Go.Gov
open Classical

abbrev Pr := List Int × List Int
def P0 : Pr := ([], [])
def flP : List Pr → List (List Int)
  | [] => []
  | p :: l => p.1 :: p.2 :: flP l
theorem flP_len : ∀ P : List Pr, (flP P).length = P.length * 2
  | [] => rfl
  | p :: l => by rw [flP, List.length_cons, List.length_cons, flP_len l, List.length_cons]; omega
theorem flP_at0 : ∀ (l : List Pr) (i : Nat), (flP l).getD (i * 2) [] = (l.getD i P0).1
  | [], i => by simp [flP, P0]
  | p :: l, 0 => rfl
  | p :: l, i + 1 => by
    rw [show (i + 1) * 2 = i * 2 + 1 + 1 by omega, flP, List.getD_cons_succ, List.getD_cons_succ, flP_at0 l i, List.getD_cons_succ]
theorem flP_at1 : ∀ (l : List Pr) (i : Nat), (flP l).getD (i * 2 + 1) [] = (l.getD i P0).2
  | [], i => by simp [flP, P0]
  | p :: l, 0 => rfl
  | p :: l, i + 1 => by
    rw [show (i + 1) * 2 + 1 = (i * 2 + 1) + 1 + 1 by omega, flP, List.getD_cons_succ, List.getD_cons_succ, flP_at1 l i, List.getD_cons_succ]
theorem flP_app : ∀ (P : List Pr) (p : Pr), flP (P ++ [p]) = flP P ++ [p.1, p.2]
  | [], p => rfl
  | q :: l, p => by rw [List.cons_append, flP, flP, flP_app l p]; rfl
abbrev pvs (P : List Pr) : AV := .slc 2 P.length ((flP P).map ints)
theorem take_flP (P : List Pr) : ((flP P).map oints).take (P.length * 2) = (flP P).map oints := List.take_of_length_le (by rw [List.length_map, flP_len]; exact Nat.le_refl _)
theorem getD_pr (P : List Pr) (i : Nat) (h : i < P.length) : P.getD i P0 ∈ P := by
  rw [show P.getD i P0 = P[i] by simp [h]]; exact List.getElem_mem h
attribute [go_sem] take_flP flP_at0 flP_at1 flP_len

/-- Elements of a poset of at most 500. -/
def inB (c : List Int) : Prop := ∀ e ∈ c, 0 ≤ e ∧ e < 500
theorem len_500 {c : List Int} (h : sst c) (hb : inB c) : c.length ≤ 500 := by
  have hg : ∀ k, k < c.length → c.getD k 0 ∈ c := fun k hk => by rw [getD_el c k hk]; exact List.getElem_mem hk
  have h2 := sst_ge h (fun k hk => (hb _ (hg k hk)).1)
  rcases Nat.eq_zero_or_pos c.length with h0 | h0
  · omega
  · have h3 := h2 (c.length - 1) (by omega)
    have h4 := (hb _ (hg (c.length - 1) (by omega))).2
    omega
theorem inB_sum {a b : List Int} (ha : sst a) (hb : sst b) (h1 : inB a) (h2 : inB b) : inB (sumL a b) := fun e he => by
  have h := (mem_sum ha hb e).1 he
  by_cases h6 : e ∈ a
  · exact h1 e h6
  · by_cases h7 : e ∈ b
    · exact h2 e h7
    · exact absurd (iff_of_false h6 h7) h
theorem head_at {c : List Int} (h : 0 < c.length) : c.head? = some (c.getD 0 0) := by
  cases c with
  | nil => simp at h
  | cons x l => rfl
def hdM (D : List Int) : Nat := match D.head? with
  | none => 0
  | some d => (501 - d).toNat
theorem hdM_lt {a b : List Int} (ha : sst a) (hb : sst b) (ia : inB a) (ib : inB b) (h1 : 0 < a.length) (h2 : 0 < b.length) (h : b.getD 0 0 = a.getD 0 0) : hdM (sumL a b) < hdM a := by
  have hA : hdM a = (501 - a.getD 0 0).toNat := by unfold hdM; rw [head_at h1]
  have hmem : a.getD 0 0 ∈ a := by rw [getD_el a 0 h1]; exact List.getElem_mem h1
  have hr := ia _ hmem
  rw [hA]
  unfold hdM
  cases hs : (sumL a b).head? with
  | none => dsimp only; omega
  | some d =>
    dsimp only
    have hd : d ∈ sumL a b := List.mem_of_mem_head? hs
    have hm := (mem_sum ha hb d).1 hd
    have hge : ∀ (c : List Int), sst c → ∀ (h0 : 0 < c.length), d ∈ c → c.getD 0 0 ≤ d := fun c hc h0 hdc => by
      obtain ⟨j, hj, hje⟩ := List.mem_iff_getElem.1 hdc
      rcases Nat.eq_zero_or_pos j with h | h
      · subst h; rw [getD_el c 0 h0]; omega
      · have := List.pairwise_iff_getElem.1 hc 0 j h0 hj h
        rw [getD_el c 0 h0]; omega
    have hne : d ≠ a.getD 0 0 := fun e => by
      have h7 : b.getD 0 0 ∈ b := by rw [getD_el b 0 h2]; exact List.getElem_mem h2
      exact hm (iff_of_true (e ▸ hmem) (by rw [e, ← h]; exact h7))
    by_cases h6 : d ∈ a
    · have := hge a ha h1 h6; omega
    · by_cases h7 : d ∈ b
      · have := hge b hb h2 h7; omega
      · exact absurd (iff_of_false h6 h7) hm

def PvOk (P : List Pr) : Prop := ∀ p ∈ P, sst p.1 ∧ sst p.2 ∧ p.2 ≠ [] ∧ inB p.1 ∧ inB p.2
/-- What the reduction gives. -/
def RedE (ld : List Int → Option Int) (P : List Pr) (x y : Pr) : Prop := Adds P x y ∧ Done ld P y ∧ sst y.1 ∧ sst y.2 ∧ inB y.1 ∧ inB y.2

set_option maxHeartbeats 2000000 in
theorem l16Reduce_w (P : List Pr) (C0 D0 : List Int) (hP : P.length ≤ 500) (hok : PvOk P) (hC : sst C0) (hD : sst D0) (bC : inB C0) (bD : inB D0) :
    WriE Try.prog 61 [pvs P, .agg [.sl 0 1 0 C0.length, .sl 1 1 0 D0.length]] [some (intsC C0), some (intsC D0)] (RedE List.head? P (C0, D0)) (fun y => .agg [.sl 2 1 0 y.1.length, .sl 3 1 0 y.2.length]) (fun y => [none, none, some (intsC y.1), some (intsC y.2)]) := by
  refine wriEV [0, 1, 4, 5] ok61 rfl ?_; unfold c61
  (repeat first | simp only [go_sem, ↓reduceIte, Nat.reduceEqDiff, Nat.reduceAdd, reduceCtorEq] | with_reducible refine V_W ?_ | (with_reducible refine And.intro ?_ ?_; focus first | assumption | omega | decide | grind) | (with_reducible refine Br.mk ?_ ?_; focus (intros; omega)) | decide)
  refine V_loop (α := Nat × Pr) (S := fun p => ([(0, pvs P), (3, .ref 2 0), (4, .ref 3 0), (5, i64 p.1)], [none, none, some [.sl 4 1 0 p.2.1.length, .sl 5 1 0 p.2.2.length], some [nilS, nilS], some (intsC p.2.1), some (intsC p.2.2)])) (C := fun p => p.1 ≤ P.length ∧ Adds P (C0, D0) p.2 ∧ sst p.2.1 ∧ sst p.2.2 ∧ inB p.2.1 ∧ inB p.2.2 ∧ ∀ j, j < p.1 → (P.getD j P0).2.head? ≠ p.2.2.head?) (μ := fun p => hdM p.2.2 * (P.length + 1) + (P.length - p.1)) (0, C0, D0) ⟨Nat.zero_le _, .refl _, hC, hD, bC, bD, fun j hj => by omega⟩ ?_ ?_
  · refine (Ref.mv 0 (cs := intsC C0) rfl (F' := [(0, pvs P), (3, .ref 2 0), (4, .ref 3 0), (5, i64 0)]) (H' := [none, some (intsC D0), some [.sl 4 1 0 C0.length, .sl 1 1 0 D0.length], some [nilS, nilS], some (intsC C0)]) (by simp only [go_sem, ↓reduceIte, Nat.reduceEqDiff, Nat.reduceAdd, reduceCtorEq]) (by simp [sub, fget, go_sem, ↓reduceIte, Nat.reduceEqDiff, Nat.reduceAdd, reduceCtorEq])).trans ?_
    refine (Ref.mv 1 (cs := intsC D0) rfl (F' := [(0, pvs P), (3, .ref 2 0), (4, .ref 3 0), (5, i64 0)]) (H' := [none, none, some [.sl 4 1 0 C0.length, .sl 5 1 0 D0.length], some [nilS, nilS], some (intsC C0), some (intsC D0)]) (by simp only [go_sem, ↓reduceIte, Nat.reduceEqDiff, Nat.reduceAdd, reduceCtorEq]) (by simp [sub, fget, go_sem, ↓reduceIte, Nat.reduceEqDiff, Nat.reduceAdd, reduceCtorEq])).trans ?_
    exact Ref.to rfl (by simp [sub, fget])
  rintro ⟨i, C, D⟩ ⟨hi, hA, sC, sD, bC', bD', hall⟩
  dsimp only at hi hA sC sD bC' bD' hall ⊢
  have lC := len_500 sC bC'
  have lD := len_500 sD bD'
  (repeat first | simp only [go_sem, ↓reduceIte, Nat.reduceEqDiff, Nat.reduceAdd, reduceCtorEq] | with_reducible refine V_W ?_ | (with_reducible refine And.intro ?_ ?_; focus first | assumption | omega | decide | grind) | (with_reducible refine Br.mk ?_ ?_; focus (intros; omega)) | decide)
  refine ⟨fun hc => ?_, fun hc => ?_⟩
  · have hi' : i < P.length := by omega
    have hp := hok _ (getD_pr P i hi')
    have hp2 : 0 < (P.getD i P0).2.length := List.length_pos_iff.2 hp.2.2.1
    have l1 := len_500 hp.1 hp.2.2.2.1
    have l2 := len_500 hp.2.1 hp.2.2.2.2
    have hD1 := head_at (c := D) (by omega)
    have hp1 := head_at hp2
    (repeat first | simp only [go_sem, ↓reduceIte, Nat.reduceEqDiff, Nat.reduceAdd, reduceCtorEq] | with_reducible refine V_W ?_ | (with_reducible refine And.intro ?_ ?_; focus first | assumption | omega | decide | grind) | (with_reducible refine Br.mk ?_ ?_; focus (intros; omega)) | decide)
    refine ⟨fun hc2 => ?_, fun hc2 => ?_⟩
    · (repeat first | simp only [go_sem, ↓reduceIte, Nat.reduceEqDiff, Nat.reduceAdd, reduceCtorEq] | with_reducible refine V_W ?_ | (with_reducible refine And.intro ?_ ?_; focus first | assumption | omega | decide | grind) | (with_reducible refine Br.mk ?_ ?_; focus (intros; omega)) | decide)
      refine pureC (l16Sum_p C (P.getD i P0).1 (by omega) (by omega)) (by simp only [go_sem, ↓reduceIte, Nat.reduceEqDiff, Nat.reduceAdd, reduceCtorEq] <;> rfl) (by first | rfl | simp only [go_sem, ↓reduceIte, Nat.reduceEqDiff, Nat.reduceAdd, reduceCtorEq]) ?_
      (repeat first | simp only [go_sem, ↓reduceIte, Nat.reduceEqDiff, Nat.reduceAdd, reduceCtorEq] | with_reducible refine V_W ?_ | (with_reducible refine And.intro ?_ ?_; focus first | assumption | omega | decide | grind) | (with_reducible refine Br.mk ?_ ?_; focus (intros; omega)) | decide)
      refine pureC (l16Sum_p D (P.getD i P0).2 (by omega) (by omega)) (by simp only [go_sem, ↓reduceIte, Nat.reduceEqDiff, Nat.reduceAdd, reduceCtorEq] <;> rfl) (by first | rfl | simp only [go_sem, ↓reduceIte, Nat.reduceEqDiff, Nat.reduceAdd, reduceCtorEq]) ?_
      (repeat first | simp only [go_sem, ↓reduceIte, Nat.reduceEqDiff, Nat.reduceAdd, reduceCtorEq] | with_reducible refine V_W ?_ | (with_reducible refine And.intro ?_ ?_; focus first | assumption | omega | decide | grind) | (with_reducible refine Br.mk ?_ ?_; focus (intros; omega)) | decide)
      have hm := hdM_lt sD hp.2.1 bD' hp.2.2.2.2 (by omega) hp2 hc2
      refine ⟨(0, sumL C (P.getD i P0).1, sumL D (P.getD i P0).2), ⟨Nat.zero_le _, hA.step (getD_pr P i hi'), sum_sst sC hp.1, sum_sst sD hp.2.1, inB_sum sC hp.1 bC' hp.2.2.2.1, inB_sum sD hp.2.1 bD' hp.2.2.2.2, fun j hj => by omega⟩, ?_, ?_⟩
      · dsimp only
        have h9 : (hdM (sumL D (P.getD i P0).2) + 1) * (P.length + 1) ≤ hdM D * (P.length + 1) := Nat.mul_le_mul_right _ hm
        rw [Nat.add_mul] at h9
        omega
      · exact Ref.gc [0, 1, 2, 3, 6, 7] rfl (by simp only [go_sem, ↓reduceIte, Nat.reduceEqDiff, Nat.reduceAdd, reduceCtorEq]) (by simp [sub, fget, go_sem, ↓reduceIte, Nat.reduceEqDiff, Nat.reduceAdd, reduceCtorEq])
    · (repeat first | simp only [go_sem, ↓reduceIte, Nat.reduceEqDiff, Nat.reduceAdd, reduceCtorEq] | with_reducible refine V_W ?_ | (with_reducible refine And.intro ?_ ?_; focus first | assumption | omega | decide | grind) | (with_reducible refine Br.mk ?_ ?_; focus (intros; omega)) | decide)
      refine ⟨(i + 1, C, D), ⟨hi', hA, sC, sD, bC', bD', fun j hj => ?_⟩, by dsimp only; omega, by exact Ref.frame (by simp [sub, fget])⟩
      rcases Nat.lt_or_ge j i with h | h
      · exact hall j h
      · obtain rfl : j = i := by omega
        dsimp only
        rw [hp1, hD1]
        exact fun h => hc2 (Option.some.inj h)
  · have hdone : Done List.head? P (C, D) := by
      rcases Nat.eq_zero_or_pos D.length with h | h
      · exact .inl (List.eq_nil_of_length_eq_zero h)
      · refine .inr fun p hp => ?_
        obtain ⟨j, hj, rfl⟩ := List.mem_iff_getElem.1 hp
        have := hall j (by omega)
        rwa [show P.getD j P0 = P[j] by simp [hj]] at this
    (repeat first | simp only [go_sem, ↓reduceIte, Nat.reduceEqDiff, Nat.reduceAdd, reduceCtorEq] | with_reducible refine V_W ?_ | (with_reducible refine And.intro ?_ ?_; focus first | assumption | omega | decide | grind) | (with_reducible refine Br.mk ?_ ?_; focus (intros; omega)) | decide)
    exact ⟨(C, D), ⟨hA, hdone, sC, sD, bC', bD'⟩, rfl, rfl⟩

set_option maxHeartbeats 2000000 in
theorem l16Reduce_e (P : List Pr) (D0 : List Int) (hP : P.length ≤ 500) (hok : PvOk P) (hD : sst D0) (bD : inB D0) :
    PureE Try.prog 61 [pvs P, .agg [nilS, ints D0]] (RedE List.head? P ([], D0)) (fun y => .agg [.sl 0 1 0 y.1.length, ints y.2]) (fun y => [some (intsC y.1)]) := by
  refine pureEV [2] ok61 rfl ?_; unfold c61
  (repeat first | simp only [go_sem, ↓reduceIte, Nat.reduceEqDiff, Nat.reduceAdd, reduceCtorEq] | with_reducible refine V_W ?_ | (with_reducible refine And.intro ?_ ?_; focus first | assumption | omega | decide | grind) | (with_reducible refine Br.mk ?_ ?_; focus (intros; omega)) | decide)
  refine V_loop (α := Nat × Pr) (S := fun p => ([(0, pvs P), (3, .ref 0 0), (4, .ref 1 0), (5, i64 p.1)], [some [.sl 2 1 0 p.2.1.length, ints p.2.2], some [nilS, nilS], some (intsC p.2.1)])) (C := fun p => p.1 ≤ P.length ∧ Adds P ([], D0) p.2 ∧ sst p.2.1 ∧ sst p.2.2 ∧ inB p.2.1 ∧ inB p.2.2 ∧ ∀ j, j < p.1 → (P.getD j P0).2.head? ≠ p.2.2.head?) (μ := fun p => hdM p.2.2 * (P.length + 1) + (P.length - p.1)) (0, [], D0) ⟨Nat.zero_le _, .refl _, sst_nil, hD, (fun e he => by simp at he), bD, fun j hj => by omega⟩ ?_ ?_
  · refine (Ref.nilC 0 0 1 (cs := [nilS, ints D0]) rfl rfl).trans ?_
    exact Ref.to rfl (by simp [sub, fget])
  rintro ⟨i, C, D⟩ ⟨hi, hA, sC, sD, bC', bD', hall⟩
  dsimp only at hi hA sC sD bC' bD' hall ⊢
  have lC := len_500 sC bC'
  have lD := len_500 sD bD'
  (repeat first | simp only [go_sem, ↓reduceIte, Nat.reduceEqDiff, Nat.reduceAdd, reduceCtorEq] | with_reducible refine V_W ?_ | (with_reducible refine And.intro ?_ ?_; focus first | assumption | omega | decide | grind) | (with_reducible refine Br.mk ?_ ?_; focus (intros; omega)) | decide)
  refine ⟨fun hc => ?_, fun hc => ?_⟩
  · have hi' : i < P.length := by omega
    have hp := hok _ (getD_pr P i hi')
    have hp2 : 0 < (P.getD i P0).2.length := List.length_pos_iff.2 hp.2.2.1
    have l1 := len_500 hp.1 hp.2.2.2.1
    have l2 := len_500 hp.2.1 hp.2.2.2.2
    have hD1 := head_at (c := D) (by omega)
    have hp1 := head_at hp2
    (repeat first | simp only [go_sem, ↓reduceIte, Nat.reduceEqDiff, Nat.reduceAdd, reduceCtorEq] | with_reducible refine V_W ?_ | (with_reducible refine And.intro ?_ ?_; focus first | assumption | omega | decide | grind) | (with_reducible refine Br.mk ?_ ?_; focus (intros; omega)) | decide)
    refine ⟨fun hc2 => ?_, fun hc2 => ?_⟩
    · (repeat first | simp only [go_sem, ↓reduceIte, Nat.reduceEqDiff, Nat.reduceAdd, reduceCtorEq] | with_reducible refine V_W ?_ | (with_reducible refine And.intro ?_ ?_; focus first | assumption | omega | decide | grind) | (with_reducible refine Br.mk ?_ ?_; focus (intros; omega)) | decide)
      refine pureC (l16Sum_p C (P.getD i P0).1 (by omega) (by omega)) (by simp only [go_sem, ↓reduceIte, Nat.reduceEqDiff, Nat.reduceAdd, reduceCtorEq] <;> rfl) (by first | rfl | simp only [go_sem, ↓reduceIte, Nat.reduceEqDiff, Nat.reduceAdd, reduceCtorEq]) ?_
      (repeat first | simp only [go_sem, ↓reduceIte, Nat.reduceEqDiff, Nat.reduceAdd, reduceCtorEq] | with_reducible refine V_W ?_ | (with_reducible refine And.intro ?_ ?_; focus first | assumption | omega | decide | grind) | (with_reducible refine Br.mk ?_ ?_; focus (intros; omega)) | decide)
      refine call_fresh (l16Sum_f D (P.getD i P0).2 (by omega) (by omega)) (by simp only [go_sem, ↓reduceIte, Nat.reduceEqDiff, Nat.reduceAdd, reduceCtorEq] <;> rfl) ?_
      (repeat first | simp only [go_sem, ↓reduceIte, Nat.reduceEqDiff, Nat.reduceAdd, reduceCtorEq] | with_reducible refine V_W ?_ | (with_reducible refine And.intro ?_ ?_; focus first | assumption | omega | decide | grind) | (with_reducible refine Br.mk ?_ ?_; focus (intros; omega)) | decide)
      have hm := hdM_lt sD hp.2.1 bD' hp.2.2.2.2 (by omega) hp2 hc2
      refine ⟨(0, sumL C (P.getD i P0).1, sumL D (P.getD i P0).2), ⟨Nat.zero_le _, hA.step (getD_pr P i hi'), sum_sst sC hp.1, sum_sst sD hp.2.1, inB_sum sC hp.1 bC' hp.2.2.2.1, inB_sum sD hp.2.1 bD' hp.2.2.2.2, fun j hj => by omega⟩, ?_, ?_⟩
      · dsimp only
        have h9 : (hdM (sumL D (P.getD i P0).2) + 1) * (P.length + 1) ≤ hdM D * (P.length + 1) := Nat.mul_le_mul_right _ hm
        rw [Nat.add_mul] at h9
        omega
      · exact Ref.gc [0, 1, 3] rfl (by simp only [go_sem, ↓reduceIte, Nat.reduceEqDiff, Nat.reduceAdd, reduceCtorEq]) (by simp [sub, fget, go_sem, ↓reduceIte, Nat.reduceEqDiff, Nat.reduceAdd, reduceCtorEq])
    · (repeat first | simp only [go_sem, ↓reduceIte, Nat.reduceEqDiff, Nat.reduceAdd, reduceCtorEq] | with_reducible refine V_W ?_ | (with_reducible refine And.intro ?_ ?_; focus first | assumption | omega | decide | grind) | (with_reducible refine Br.mk ?_ ?_; focus (intros; omega)) | decide)
      refine ⟨(i + 1, C, D), ⟨hi', hA, sC, sD, bC', bD', fun j hj => ?_⟩, by dsimp only; omega, by exact Ref.frame (by simp [sub, fget])⟩
      rcases Nat.lt_or_ge j i with h | h
      · exact hall j h
      · obtain rfl : j = i := by omega
        dsimp only
        rw [hp1, hD1]
        exact fun h => hc2 (Option.some.inj h)
  · have hdone : Done List.head? P (C, D) := by
      rcases Nat.eq_zero_or_pos D.length with h | h
      · exact .inl (List.eq_nil_of_length_eq_zero h)
      · refine .inr fun p hp => ?_
        obtain ⟨j, hj, rfl⟩ := List.mem_iff_getElem.1 hp
        have := hall j (by omega)
        rwa [show P.getD j P0 = P[j] by simp [hj]] at this
    (repeat first | simp only [go_sem, ↓reduceIte, Nat.reduceEqDiff, Nat.reduceAdd, reduceCtorEq] | with_reducible refine V_W ?_ | (with_reducible refine And.intro ?_ ?_; focus first | assumption | omega | decide | grind) | (with_reducible refine Br.mk ?_ ?_; focus (intros; omega)) | decide)
    exact ⟨(C, D), ⟨hA, hdone, sC, sD, bC', bD'⟩, rfl, rfl⟩
end Go.Proofs.Ytmiapnfhlhgefaa
set_option maxRecDepth 100000
namespace Go.Gov
variable {P : Program} {N : Nat} {F : Frame} {H : Heap} {M : List Nat} {n0 : Nat}
/-- All orders come to one state of a kind. -/
theorem V_altsE {α : Type} (C : α → Prop) (F1 : α → Frame) (H1 : α → Heap) {t : GT} {y : ACode} {Q : Exit → Frame → Heap → Prop} (hE : LT P false t (fun F' H' => ∃ o, C o ∧ Ref n0 F' H' (F1 o) (H1 o)) F H) (hy : ∀ o, C o → W P M N n0 y Q (F1 o) (H1 o)) : V P M N n0 (.alts t) (thenA (W P M N n0 y Q) Q) F H :=
  W_alts (EvT_mono (fun F' H' ⟨o, ho, h⟩ => W_ref h (hy o ho)) t false F H hE)
theorem V_altsEB {α : Type} (C : α → Prop) (F1 : α → Frame) (H1 : α → Heap) {t : GT} {y : ACode} {id : Nat} {Q Q' : Exit → Frame → Heap → Prop} (hE : LT P false t (fun F' H' => ∃ o, C o ∧ Ref n0 F' H' (F1 o) (H1 o)) F H) (hy : ∀ o, C o → W P M N n0 y Q (F1 o) (H1 o)) : V P M N n0 (.alts t) (blockA id (thenA (W P M N n0 y Q) Q')) F H :=
  W_alts (EvT_mono (fun F' H' ⟨o, ho, h⟩ => W_ref h (hy o ho)) t false F H hE)
/-- Two slices at a list's end are told as its own. -/
theorem Ref.close2 (o o2 o3 : Nat) {L cs2 cs3 : List AV} {n2 n3 : Nat} (ho : H[o]? = some (some (L ++ [.sl o2 1 0 n2, .sl o3 1 0 n3]))) (h2 : H[o2]? = some (some cs2)) (h3 : H[o3]? = some (some cs3)) (hne : o ≠ o2 ∧ o ≠ o3 ∧ o2 ≠ o3) (hl2 : cs2.length = n2) (hl3 : cs3.length = n3) :
    Ref n0 F H F (((H.set o (some (L ++ [.osl 1 n2 cs2, .osl 1 n3 cs3]))).set o2 none).set o3 none) := by
  have hol : o < H.length := (List.getElem?_eq_some_iff.1 ho).1
  have r1 := Ref.close (n0 := n0) (F := F) o L.length o2 (k := 1) (n := n2) ho (by simp) h2 hne.1 (by simpa using hl2)
  have e1 : (L ++ [AV.sl o2 1 0 n2, .sl o3 1 0 n3]).set L.length (.osl 1 n2 cs2) = L ++ [.osl 1 n2 cs2, .sl o3 1 0 n3] := by simp
  rw [e1] at r1
  have g1 : ((H.set o (some (L ++ [.osl 1 n2 cs2, .sl o3 1 0 n3]))).set o2 none)[o]? = some (some (L ++ [.osl 1 n2 cs2, .sl o3 1 0 n3])) := by
    rw [List.getElem?_set_ne (Ne.symm hne.1), List.getElem?_set_self hol]
  have g3 : ((H.set o (some (L ++ [.osl 1 n2 cs2, .sl o3 1 0 n3]))).set o2 none)[o3]? = some (some cs3) := by
    rw [List.getElem?_set_ne hne.2.2, List.getElem?_set_ne hne.2.1]; exact h3
  have r2 := Ref.close (n0 := n0) (F := F) o (L.length + 1) o3 (k := 1) (n := n3) g1 (by simp) g3 hne.2.1 (by simpa using hl3)
  have e2 : (L ++ [AV.osl 1 n2 cs2, .sl o3 1 0 n3]).set (L.length + 1) (.osl 1 n3 cs3) = L ++ [.osl 1 n2 cs2, .osl 1 n3 cs3] := by simp
  have e3 : ∀ x y : Option (List AV), ((H.set o x).set o2 none).set o y = (H.set o y).set o2 none := fun x y => by
    rw [List.set_comm _ _ (Ne.symm hne.1), List.set_set]
  rw [e2, e3] at r2
  exact r1.trans r2
end Go.Gov
namespace Go.Proofs.Ytmiapnfhlhgefaa
open Go.Gov
open Classical

theorem NR_len (f : Int → List Int) : ∀ es : List Int, (NR f es).length ≤ es.length
  | [] => by simp [NR]
  | e :: es => by
    have := NR_len f es
    unfold NR
    split
    · simp; omega
    · simpa using this
theorem blw_inB {r : Int} {R : List Int} {B : List (List Int)} (h : IsPos r R B) (e : Int) : inB (blw R B e) := fun x hx => by
  obtain ⟨k, hk, hkx⟩ := List.mem_iff_getElem.1 hx
  obtain ⟨_, _, a3, a4, _⟩ := h.rank
  by_cases he : e.toNat < B.length
  · have := blw_mem h e k hk he
    rw [getD_el _ k hk, hkx] at this
    omega
  · have : blw R B e = [] := by unfold blw; simp [he]
    rw [this] at hx
    simp at hx
theorem inB_one {r : Int} {R : List Int} {B : List (List Int)} (h : IsPos r R B) {e : Int} (h0 : 0 ≤ e) (h1 : e < R.length) : inB [e] := fun x hx => by
  obtain ⟨_, _, a3, _⟩ := h.rank
  rw [List.mem_singleton.1 hx]
  omega
theorem take_rev (es : List Int) (k : Nat) (h : k < es.length) : (es.take (k + 1)).reverse = es.getD k 0 :: (es.take k).reverse := by
  rw [List.take_succ_eq_append_getElem h, List.reverse_append, getD_el es k h]
  rfl

def SpPiv (R : List Int) (B : List (List Int)) (i : Int) (P : List Pr) : Prop := Piv List.head? (blw R B) (plc R i).reverse P ∧ PvOk P ∧ P.length ≤ 500

set_option maxHeartbeats 4000000 in
theorem l16Pivots_e (r : Int) (R : List Int) (B : List (List Int)) (i : Int) (hp : IsPos r R B) (hr : ∀ xs ∈ B, xs.length ≤ 1048576) :
    PureE Try.prog 58 [posetA r R B, i64 i] (SpPiv R B i) (fun P => .sl 0 2 0 P.length) (fun P => [some ((flP P).map oints)]) := by
  obtain ⟨a1, a2, a3, a4, a5⟩ := hp.rank
  obtain ⟨hok, hs⟩ := hp.rows
  have hR : ∀ x, x < R.length → 0 ≤ R.getD x 0 ∧ R.getD x 0 ≤ 1048576 := fun x hx => by
    have := a5 x hx
    omega
  have hel : (plc R i).length ≤ 500 := Nat.le_trans (plcN_len R i R.length) a3
  have hem : ∀ k, k < (plc R i).length → 0 ≤ (plc R i).getD k 0 ∧ (plc R i).getD k 0 < R.length := fun k hk => by
    have h1 : (plc R i).getD k 0 ∈ plc R i := by rw [getD_el _ k hk]; exact List.getElem_mem hk
    have h2 := mem_plcN.1 h1
    exact ⟨h2.1, h2.2.1⟩
  unfold SpPiv
  have hrank := l16Rank_p r R B i (by omega)
  generalize plc R i = es at hel hem hrank ⊢
  refine pureEV [2] ok58 rfl ?_; unfold c58
  (repeat first | simp only [go_sem, ↓reduceIte, Nat.reduceEqDiff, Nat.reduceAdd, reduceCtorEq] | with_reducible refine V_W ?_ | (with_reducible refine And.intro ?_ ?_; focus first | assumption | omega | decide | grind) | (with_reducible refine Br.mk ?_ ?_; focus (intros; omega)) | decide)
  refine pureC (hrank) (by simp only [go_sem, ↓reduceIte, Nat.reduceEqDiff, Nat.reduceAdd, reduceCtorEq] <;> rfl) (by first | rfl | simp only [go_sem, ↓reduceIte, Nat.reduceEqDiff, Nat.reduceAdd, reduceCtorEq]) ?_
  (repeat first | simp only [go_sem, ↓reduceIte, Nat.reduceEqDiff, Nat.reduceAdd, reduceCtorEq] | with_reducible refine V_W ?_ | (with_reducible refine And.intro ?_ ?_; focus first | assumption | omega | decide | grind) | (with_reducible refine Br.mk ?_ ?_; focus (intros; omega)) | decide)
  refine V_loop (α := Nat × List Pr) (S := fun p => ([(2, .ref 0 0), (5, .sl 1 1 0 es.length), (6, .sl 2 2 0 p.2.length), (7, i64 p.1)], [some [i64 r, ints R, mat B], some (intsC es), some ((flP p.2).map oints)])) (C := fun p => p.1 ≤ es.length ∧ Piv List.head? (blw R B) (es.take p.1).reverse p.2 ∧ PvOk p.2) (μ := fun p => es.length - p.1) (0, []) ⟨Nat.zero_le _, Piv.nil, fun p hp => by simp at hp⟩ (Ref.to (by simp [flP]) (by simp [sub, fget])) ?_
  rintro ⟨k, P⟩ ⟨hk, hP, hPo⟩
  dsimp only at hk hP hPo ⊢
  have hPl : P.length ≤ 500 := by
    have h1 := hP.len
    have h2 := NR_len (blw R B) (es.take k).reverse
    rw [List.length_reverse, List.length_take] at h2
    omega
  (repeat first | simp only [go_sem, ↓reduceIte, Nat.reduceEqDiff, Nat.reduceAdd, reduceCtorEq] | with_reducible refine V_W ?_ | (with_reducible refine And.intro ?_ ?_; focus first | assumption | omega | decide | grind) | (with_reducible refine Br.mk ?_ ?_; focus (intros; omega)) | decide)
  refine ⟨fun hc => ?_, fun hc => ?_⟩
  · have hk' : k < es.length := by omega
    obtain ⟨e1, e2⟩ := hem k hk'
    have hrw := l16Reduce_w P [es.getD k 0] (blw R B (es.getD k 0)) hPl hPo (sst_one _) (blw_sst hs _) (inB_one hp e1 e2) (blw_inB hp _)
    have hbl := l16Below_p r R B (es.getD k 0) (by omega) a4 hr hok hR e1 (by omega)
    have hb5 := rows_500 hp (es.getD k 0)
    (repeat first | simp only [go_sem, ↓reduceIte, Nat.reduceEqDiff, Nat.reduceAdd, reduceCtorEq] | with_reducible refine V_W ?_ | (with_reducible refine And.intro ?_ ?_; focus first | assumption | omega | decide | grind) | (with_reducible refine Br.mk ?_ ?_; focus (intros; omega)) | decide)
    refine V_altsE (RedE List.head? P ([es.getD k 0], blw R B (es.getD k 0))) (fun y => [(2, .ref 0 0), (5, .sl 1 1 0 es.length), (6, .sl 2 2 0 P.length), (7, i64 k), (8, .ref 5 0)]) (fun y => [some [i64 r, ints R, mat B], some (intsC es), some ((flP P).map oints), some (intsC y.1), some (intsC y.2), some [.sl 3 1 0 y.1.length, .sl 4 1 0 y.2.length]]) ?_ ?_
    · repeat' first
        | simp only [go_sem, ↓reduceIte, Nat.reduceEqDiff, Nat.reduceAdd, reduceCtorEq]
        | with_reducible refine LT_reg ?_
        | with_reducible refine LT_fin ?_
        | with_reducible exact LT_tt
        | with_reducible refine LT_alt ?_ ?_
        | (with_reducible refine And.intro ?_ ?_; focus first | assumption | omega | grind)
        | refine pureC (hbl) (by simp only [go_sem, ↓reduceIte, Nat.reduceEqDiff, Nat.reduceAdd, reduceCtorEq] <;> rfl) (by first | rfl | simp only [go_sem, ↓reduceIte, Nat.reduceEqDiff, Nat.reduceAdd, reduceCtorEq]) ?_
        | (refine wriEC (hrw) [3, 4] ?_ ?_ ?_ ?_ ?_; (focus first | rfl | simp); (focus (simp only [go_sem, ↓reduceIte, Nat.reduceEqDiff, Nat.reduceAdd, reduceCtorEq] <;> rfl)); (focus (simp only [go_sem, ↓reduceIte, Nat.reduceEqDiff, Nat.reduceAdd, reduceCtorEq] <;> rfl)); (focus (intro o; first | rfl | simp only [go_sem, ↓reduceIte, Nat.reduceEqDiff, Nat.reduceAdd, reduceCtorEq])); intro o ho)
        | (refine wriEC (hrw) [3, 5] ?_ ?_ ?_ ?_ ?_; (focus first | rfl | simp); (focus (simp only [go_sem, ↓reduceIte, Nat.reduceEqDiff, Nat.reduceAdd, reduceCtorEq] <;> rfl)); (focus (simp only [go_sem, ↓reduceIte, Nat.reduceEqDiff, Nat.reduceAdd, reduceCtorEq] <;> rfl)); (focus (intro o; first | rfl | simp only [go_sem, ↓reduceIte, Nat.reduceEqDiff, Nat.reduceAdd, reduceCtorEq])); intro o ho)
        | (refine wriEC (hrw) [4, 5] ?_ ?_ ?_ ?_ ?_; (focus first | rfl | simp); (focus (simp only [go_sem, ↓reduceIte, Nat.reduceEqDiff, Nat.reduceAdd, reduceCtorEq] <;> rfl)); (focus (simp only [go_sem, ↓reduceIte, Nat.reduceEqDiff, Nat.reduceAdd, reduceCtorEq] <;> rfl)); (focus (intro o; first | rfl | simp only [go_sem, ↓reduceIte, Nat.reduceEqDiff, Nat.reduceAdd, reduceCtorEq])); intro o ho)
        | (refine wriEC (hrw) [4, 3] ?_ ?_ ?_ ?_ ?_; (focus first | rfl | simp); (focus (simp only [go_sem, ↓reduceIte, Nat.reduceEqDiff, Nat.reduceAdd, reduceCtorEq] <;> rfl)); (focus (simp only [go_sem, ↓reduceIte, Nat.reduceEqDiff, Nat.reduceAdd, reduceCtorEq] <;> rfl)); (focus (intro o; first | rfl | simp only [go_sem, ↓reduceIte, Nat.reduceEqDiff, Nat.reduceAdd, reduceCtorEq])); intro o ho)
        | (refine wriEC (hrw) [5, 4] ?_ ?_ ?_ ?_ ?_; (focus first | rfl | simp); (focus (simp only [go_sem, ↓reduceIte, Nat.reduceEqDiff, Nat.reduceAdd, reduceCtorEq] <;> rfl)); (focus (simp only [go_sem, ↓reduceIte, Nat.reduceEqDiff, Nat.reduceAdd, reduceCtorEq] <;> rfl)); (focus (intro o; first | rfl | simp only [go_sem, ↓reduceIte, Nat.reduceEqDiff, Nat.reduceAdd, reduceCtorEq])); intro o ho)
        | (refine wriEC (hrw) [5, 3] ?_ ?_ ?_ ?_ ?_; (focus first | rfl | simp); (focus (simp only [go_sem, ↓reduceIte, Nat.reduceEqDiff, Nat.reduceAdd, reduceCtorEq] <;> rfl)); (focus (simp only [go_sem, ↓reduceIte, Nat.reduceEqDiff, Nat.reduceAdd, reduceCtorEq] <;> rfl)); (focus (intro o; first | rfl | simp only [go_sem, ↓reduceIte, Nat.reduceEqDiff, Nat.reduceAdd, reduceCtorEq])); intro o ho)
      all_goals (refine ⟨_, ho, ?_⟩; first
        | (refine Ref.gc [0, 1, 2, 5, 6, 7] rfl ?_ ?_ <;> first | (simp only [go_sem, ↓reduceIte, Nat.reduceEqDiff, Nat.reduceAdd, reduceCtorEq]; done) | (simp [sub, fget, go_sem, ↓reduceIte, Nat.reduceEqDiff, Nat.reduceAdd, reduceCtorEq]; done))
        | (refine Ref.gc [0, 1, 2, 6, 7, 5] rfl ?_ ?_ <;> first | (simp only [go_sem, ↓reduceIte, Nat.reduceEqDiff, Nat.reduceAdd, reduceCtorEq]; done) | (simp [sub, fget, go_sem, ↓reduceIte, Nat.reduceEqDiff, Nat.reduceAdd, reduceCtorEq]; done))
        | (refine Ref.gc [0, 1, 2, 6, 7, 4] rfl ?_ ?_ <;> first | (simp only [go_sem, ↓reduceIte, Nat.reduceEqDiff, Nat.reduceAdd, reduceCtorEq]; done) | (simp [sub, fget, go_sem, ↓reduceIte, Nat.reduceEqDiff, Nat.reduceAdd, reduceCtorEq]; done))
        | (refine Ref.gc [0, 1, 2, 6, 7, 3] rfl ?_ ?_ <;> first | (simp only [go_sem, ↓reduceIte, Nat.reduceEqDiff, Nat.reduceAdd, reduceCtorEq]; done) | (simp [sub, fget, go_sem, ↓reduceIte, Nat.reduceEqDiff, Nat.reduceAdd, reduceCtorEq]; done))
        | trace_state)
    rintro ⟨C, D⟩ ⟨hA, hdn, sC, sD, bC, bD⟩
    dsimp only at hdn sC sD bC bD ⊢
    have lC := len_500 sC bC
    have lD := len_500 sD bD
    have hnx := hP.next lead_head hA (blw_sst hs) hdn
    have htr := take_rev es k hk'
    (repeat first | simp only [go_sem, ↓reduceIte, Nat.reduceEqDiff, Nat.reduceAdd, reduceCtorEq] | with_reducible refine V_W ?_ | (with_reducible refine And.intro ?_ ?_; focus first | assumption | omega | decide | grind) | (with_reducible refine Br.mk ?_ ?_; focus (intros; omega)) | decide)
    refine ⟨fun hc2 => ?_, fun hc2 => ?_⟩
    · have hD0 : D ≠ [] := List.length_pos_iff.1 (by omega)
      (repeat first | simp only [go_sem, ↓reduceIte, Nat.reduceEqDiff, Nat.reduceAdd, reduceCtorEq] | with_reducible refine V_W ?_ | (with_reducible refine And.intro ?_ ?_; focus first | assumption | omega | decide | grind) | (with_reducible refine Br.mk ?_ ?_; focus (intros; omega)) | decide)
      refine ⟨(k + 1, P ++ [(C, D)]), ⟨hk', by rw [htr]; exact hnx.2 hD0, ?_⟩, by dsimp only; omega, ?_⟩
      · intro q hq
        rcases List.mem_append.1 hq with h | h
        · exact hPo q h
        · rw [List.mem_singleton.1 h]; exact ⟨sC, sD, hD0, bC, bD⟩
      · refine (Ref.close2 7 3 4 (L := (flP P).map oints) (cs2 := intsC C) (cs3 := intsC D) rfl rfl rfl (by omega) (len_intsC _) (len_intsC _)).trans ?_
        refine Ref.gc [0, 1, 7] rfl (by simp only [flP_app, List.map_append, List.map_cons, List.map_nil, List.set_cons_zero, List.set_cons_succ, go_sem, ↓reduceIte, Nat.reduceEqDiff, Nat.reduceAdd, reduceCtorEq]) (by simp [sub, fget, go_sem, ↓reduceIte, Nat.reduceEqDiff, Nat.reduceAdd, reduceCtorEq])
    · have hD0 : D = [] := List.eq_nil_of_length_eq_zero (by omega)
      (repeat first | simp only [go_sem, ↓reduceIte, Nat.reduceEqDiff, Nat.reduceAdd, reduceCtorEq] | with_reducible refine V_W ?_ | (with_reducible refine And.intro ?_ ?_; focus first | assumption | omega | decide | grind) | (with_reducible refine Br.mk ?_ ?_; focus (intros; omega)) | decide)
      refine ⟨(k + 1, P), ⟨hk', by rw [htr]; exact hnx.1 hD0, hPo⟩, by dsimp only; omega, ?_⟩
      exact Ref.gc [0, 1, 2] rfl (by simp only [go_sem, ↓reduceIte, Nat.reduceEqDiff, Nat.reduceAdd, reduceCtorEq]) (by simp [sub, fget, go_sem, ↓reduceIte, Nat.reduceEqDiff, Nat.reduceAdd, reduceCtorEq])
  · obtain rfl : k = es.length := by omega
    rw [List.take_length] at hP
    (repeat first | simp only [go_sem, ↓reduceIte, Nat.reduceEqDiff, Nat.reduceAdd, reduceCtorEq] | with_reducible refine V_W ?_ | (with_reducible refine And.intro ?_ ?_; focus first | assumption | omega | decide | grind) | (with_reducible refine Br.mk ?_ ?_; focus (intros; omega)) | decide)
    exact ⟨P, ⟨hP, hPo, hPl⟩, rfl, rfl⟩
end Go.Proofs.Ytmiapnfhlhgefaa
