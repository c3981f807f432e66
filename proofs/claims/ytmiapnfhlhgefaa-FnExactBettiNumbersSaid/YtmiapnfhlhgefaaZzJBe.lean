/- FnExactBettiNumbers: the given statement. -/
import Derived.Test.YtmiapnfhlhgefaaRows
import Derived.Lib.SmallJoins
import Derived.OpenShut
import Derived.Test.YtmiapnfhlhgefaaZp
import Derived.Test.YtmiapnfhlhgefaaZv
import Derived.Test.YtmiapnfhlhgefaaY4
set_option linter.unusedSimpArgs false
set_option linter.unusedVariables false
set_option maxRecDepth 100000
namespace Go.Proofs.Ytmiapnfhlhgefaa
open Go.Gov
open Classical

theorem specEv_c (r : Int) (R : List Int) (B : List (List Int)) (h1 : R.length ≤ 1048576) (hl : B.length ≤ 1048576) (hr : ∀ xs ∈ B, xs.length ≤ 1048576) : Pure Try.prog 15 [posetA r R B] (.tup [bl (if IsPos r R B then decide (IsEv R B) else false), i64 (if IsPos r R B then 0 else 1)]) [] := by
  refine pureV0 ok15 rfl rfl ?_; unfold c15
  (repeat first | simp only [go_sem, ↓reduceIte, Nat.reduceEqDiff, Nat.reduceAdd, reduceCtorEq] | with_reducible refine V_W ?_ | (with_reducible refine And.intro ?_ ?_; focus first | assumption | omega | decide | grind) | (with_reducible refine Br.mk ?_ ?_; focus (intros; omega)) | decide)
  refine pureC (l03Is_c r R B (by omega) (by omega) (fun xs hx => Nat.le_trans (hr xs hx) (by omega))) (by simp only [go_sem, ↓reduceIte, Nat.reduceEqDiff, Nat.reduceAdd, reduceCtorEq] <;> rfl) (by first | rfl | simp only [go_sem, ↓reduceIte, Nat.reduceEqDiff, Nat.reduceAdd, reduceCtorEq]) ?_
  (repeat first | simp only [go_sem, ↓reduceIte, Nat.reduceEqDiff, Nat.reduceAdd, reduceCtorEq] | with_reducible refine V_W ?_ | (with_reducible refine And.intro ?_ ?_; focus first | assumption | omega | decide | grind) | (with_reducible refine Br.mk ?_ ?_; focus (intros; omega)) | decide)
  refine ⟨fun hc => ?_, fun hc => ?_⟩
  · have hn : ¬ IsPos r R B := by simpa using hc
    simp only [if_neg hn]
    (repeat first | simp only [go_sem, ↓reduceIte, Nat.reduceEqDiff, Nat.reduceAdd, reduceCtorEq] | with_reducible refine V_W ?_ | (with_reducible refine And.intro ?_ ?_; focus first | assumption | omega | decide | grind) | (with_reducible refine Br.mk ?_ ?_; focus (intros; omega)) | decide)
  · have hp : IsPos r R B := by simpa using hc
    simp only [if_pos hp]
    (repeat first | simp only [go_sem, ↓reduceIte, Nat.reduceEqDiff, Nat.reduceAdd, reduceCtorEq] | with_reducible refine V_W ?_ | (with_reducible refine And.intro ?_ ?_; focus first | assumption | omega | decide | grind) | (with_reducible refine Br.mk ?_ ?_; focus (intros; omega)) | decide)
    refine pureC (l16Even_c r R B hp hr) (by simp only [go_sem, ↓reduceIte, Nat.reduceEqDiff, Nat.reduceAdd, reduceCtorEq] <;> rfl) (by first | rfl | simp only [go_sem, ↓reduceIte, Nat.reduceEqDiff, Nat.reduceAdd, reduceCtorEq]) ?_
    (repeat first | simp only [go_sem, ↓reduceIte, Nat.reduceEqDiff, Nat.reduceAdd, reduceCtorEq] | with_reducible refine V_W ?_ | (with_reducible refine And.intro ?_ ?_; focus first | assumption | omega | decide | grind) | (with_reducible refine Br.mk ?_ ?_; focus (intros; omega)) | decide)
theorem implEv_c (r : Int) (R : List Int) (B : List (List Int)) (h1 : R.length ≤ 1048576) (hl : B.length ≤ 1048576) (hr : ∀ xs ∈ B, xs.length ≤ 1048576) : Pure Try.prog 16 [posetA r R B] (.tup [bl (if IsPos r R B then decide (IsEv R B) else false), i64 (if IsPos r R B then 0 else 1)]) [] := by
  refine pureV0 ok16 rfl rfl ?_; unfold c16
  (repeat first | simp only [go_sem, ↓reduceIte, Nat.reduceEqDiff, Nat.reduceAdd, reduceCtorEq] | with_reducible refine V_W ?_ | (with_reducible refine And.intro ?_ ?_; focus first | assumption | omega | decide | grind) | (with_reducible refine Br.mk ?_ ?_; focus (intros; omega)) | decide)
  refine pureC (isPoset_c r R B (by omega) (by omega) (fun xs hx => Nat.le_trans (hr xs hx) (by omega))) (by simp only [go_sem, ↓reduceIte, Nat.reduceEqDiff, Nat.reduceAdd, reduceCtorEq] <;> rfl) (by first | rfl | simp only [go_sem, ↓reduceIte, Nat.reduceEqDiff, Nat.reduceAdd, reduceCtorEq]) ?_
  (repeat first | simp only [go_sem, ↓reduceIte, Nat.reduceEqDiff, Nat.reduceAdd, reduceCtorEq] | with_reducible refine V_W ?_ | (with_reducible refine And.intro ?_ ?_; focus first | assumption | omega | decide | grind) | (with_reducible refine Br.mk ?_ ?_; focus (intros; omega)) | decide)
  refine ⟨fun hc => ?_, fun hc => ?_⟩
  · have hn : ¬ IsPos r R B := by simpa using hc
    simp only [if_neg hn]
    (repeat first | simp only [go_sem, ↓reduceIte, Nat.reduceEqDiff, Nat.reduceAdd, reduceCtorEq] | with_reducible refine V_W ?_ | (with_reducible refine And.intro ?_ ?_; focus first | assumption | omega | decide | grind) | (with_reducible refine Br.mk ?_ ?_; focus (intros; omega)) | decide)
  · have hp : IsPos r R B := by simpa using hc
    simp only [if_pos hp]
    (repeat first | simp only [go_sem, ↓reduceIte, Nat.reduceEqDiff, Nat.reduceAdd, reduceCtorEq] | with_reducible refine V_W ?_ | (with_reducible refine And.intro ?_ ?_; focus first | assumption | omega | decide | grind) | (with_reducible refine Br.mk ?_ ?_; focus (intros; omega)) | decide)
    refine pureC (isEven_c r R B hp) (by simp only [go_sem, ↓reduceIte, Nat.reduceEqDiff, Nat.reduceAdd, reduceCtorEq] <;> rfl) (by first | rfl | simp only [go_sem, ↓reduceIte, Nat.reduceEqDiff, Nat.reduceAdd, reduceCtorEq]) ?_
    (repeat first | simp only [go_sem, ↓reduceIte, Nat.reduceEqDiff, Nat.reduceAdd, reduceCtorEq] | with_reducible refine V_W ?_ | (with_reducible refine And.intro ?_ ?_; focus first | assumption | omega | decide | grind) | (with_reducible refine Br.mk ?_ ?_; focus (intros; omega)) | decide)
end Go.Proofs.Ytmiapnfhlhgefaa
set_option maxRecDepth 100000
namespace Go.Proofs.Ytmiapnfhlhgefaa
open Go.Gov
open Classical

theorem plcN_count (R : List Int) (i : Int) : ∀ k, k ≤ R.length → (plcN R i k).length = (R.take k).count i
  | 0, _ => by simp [plcN]
  | k + 1, h => by
    have ih := plcN_count R i k (by omega)
    rw [plcN_succ, List.take_succ_eq_append_getElem (by omega), List.count_append, ← ih, getD_el R k (by omega)]
    by_cases e : R[k] = i
    · rw [if_pos e, e]; simp
    · rw [if_neg e, List.count_singleton, if_neg (by simpa using e)]; simp
theorem plc_count (R : List Int) (i : Int) : (plc R i).length = R.count i := by
  have := plcN_count R i R.length (by omega)
  rwa [List.take_length] at this

/-- The ranks, 0 at either end. -/
noncomputable def rkA (r : Int) (R : List Int) (B : List (List Int)) : List Int := rkL R B (r.toNat - 1) ++ [0]
theorem rkA_len {r : Int} {R : List Int} {B : List (List Int)} (h : 1 ≤ r) : (rkA r R B).length = r.toNat + 1 := by
  unfold rkA
  rw [List.length_append, rkL_len]
  simp; omega
theorem rkA_b {r : Int} {R : List Int} {B : List (List Int)} (h : IsPos r R B) (j : Nat) : 0 ≤ (rkA r R B).getD j 0 ∧ (rkA r R B).getD j 0 ≤ 500 := by
  by_cases hj : j < (rkA r R B).length
  · have hm : (rkA r R B).getD j 0 ∈ rkA r R B := by rw [getD_el _ j hj]; exact List.getElem_mem hj
    unfold rkA rkL brV at hm ⊢
    simp only [List.cons_append, List.mem_cons, List.mem_append, List.mem_map, List.mem_singleton, List.not_mem_nil, or_false] at hm
    rcases hm with hm | ⟨q, _, hm⟩ | hm
    · rw [List.cons_append, hm]; omega
    · rw [List.cons_append, ← hm]
      have := rkN_le h ((q : Int) + 1)
      omega
    · rw [List.cons_append, hm]; omega
  · rw [List.getD_eq_getElem?_getD, List.getElem?_eq_none (by omega)]
    simp
noncomputable def btN (r : Int) (R : List Int) (B : List (List Int)) (k : Nat) : List Int := (List.range k).map fun j : Nat => (R.count (j : Int) : Int) - (rkA r R B).getD j 0 - (rkA r R B).getD (j + 1) 0
theorem btN_len (r : Int) (R : List Int) (B : List (List Int)) (k : Nat) : (btN r R B k).length = k := by simp [btN]
theorem btN_succ (r : Int) (R : List Int) (B : List (List Int)) (k : Nat) : btN r R B (k + 1) = btN r R B k ++ [(R.count (k : Int) : Int) - (rkA r R B).getD k 0 - (rkA r R B).getD (k + 1) 0] := by simp [btN, List.range_succ]
noncomputable def beV (r : Int) (R : List Int) (B : List (List Int)) : List Int := if IsPos r R B ∧ IsEv R B then btN r R B r.toNat else []
noncomputable def beC (r : Int) (R : List Int) (B : List (List Int)) : Int := if IsPos r R B then if IsEv R B then 0 else 5 else 1
theorem beV_len (r : Int) (R : List Int) (B : List (List Int)) : (beV r R B).length ≤ 1048576 := by
  unfold beV
  split
  · rename_i hp
    obtain ⟨_, a2, _⟩ := hp.1.rank
    rw [btN_len]; omega
  · simp

set_option maxHeartbeats 2000000 in
theorem specBe_c (r : Int) (R : List Int) (B : List (List Int)) (h1 : R.length ≤ 1048576) (hl : B.length ≤ 1048576) (hr : ∀ xs ∈ B, xs.length ≤ 1048576) : Pure Try.prog 28 [posetA r R B] (.tup [.sl 0 1 0 (beV r R B).length, i64 (beC r R B)]) [some (intsC (beV r R B))] := by
  have gr : ∀ xs ∈ B, xs.length ≤ 1099511627776 := fun xs hx => by have := hr xs hx; omega
  unfold beV beC
  by_cases hp : IsPos r R B
  · have hpd : decide (IsPos r R B) = true := decide_eq_true hp
    by_cases he : IsEv R B
    · have hed : decide (IsEv R B) = true := decide_eq_true he
      rw [if_pos hp, if_pos he, if_pos ⟨hp, he⟩]
      obtain ⟨a1, a2, a3, a4, hrk⟩ := hp.rank
      have hrks := l16Ranks_p r R B hp hr
      have hLl := rkA_len (R := R) (B := B) a1
      have hLb := rkA_b hp
      have hst := btN_succ r R B
      have hbl := btN_len r R B
      change Gov.Pure _ _ _ (.sl 0 1 0 (rkA r R B).length) [some (intsC (rkA r R B))] at hrks
      have hb0 : btN r R B 0 = [] := rfl
      generalize btN r R B = T at hst hbl hb0 ⊢
      generalize rkA r R B = L0 at hrks hLl hLb hst
      refine pureVg [2] ok28 rfl ?_; unfold c28
      (repeat first | simp only [go_sem, ↓reduceIte, Nat.reduceEqDiff, Nat.reduceAdd, reduceCtorEq] | with_reducible refine V_W ?_ | (with_reducible refine And.intro ?_ ?_; focus first | assumption | omega | decide | grind) | (with_reducible refine Br.mk ?_ ?_; focus (intros; omega)) | decide)
      refine pureC (l03Is_c r R B (by omega) (by omega) gr) (by simp only [go_sem, ↓reduceIte, Nat.reduceEqDiff, Nat.reduceAdd, reduceCtorEq] <;> rfl) (by first | rfl | simp only [go_sem, ↓reduceIte, Nat.reduceEqDiff, Nat.reduceAdd, reduceCtorEq]) ?_
      simp only [hpd, go_sem, ↓reduceIte, Nat.reduceEqDiff, Nat.reduceAdd, reduceCtorEq]
      (repeat first | simp only [go_sem, ↓reduceIte, Nat.reduceEqDiff, Nat.reduceAdd, reduceCtorEq] | with_reducible refine V_W ?_ | (with_reducible refine And.intro ?_ ?_; focus first | assumption | omega | decide | grind) | (with_reducible refine Br.mk ?_ ?_; focus (intros; omega)) | decide)
      refine pureC (l16Even_c r R B hp hr) (by simp only [go_sem, ↓reduceIte, Nat.reduceEqDiff, Nat.reduceAdd, reduceCtorEq] <;> rfl) (by first | rfl | simp only [go_sem, ↓reduceIte, Nat.reduceEqDiff, Nat.reduceAdd, reduceCtorEq]) ?_
      simp only [hed, go_sem, ↓reduceIte, Nat.reduceEqDiff, Nat.reduceAdd, reduceCtorEq]
      (repeat first | simp only [go_sem, ↓reduceIte, Nat.reduceEqDiff, Nat.reduceAdd, reduceCtorEq] | with_reducible refine V_W ?_ | (with_reducible refine And.intro ?_ ?_; focus first | assumption | omega | decide | grind) | (with_reducible refine Br.mk ?_ ?_; focus (intros; omega)) | decide)
      refine pureC (hrks) (by simp only [go_sem, ↓reduceIte, Nat.reduceEqDiff, Nat.reduceAdd, reduceCtorEq] <;> rfl) (by first | rfl | simp only [go_sem, ↓reduceIte, Nat.reduceEqDiff, Nat.reduceAdd, reduceCtorEq]) ?_
      (repeat first | simp only [go_sem, ↓reduceIte, Nat.reduceEqDiff, Nat.reduceAdd, reduceCtorEq] | with_reducible refine V_W ?_ | (with_reducible refine And.intro ?_ ?_; focus first | assumption | omega | decide | grind) | (with_reducible refine Br.mk ?_ ?_; focus (intros; omega)) | decide)
      refine V_loop (α := Nat) (S := fun k => ([(1, .ref 0 0), (4, .sl 1 1 0 L0.length), (5, .sl 2 1 0 (T k).length), (6, i64 k)], [some [i64 r, ints R, mat B], some (intsC L0), some (intsC (T k))])) (C := fun k => k ≤ r.toNat) (μ := fun k => r.toNat - k) 0 (by omega) (Ref.to (by simp [hb0, intsC]) (by simp [sub, fget, hb0])) ?_
      intro k hk
      have hst' := hst k
      have hbl' := hbl k
      generalize hL : T k = X at hst' hbl' ⊢
      have b1 := hLb k
      have b2 := hLb (k + 1)
      have b3 : R.count (k : Int) ≤ R.length := List.count_le_length
      have b4 := plc_count R k
      (repeat first | simp only [go_sem, ↓reduceIte, Nat.reduceEqDiff, Nat.reduceAdd, reduceCtorEq] | with_reducible refine V_W ?_ | (with_reducible refine And.intro ?_ ?_; focus first | assumption | omega | decide | grind) | (with_reducible refine Br.mk ?_ ?_; focus (intros; omega)) | decide)
      refine ⟨fun hc => ?_, fun hc => ?_⟩
      · (repeat first | simp only [go_sem, ↓reduceIte, Nat.reduceEqDiff, Nat.reduceAdd, reduceCtorEq] | with_reducible refine V_W ?_ | (with_reducible refine And.intro ?_ ?_; focus first | assumption | omega | decide | grind) | (with_reducible refine Br.mk ?_ ?_; focus (intros; omega)) | decide)
        refine pureC (l16Rank_p r R B k (by omega)) (by simp only [go_sem, ↓reduceIte, Nat.reduceEqDiff, Nat.reduceAdd, reduceCtorEq] <;> rfl) (by first | rfl | simp only [go_sem, ↓reduceIte, Nat.reduceEqDiff, Nat.reduceAdd, reduceCtorEq]) ?_
        (repeat first | simp only [go_sem, ↓reduceIte, Nat.reduceEqDiff, Nat.reduceAdd, reduceCtorEq] | with_reducible refine V_W ?_ | (with_reducible refine And.intro ?_ ?_; focus first | assumption | omega | decide | grind) | (with_reducible refine Br.mk ?_ ?_; focus (intros; omega)) | decide)
        refine ⟨k + 1, by omega, by omega, ?_⟩
        rw [hst', b4]
        refine Ref.gc [0, 1, 5] rfl ?_ (by simp [sub, fget, go_sem, ↓reduceIte, Nat.reduceEqDiff, Nat.reduceAdd, reduceCtorEq])
        (try simp only [go_sem, ↓reduceIte, Nat.reduceEqDiff, Nat.reduceAdd, reduceCtorEq, take_len, one_intsC, app_intsC])
      · obtain rfl : k = r.toNat := by omega
        subst hL
        (repeat first | simp only [go_sem, ↓reduceIte, Nat.reduceEqDiff, Nat.reduceAdd, reduceCtorEq] | with_reducible refine V_W ?_ | (with_reducible refine And.intro ?_ ?_; focus first | assumption | omega | decide | grind) | (with_reducible refine Br.mk ?_ ?_; focus (intros; omega)) | decide)
        (try simp only [go_sem, ↓reduceIte, Nat.reduceEqDiff, Nat.reduceAdd, reduceCtorEq, and_self])
    · have hed : decide (IsEv R B) = false := decide_eq_false he
      rw [if_pos hp, if_neg he, if_neg (fun h => he h.2)]
      refine pure_nil 1 ?_
      refine pureV0 ok28 rfl rfl ?_; unfold c28
      (repeat first | simp only [go_sem, ↓reduceIte, Nat.reduceEqDiff, Nat.reduceAdd, reduceCtorEq] | with_reducible refine V_W ?_ | (with_reducible refine And.intro ?_ ?_; focus first | assumption | omega | decide | grind) | (with_reducible refine Br.mk ?_ ?_; focus (intros; omega)) | decide)
      refine pureC (l03Is_c r R B (by omega) (by omega) gr) (by simp only [go_sem, ↓reduceIte, Nat.reduceEqDiff, Nat.reduceAdd, reduceCtorEq] <;> rfl) (by first | rfl | simp only [go_sem, ↓reduceIte, Nat.reduceEqDiff, Nat.reduceAdd, reduceCtorEq]) ?_
      simp only [hpd, go_sem, ↓reduceIte, Nat.reduceEqDiff, Nat.reduceAdd, reduceCtorEq]
      (repeat first | simp only [go_sem, ↓reduceIte, Nat.reduceEqDiff, Nat.reduceAdd, reduceCtorEq] | with_reducible refine V_W ?_ | (with_reducible refine And.intro ?_ ?_; focus first | assumption | omega | decide | grind) | (with_reducible refine Br.mk ?_ ?_; focus (intros; omega)) | decide)
      refine pureC (l16Even_c r R B hp hr) (by simp only [go_sem, ↓reduceIte, Nat.reduceEqDiff, Nat.reduceAdd, reduceCtorEq] <;> rfl) (by first | rfl | simp only [go_sem, ↓reduceIte, Nat.reduceEqDiff, Nat.reduceAdd, reduceCtorEq]) ?_
      simp only [hed, go_sem, ↓reduceIte, Nat.reduceEqDiff, Nat.reduceAdd, reduceCtorEq]
      (repeat first | simp only [go_sem, ↓reduceIte, Nat.reduceEqDiff, Nat.reduceAdd, reduceCtorEq] | with_reducible refine V_W ?_ | (with_reducible refine And.intro ?_ ?_; focus first | assumption | omega | decide | grind) | (with_reducible refine Br.mk ?_ ?_; focus (intros; omega)) | decide)
  · rw [if_neg hp, if_neg (fun h => hp h.1)]
    refine pure_nil 1 ?_
    have hpd : decide (IsPos r R B) = false := decide_eq_false hp
    refine pureV0 ok28 rfl rfl ?_; unfold c28
    (repeat first | simp only [go_sem, ↓reduceIte, Nat.reduceEqDiff, Nat.reduceAdd, reduceCtorEq] | with_reducible refine V_W ?_ | (with_reducible refine And.intro ?_ ?_; focus first | assumption | omega | decide | grind) | (with_reducible refine Br.mk ?_ ?_; focus (intros; omega)) | decide)
    refine pureC (l03Is_c r R B (by omega) (by omega) gr) (by simp only [go_sem, ↓reduceIte, Nat.reduceEqDiff, Nat.reduceAdd, reduceCtorEq] <;> rfl) (by first | rfl | simp only [go_sem, ↓reduceIte, Nat.reduceEqDiff, Nat.reduceAdd, reduceCtorEq]) ?_
    simp only [hpd, go_sem, ↓reduceIte, Nat.reduceEqDiff, Nat.reduceAdd, reduceCtorEq]
    (repeat first | simp only [go_sem, ↓reduceIte, Nat.reduceEqDiff, Nat.reduceAdd, reduceCtorEq] | with_reducible refine V_W ?_ | (with_reducible refine And.intro ?_ ?_; focus first | assumption | omega | decide | grind) | (with_reducible refine Br.mk ?_ ?_; focus (intros; omega)) | decide)

theorem cntV_at {r : Int} {R : List Int} {k : Nat} (h : k < r.toNat) : (cntV r R).getD k 0 = (R.count (k : Int) : Int) := by
  unfold cntV
  rw [List.getD_eq_getElem?_getD, List.getElem?_map, List.getElem?_range h]
  rfl
theorem snoc_drop (T U : List Int) (k : Nat) (hT : T.length = k) (hk : k < U.length) : (T ++ U.drop k).length = U.length ∧ (T ++ U.drop k).getD k 0 = U.getD k 0 ∧ ∀ v, (T ++ U.drop k).set k v = T ++ [v] ++ U.drop (k + 1) := by
  refine ⟨by rw [List.length_append, List.length_drop]; omega, ?_, fun v => ?_⟩
  · rw [List.drop_eq_getElem_cons hk, List.getD_eq_getElem?_getD, List.getElem?_append_right (by omega), hT]
    simp [hk]
  · rw [List.set_append_right _ _ (by omega), hT, Nat.sub_self, List.drop_eq_getElem_cons hk, List.set_cons_zero, List.append_assoc, List.singleton_append]

set_option maxHeartbeats 4000000 in
theorem implBe_c (r : Int) (R : List Int) (B : List (List Int)) (h1 : R.length ≤ 1048576) (hl : B.length ≤ 1048576) (hr : ∀ xs ∈ B, xs.length ≤ 1048576) : Pure Try.prog 29 [posetA r R B] (.tup [.sl 0 1 0 (beV r R B).length, i64 (beC r R B)]) [some (intsC (beV r R B))] := by
  have gr : ∀ xs ∈ B, xs.length ≤ 1099511627776 := fun xs hx => by have := hr xs hx; omega
  unfold beV beC
  by_cases hp : IsPos r R B
  · have hpd : decide (IsPos r R B) = true := decide_eq_true hp
    by_cases he : IsEv R B
    · have hed : decide (IsEv R B) = true := decide_eq_true he
      rw [if_pos hp, if_pos he, if_pos ⟨hp, he⟩]
      obtain ⟨a1, a2, a3, a4, hrk⟩ := hp.rank
      have hrks := boundaryRanks_p r R B hp hr
      have hcts := counts_c r R B (by omega) (by omega) (by omega) hrk
      have hLl := rkA_len (R := R) (B := B) a1
      have hLb := rkA_b hp
      have hLe : [0] ++ brV R B (r.toNat - 1) ++ [0] = rkA r R B := rfl
      have hvl := brV_len R B (r.toNat - 1)
      have hst := btN_succ r R B
      have hbl := btN_len r R B
      have hb0 : btN r R B 0 = [] := rfl
      have hUl := cntV_len r R
      have hUa : ∀ k, k < r.toNat → (cntV r R).getD k 0 = (R.count (k : Int) : Int) := fun k hk => cntV_at hk
      generalize btN r R B = T at hst hbl hb0 ⊢
      generalize brV R B (r.toNat - 1) = V at hrks hLe hvl
      generalize rkA r R B = L0 at hLl hLb hst hLe
      generalize cntV r R = U at hcts hUl hUa
      refine pureVg [2] ok29 rfl ?_; unfold c29
      (repeat first | simp only [go_sem, ↓reduceIte, Nat.reduceEqDiff, Nat.reduceAdd, reduceCtorEq] | with_reducible refine V_W ?_ | (with_reducible refine And.intro ?_ ?_; focus first | assumption | omega | decide | grind) | (with_reducible refine Br.mk ?_ ?_; focus (intros; omega)) | decide)
      refine pureC (isPoset_c r R B (by omega) (by omega) gr) (by simp only [go_sem, ↓reduceIte, Nat.reduceEqDiff, Nat.reduceAdd, reduceCtorEq] <;> rfl) (by first | rfl | simp only [go_sem, ↓reduceIte, Nat.reduceEqDiff, Nat.reduceAdd, reduceCtorEq]) ?_
      simp only [hpd, go_sem, ↓reduceIte, Nat.reduceEqDiff, Nat.reduceAdd, reduceCtorEq]
      (repeat first | simp only [go_sem, ↓reduceIte, Nat.reduceEqDiff, Nat.reduceAdd, reduceCtorEq] | with_reducible refine V_W ?_ | (with_reducible refine And.intro ?_ ?_; focus first | assumption | omega | decide | grind) | (with_reducible refine Br.mk ?_ ?_; focus (intros; omega)) | decide)
      refine pureC (isEven_c r R B hp) (by simp only [go_sem, ↓reduceIte, Nat.reduceEqDiff, Nat.reduceAdd, reduceCtorEq] <;> rfl) (by first | rfl | simp only [go_sem, ↓reduceIte, Nat.reduceEqDiff, Nat.reduceAdd, reduceCtorEq]) ?_
      simp only [hed, go_sem, ↓reduceIte, Nat.reduceEqDiff, Nat.reduceAdd, reduceCtorEq]
      (repeat first | simp only [go_sem, ↓reduceIte, Nat.reduceEqDiff, Nat.reduceAdd, reduceCtorEq] | with_reducible refine V_W ?_ | (with_reducible refine And.intro ?_ ?_; focus first | assumption | omega | decide | grind) | (with_reducible refine Br.mk ?_ ?_; focus (intros; omega)) | decide)
      refine pureC (hrks) (by simp only [go_sem, ↓reduceIte, Nat.reduceEqDiff, Nat.reduceAdd, reduceCtorEq] <;> rfl) (by first | rfl | simp only [go_sem, ↓reduceIte, Nat.reduceEqDiff, Nat.reduceAdd, reduceCtorEq]) ?_
      (repeat first | simp only [go_sem, ↓reduceIte, Nat.reduceEqDiff, Nat.reduceAdd, reduceCtorEq] | with_reducible refine V_W ?_ | (with_reducible refine And.intro ?_ ?_; focus first | assumption | omega | decide | grind) | (with_reducible refine Br.mk ?_ ?_; focus (intros; omega)) | decide)
      refine pureC (hcts) (by simp only [go_sem, ↓reduceIte, Nat.reduceEqDiff, Nat.reduceAdd, reduceCtorEq] <;> rfl) (by first | rfl | simp only [go_sem, ↓reduceIte, Nat.reduceEqDiff, Nat.reduceAdd, reduceCtorEq]) ?_
      (repeat first | simp only [go_sem, ↓reduceIte, Nat.reduceEqDiff, Nat.reduceAdd, reduceCtorEq] | with_reducible refine V_W ?_ | (with_reducible refine And.intro ?_ ?_; focus first | assumption | omega | decide | grind) | (with_reducible refine Br.mk ?_ ?_; focus (intros; omega)) | decide)
      refine V_loop (α := Nat) (S := fun k => ([(4, .sl 1 1 0 L0.length), (5, .sl 2 1 0 U.length), (20, .sl 2 1 0 U.length), (21, i64 U.length), (22, i64 k)], [some [i64 r, ints R, mat B], some (intsC L0), some (intsC (T k ++ U.drop k))])) (C := fun k => k ≤ r.toNat) (μ := fun k => r.toNat - k) 0 (by omega) ?_ ?_
      · have hcell : List.take (1 + V.length) (AV.val (Value.int IntKind.i64 0) :: intsC V) ++ [AV.val (Value.int IntKind.i64 0)] = intsC L0 := by
          rw [List.take_of_length_le (by simp [intsC]; omega), ← hLe]
          simp [intsC]
        have hl0 : 1 + V.length + 1 = L0.length := by rw [hLl, hvl]; omega
        rw [hcell, hl0]
        refine Ref.gc [0, 5, 6] rfl ?_ (by simp [sub, fget, go_sem, ↓reduceIte, Nat.reduceEqDiff, Nat.reduceAdd, reduceCtorEq])
        simp only [hb0, List.nil_append, List.drop_zero, go_sem, ↓reduceIte, Nat.reduceEqDiff, Nat.reduceAdd, reduceCtorEq]
      intro k hk
      have hst' := hst k
      have hbl' := hbl k
      have hsd := snoc_drop (T k) U k hbl'
      have b1 := hLb k
      have b2 := hLb (k + 1)
      have b3 : R.count (k : Int) ≤ R.length := List.count_le_length
      by_cases hk2 : k < r.toNat
      · obtain ⟨d1, d2, d3⟩ := hsd (by omega)
        have hUk := hUa k hk2
        rw [hUk] at d2
        have hd3 := d3 ((R.count (k : Int) : Int) - L0.getD k 0 - L0.getD (k + 1) 0)
        rw [← hst'] at hd3
        generalize T k ++ U.drop k = X at d1 d2 hd3 ⊢
        (repeat first | simp only [go_sem, ↓reduceIte, Nat.reduceEqDiff, Nat.reduceAdd, reduceCtorEq] | with_reducible refine V_W ?_ | (with_reducible refine And.intro ?_ ?_; focus first | assumption | omega | decide | grind) | (with_reducible refine Br.mk ?_ ?_; focus (intros; omega)) | decide)
        refine ⟨fun hc => ?_, fun hc => by omega⟩
        (repeat first | simp only [go_sem, ↓reduceIte, Nat.reduceEqDiff, Nat.reduceAdd, reduceCtorEq] | with_reducible refine V_W ?_ | (with_reducible refine And.intro ?_ ?_; focus first | assumption | omega | decide | grind) | (with_reducible refine Br.mk ?_ ?_; focus (intros; omega)) | decide)
        refine ⟨k + 1, by omega, by omega, ?_⟩
        rw [d2, show (R.count (k : Int) : Int) - (L0.getD k 0 + L0.getD (k + 1) 0) = (R.count (k : Int) : Int) - L0.getD k 0 - L0.getD (k + 1) 0 by omega, hd3]
        exact Ref.frame (by simp [sub, fget])
      · obtain rfl : k = r.toNat := by omega
        rw [List.drop_of_length_le (by omega), List.append_nil]
        (repeat first | simp only [go_sem, ↓reduceIte, Nat.reduceEqDiff, Nat.reduceAdd, reduceCtorEq] | with_reducible refine V_W ?_ | (with_reducible refine And.intro ?_ ?_; focus first | assumption | omega | decide | grind) | (with_reducible refine Br.mk ?_ ?_; focus (intros; omega)) | decide)
        refine fun hc => ?_
        (repeat first | simp only [go_sem, ↓reduceIte, Nat.reduceEqDiff, Nat.reduceAdd, reduceCtorEq] | with_reducible refine V_W ?_ | (with_reducible refine And.intro ?_ ?_; focus first | assumption | omega | decide | grind) | (with_reducible refine Br.mk ?_ ?_; focus (intros; omega)) | decide)
        (try rw [hUl, hbl])
        (try simp only [go_sem, ↓reduceIte, Nat.reduceEqDiff, Nat.reduceAdd, reduceCtorEq, and_self])
    · have hed : decide (IsEv R B) = false := decide_eq_false he
      rw [if_pos hp, if_neg he, if_neg (fun h => he h.2)]
      refine pure_nil 1 ?_
      refine pureV0 ok29 rfl rfl ?_; unfold c29
      (repeat first | simp only [go_sem, ↓reduceIte, Nat.reduceEqDiff, Nat.reduceAdd, reduceCtorEq] | with_reducible refine V_W ?_ | (with_reducible refine And.intro ?_ ?_; focus first | assumption | omega | decide | grind) | (with_reducible refine Br.mk ?_ ?_; focus (intros; omega)) | decide)
      refine pureC (isPoset_c r R B (by omega) (by omega) gr) (by simp only [go_sem, ↓reduceIte, Nat.reduceEqDiff, Nat.reduceAdd, reduceCtorEq] <;> rfl) (by first | rfl | simp only [go_sem, ↓reduceIte, Nat.reduceEqDiff, Nat.reduceAdd, reduceCtorEq]) ?_
      simp only [hpd, go_sem, ↓reduceIte, Nat.reduceEqDiff, Nat.reduceAdd, reduceCtorEq]
      (repeat first | simp only [go_sem, ↓reduceIte, Nat.reduceEqDiff, Nat.reduceAdd, reduceCtorEq] | with_reducible refine V_W ?_ | (with_reducible refine And.intro ?_ ?_; focus first | assumption | omega | decide | grind) | (with_reducible refine Br.mk ?_ ?_; focus (intros; omega)) | decide)
      refine pureC (isEven_c r R B hp) (by simp only [go_sem, ↓reduceIte, Nat.reduceEqDiff, Nat.reduceAdd, reduceCtorEq] <;> rfl) (by first | rfl | simp only [go_sem, ↓reduceIte, Nat.reduceEqDiff, Nat.reduceAdd, reduceCtorEq]) ?_
      simp only [hed, go_sem, ↓reduceIte, Nat.reduceEqDiff, Nat.reduceAdd, reduceCtorEq]
      (repeat first | simp only [go_sem, ↓reduceIte, Nat.reduceEqDiff, Nat.reduceAdd, reduceCtorEq] | with_reducible refine V_W ?_ | (with_reducible refine And.intro ?_ ?_; focus first | assumption | omega | decide | grind) | (with_reducible refine Br.mk ?_ ?_; focus (intros; omega)) | decide)
  · rw [if_neg hp, if_neg (fun h => hp h.1)]
    refine pure_nil 1 ?_
    have hpd : decide (IsPos r R B) = false := decide_eq_false hp
    refine pureV0 ok29 rfl rfl ?_; unfold c29
    (repeat first | simp only [go_sem, ↓reduceIte, Nat.reduceEqDiff, Nat.reduceAdd, reduceCtorEq] | with_reducible refine V_W ?_ | (with_reducible refine And.intro ?_ ?_; focus first | assumption | omega | decide | grind) | (with_reducible refine Br.mk ?_ ?_; focus (intros; omega)) | decide)
    refine pureC (isPoset_c r R B (by omega) (by omega) gr) (by simp only [go_sem, ↓reduceIte, Nat.reduceEqDiff, Nat.reduceAdd, reduceCtorEq] <;> rfl) (by first | rfl | simp only [go_sem, ↓reduceIte, Nat.reduceEqDiff, Nat.reduceAdd, reduceCtorEq]) ?_
    simp only [hpd, go_sem, ↓reduceIte, Nat.reduceEqDiff, Nat.reduceAdd, reduceCtorEq]
    (repeat first | simp only [go_sem, ↓reduceIte, Nat.reduceEqDiff, Nat.reduceAdd, reduceCtorEq] | with_reducible refine V_W ?_ | (with_reducible refine And.intro ?_ ?_; focus first | assumption | omega | decide | grind) | (with_reducible refine Br.mk ?_ ?_; focus (intros; omega)) | decide)

end Go.Proofs.Ytmiapnfhlhgefaa
set_option maxRecDepth 100000
namespace Go.Proofs.Ytmiapnfhlhgefaa
open Go.Gov
open Classical

set_option maxHeartbeats 8000000 in
theorem lawLBe_c (r0 : Int) (R0 : List Int) (B0 : List (List Int)) (hR0 : R0.length ≤ 9223372036854775807) (ha0 : B0.length ≤ 9223372036854775807) (hr0 : ∀ xs ∈ B0, xs.length ≤ 9223372036854775807) : Pure Try.prog 8 [posetA r0 R0 B0] (bl true) [] := by
  refine pureV0 ok8 rfl rfl ?_; unfold c8
  (repeat first | simp only [go_sem, ↓reduceIte, Nat.reduceEqDiff, Nat.reduceAdd, reduceCtorEq] | with_reducible refine V_W ?_ | (with_reducible refine And.intro ?_ ?_; focus first | assumption | omega | decide | grind) | (with_reducible refine Br.mk ?_ ?_; focus (intros; omega)) | decide)
  refine pureC (szPoset_c r0 R0 B0 (1048576) (by omega) (by omega) hR0 ha0 hr0) (by simp only [go_sem, ↓reduceIte, Nat.reduceEqDiff, Nat.reduceAdd, reduceCtorEq] <;> rfl) (by first | rfl | simp only [go_sem, ↓reduceIte, Nat.reduceEqDiff, Nat.reduceAdd, reduceCtorEq]) ?_
  (repeat first | simp only [go_sem, ↓reduceIte, Nat.reduceEqDiff, Nat.reduceAdd, reduceCtorEq] | with_reducible refine V_W ?_ | (with_reducible refine And.intro ?_ ?_; focus first | assumption | omega | decide | grind) | (with_reducible refine Br.mk ?_ ?_; focus (intros; omega)) | decide)
  refine ⟨fun hs0 => ?_, fun hs0 => ?_⟩
  · (repeat first | simp only [go_sem, ↓reduceIte, Nat.reduceEqDiff, Nat.reduceAdd, reduceCtorEq] | with_reducible refine V_W ?_ | (with_reducible refine And.intro ?_ ?_; focus first | assumption | omega | decide | grind) | (with_reducible refine Br.mk ?_ ?_; focus (intros; omega)) | decide)
  obtain ⟨e0, e02⟩ := left_pos (b := 1048576) (n := psz R0 B0) (by omega) (by omega)
  obtain ⟨qR0, qa0, qt0, qr0⟩ := psz_b (n := 1048576) (R := R0) (B := B0) (by omega)
  have gR0 : R0.length ≤ 1099511627776 := by omega
  have ga0 : B0.length ≤ 1099511627776 := by omega
  have gr0 : ∀ xs ∈ B0, xs.length ≤ 1099511627776 := fun xs hx => by have := qr0 xs hx; omega
  (repeat first | simp only [go_sem, ↓reduceIte, Nat.reduceEqDiff, Nat.reduceAdd, reduceCtorEq] | with_reducible refine V_W ?_ | (with_reducible refine And.intro ?_ ?_; focus first | assumption | omega | decide | grind) | (with_reducible refine Br.mk ?_ ?_; focus (intros; omega)) | decide)
  have gv0 : (beV r0 R0 B0).length ≤ 1099511627776 := by have := beV_len r0 R0 B0; omega
  have hS := specBe_c r0 R0 B0 qR0 qa0 qr0
  have hI := implBe_c r0 R0 B0 qR0 qa0 qr0
  generalize beV r0 R0 B0 = Z0 at hS hI gv0
  generalize beC r0 R0 B0 = Z1 at hS hI
  refine pureC (toPoset_c r0 R0 B0 gR0 ga0 gr0) (by simp only [go_sem, ↓reduceIte, Nat.reduceEqDiff, Nat.reduceAdd, reduceCtorEq] <;> rfl) (by first | rfl | simp only [go_sem, ↓reduceIte, Nat.reduceEqDiff, Nat.reduceAdd, reduceCtorEq]) ?_
  (repeat first | simp only [go_sem, ↓reduceIte, Nat.reduceEqDiff, Nat.reduceAdd, reduceCtorEq] | with_reducible refine V_W ?_ | (with_reducible refine And.intro ?_ ?_; focus first | assumption | omega | decide | grind) | (with_reducible refine Br.mk ?_ ?_; focus (intros; omega)) | decide)
  refine pureC (hS) (by simp only [go_sem, ↓reduceIte, Nat.reduceEqDiff, Nat.reduceAdd, reduceCtorEq] <;> rfl) (by first | rfl | simp only [go_sem, ↓reduceIte, Nat.reduceEqDiff, Nat.reduceAdd, reduceCtorEq]) ?_
  (repeat first | simp only [go_sem, ↓reduceIte, Nat.reduceEqDiff, Nat.reduceAdd, reduceCtorEq] | with_reducible refine V_W ?_ | (with_reducible refine And.intro ?_ ?_; focus first | assumption | omega | decide | grind) | (with_reducible refine Br.mk ?_ ?_; focus (intros; omega)) | decide)
  refine pureC (toPoset_c r0 R0 B0 gR0 ga0 gr0) (by simp only [go_sem, ↓reduceIte, Nat.reduceEqDiff, Nat.reduceAdd, reduceCtorEq] <;> rfl) (by first | rfl | simp only [go_sem, ↓reduceIte, Nat.reduceEqDiff, Nat.reduceAdd, reduceCtorEq]) ?_
  (repeat first | simp only [go_sem, ↓reduceIte, Nat.reduceEqDiff, Nat.reduceAdd, reduceCtorEq] | with_reducible refine V_W ?_ | (with_reducible refine And.intro ?_ ?_; focus first | assumption | omega | decide | grind) | (with_reducible refine Br.mk ?_ ?_; focus (intros; omega)) | decide)
  refine pureC (hI) (by simp only [go_sem, ↓reduceIte, Nat.reduceEqDiff, Nat.reduceAdd, reduceCtorEq] <;> rfl) (by first | rfl | simp only [go_sem, ↓reduceIte, Nat.reduceEqDiff, Nat.reduceAdd, reduceCtorEq]) ?_
  (repeat first | simp only [go_sem, ↓reduceIte, Nat.reduceEqDiff, Nat.reduceAdd, reduceCtorEq] | with_reducible refine V_W ?_ | (with_reducible refine And.intro ?_ ?_; focus first | assumption | omega | decide | grind) | (with_reducible refine Br.mk ?_ ?_; focus (intros; omega)) | decide)
  refine pureC (eqInt64S_c Z0 Z0 gv0 gv0) (by simp only [go_sem, ↓reduceIte, Nat.reduceEqDiff, Nat.reduceAdd, reduceCtorEq] <;> rfl) (by first | rfl | simp only [go_sem, ↓reduceIte, Nat.reduceEqDiff, Nat.reduceAdd, reduceCtorEq]) ?_
  (repeat first | simp only [go_sem, ↓reduceIte, Nat.reduceEqDiff, Nat.reduceAdd, reduceCtorEq] | with_reducible refine V_W ?_ | (with_reducible refine And.intro ?_ ?_; focus first | assumption | omega | decide | grind) | (with_reducible refine Br.mk ?_ ?_; focus (intros; omega)) | decide)
  (try with_reducible refine fun _ => ?_)
  (repeat first | simp only [go_sem, ↓reduceIte, Nat.reduceEqDiff, Nat.reduceAdd, reduceCtorEq] | with_reducible refine V_W ?_ | (with_reducible refine And.intro ?_ ?_; focus first | assumption | omega | decide | grind) | (with_reducible refine Br.mk ?_ ?_; focus (intros; omega)) | decide)
  refine pureC (toPoset_c r0 R0 B0 gR0 ga0 gr0) (by simp only [go_sem, ↓reduceIte, Nat.reduceEqDiff, Nat.reduceAdd, reduceCtorEq] <;> rfl) (by first | rfl | simp only [go_sem, ↓reduceIte, Nat.reduceEqDiff, Nat.reduceAdd, reduceCtorEq]) ?_
  (repeat first | simp only [go_sem, ↓reduceIte, Nat.reduceEqDiff, Nat.reduceAdd, reduceCtorEq] | with_reducible refine V_W ?_ | (with_reducible refine And.intro ?_ ?_; focus first | assumption | omega | decide | grind) | (with_reducible refine Br.mk ?_ ?_; focus (intros; omega)) | decide)
  refine pureC (eqPoset_c r0 r0 R0 R0 B0 B0 gR0 ga0 gr0 gR0 ga0 gr0) (by simp only [go_sem, ↓reduceIte, Nat.reduceEqDiff, Nat.reduceAdd, reduceCtorEq] <;> rfl) (by first | rfl | simp only [go_sem, ↓reduceIte, Nat.reduceEqDiff, Nat.reduceAdd, reduceCtorEq]) ?_
  (repeat first | simp only [go_sem, ↓reduceIte, Nat.reduceEqDiff, Nat.reduceAdd, reduceCtorEq] | with_reducible refine V_W ?_ | (with_reducible refine And.intro ?_ ?_; focus first | assumption | omega | decide | grind) | (with_reducible refine Br.mk ?_ ?_; focus (intros; omega)) | decide)
  (try with_reducible refine fun _ => ?_)
  (repeat first | simp only [go_sem, ↓reduceIte, Nat.reduceEqDiff, Nat.reduceAdd, reduceCtorEq] | with_reducible refine V_W ?_ | (with_reducible refine And.intro ?_ ?_; focus first | assumption | omega | decide | grind) | (with_reducible refine Br.mk ?_ ?_; focus (intros; omega)) | decide)
  refine wriC (markPoset_c r0 R0 B0 (1) gR0 ga0 (by omega) (by omega) (by omega)) [4, 5] (by first | rfl | simp) (by simp only [go_sem, ↓reduceIte, Nat.reduceEqDiff, Nat.reduceAdd, reduceCtorEq] <;> rfl) (by simp only [go_sem, ↓reduceIte, Nat.reduceEqDiff, Nat.reduceAdd, reduceCtorEq] <;> rfl) (by first | rfl | simp only [go_sem, ↓reduceIte, Nat.reduceEqDiff, Nat.reduceAdd, reduceCtorEq]) ?_
  (repeat first | simp only [go_sem, ↓reduceIte, Nat.reduceEqDiff, Nat.reduceAdd, reduceCtorEq] | with_reducible refine V_W ?_ | (with_reducible refine And.intro ?_ ?_; focus first | assumption | omega | decide | grind) | (with_reducible refine Br.mk ?_ ?_; focus (intros; omega)) | decide)
  refine ⟨bl (decide (Z0 = Z0)) , fun hg => by first | exact pureC ( eqInt64S_c Z0 Z0 gv0 gv0) (by simp only [go_sem, ↓reduceIte, Nat.reduceEqDiff, Nat.reduceAdd, reduceCtorEq] <;> rfl) (by first | rfl | simp only [go_sem, ↓reduceIte, Nat.reduceEqDiff, Nat.reduceAdd, reduceCtorEq]) (by first | exact ⟨rfl, rfl⟩ | simp only [go_sem, ↓reduceIte, Nat.reduceEqDiff, Nat.reduceAdd, reduceCtorEq]) | exact ⟨hg, pureC ( eqInt64S_c Z0 Z0 gv0 gv0) (by simp only [go_sem, ↓reduceIte, Nat.reduceEqDiff, Nat.reduceAdd, reduceCtorEq] <;> rfl) (by first | rfl | simp only [go_sem, ↓reduceIte, Nat.reduceEqDiff, Nat.reduceAdd, reduceCtorEq]) (by first | exact ⟨rfl, rfl⟩ | simp only [go_sem, ↓reduceIte, Nat.reduceEqDiff, Nat.reduceAdd, reduceCtorEq])⟩ | exact ⟨by grind, pureC ( eqInt64S_c Z0 Z0 gv0 gv0) (by simp only [go_sem, ↓reduceIte, Nat.reduceEqDiff, Nat.reduceAdd, reduceCtorEq] <;> rfl) (by first | rfl | simp only [go_sem, ↓reduceIte, Nat.reduceEqDiff, Nat.reduceAdd, reduceCtorEq]) (by first | exact ⟨rfl, rfl⟩ | simp only [go_sem, ↓reduceIte, Nat.reduceEqDiff, Nat.reduceAdd, reduceCtorEq])⟩, ?_⟩
  (repeat first | simp only [go_sem, ↓reduceIte, Nat.reduceEqDiff, Nat.reduceAdd, reduceCtorEq] | with_reducible refine V_W ?_ | (with_reducible refine And.intro ?_ ?_; focus first | assumption | omega | decide | grind) | (with_reducible refine Br.mk ?_ ?_; focus (intros; omega)) | decide)
  (try with_reducible refine fun _ => ?_)
  (repeat first | simp only [go_sem, ↓reduceIte, Nat.reduceEqDiff, Nat.reduceAdd, reduceCtorEq] | with_reducible refine V_W ?_ | (with_reducible refine And.intro ?_ ?_; focus first | assumption | omega | decide | grind) | (with_reducible refine Br.mk ?_ ?_; focus (intros; omega)) | decide)
  refine wriC (markInt64S_c Z0 (1) gv0 (by omega) (by omega)) [7] (by first | rfl | simp) (by simp only [go_sem, ↓reduceIte, Nat.reduceEqDiff, Nat.reduceAdd, reduceCtorEq] <;> rfl) (by simp only [go_sem, ↓reduceIte, Nat.reduceEqDiff, Nat.reduceAdd, reduceCtorEq] <;> rfl) (by first | rfl | simp only [go_sem, ↓reduceIte, Nat.reduceEqDiff, Nat.reduceAdd, reduceCtorEq]) ?_
  (repeat first | simp only [go_sem, ↓reduceIte, Nat.reduceEqDiff, Nat.reduceAdd, reduceCtorEq] | with_reducible refine V_W ?_ | (with_reducible refine And.intro ?_ ?_; focus first | assumption | omega | decide | grind) | (with_reducible refine Br.mk ?_ ?_; focus (intros; omega)) | decide)
  refine pureC (heldS_c Z0.length (1) gv0 (by omega) (by omega)) (by simp only [go_sem, ↓reduceIte, Nat.reduceEqDiff, Nat.reduceAdd, reduceCtorEq, take_up, take_upR]) (by first | rfl | simp only [go_sem, ↓reduceIte, Nat.reduceEqDiff, Nat.reduceAdd, reduceCtorEq]) ?_
  (repeat first | simp only [go_sem, ↓reduceIte, Nat.reduceEqDiff, Nat.reduceAdd, reduceCtorEq] | with_reducible refine V_W ?_ | (with_reducible refine And.intro ?_ ?_; focus first | assumption | omega | decide | grind) | (with_reducible refine Br.mk ?_ ?_; focus (intros; omega)) | decide)
  (try with_reducible refine fun _ => ?_)
  (repeat first | simp only [go_sem, ↓reduceIte, Nat.reduceEqDiff, Nat.reduceAdd, reduceCtorEq] | with_reducible refine V_W ?_ | (with_reducible refine And.intro ?_ ?_; focus first | assumption | omega | decide | grind) | (with_reducible refine Br.mk ?_ ?_; focus (intros; omega)) | decide)
  (try with_reducible refine fun _ => ?_)
  (repeat first | simp only [go_sem, ↓reduceIte, Nat.reduceEqDiff, Nat.reduceAdd, reduceCtorEq] | with_reducible refine V_W ?_ | (with_reducible refine And.intro ?_ ?_; focus first | assumption | omega | decide | grind) | (with_reducible refine Br.mk ?_ ?_; focus (intros; omega)) | decide)
  refine pureC (toPoset_c r0 R0 B0 gR0 ga0 gr0) (by simp only [go_sem, ↓reduceIte, Nat.reduceEqDiff, Nat.reduceAdd, reduceCtorEq] <;> rfl) (by first | rfl | simp only [go_sem, ↓reduceIte, Nat.reduceEqDiff, Nat.reduceAdd, reduceCtorEq]) ?_
  (repeat first | simp only [go_sem, ↓reduceIte, Nat.reduceEqDiff, Nat.reduceAdd, reduceCtorEq] | with_reducible refine V_W ?_ | (with_reducible refine And.intro ?_ ?_; focus first | assumption | omega | decide | grind) | (with_reducible refine Br.mk ?_ ?_; focus (intros; omega)) | decide)
  refine pureC (hI) (by simp only [go_sem, ↓reduceIte, Nat.reduceEqDiff, Nat.reduceAdd, reduceCtorEq] <;> rfl) (by first | rfl | simp only [go_sem, ↓reduceIte, Nat.reduceEqDiff, Nat.reduceAdd, reduceCtorEq]) ?_
  (repeat first | simp only [go_sem, ↓reduceIte, Nat.reduceEqDiff, Nat.reduceAdd, reduceCtorEq] | with_reducible refine V_W ?_ | (with_reducible refine And.intro ?_ ?_; focus first | assumption | omega | decide | grind) | (with_reducible refine Br.mk ?_ ?_; focus (intros; omega)) | decide)
  refine pureC (eqInt64S_c Z0 Z0 gv0 gv0) (by simp only [go_sem, ↓reduceIte, Nat.reduceEqDiff, Nat.reduceAdd, reduceCtorEq] <;> rfl) (by first | rfl | simp only [go_sem, ↓reduceIte, Nat.reduceEqDiff, Nat.reduceAdd, reduceCtorEq]) ?_
  (repeat first | simp only [go_sem, ↓reduceIte, Nat.reduceEqDiff, Nat.reduceAdd, reduceCtorEq] | with_reducible refine V_W ?_ | (with_reducible refine And.intro ?_ ?_; focus first | assumption | omega | decide | grind) | (with_reducible refine Br.mk ?_ ?_; focus (intros; omega)) | decide)
  (try with_reducible refine fun _ => ?_)
  (repeat first | simp only [go_sem, ↓reduceIte, Nat.reduceEqDiff, Nat.reduceAdd, reduceCtorEq] | with_reducible refine V_W ?_ | (with_reducible refine And.intro ?_ ?_; focus first | assumption | omega | decide | grind) | (with_reducible refine Br.mk ?_ ?_; focus (intros; omega)) | decide)
  refine pureC (heldS_c Z0.length (1) gv0 (by omega) (by omega)) (by simp only [go_sem, ↓reduceIte, Nat.reduceEqDiff, Nat.reduceAdd, reduceCtorEq, take_up, take_upR]) (by first | rfl | simp only [go_sem, ↓reduceIte, Nat.reduceEqDiff, Nat.reduceAdd, reduceCtorEq]) ?_
  (repeat first | simp only [go_sem, ↓reduceIte, Nat.reduceEqDiff, Nat.reduceAdd, reduceCtorEq] | with_reducible refine V_W ?_ | (with_reducible refine And.intro ?_ ?_; focus first | assumption | omega | decide | grind) | (with_reducible refine Br.mk ?_ ?_; focus (intros; omega)) | decide)
  (try with_reducible refine fun _ => ?_)
  (repeat first | simp only [go_sem, ↓reduceIte, Nat.reduceEqDiff, Nat.reduceAdd, reduceCtorEq] | with_reducible refine V_W ?_ | (with_reducible refine And.intro ?_ ?_; focus first | assumption | omega | decide | grind) | (with_reducible refine Br.mk ?_ ?_; focus (intros; omega)) | decide)
  (try with_reducible refine fun _ => ?_)
  (repeat first | simp only [go_sem, ↓reduceIte, Nat.reduceEqDiff, Nat.reduceAdd, reduceCtorEq] | with_reducible refine V_W ?_ | (with_reducible refine And.intro ?_ ?_; focus first | assumption | omega | decide | grind) | (with_reducible refine Br.mk ?_ ?_; focus (intros; omega)) | decide)

end Go.Proofs.Ytmiapnfhlhgefaa
set_option maxRecDepth 100000
namespace Go.Proofs.Ytmiapnfhlhgefaa.JBe
open Go.Proofs.Ytmiapnfhlhgefaa
open Go.ChangeShapes Go.WideShapes Go.ChangeAt Go.RowKit Go.Gov

set_option maxRecDepth 100000 in
set_option maxHeartbeats 2000000 in
theorem lifted (os : Os) (started : os.Started) (H : Type) (enc : TypeId × Value → H) :
    ReturnsInHanded {} Try.checked os 8 .any (Rows.fnExactBettiNumbersSpec.pre6 enc Try.prog Try.f8 Rows.fnExactBettiNumbersRow.domain false) (Rows.fnExactBettiNumbersSpec.post enc Try.prog Try.f8 false true false false) := by
  refine returnsInHanded_of_change (C := Try.checked) Try.own started (by kernel_rfl) Try.func8
    (ChangeSpec.witness6 (enc := enc) (C := Try.checked) false ⟨#[], #[.agg #[.int .i64 0, .slice none 0 0, .slice none 0 0]], []⟩ 8 (by kernel_rfl) (by kernel_rfl) (by kernel_rfl) (by kernel_rfl)) ?_
  intro W base args ds gs before hval0 hW hcnd _
  have hval : ∀ (j : Nat) t v, Try.f8.params[j]? = some t → args[j]? = some v → Value.okWide Try.prog W .any base t v := hval0
  have hW' := hW
  obtain ⟨p, q, hA0, hV, rfl, hfz, hnd⟩ := hW
  have hA : DataW.TrodAll enc Try.prog W 0 (fun _ => true) true Try.f8.params.toList args.toList ds p := hA0
  rw [Try.params8] at hA hval
  obtain ⟨v0, l0, d0, e0, p0, q0, ha0, rfl, rfl, h0, hA1⟩ := trodAll_cons hA
  obtain ⟨rfl, rfl, rfl⟩ := trodAll_nil hA1
  obtain rfl : args = #[v0] := by rw [← Array.toArray_toList (xs := args), ha0]
  have hv0 := hval 0 25 v0 rfl rfl
  obtain ⟨rfl, rfl⟩ := trodVars_none hV
  obtain ⟨a0, b0, c0, x0, y0, z0, m0, rfl, rfl, hp0, ta0, tb0, tc0⟩ := Go.Joins.open_agg3 Try.underlying25 (by kernel_rfl) (by kernel_rfl) hv0 h0
  obtain ⟨r0, hr0, _, _⟩ := DataW.trod_int Try.underlying2 ta0
  obtain ⟨s0, R0, hs0, hR0, rdR0⟩ := rd_ints Try.underlying22 Try.underlying2 (by kernel_rfl) tb0
  obtain ⟨u0, B0, hu0, hB0, hBr0, rdB0⟩ := rd_rows Try.underlying23 Try.underlying22 Try.underlying2 (by kernel_rfl) (by kernel_rfl) tc0
  simp only [List.cons.injEq, and_true] at hr0 hs0 hu0
  subst hr0 hs0 hu0
  have hrd : ∀ m (h : m < ([posetA r0 R0 B0] : List AV).length), Rd W ((g0 W).tr []) (g0 W).G ([posetA r0 R0 B0] : List AV)[m] ((#[Value.agg #[.int .i64 r0, b0, c0]] : Array Value).getD m undef) [] := fun m h => by
    match m, h with
    | 0, _ => exact .agg rfl fun k hk => match k, hk with
      | 0, _ => .val
      | 1, _ => rdR0 _
      | 2, _ => rdB0 _
  refine (below_of (lawLBe_c r0 R0 B0 hR0 hB0 hBr0) rfl hrd).mono fun e W' ⟨he, hb, hz⟩ => ?_
  simp only [List.append_nil] at hW'
  have hS0 : ∀ sp : Nat → Bool, (∀ x ∈ p0, sp x.block = true) → DataW.Trod enc Try.prog W' 0 sp true 25 (.agg #[.int .i64 r0, b0, c0]) _ p0 := fun sp hsp =>
    WideElems.Trod_stays Try.laidOut (by kernel_rfl) (of_decide_eq_true (by kernel_rfl)) h0 (fun x hx => hb.same (hW'.lt x (by simp [hx]))) (fun x hx => hsp x (by simp [hx]))
  have hR1 : ∀ (b : Nat) (sp : Nat → Bool) (hd : Bool), DataW.Trod enc Try.prog W' b sp hd 4 (.bool true) (.lit (.bool true)) [] := fun _ _ _ => shut_bool Try.underlying4 true
  refine ⟨_, he, post_of_new (pa := p0) (pv := []) hW' (fun b sp hd => trodAll_mk1 (hR1 b sp hd)) (fun sp hsp => trodAll_mk1 (hS0 sp hsp)) (fun _ _ => ?_) ?_ ?_ hz ?_⟩
  · rfl
  · simp
  · exact hb.frame _
  · exact ok_one (by kernel_rfl) rfl (okWide_bool_mk Try.underlying4 true)

theorem holds : Rows.FnExactBettiNumbersSaid :=
  OpenClaim.holds_of_wide 8 Try.f8 rfl rfl rfl rfl rfl rfl rfl ⟨rfl, rfl, rfl, rfl, rfl⟩ rfl rfl rfl rfl rfl (by kernel_rfl) Try.func8 (by kernel_rfl)
    (of_decide_eq_true (by kernel_rfl)) (by unfold Func.isWrapper; first | (rw [if_pos (by decide +kernel)]; kernel_rfl) | (rw [if_neg (by decide +kernel)]; exact ⟨rfl, rfl⟩))
    (fun os started H enc _ => lifted os started H enc)

end Go.Proofs.Ytmiapnfhlhgefaa.JBe
