/- Texts that belong together. -/
import Derived.Test.YtmiapnfhlhgefaaZf
import Derived.Test.YtmiapnfhlhgefaaZj
import Derived.Test.YtmiapnfhlhgefaaZq
import Derived.Test.YtmiapnfhlhgefaaZr
set_option linter.unusedSimpArgs false
set_option linter.unusedVariables false
set_option maxRecDepth 100000
namespace Go.Proofs.Ytmiapnfhlhgefaa
open Go.Gov

theorem getLast_at {xs : List Int} {e : Int} : (decide (0 < xs.length) && (xs.getD (xs.length - 1) 0 == e)) = decide (xs.getLast? = some e) := by
  rw [Bool.eq_iff_iff]
  simp only [Bool.and_eq_true, decide_eq_true_eq, beq_iff_eq]
  rcases Nat.eq_zero_or_pos xs.length with h | h
  · have : xs = [] := List.eq_nil_of_length_eq_zero h
    subst this; simp
  · rw [List.getLast?_eq_getElem?, List.getElem?_eq_getElem (show xs.length - 1 < xs.length by omega)]
    simp [show xs.length - 1 < xs.length by omega, h]
theorem dropLast_take (xs : List Int) : xs.take (xs.length - 1) = xs.dropLast := by rw [List.dropLast_eq_take]

theorem oddOf_c (xs : List Int) (hl : xs.length ≤ 1099511627776) : Wri Try.prog 53 [.sl 0 1 0 xs.length] [some (intsC xs)] (.sl 1 1 0 (odd xs).length) [some (intsC (srtL xs)), some (intsC (odd xs))] := by
  refine wriVg [0, 1] ok53 rfl ?_; unfold c53
  (repeat first | simp only [go_sem, ↓reduceIte, Nat.reduceEqDiff, Nat.reduceAdd, reduceCtorEq] | with_reducible refine V_W ?_ | (with_reducible refine And.intro ?_ ?_; focus first | assumption | omega | decide | grind) | (with_reducible refine Br.mk ?_ ?_; focus (intros; omega)) | decide)
  refine wriC (sort_c xs hl) [0] (by first | rfl | simp) (by simp only [go_sem, ↓reduceIte, Nat.reduceEqDiff, Nat.reduceAdd, reduceCtorEq] <;> rfl) (by simp only [go_sem, ↓reduceIte, Nat.reduceEqDiff, Nat.reduceAdd, reduceCtorEq] <;> rfl) (by first | rfl | simp only [go_sem, ↓reduceIte, Nat.reduceEqDiff, Nat.reduceAdd, reduceCtorEq]) ?_
  have hyl := srtL_len xs
  (repeat first | simp only [go_sem, ↓reduceIte, Nat.reduceEqDiff, Nat.reduceAdd, reduceCtorEq] | with_reducible refine V_W ?_ | (with_reducible refine And.intro ?_ ?_; focus first | assumption | omega | decide | grind) | (with_reducible refine Br.mk ?_ ?_; focus (intros; omega)) | decide)
  refine V_loop (α := Nat) (S := fun k => ([(8, .sl 0 1 0 xs.length), (9, i64 xs.length), (10, i64 k), (3, .sl 1 1 0 (((srtL xs).take k).foldl push []).length)], [some (intsC (srtL xs)), some (intsC (((srtL xs).take k).foldl push []))])) (C := fun k => k ≤ xs.length) (μ := fun k => xs.length - k) 0 (by omega) ((Ref.nil 3 1 rfl).trans (Ref.to (by simp [intsC]) (by simp [sub, fget]))) ?_
  intro k hk
  have hol := pushes_len ((srtL xs).take k) []
  have hst : k < xs.length → ((srtL xs).take (k + 1)).foldl push [] = push (((srtL xs).take k).foldl push []) ((srtL xs).getD k 0) := fun h => by
    rw [List.take_succ_eq_append_getElem (by omega), List.foldl_append]
    simp [show k < (srtL xs).length by omega]
  simp only [List.length_nil, List.length_take] at hol
  generalize hL : ((srtL xs).take k).foldl push [] = L at hol hst ⊢
  (repeat first | simp only [go_sem, ↓reduceIte, Nat.reduceEqDiff, Nat.reduceAdd, reduceCtorEq] | with_reducible refine V_W ?_ | (with_reducible refine And.intro ?_ ?_; focus first | assumption | omega | decide | grind) | (with_reducible refine Br.mk ?_ ?_; focus (intros; omega)) | decide)
  refine ⟨fun hc => ?_, fun hc => ?_⟩
  · have hst' := hst (by omega)
    (repeat first | simp only [go_sem, ↓reduceIte, Nat.reduceEqDiff, Nat.reduceAdd, reduceCtorEq] | with_reducible refine V_W ?_ | (with_reducible refine And.intro ?_ ?_; focus first | assumption | omega | decide | grind) | (with_reducible refine Br.mk ?_ ?_; focus (intros; omega)) | decide)
    have hgl := getLast_at (xs := L) (e := (srtL xs).getD k 0)
    refine ⟨fun hc2 => ?_, fun hc2 => ?_⟩
    · have hlast : L.getLast? = some ((srtL xs).getD k 0) := by
        have : (decide (0 < L.length) && (L.getD (L.length - 1) 0 == (srtL xs).getD k 0)) = true := by simpa using hc2
        rw [hgl] at this; exact of_decide_eq_true this
      have hpos : 0 < L.length := by
        rcases Nat.eq_zero_or_pos L.length with h | h
        · rw [List.eq_nil_of_length_eq_zero h] at hlast; simp at hlast
        · exact h
      have e : push L ((srtL xs).getD k 0) = L.dropLast := by simp only [push, hlast, if_true]
      (repeat first | simp only [go_sem, ↓reduceIte, Nat.reduceEqDiff, Nat.reduceAdd, reduceCtorEq] | with_reducible refine V_W ?_ | (with_reducible refine And.intro ?_ ?_; focus first | assumption | omega | decide | grind) | (with_reducible refine Br.mk ?_ ?_; focus (intros; omega)) | decide)
      refine ⟨k + 1, by omega, by omega, ?_⟩
      rw [hst', e]
      refine (Ref.cut 1 (L.length - 1) 3 (cs := intsC L) rfl (by simp [intsC]) rfl (by omega)).trans (Ref.gc [0, 2] rfl ?_ (by simp [sub, fget, go_sem, ↓reduceIte, Nat.reduceEqDiff, Nat.reduceAdd, reduceCtorEq]))
      (try simp only [go_sem, ↓reduceIte, Nat.reduceEqDiff, Nat.reduceAdd, reduceCtorEq, take_intsC, dropLast_take, List.cons_append, List.nil_append])
    · have hlast : ¬ L.getLast? = some ((srtL xs).getD k 0) := fun h => by
        have : (decide (0 < L.length) && (L.getD (L.length - 1) 0 == (srtL xs).getD k 0)) = false := by
          rw [Bool.and_eq_false_iff]
          rcases hc2 with hc2 | hc2
          · left; first | exact decide_eq_false (by omega) | exact hc2
          · right; first | exact beq_eq_false_iff_ne.2 hc2 | exact hc2
        rw [hgl, decide_eq_true h] at this; cases this
      have e : push L ((srtL xs).getD k 0) = L ++ [(srtL xs).getD k 0] := by simp only [push, if_neg hlast]
      (repeat first | simp only [go_sem, ↓reduceIte, Nat.reduceEqDiff, Nat.reduceAdd, reduceCtorEq] | with_reducible refine V_W ?_ | (with_reducible refine And.intro ?_ ?_; focus first | assumption | omega | decide | grind) | (with_reducible refine Br.mk ?_ ?_; focus (intros; omega)) | decide)
      refine ⟨k + 1, by omega, by omega, ?_⟩
      rw [hst', e]
      refine Ref.gc [0, 3] rfl ?_ (by simp [sub, fget, go_sem, ↓reduceIte, Nat.reduceEqDiff, Nat.reduceAdd, reduceCtorEq])
      (try simp only [go_sem, ↓reduceIte, Nat.reduceEqDiff, Nat.reduceAdd, reduceCtorEq, take_len, one_intsC, app_intsC])
  · obtain rfl : k = xs.length := by omega
    have e : L = odd xs := by rw [← hL, ← hyl, List.take_length]; rfl
    subst e
    (repeat first | simp only [go_sem, ↓reduceIte, Nat.reduceEqDiff, Nat.reduceAdd, reduceCtorEq] | with_reducible refine V_W ?_ | (with_reducible refine And.intro ?_ ?_; focus first | assumption | omega | decide | grind) | (with_reducible refine Br.mk ?_ ?_; focus (intros; omega)) | decide)
    (try simp only [go_sem, ↓reduceIte, Nat.reduceEqDiff, Nat.reduceAdd, reduceCtorEq, and_self])

end Go.Proofs.Ytmiapnfhlhgefaa
set_option maxRecDepth 100000
namespace Go.Proofs.Ytmiapnfhlhgefaa
open Go.Gov
open Classical

def Ch1 (R : List Int) (i : Int) (c : List Int) (k : Nat) : Prop := 0 ≤ c.getD k 0 ∧ c.getD k 0 ≤ (R.length : Int) - 1 ∧ R.getD (c.getD k 0).toNat 0 = i ∧ (0 < k → c.getD (k - 1) 0 < c.getD k 0)
def ChOk (R : List Int) (i : Int) (c : List Int) : Prop := ∀ k, k < c.length → Ch1 R i c k

theorem l16Chain_c (r : Int) (R : List Int) (B : List (List Int)) (i : Int) (c : List Int) (h1 : R.length ≤ 1099511627776) (hc : c.length ≤ 1099511627776) : Pure Try.prog 80 [posetA r R B, i64 i, ints c] (bl (decide (ChOk R i c))) [] := by
  refine pureV0 ok80 rfl rfl ?_; unfold c80
  (repeat first | simp only [go_sem, ↓reduceIte, Nat.reduceEqDiff, Nat.reduceAdd, reduceCtorEq] | with_reducible refine V_W ?_ | (with_reducible refine And.intro ?_ ?_; focus first | assumption | omega | decide | grind) | (with_reducible refine Br.mk ?_ ?_; focus (intros; omega)) | decide)
  refine V_loop (α := Nat) (S := fun k => ([(1, i64 i), (2, ints c), (3, .ref 0 0), (7, i64 k)], [some [i64 r, ints R, mat B]])) (C := fun k => k ≤ c.length ∧ ∀ j, j < k → Ch1 R i c j) (μ := fun k => c.length - k) 0 ⟨by omega, by omega⟩ (by exact Ref.frame (by simp [sub, fget])) ?_
  rintro k ⟨hk, hall⟩
  (repeat first | simp only [go_sem, ↓reduceIte, Nat.reduceEqDiff, Nat.reduceAdd, reduceCtorEq] | with_reducible refine V_W ?_ | (with_reducible refine And.intro ?_ ?_; focus first | assumption | omega | decide | grind) | (with_reducible refine Br.mk ?_ ?_; focus (intros; omega)) | decide)
  refine ⟨fun hc1 => ?_, fun hc1 => ?_⟩
  · (repeat first | simp only [go_sem, ↓reduceIte, Nat.reduceEqDiff, Nat.reduceAdd, reduceCtorEq] | with_reducible refine V_W ?_ | (with_reducible refine And.intro ?_ ?_; focus first | assumption | omega | decide | grind) | (with_reducible refine Br.mk ?_ ?_; focus (intros; omega)) | decide)
    refine pureC (l01In_c (c.getD k 0) 0 (R.length - 1)) (by simp only [go_sem, ↓reduceIte, Nat.reduceEqDiff, Nat.reduceAdd, reduceCtorEq] <;> rfl) (by first | rfl | simp only [go_sem, ↓reduceIte, Nat.reduceEqDiff, Nat.reduceAdd, reduceCtorEq]) ?_
    (repeat first | simp only [go_sem, ↓reduceIte, Nat.reduceEqDiff, Nat.reduceAdd, reduceCtorEq] | with_reducible refine V_W ?_ | (with_reducible refine And.intro ?_ ?_; focus first | assumption | omega | decide | grind) | (with_reducible refine Br.mk ?_ ?_; focus (intros; omega)) | decide)
    refine ⟨fun hc2 => ?_, fun hc2 => ?_⟩
    · (repeat first | simp only [go_sem, ↓reduceIte, Nat.reduceEqDiff, Nat.reduceAdd, reduceCtorEq] | with_reducible refine V_W ?_ | (with_reducible refine And.intro ?_ ?_; focus first | assumption | omega | decide | grind) | (with_reducible refine Br.mk ?_ ?_; focus (intros; omega)) | decide)
      rw [decide_eq_false (fun h => ?_)]
      obtain ⟨b1, b2, b3, b4⟩ := h k (by omega)
      try simp only [go_sem, ↓reduceIte, Nat.reduceEqDiff, Nat.reduceAdd, reduceCtorEq] at hc2
      omega
    · have hcv : Ch1 R i c k := by
        try simp only [go_sem, ↓reduceIte, Nat.reduceEqDiff, Nat.reduceAdd, reduceCtorEq] at hc2
        unfold Ch1
        omega
      (repeat first | simp only [go_sem, ↓reduceIte, Nat.reduceEqDiff, Nat.reduceAdd, reduceCtorEq] | with_reducible refine V_W ?_ | (with_reducible refine And.intro ?_ ?_; focus first | assumption | omega | decide | grind) | (with_reducible refine Br.mk ?_ ?_; focus (intros; omega)) | decide)
      refine ⟨k + 1, ⟨by omega, fun j hj => ?_⟩, by omega, by exact Ref.frame (by simp [sub, fget])⟩
      rcases Nat.lt_or_ge j k with h | h
      · exact hall j h
      · obtain rfl : j = k := by omega
        exact hcv
  · (repeat first | simp only [go_sem, ↓reduceIte, Nat.reduceEqDiff, Nat.reduceAdd, reduceCtorEq] | with_reducible refine V_W ?_ | (with_reducible refine And.intro ?_ ?_; focus first | assumption | omega | decide | grind) | (with_reducible refine Br.mk ?_ ?_; focus (intros; omega)) | decide)
    rw [decide_eq_true (p := ChOk R i c) (fun j hj => hall j (by omega))]

noncomputable def chC (r : Int) (R : List Int) (B : List (List Int)) (i : Int) (cs : List (List Int)) : Int :=
  if IsPos r R B then if (0 ≤ i ∧ i ≤ r - 1) ∧ ∀ c ∈ cs, ChOk R i c then 0 else 2 else 1

theorem l16Code_c (r : Int) (R : List Int) (B : List (List Int)) (i : Int) (c : List Int) (h1 : R.length ≤ 1099511627776) (hl : B.length ≤ 1099511627776) (hr : ∀ xs ∈ B, xs.length ≤ 1099511627776) (hc : c.length ≤ 1099511627776) : Pure Try.prog 55 [posetA r R B, i64 i, ints c] (i64 (chC r R B i [c])) [] := by
  unfold chC
  by_cases hp : IsPos r R B
  · have hpd : decide (IsPos r R B) = true := decide_eq_true hp
    obtain ⟨a1, a2, a3, a4, hrk⟩ := hp.rank
    rw [if_pos hp]
    refine pureV0 ok55 rfl rfl ?_; unfold c55
    (repeat first | simp only [go_sem, ↓reduceIte, Nat.reduceEqDiff, Nat.reduceAdd, reduceCtorEq] | with_reducible refine V_W ?_ | (with_reducible refine And.intro ?_ ?_; focus first | assumption | omega | decide | grind) | (with_reducible refine Br.mk ?_ ?_; focus (intros; omega)) | decide)
    refine pureC (l03Is_c r R B h1 hl hr) (by simp only [go_sem, ↓reduceIte, Nat.reduceEqDiff, Nat.reduceAdd, reduceCtorEq] <;> rfl) (by first | rfl | simp only [go_sem, ↓reduceIte, Nat.reduceEqDiff, Nat.reduceAdd, reduceCtorEq]) ?_
    simp only [hpd, go_sem, ↓reduceIte, Nat.reduceEqDiff, Nat.reduceAdd, reduceCtorEq]
    (repeat first | simp only [go_sem, ↓reduceIte, Nat.reduceEqDiff, Nat.reduceAdd, reduceCtorEq] | with_reducible refine V_W ?_ | (with_reducible refine And.intro ?_ ?_; focus first | assumption | omega | decide | grind) | (with_reducible refine Br.mk ?_ ?_; focus (intros; omega)) | decide)
    refine pureC (l01In_c i 0 (r - 1)) (by simp only [go_sem, ↓reduceIte, Nat.reduceEqDiff, Nat.reduceAdd, reduceCtorEq] <;> rfl) (by first | rfl | simp only [go_sem, ↓reduceIte, Nat.reduceEqDiff, Nat.reduceAdd, reduceCtorEq]) ?_
    (repeat first | simp only [go_sem, ↓reduceIte, Nat.reduceEqDiff, Nat.reduceAdd, reduceCtorEq] | with_reducible refine V_W ?_ | (with_reducible refine And.intro ?_ ?_; focus first | assumption | omega | decide | grind) | (with_reducible refine Br.mk ?_ ?_; focus (intros; omega)) | decide)
    refine GCall.mk (bl (decide (ChOk R i c)) ) (fun hg => by first | exact pureC ( l16Chain_c r R B i c h1 hc) (by simp only [go_sem, ↓reduceIte, Nat.reduceEqDiff, Nat.reduceAdd, reduceCtorEq] <;> rfl) (by first | rfl | simp only [go_sem, ↓reduceIte, Nat.reduceEqDiff, Nat.reduceAdd, reduceCtorEq]) (by first | exact ⟨rfl, rfl⟩ | simp only [go_sem, ↓reduceIte, Nat.reduceEqDiff, Nat.reduceAdd, reduceCtorEq]) | exact ⟨hg, pureC ( l16Chain_c r R B i c h1 hc) (by simp only [go_sem, ↓reduceIte, Nat.reduceEqDiff, Nat.reduceAdd, reduceCtorEq] <;> rfl) (by first | rfl | simp only [go_sem, ↓reduceIte, Nat.reduceEqDiff, Nat.reduceAdd, reduceCtorEq]) (by first | exact ⟨rfl, rfl⟩ | simp only [go_sem, ↓reduceIte, Nat.reduceEqDiff, Nat.reduceAdd, reduceCtorEq])⟩ | exact ⟨by grind, pureC ( l16Chain_c r R B i c h1 hc) (by simp only [go_sem, ↓reduceIte, Nat.reduceEqDiff, Nat.reduceAdd, reduceCtorEq] <;> rfl) (by first | rfl | simp only [go_sem, ↓reduceIte, Nat.reduceEqDiff, Nat.reduceAdd, reduceCtorEq]) (by first | exact ⟨rfl, rfl⟩ | simp only [go_sem, ↓reduceIte, Nat.reduceEqDiff, Nat.reduceAdd, reduceCtorEq])⟩) ?_
    (repeat first | simp only [go_sem, ↓reduceIte, Nat.reduceEqDiff, Nat.reduceAdd, reduceCtorEq] | with_reducible refine V_W ?_ | (with_reducible refine And.intro ?_ ?_; focus first | assumption | omega | decide | grind) | (with_reducible refine Br.mk ?_ ?_; focus (intros; omega)) | decide)
    refine ⟨fun hc2 => ?_, fun hc2 => ?_⟩
    · (repeat first | simp only [go_sem, ↓reduceIte, Nat.reduceEqDiff, Nat.reduceAdd, reduceCtorEq] | with_reducible refine V_W ?_ | (with_reducible refine And.intro ?_ ?_; focus first | assumption | omega | decide | grind) | (with_reducible refine Br.mk ?_ ?_; focus (intros; omega)) | decide)
      rw [if_neg]
      try simp only [go_sem, ↓reduceIte, Nat.reduceEqDiff, Nat.reduceAdd, reduceCtorEq] at hc2
      rintro ⟨h5, h6⟩
      have := h6 c (by simp)
      rcases hc2 with h | h
      · omega
      · exact h this
    · (repeat first | simp only [go_sem, ↓reduceIte, Nat.reduceEqDiff, Nat.reduceAdd, reduceCtorEq] | with_reducible refine V_W ?_ | (with_reducible refine And.intro ?_ ?_; focus first | assumption | omega | decide | grind) | (with_reducible refine Br.mk ?_ ?_; focus (intros; omega)) | decide)
      rw [if_pos]
      try simp only [go_sem, ↓reduceIte, Nat.reduceEqDiff, Nat.reduceAdd, reduceCtorEq] at hc2
      exact ⟨by omega, fun x hx => by simp at hx; subst hx; exact hc2.2⟩
  · have hpd : decide (IsPos r R B) = false := decide_eq_false hp
    rw [if_neg hp]
    refine pureV0 ok55 rfl rfl ?_; unfold c55
    (repeat first | simp only [go_sem, ↓reduceIte, Nat.reduceEqDiff, Nat.reduceAdd, reduceCtorEq] | with_reducible refine V_W ?_ | (with_reducible refine And.intro ?_ ?_; focus first | assumption | omega | decide | grind) | (with_reducible refine Br.mk ?_ ?_; focus (intros; omega)) | decide)
    refine pureC (l03Is_c r R B h1 hl hr) (by simp only [go_sem, ↓reduceIte, Nat.reduceEqDiff, Nat.reduceAdd, reduceCtorEq] <;> rfl) (by first | rfl | simp only [go_sem, ↓reduceIte, Nat.reduceEqDiff, Nat.reduceAdd, reduceCtorEq]) ?_
    simp only [hpd, go_sem, ↓reduceIte, Nat.reduceEqDiff, Nat.reduceAdd, reduceCtorEq]
    (repeat first | simp only [go_sem, ↓reduceIte, Nat.reduceEqDiff, Nat.reduceAdd, reduceCtorEq] | with_reducible refine V_W ?_ | (with_reducible refine And.intro ?_ ?_; focus first | assumption | omega | decide | grind) | (with_reducible refine Br.mk ?_ ?_; focus (intros; omega)) | decide)

theorem chC_two (r : Int) (R : List Int) (B : List (List Int)) (i : Int) (a b : List Int) : chC r R B i [a, b] = if chC r R B i [a] = 0 then chC r R B i [b] else chC r R B i [a] := by
  unfold chC
  by_cases hp : IsPos r R B
  · simp only [if_pos hp, List.forall_mem_cons, List.not_mem_nil, false_implies, implies_true, and_true]
    by_cases h1 : 0 ≤ i ∧ i ≤ r - 1 <;> by_cases h2 : ChOk R i a <;> by_cases h3 : ChOk R i b <;> simp [h1, h2, h3]
  · simp [if_neg hp]

theorem l16Two_c (r : Int) (R : List Int) (B : List (List Int)) (i : Int) (a b : List Int) (h1 : R.length ≤ 1099511627776) (hl : B.length ≤ 1099511627776) (hr : ∀ xs ∈ B, xs.length ≤ 1099511627776) (ha : a.length ≤ 1099511627776) (hb : b.length ≤ 1099511627776) : Pure Try.prog 48 [posetA r R B, i64 i, ints a, ints b] (i64 (chC r R B i [a, b])) [] := by
  rw [chC_two]
  refine pureV0 ok48 rfl rfl ?_; unfold c48
  (repeat first | simp only [go_sem, ↓reduceIte, Nat.reduceEqDiff, Nat.reduceAdd, reduceCtorEq] | with_reducible refine V_W ?_ | (with_reducible refine And.intro ?_ ?_; focus first | assumption | omega | decide | grind) | (with_reducible refine Br.mk ?_ ?_; focus (intros; omega)) | decide)
  refine pureC (l16Code_c r R B i a h1 hl hr ha) (by simp only [go_sem, ↓reduceIte, Nat.reduceEqDiff, Nat.reduceAdd, reduceCtorEq] <;> rfl) (by first | rfl | simp only [go_sem, ↓reduceIte, Nat.reduceEqDiff, Nat.reduceAdd, reduceCtorEq]) ?_
  (repeat first | simp only [go_sem, ↓reduceIte, Nat.reduceEqDiff, Nat.reduceAdd, reduceCtorEq] | with_reducible refine V_W ?_ | (with_reducible refine And.intro ?_ ?_; focus first | assumption | omega | decide | grind) | (with_reducible refine Br.mk ?_ ?_; focus (intros; omega)) | decide)
  refine ⟨fun hc2 => ?_, fun hc2 => ?_⟩
  · (repeat first | simp only [go_sem, ↓reduceIte, Nat.reduceEqDiff, Nat.reduceAdd, reduceCtorEq] | with_reducible refine V_W ?_ | (with_reducible refine And.intro ?_ ?_; focus first | assumption | omega | decide | grind) | (with_reducible refine Br.mk ?_ ?_; focus (intros; omega)) | decide)
    rw [if_neg (by simpa using hc2)]
  · (repeat first | simp only [go_sem, ↓reduceIte, Nat.reduceEqDiff, Nat.reduceAdd, reduceCtorEq] | with_reducible refine V_W ?_ | (with_reducible refine And.intro ?_ ?_; focus first | assumption | omega | decide | grind) | (with_reducible refine Br.mk ?_ ?_; focus (intros; omega)) | decide)
    refine pureC (l16Code_c r R B i b h1 hl hr hb) (by simp only [go_sem, ↓reduceIte, Nat.reduceEqDiff, Nat.reduceAdd, reduceCtorEq] <;> rfl) (by first | rfl | simp only [go_sem, ↓reduceIte, Nat.reduceEqDiff, Nat.reduceAdd, reduceCtorEq]) ?_
    (repeat first | simp only [go_sem, ↓reduceIte, Nat.reduceEqDiff, Nat.reduceAdd, reduceCtorEq] | with_reducible refine V_W ?_ | (with_reducible refine And.intro ?_ ?_; focus first | assumption | omega | decide | grind) | (with_reducible refine Br.mk ?_ ?_; focus (intros; omega)) | decide)
    rw [if_pos (by simpa using hc2)]

theorem chainCode_c (r : Int) (R : List Int) (B : List (List Int)) (i : Int) (cs : List (List Int)) (h1 : R.length ≤ 1099511627776) (hl : B.length ≤ 1099511627776) (hr : ∀ xs ∈ B, xs.length ≤ 1099511627776) (hcs : cs.length ≤ 1099511627776) (hcr : ∀ xs ∈ cs, xs.length ≤ 1099511627776) : Pure Try.prog 51 [posetA r R B, i64 i, mat cs] (i64 (chC r R B i cs)) [] := by
  unfold chC
  by_cases hp : IsPos r R B
  · have hpd : decide (IsPos r R B) = true := decide_eq_true hp
    obtain ⟨a1, a2, a3, a4, hrk⟩ := hp.rank
    rw [if_pos hp]
    refine pureV0 ok51 rfl rfl ?_; unfold c51
    (repeat first | simp only [go_sem, ↓reduceIte, Nat.reduceEqDiff, Nat.reduceAdd, reduceCtorEq] | with_reducible refine V_W ?_ | (with_reducible refine And.intro ?_ ?_; focus first | assumption | omega | decide | grind) | (with_reducible refine Br.mk ?_ ?_; focus (intros; omega)) | decide)
    refine pureC (isPoset_c r R B h1 hl hr) (by simp only [go_sem, ↓reduceIte, Nat.reduceEqDiff, Nat.reduceAdd, reduceCtorEq] <;> rfl) (by first | rfl | simp only [go_sem, ↓reduceIte, Nat.reduceEqDiff, Nat.reduceAdd, reduceCtorEq]) ?_
    simp only [hpd, go_sem, ↓reduceIte, Nat.reduceEqDiff, Nat.reduceAdd, reduceCtorEq]
    (repeat first | simp only [go_sem, ↓reduceIte, Nat.reduceEqDiff, Nat.reduceAdd, reduceCtorEq] | with_reducible refine V_W ?_ | (with_reducible refine And.intro ?_ ?_; focus first | assumption | omega | decide | grind) | (with_reducible refine Br.mk ?_ ?_; focus (intros; omega)) | decide)
    refine pureC (within_c i 0 (r - 1)) (by simp only [go_sem, ↓reduceIte, Nat.reduceEqDiff, Nat.reduceAdd, reduceCtorEq] <;> rfl) (by first | rfl | simp only [go_sem, ↓reduceIte, Nat.reduceEqDiff, Nat.reduceAdd, reduceCtorEq]) ?_
    (repeat first | simp only [go_sem, ↓reduceIte, Nat.reduceEqDiff, Nat.reduceAdd, reduceCtorEq] | with_reducible refine V_W ?_ | (with_reducible refine And.intro ?_ ?_; focus first | assumption | omega | decide | grind) | (with_reducible refine Br.mk ?_ ?_; focus (intros; omega)) | decide)
    refine ⟨fun hc2 => ?_, fun hc2 => ?_⟩
    · (repeat first | simp only [go_sem, ↓reduceIte, Nat.reduceEqDiff, Nat.reduceAdd, reduceCtorEq] | with_reducible refine V_W ?_ | (with_reducible refine And.intro ?_ ?_; focus first | assumption | omega | decide | grind) | (with_reducible refine Br.mk ?_ ?_; focus (intros; omega)) | decide)
      rw [if_neg]
      try simp only [go_sem, ↓reduceIte, Nat.reduceEqDiff, Nat.reduceAdd, reduceCtorEq] at hc2
      rintro ⟨h5, h6⟩
      omega
    · have hi : 0 ≤ i ∧ i ≤ r - 1 := by
        try simp only [go_sem, ↓reduceIte, Nat.reduceEqDiff, Nat.reduceAdd, reduceCtorEq] at hc2
        omega
      (repeat first | simp only [go_sem, ↓reduceIte, Nat.reduceEqDiff, Nat.reduceAdd, reduceCtorEq] | with_reducible refine V_W ?_ | (with_reducible refine And.intro ?_ ?_; focus first | assumption | omega | decide | grind) | (with_reducible refine Br.mk ?_ ?_; focus (intros; omega)) | decide)
      refine V_loop (α := Nat) (S := fun x => ([(1, i64 i), (3, .ref 0 0), (20, mat cs), (21, i64 cs.length), (22, i64 x)], [some [i64 r, ints R, mat B]])) (C := fun x => x ≤ cs.length ∧ ∀ j, j < x → ChOk R i (cs.getD j [])) (μ := fun x => cs.length - x) 0 ⟨by omega, by omega⟩ (by exact Ref.frame (by simp [sub, fget])) ?_
      rintro x ⟨hx, hall⟩
      (repeat first | simp only [go_sem, ↓reduceIte, Nat.reduceEqDiff, Nat.reduceAdd, reduceCtorEq] | with_reducible refine V_W ?_ | (with_reducible refine And.intro ?_ ?_; focus first | assumption | omega | decide | grind) | (with_reducible refine Br.mk ?_ ?_; focus (intros; omega)) | decide)
      refine ⟨fun hc3 => ?_, fun hc3 => ?_⟩
      · have hrow := getD_row hcr x
        have hmem : cs.getD x [] ∈ cs := by
          rw [show cs.getD x [] = cs[x]'(by omega) by simp [show x < cs.length by omega]]
          exact List.getElem_mem _
        (repeat first | simp only [go_sem, ↓reduceIte, Nat.reduceEqDiff, Nat.reduceAdd, reduceCtorEq] | with_reducible refine V_W ?_ | (with_reducible refine And.intro ?_ ?_; focus first | assumption | omega | decide | grind) | (with_reducible refine Br.mk ?_ ?_; focus (intros; omega)) | decide)
        refine V_loop (α := Nat) (S := fun k => ([(1, i64 i), (3, .ref 0 0), (20, mat cs), (21, i64 cs.length), (22, i64 x), (8, ints (cs.getD x [])), (26, ints (cs.getD x [])), (27, i64 (cs.getD x []).length), (28, i64 k)], [some [i64 r, ints R, mat B]])) (C := fun k => k ≤ (cs.getD x []).length ∧ ∀ j, j < k → Ch1 R i (cs.getD x []) j) (μ := fun k => (cs.getD x []).length - k) 0 ⟨by omega, by omega⟩ (by exact Ref.frame (by simp [sub, fget])) ?_
        rintro k ⟨hk, hallk⟩
        (repeat first | simp only [go_sem, ↓reduceIte, Nat.reduceEqDiff, Nat.reduceAdd, reduceCtorEq] | with_reducible refine V_W ?_ | (with_reducible refine And.intro ?_ ?_; focus first | assumption | omega | decide | grind) | (with_reducible refine Br.mk ?_ ?_; focus (intros; omega)) | decide)
        refine ⟨fun hc4 => ?_, fun hc4 => ?_⟩
        · (repeat first | simp only [go_sem, ↓reduceIte, Nat.reduceEqDiff, Nat.reduceAdd, reduceCtorEq] | with_reducible refine V_W ?_ | (with_reducible refine And.intro ?_ ?_; focus first | assumption | omega | decide | grind) | (with_reducible refine Br.mk ?_ ?_; focus (intros; omega)) | decide)
          refine pureC (size_c R h1) (by simp only [go_sem, ↓reduceIte, Nat.reduceEqDiff, Nat.reduceAdd, reduceCtorEq] <;> rfl) (by first | rfl | simp only [go_sem, ↓reduceIte, Nat.reduceEqDiff, Nat.reduceAdd, reduceCtorEq]) ?_
          (repeat first | simp only [go_sem, ↓reduceIte, Nat.reduceEqDiff, Nat.reduceAdd, reduceCtorEq] | with_reducible refine V_W ?_ | (with_reducible refine And.intro ?_ ?_; focus first | assumption | omega | decide | grind) | (with_reducible refine Br.mk ?_ ?_; focus (intros; omega)) | decide)
          refine pureC (within_c ((cs.getD x []).getD k 0) 0 (R.length - 1)) (by simp only [go_sem, ↓reduceIte, Nat.reduceEqDiff, Nat.reduceAdd, reduceCtorEq] <;> rfl) (by first | rfl | simp only [go_sem, ↓reduceIte, Nat.reduceEqDiff, Nat.reduceAdd, reduceCtorEq]) ?_
          (repeat first | simp only [go_sem, ↓reduceIte, Nat.reduceEqDiff, Nat.reduceAdd, reduceCtorEq] | with_reducible refine V_W ?_ | (with_reducible refine And.intro ?_ ?_; focus first | assumption | omega | decide | grind) | (with_reducible refine Br.mk ?_ ?_; focus (intros; omega)) | decide)
          refine ⟨fun hc5 => ?_, fun hc5 => ?_⟩
          · (repeat first | simp only [go_sem, ↓reduceIte, Nat.reduceEqDiff, Nat.reduceAdd, reduceCtorEq] | with_reducible refine V_W ?_ | (with_reducible refine And.intro ?_ ?_; focus first | assumption | omega | decide | grind) | (with_reducible refine Br.mk ?_ ?_; focus (intros; omega)) | decide)
            rw [if_neg]
            rintro ⟨_, h6⟩
            obtain ⟨b1, b2, b3, b4⟩ := h6 _ hmem k (by omega)
            try simp only [go_sem, ↓reduceIte, Nat.reduceEqDiff, Nat.reduceAdd, reduceCtorEq] at hc5
            omega
          · have hcv : Ch1 R i (cs.getD x []) k := by
              try simp only [go_sem, ↓reduceIte, Nat.reduceEqDiff, Nat.reduceAdd, reduceCtorEq] at hc5
              unfold Ch1
              omega
            (repeat first | simp only [go_sem, ↓reduceIte, Nat.reduceEqDiff, Nat.reduceAdd, reduceCtorEq] | with_reducible refine V_W ?_ | (with_reducible refine And.intro ?_ ?_; focus first | assumption | omega | decide | grind) | (with_reducible refine Br.mk ?_ ?_; focus (intros; omega)) | decide)
            refine ⟨k + 1, ⟨by omega, fun j hj => ?_⟩, by omega, by exact Ref.frame (by simp [sub, fget])⟩
            rcases Nat.lt_or_ge j k with h | h
            · exact hallk j h
            · obtain rfl : j = k := by omega
              exact hcv
        · (repeat first | simp only [go_sem, ↓reduceIte, Nat.reduceEqDiff, Nat.reduceAdd, reduceCtorEq] | with_reducible refine V_W ?_ | (with_reducible refine And.intro ?_ ?_; focus first | assumption | omega | decide | grind) | (with_reducible refine Br.mk ?_ ?_; focus (intros; omega)) | decide)
          refine ⟨x + 1, ⟨by omega, fun j hj => ?_⟩, by omega, by exact Ref.frame (by simp [sub, fget])⟩
          rcases Nat.lt_or_ge j x with h | h
          · exact hall j h
          · obtain rfl : j = x := by omega
            exact fun k' hk' => hallk k' (by omega)
      · (repeat first | simp only [go_sem, ↓reduceIte, Nat.reduceEqDiff, Nat.reduceAdd, reduceCtorEq] | with_reducible refine V_W ?_ | (with_reducible refine And.intro ?_ ?_; focus first | assumption | omega | decide | grind) | (with_reducible refine Br.mk ?_ ?_; focus (intros; omega)) | decide)
        rw [if_pos]
        refine ⟨hi, fun c hcm => ?_⟩
        obtain ⟨j, hj, rfl⟩ := List.mem_iff_getElem.1 hcm
        have := hall j (by omega)
        rwa [show cs.getD j [] = cs[j] by simp [hj]] at this
  · have hpd : decide (IsPos r R B) = false := decide_eq_false hp
    rw [if_neg hp]
    refine pureV0 ok51 rfl rfl ?_; unfold c51
    (repeat first | simp only [go_sem, ↓reduceIte, Nat.reduceEqDiff, Nat.reduceAdd, reduceCtorEq] | with_reducible refine V_W ?_ | (with_reducible refine And.intro ?_ ?_; focus first | assumption | omega | decide | grind) | (with_reducible refine Br.mk ?_ ?_; focus (intros; omega)) | decide)
    refine pureC (isPoset_c r R B h1 hl hr) (by simp only [go_sem, ↓reduceIte, Nat.reduceEqDiff, Nat.reduceAdd, reduceCtorEq] <;> rfl) (by first | rfl | simp only [go_sem, ↓reduceIte, Nat.reduceEqDiff, Nat.reduceAdd, reduceCtorEq]) ?_
    simp only [hpd, go_sem, ↓reduceIte, Nat.reduceEqDiff, Nat.reduceAdd, reduceCtorEq]
    (repeat first | simp only [go_sem, ↓reduceIte, Nat.reduceEqDiff, Nat.reduceAdd, reduceCtorEq] | with_reducible refine V_W ?_ | (with_reducible refine And.intro ?_ ?_; focus first | assumption | omega | decide | grind) | (with_reducible refine Br.mk ?_ ?_; focus (intros; omega)) | decide)

end Go.Proofs.Ytmiapnfhlhgefaa
set_option maxRecDepth 100000
namespace Go.Proofs.Ytmiapnfhlhgefaa
open Go.Gov
open Classical

theorem drop_at (a : List Int) (i : Nat) (h : i < a.length) : a.drop i = a.getD i 0 :: a.drop (i + 1) := by
  rw [List.drop_eq_getElem_cons h]; simp [h]
theorem sum_s1 {a b : List Int} {i k : Nat} (h : i < a.length) (hk : b.length ≤ k ∨ (k < b.length ∧ a.getD i 0 < b.getD k 0)) : sumL (a.drop i) (b.drop k) = a.getD i 0 :: sumL (a.drop (i + 1)) (b.drop k) := by
  rw [drop_at a i h]
  rcases hk with hk | ⟨hk, hlt⟩
  · rw [List.drop_eq_nil_of_le hk, sumL_nil, sumL_nil]
  · rw [drop_at b k hk]
    conv => lhs; unfold sumL
    rw [if_pos hlt]
theorem sum_s2 {a b : List Int} {i k : Nat} (h : k < b.length) (hk : a.length ≤ i ∨ (i < a.length ∧ b.getD k 0 < a.getD i 0)) : sumL (a.drop i) (b.drop k) = b.getD k 0 :: sumL (a.drop i) (b.drop (k + 1)) := by
  rw [drop_at b k h]
  rcases hk with hk | ⟨hk, hlt⟩
  · rw [List.drop_eq_nil_of_le hk]; simp [sumL]
  · rw [drop_at a i hk]
    conv => lhs; unfold sumL
    rw [if_neg (by omega), if_pos hlt]
theorem sum_s3 {a b : List Int} {i k : Nat} (h : i < a.length) (hk : k < b.length) (he : a.getD i 0 = b.getD k 0) : sumL (a.drop i) (b.drop k) = sumL (a.drop (i + 1)) (b.drop (k + 1)) := by
  rw [drop_at a i h, drop_at b k hk]
  conv => lhs; unfold sumL
  rw [if_neg (by omega), if_neg (by omega)]

theorem fresh_ints {f : FuncId} {args : List AV} {xs : List Int} (h : Pure Try.prog f args (.sl 0 1 0 xs.length) [some (intsC xs)]) : Fresh Try.prog f args (ints xs) :=
  Fresh.of h 6 rfl (by simp only [go_sem, ↓reduceIte, Nat.reduceEqDiff, Nat.reduceAdd, reduceCtorEq]) (by
    have e : shrH id 6 [some (intsC xs)] = [some (intsC xs)] := by simp only [shrH, List.map_cons, List.map_nil, Option.map_some, map_shr_ints]
    rw [e]
    simp only [shr, id, frz, go_sem, ↓reduceIte, Nat.reduceEqDiff, Nat.reduceAdd, reduceCtorEq])

set_option maxHeartbeats 1000000 in
theorem l16Sum_p (a b : List Int) (ha : a.length ≤ 549755813888) (hb : b.length ≤ 549755813888) : Pure Try.prog 50 [ints a, ints b] (.sl 0 1 0 (sumL a b).length) [some (intsC (sumL a b))] := by
  refine pureVg [0] ok50 rfl ?_; unfold c50
  (repeat first | simp only [go_sem, ↓reduceIte, Nat.reduceEqDiff, Nat.reduceAdd, reduceCtorEq] | with_reducible refine V_W ?_ | (with_reducible refine And.intro ?_ ?_; focus first | assumption | omega | decide | grind) | (with_reducible refine Br.mk ?_ ?_; focus (intros; omega)) | decide)
  refine V_loop (α := Nat × Nat × List Int) (S := fun p => ([(0, ints a), (1, ints b), (5, .sl 0 1 0 p.2.2.length), (6, i64 p.1), (7, i64 p.2.1)], [some (intsC p.2.2)])) (C := fun p => p.1 ≤ a.length ∧ p.2.1 ≤ b.length ∧ p.2.2 ++ sumL (a.drop p.1) (b.drop p.2.1) = sumL a b) (μ := fun p => (a.length - p.1) + (b.length - p.2.1)) (0, 0, []) ⟨Nat.zero_le _, Nat.zero_le _, by simp⟩ (Ref.to (by simp [intsC]) (by simp [sub, fget])) ?_
  rintro ⟨i, k, O⟩ ⟨hi, hk, hO⟩
  dsimp only at hi hk hO
  have hOl : O.length ≤ a.length + b.length := by
    have h1 := sumL_len a b
    have h2 := congrArg List.length hO
    rw [List.length_append] at h2
    omega
  (repeat first | simp only [go_sem, ↓reduceIte, Nat.reduceEqDiff, Nat.reduceAdd, reduceCtorEq] | with_reducible refine V_W ?_ | (with_reducible refine And.intro ?_ ?_; focus first | assumption | omega | decide | grind) | (with_reducible refine Br.mk ?_ ?_; focus (intros; omega)) | decide)
  refine ⟨fun hc => ?_, fun hc => ?_⟩
  · have hc' : i < a.length ∨ k < b.length := by
      try simp only [go_sem, ↓reduceIte, Nat.reduceEqDiff, Nat.reduceAdd, reduceCtorEq] at hc
      omega
    (repeat first | simp only [go_sem, ↓reduceIte, Nat.reduceEqDiff, Nat.reduceAdd, reduceCtorEq] | with_reducible refine V_W ?_ | (with_reducible refine And.intro ?_ ?_; focus first | assumption | omega | decide | grind) | (with_reducible refine Br.mk ?_ ?_; focus (intros; omega)) | decide)
    refine ⟨fun hc1 => ?_, fun hc1 => ?_⟩
    · have h1 : i < a.length := by
        try simp only [go_sem, ↓reduceIte, Nat.reduceEqDiff, Nat.reduceAdd, reduceCtorEq] at hc1
        omega
      have h2 : b.length ≤ k ∨ (k < b.length ∧ a.getD i 0 < b.getD k 0) := by
        try simp only [go_sem, ↓reduceIte, Nat.reduceEqDiff, Nat.reduceAdd, reduceCtorEq] at hc1
        omega
      have hs := sum_s1 h1 h2
      (repeat first | simp only [go_sem, ↓reduceIte, Nat.reduceEqDiff, Nat.reduceAdd, reduceCtorEq] | with_reducible refine V_W ?_ | (with_reducible refine And.intro ?_ ?_; focus first | assumption | omega | decide | grind) | (with_reducible refine Br.mk ?_ ?_; focus (intros; omega)) | decide)
      refine ⟨(i + 1, k, O ++ [a.getD i 0]), ⟨by dsimp only; omega, hk, ?_⟩, by dsimp only; omega, ?_⟩
      · dsimp only
        rw [← hO, hs]; simp
      · refine Ref.gc [2] rfl ?_ (by simp [sub, fget, go_sem, ↓reduceIte, Nat.reduceEqDiff, Nat.reduceAdd, reduceCtorEq])
        (try simp only [go_sem, ↓reduceIte, Nat.reduceEqDiff, Nat.reduceAdd, reduceCtorEq, take_len, one_intsC, app_intsC])
    · have hk1 : k < b.length := by
        try simp only [go_sem, ↓reduceIte, Nat.reduceEqDiff, Nat.reduceAdd, reduceCtorEq] at hc1
        omega
      (repeat first | simp only [go_sem, ↓reduceIte, Nat.reduceEqDiff, Nat.reduceAdd, reduceCtorEq] | with_reducible refine V_W ?_ | (with_reducible refine And.intro ?_ ?_; focus first | assumption | omega | decide | grind) | (with_reducible refine Br.mk ?_ ?_; focus (intros; omega)) | decide)
      refine ⟨fun hc2 => ?_, fun hc2 => ?_⟩
      · have h2 : a.length ≤ i ∨ (i < a.length ∧ b.getD k 0 < a.getD i 0) := by
          try simp only [go_sem, ↓reduceIte, Nat.reduceEqDiff, Nat.reduceAdd, reduceCtorEq] at hc2
          omega
        have hs := sum_s2 hk1 h2
        (repeat first | simp only [go_sem, ↓reduceIte, Nat.reduceEqDiff, Nat.reduceAdd, reduceCtorEq] | with_reducible refine V_W ?_ | (with_reducible refine And.intro ?_ ?_; focus first | assumption | omega | decide | grind) | (with_reducible refine Br.mk ?_ ?_; focus (intros; omega)) | decide)
        refine ⟨(i, k + 1, O ++ [b.getD k 0]), ⟨hi, by dsimp only; omega, ?_⟩, by dsimp only; omega, ?_⟩
        · dsimp only
          rw [← hO, hs]; simp
        · refine Ref.gc [2] rfl ?_ (by simp [sub, fget, go_sem, ↓reduceIte, Nat.reduceEqDiff, Nat.reduceAdd, reduceCtorEq])
          (try simp only [go_sem, ↓reduceIte, Nat.reduceEqDiff, Nat.reduceAdd, reduceCtorEq, take_len, one_intsC, app_intsC])
      · have h2 : i < a.length ∧ a.getD i 0 = b.getD k 0 := by
          try simp only [go_sem, ↓reduceIte, Nat.reduceEqDiff, Nat.reduceAdd, reduceCtorEq] at hc1 hc2
          omega
        have hs := sum_s3 h2.1 hk1 h2.2
        (repeat first | simp only [go_sem, ↓reduceIte, Nat.reduceEqDiff, Nat.reduceAdd, reduceCtorEq] | with_reducible refine V_W ?_ | (with_reducible refine And.intro ?_ ?_; focus first | assumption | omega | decide | grind) | (with_reducible refine Br.mk ?_ ?_; focus (intros; omega)) | decide)
        refine ⟨(i + 1, k + 1, O), ⟨by dsimp only; omega, by dsimp only; omega, ?_⟩, by dsimp only; omega, by exact Ref.frame (by simp [sub, fget])⟩
        dsimp only
        rw [← hO, hs]
  · have hc' : i = a.length ∧ k = b.length := by
      try simp only [go_sem, ↓reduceIte, Nat.reduceEqDiff, Nat.reduceAdd, reduceCtorEq] at hc
      omega
    obtain ⟨rfl, rfl⟩ := hc'
    have : O = sumL a b := by
      rw [← hO]; simp [sumL]
    subst this
    (repeat first | simp only [go_sem, ↓reduceIte, Nat.reduceEqDiff, Nat.reduceAdd, reduceCtorEq] | with_reducible refine V_W ?_ | (with_reducible refine And.intro ?_ ?_; focus first | assumption | omega | decide | grind) | (with_reducible refine Br.mk ?_ ?_; focus (intros; omega)) | decide)
    (try simp only [go_sem, ↓reduceIte, Nat.reduceEqDiff, Nat.reduceAdd, reduceCtorEq, and_self])
theorem l16Sum_f (a b : List Int) (ha : a.length ≤ 549755813888) (hb : b.length ≤ 549755813888) : Fresh Try.prog 50 [ints a, ints b] (ints (sumL a b)) := fresh_ints (l16Sum_p a b ha hb)

def blP (R : List Int) (e d : Int) : Bool := R.getD d.toNat 0 == R.getD e.toNat 0 - 1
def blw (R : List Int) (B : List (List Int)) (e : Int) : List Int := (B.getD e.toNat []).filter (blP R e)

/-- What the boundaries lean on: the rows' elements are elements. -/
def RowsOk (R : List Int) (B : List (List Int)) : Prop := ∀ x, x < B.length → ∀ k, k < (B.getD x []).length → 0 ≤ (B.getD x []).getD k 0 ∧ (B.getD x []).getD k 0 ≤ (R.length : Int) - 1
theorem IsPos.rows {r : Int} {R : List Int} {B : List (List Int)} (h : IsPos r R B) : RowsOk R B ∧ ∀ x, sst (B.getD x []) := by
  obtain ⟨⟨a1, a2, a3, a4⟩, a5⟩ := h
  refine ⟨fun x hx k hk => ?_, fun x => sst_of_lt fun j hj => ?_⟩
  · obtain ⟨b1, b2, b3, b4⟩ := ((a5 x (by omega)).2 k hk).1
    omega
  · by_cases hx : x < B.length
    · have := (((a5 x (by omega)).2 (j + 1) hj).1).2.2.2 (by omega)
      simpa using this
    · simp [hx] at hj
theorem blw_sst {R : List Int} {B : List (List Int)} (h : ∀ x, sst (B.getD x [])) (e : Int) : sst (blw R B e) := (h e.toNat).sublist List.filter_sublist
theorem filter_take {p : Int → Bool} {xs : List Int} {k : Nat} (h : k < xs.length) : (xs.take (k + 1)).filter p = if p (xs.getD k 0) then (xs.take k).filter p ++ [xs.getD k 0] else (xs.take k).filter p := by
  rw [List.take_succ_eq_append_getElem h, List.filter_append, show xs.getD k 0 = xs[k] by simp [h]]
  by_cases hp : p xs[k] = true <;> simp [hp]
theorem filter_le {p : Int → Bool} (xs : List Int) (k : Nat) : ((xs.take k).filter p).length ≤ k := by
  have h1 := List.length_filter_le p (xs.take k)
  rw [List.length_take] at h1; omega

theorem l16Below_p (r : Int) (R : List Int) (B : List (List Int)) (e : Int) (h1 : R.length ≤ 1048576) (hl : B.length = R.length) (hr : ∀ xs ∈ B, xs.length ≤ 1048576) (hok : RowsOk R B) (hR : ∀ x, x < R.length → 0 ≤ R.getD x 0 ∧ R.getD x 0 ≤ 1048576) (he : 0 ≤ e) (he2 : e ≤ (R.length : Int) - 1) :
    Pure Try.prog 71 [posetA r R B, i64 e] (.sl 0 1 0 (blw R B e).length) [some (intsC (blw R B e))] := by
  have hrow := getD_row hr e.toNat
  have hRe := hR e.toNat (by omega)
  unfold blw
  refine pureVg [1] ok71 rfl ?_; unfold c71
  (repeat first | simp only [go_sem, ↓reduceIte, Nat.reduceEqDiff, Nat.reduceAdd, reduceCtorEq] | with_reducible refine V_W ?_ | (with_reducible refine And.intro ?_ ?_; focus first | assumption | omega | decide | grind) | (with_reducible refine Br.mk ?_ ?_; focus (intros; omega)) | decide)
  refine V_loop (α := Nat) (S := fun k => ([(1, i64 e), (2, .ref 0 0), (5, .sl 1 1 0 (((B.getD e.toNat []).take k).filter (blP R e)).length), (6, i64 k)], [some [i64 r, ints R, mat B], some (intsC (((B.getD e.toNat []).take k).filter (blP R e)))])) (C := fun k => k ≤ (B.getD e.toNat []).length) (μ := fun k => (B.getD e.toNat []).length - k) 0 (by omega) (Ref.to (by simp [intsC]) (by simp [sub, fget])) ?_
  intro k hk
  have hfl := filter_le (p := blP R e) (B.getD e.toNat []) k
  (repeat first | simp only [go_sem, ↓reduceIte, Nat.reduceEqDiff, Nat.reduceAdd, reduceCtorEq] | with_reducible refine V_W ?_ | (with_reducible refine And.intro ?_ ?_; focus first | assumption | omega | decide | grind) | (with_reducible refine Br.mk ?_ ?_; focus (intros; omega)) | decide)
  refine ⟨fun hc => ?_, fun hc => ?_⟩
  · have hd := hok e.toNat (by omega) k (by omega)
    have hf := filter_take (p := blP R e) (xs := B.getD e.toNat []) (k := k) (by omega)
    have hRd := hR ((B.getD e.toNat []).getD k 0).toNat (by omega)
    (repeat first | simp only [go_sem, ↓reduceIte, Nat.reduceEqDiff, Nat.reduceAdd, reduceCtorEq] | with_reducible refine V_W ?_ | (with_reducible refine And.intro ?_ ?_; focus first | assumption | omega | decide | grind) | (with_reducible refine Br.mk ?_ ?_; focus (intros; omega)) | decide)
    refine ⟨fun hc2 => ?_, fun hc2 => ?_⟩
    · have hp : blP R e ((B.getD e.toNat []).getD k 0) = true := (by unfold blP; first | exact beq_iff_eq.2 hc2 | exact hc2)
      rw [hp, if_pos rfl] at hf
      (repeat first | simp only [go_sem, ↓reduceIte, Nat.reduceEqDiff, Nat.reduceAdd, reduceCtorEq] | with_reducible refine V_W ?_ | (with_reducible refine And.intro ?_ ?_; focus first | assumption | omega | decide | grind) | (with_reducible refine Br.mk ?_ ?_; focus (intros; omega)) | decide)
      refine ⟨k + 1, by omega, by omega, ?_⟩
      rw [hf]
      refine Ref.gc [0, 3] rfl ?_ (by simp [sub, fget, go_sem, ↓reduceIte, Nat.reduceEqDiff, Nat.reduceAdd, reduceCtorEq])
      (try simp only [go_sem, ↓reduceIte, Nat.reduceEqDiff, Nat.reduceAdd, reduceCtorEq, take_len, one_intsC, app_intsC])
    · have hp : blP R e ((B.getD e.toNat []).getD k 0) = false := (by unfold blP; first | exact beq_eq_false_iff_ne.2 hc2 | exact hc2)
      rw [hp, if_neg (by simp)] at hf
      (repeat first | simp only [go_sem, ↓reduceIte, Nat.reduceEqDiff, Nat.reduceAdd, reduceCtorEq] | with_reducible refine V_W ?_ | (with_reducible refine And.intro ?_ ?_; focus first | assumption | omega | decide | grind) | (with_reducible refine Br.mk ?_ ?_; focus (intros; omega)) | decide)
      refine ⟨k + 1, by omega, by omega, ?_⟩
      rw [hf]
      exact Ref.frame (by simp [sub, fget])
  · obtain rfl : k = (B.getD e.toNat []).length := by omega
    rw [List.take_length]
    (repeat first | simp only [go_sem, ↓reduceIte, Nat.reduceEqDiff, Nat.reduceAdd, reduceCtorEq] | with_reducible refine V_W ?_ | (with_reducible refine And.intro ?_ ?_; focus first | assumption | omega | decide | grind) | (with_reducible refine Br.mk ?_ ?_; focus (intros; omega)) | decide)
    (try simp only [go_sem, ↓reduceIte, Nat.reduceEqDiff, Nat.reduceAdd, reduceCtorEq, and_self])
theorem l16Below_f (r : Int) (R : List Int) (B : List (List Int)) (e : Int) (h1 : R.length ≤ 1048576) (hl : B.length = R.length) (hr : ∀ xs ∈ B, xs.length ≤ 1048576) (hok : RowsOk R B) (hR : ∀ x, x < R.length → 0 ≤ R.getD x 0 ∧ R.getD x 0 ≤ 1048576) (he : 0 ≤ e) (he2 : e ≤ (R.length : Int) - 1) : Fresh Try.prog 71 [posetA r R B, i64 e] (ints (blw R B e)) :=
  fresh_ints (l16Below_p r R B e h1 hl hr hok hR he he2)
theorem blw_len {R : List Int} {B : List (List Int)} {n : Nat} (hr : ∀ xs ∈ B, xs.length ≤ n) (e : Int) : (blw R B e).length ≤ n := Nat.le_trans (List.length_filter_le _ _) (getD_row hr _)

def bdS (R : List Int) (B : List (List Int)) (c : List Int) : List Int := (c.map (blw R B)).foldl sumL []
theorem sums_len (n : Nat) : ∀ (ls : List (List Int)) (acc : List Int), (∀ l ∈ ls, l.length ≤ n) → (ls.foldl sumL acc).length ≤ acc.length + ls.length * n
  | [], acc, _ => by simp
  | l :: ls, acc, h => by
    have h1 := sums_len n ls (sumL acc l) fun x hx => h x (by simp [hx])
    have h2 := sumL_len acc l
    have h3 := h l (by simp)
    rw [List.foldl_cons, List.length_cons, Nat.add_mul]
    omega

theorem l16Boundary_p (r : Int) (R : List Int) (B : List (List Int)) (c : List Int) (h1 : R.length ≤ 1048576) (hl : B.length = R.length) (hr : ∀ xs ∈ B, xs.length ≤ 1048576) (hok : RowsOk R B) (hR : ∀ x, x < R.length → 0 ≤ R.getD x 0 ∧ R.getD x 0 ≤ 1048576) (hc : c.length ≤ 262144) (hce : ∀ k, k < c.length → 0 ≤ c.getD k 0 ∧ c.getD k 0 ≤ (R.length : Int) - 1) :
    Pure Try.prog 60 [posetA r R B, ints c] (.sl 0 1 0 (bdS R B c).length) [some (intsC (bdS R B c))] := by
  have hacc : ∀ k : Nat, bdS R B (c.take (k + 1)) = if k < c.length then sumL (bdS R B (c.take k)) (blw R B (c.getD k 0)) else bdS R B (c.take k) := fun k => by
    by_cases h : k < c.length
    · rw [if_pos h]
      unfold bdS
      rw [List.take_succ_eq_append_getElem h, List.map_append, List.foldl_append]
      simp [h]
    · rw [if_neg h, List.take_of_length_le (by omega), List.take_of_length_le (by omega)]
  have hlen : ∀ k, (bdS R B (c.take k)).length ≤ 274877906944 := fun k => by
    have h2 := sums_len 1048576 ((c.take k).map (blw R B)) [] (fun l hl => by
      obtain ⟨e, _, rfl⟩ := List.mem_map.1 hl
      exact blw_len hr e)
    unfold bdS
    rw [List.length_map, List.length_take] at h2
    simp only [List.length_nil] at h2
    have : min k c.length * 1048576 ≤ 262144 * 1048576 := Nat.mul_le_mul_right _ (by omega)
    omega
  refine pureVg [1] ok60 rfl ?_; unfold c60
  (repeat first | simp only [go_sem, ↓reduceIte, Nat.reduceEqDiff, Nat.reduceAdd, reduceCtorEq] | with_reducible refine V_W ?_ | (with_reducible refine And.intro ?_ ?_; focus first | assumption | omega | decide | grind) | (with_reducible refine Br.mk ?_ ?_; focus (intros; omega)) | decide)
  refine V_loop (α := Nat) (S := fun k => ([(1, ints c), (2, .ref 0 0), (5, .sl 1 1 0 (bdS R B (c.take k)).length), (6, i64 k)], [some [i64 r, ints R, mat B], some (intsC (bdS R B (c.take k)))])) (C := fun k => k ≤ c.length) (μ := fun k => c.length - k) 0 (by omega) (Ref.to (by simp [intsC, bdS]) (by simp [sub, fget, bdS])) ?_
  intro k hk
  have hln := hlen k
  (repeat first | simp only [go_sem, ↓reduceIte, Nat.reduceEqDiff, Nat.reduceAdd, reduceCtorEq] | with_reducible refine V_W ?_ | (with_reducible refine And.intro ?_ ?_; focus first | assumption | omega | decide | grind) | (with_reducible refine Br.mk ?_ ?_; focus (intros; omega)) | decide)
  refine ⟨fun hc1 => ?_, fun hc1 => ?_⟩
  · obtain ⟨e1, e2⟩ := hce k (by omega)
    have hst := hacc k
    rw [if_pos (by omega)] at hst
    have hbl := blw_len hr (c.getD k 0) (R := R)
    (repeat first | simp only [go_sem, ↓reduceIte, Nat.reduceEqDiff, Nat.reduceAdd, reduceCtorEq] | with_reducible refine V_W ?_ | (with_reducible refine And.intro ?_ ?_; focus first | assumption | omega | decide | grind) | (with_reducible refine Br.mk ?_ ?_; focus (intros; omega)) | decide)
    refine call_fresh (l16Below_f r R B (c.getD k 0) h1 hl hr hok hR e1 e2) (by simp only [go_sem, ↓reduceIte, Nat.reduceEqDiff, Nat.reduceAdd, reduceCtorEq] <;> rfl) ?_
    (repeat first | simp only [go_sem, ↓reduceIte, Nat.reduceEqDiff, Nat.reduceAdd, reduceCtorEq] | with_reducible refine V_W ?_ | (with_reducible refine And.intro ?_ ?_; focus first | assumption | omega | decide | grind) | (with_reducible refine Br.mk ?_ ?_; focus (intros; omega)) | decide)
    refine pureC (l16Sum_p (bdS R B (c.take k)) (blw R B (c.getD k 0)) (by omega) (by omega)) (by simp only [go_sem, ↓reduceIte, Nat.reduceEqDiff, Nat.reduceAdd, reduceCtorEq] <;> rfl) (by first | rfl | simp only [go_sem, ↓reduceIte, Nat.reduceEqDiff, Nat.reduceAdd, reduceCtorEq]) ?_
    (repeat first | simp only [go_sem, ↓reduceIte, Nat.reduceEqDiff, Nat.reduceAdd, reduceCtorEq] | with_reducible refine V_W ?_ | (with_reducible refine And.intro ?_ ?_; focus first | assumption | omega | decide | grind) | (with_reducible refine Br.mk ?_ ?_; focus (intros; omega)) | decide)
    refine ⟨k + 1, by omega, by omega, ?_⟩
    rw [hst]
    refine Ref.gc [0, 2] rfl ?_ (by simp [sub, fget, go_sem, ↓reduceIte, Nat.reduceEqDiff, Nat.reduceAdd, reduceCtorEq])
    (try simp only [go_sem, ↓reduceIte, Nat.reduceEqDiff, Nat.reduceAdd, reduceCtorEq])
  · obtain rfl : k = c.length := by omega
    rw [List.take_length]
    (repeat first | simp only [go_sem, ↓reduceIte, Nat.reduceEqDiff, Nat.reduceAdd, reduceCtorEq] | with_reducible refine V_W ?_ | (with_reducible refine And.intro ?_ ?_; focus first | assumption | omega | decide | grind) | (with_reducible refine Br.mk ?_ ?_; focus (intros; omega)) | decide)
    (try simp only [go_sem, ↓reduceIte, Nat.reduceEqDiff, Nat.reduceAdd, reduceCtorEq, and_self])

/-- The library's boundary. -/
theorem boundary_p (r : Int) (R : List Int) (B : List (List Int)) (c : List Int) (h1 : R.length ≤ 1048576) (hl : B.length = R.length) (hr : ∀ xs ∈ B, xs.length ≤ 1048576) (hok : RowsOk R B) (hR : ∀ x, x < R.length → 0 ≤ R.getD x 0 ∧ R.getD x 0 ≤ 1048576) (hs : ∀ x, sst (B.getD x [])) (hc : c.length ≤ 262144) (hce : ∀ k, k < c.length → 0 ≤ c.getD k 0 ∧ c.getD k 0 ≤ (R.length : Int) - 1) :
    Pure Try.prog 83 [.pto [i64 r, ints R, mat B] 0, ints c] (.sl 0 1 0 (bdS R B c).length) [some (intsC (bdS R B c))] := by
  have hbd : odd (c.map (blw R B)).flatten = bdS R B c := odd_sums fun l hl => by
    obtain ⟨e, _, rfl⟩ := List.mem_map.1 hl
    exact blw_sst hs e
  rw [← hbd]
  have hlen : ∀ k, ((c.take k).map (blw R B)).flatten.length ≤ 274877906944 := fun k => by
    have h2 : ∀ ls : List (List Int), (∀ l ∈ ls, l.length ≤ 1048576) → ls.flatten.length ≤ ls.length * 1048576 := fun ls => by
      induction ls with
      | nil => simp
      | cons l ls ih =>
        intro h
        have h3 := ih fun x hx => h x (by simp [hx])
        have h4 := h l (by simp)
        rw [List.flatten_cons, List.length_append, List.length_cons, Nat.add_mul]; omega
    have h3 := h2 ((c.take k).map (blw R B)) (fun l hl => by
      obtain ⟨e, _, rfl⟩ := List.mem_map.1 hl
      exact blw_len hr e)
    rw [List.length_map, List.length_take] at h3
    have : min k c.length * 1048576 ≤ 262144 * 1048576 := Nat.mul_le_mul_right _ (by omega)
    omega
  have hacc : ∀ k, k < c.length → ((c.take (k + 1)).map (blw R B)).flatten = ((c.take k).map (blw R B)).flatten ++ blw R B (c.getD k 0) := fun k h => by
    rw [List.take_succ_eq_append_getElem h, List.map_append, List.flatten_append]
    simp [h]
  have hwhole := hlen c.length
  rw [List.take_length] at hwhole
  refine pureVg [1] ok83 rfl ?_; unfold c83
  (repeat first | simp only [go_sem, ↓reduceIte, Nat.reduceEqDiff, Nat.reduceAdd, reduceCtorEq] | with_reducible refine V_W ?_ | (with_reducible refine And.intro ?_ ?_; focus first | assumption | omega | decide | grind) | (with_reducible refine Br.mk ?_ ?_; focus (intros; omega)) | decide)
  refine V_loop (α := Nat) (S := fun k => ([(0, .pto [i64 r, ints R, mat B] 0), (5, .sl 0 1 0 ((c.take k).map (blw R B)).flatten.length), (10, ints c), (11, i64 c.length), (12, i64 k)], [some (intsC ((c.take k).map (blw R B)).flatten)])) (C := fun k => k ≤ c.length) (μ := fun k => c.length - k) 0 (by omega) ((Ref.nil 5 1 rfl).trans (Ref.to (by simp [intsC]) (by simp [sub, fget]))) ?_
  intro k hk
  have hln := hlen k
  have hst := hacc k
  generalize hL : ((c.take k).map (blw R B)).flatten = L at hln hst ⊢
  (repeat first | simp only [go_sem, ↓reduceIte, Nat.reduceEqDiff, Nat.reduceAdd, reduceCtorEq] | with_reducible refine V_W ?_ | (with_reducible refine And.intro ?_ ?_; focus first | assumption | omega | decide | grind) | (with_reducible refine Br.mk ?_ ?_; focus (intros; omega)) | decide)
  refine ⟨fun hc1 => ?_, fun hc1 => ?_⟩
  · obtain ⟨e1, e2⟩ := hce k (by omega)
    have hst' := hst (by omega)
    have hrow := getD_row hr (c.getD k 0).toNat
    have hRe := hR (c.getD k 0).toNat (by omega)
    (repeat first | simp only [go_sem, ↓reduceIte, Nat.reduceEqDiff, Nat.reduceAdd, reduceCtorEq] | with_reducible refine V_W ?_ | (with_reducible refine And.intro ?_ ?_; focus first | assumption | omega | decide | grind) | (with_reducible refine Br.mk ?_ ?_; focus (intros; omega)) | decide)
    refine V_loop (α := Nat) (S := fun j => ([(0, .pto [i64 r, ints R, mat B] 0), (5, .sl 0 1 0 (L ++ ((B.getD (c.getD k 0).toNat []).take j).filter (blP R (c.getD k 0))).length), (7, i64 (c.getD k 0)), (10, ints c), (11, i64 c.length), (12, i64 k), (22, ints (B.getD (c.getD k 0).toNat [])), (23, i64 (B.getD (c.getD k 0).toNat []).length), (24, i64 j)], [some (intsC (L ++ ((B.getD (c.getD k 0).toNat []).take j).filter (blP R (c.getD k 0))))])) (C := fun j => j ≤ (B.getD (c.getD k 0).toNat []).length) (μ := fun j => (B.getD (c.getD k 0).toNat []).length - j) 0 (by omega) (Ref.to (by simp) (by simp [sub, fget])) ?_
    intro j hj
    have hfl := filter_le (p := blP R (c.getD k 0)) (B.getD (c.getD k 0).toNat []) j
    have hap : (L ++ ((B.getD (c.getD k 0).toNat []).take j).filter (blP R (c.getD k 0))).length = L.length + (((B.getD (c.getD k 0).toNat []).take j).filter (blP R (c.getD k 0))).length := List.length_append
    have hsn : ∀ x, L ++ ((B.getD (c.getD k 0).toNat []).take j).filter (blP R (c.getD k 0)) ++ [x] = L ++ (((B.getD (c.getD k 0).toNat []).take j).filter (blP R (c.getD k 0)) ++ [x]) := fun x => List.append_assoc _ _ _
    generalize hM : L ++ ((B.getD (c.getD k 0).toNat []).take j).filter (blP R (c.getD k 0)) = N at hap hsn ⊢
    (repeat first | simp only [go_sem, ↓reduceIte, Nat.reduceEqDiff, Nat.reduceAdd, reduceCtorEq] | with_reducible refine V_W ?_ | (with_reducible refine And.intro ?_ ?_; focus first | assumption | omega | decide | grind) | (with_reducible refine Br.mk ?_ ?_; focus (intros; omega)) | decide)
    refine ⟨fun hc2 => ?_, fun hc2 => ?_⟩
    · have hd := hok (c.getD k 0).toNat (by omega) j (by omega)
      have hf := filter_take (p := blP R (c.getD k 0)) (xs := B.getD (c.getD k 0).toNat []) (k := j) (by omega)
      have hRd := hR ((B.getD (c.getD k 0).toNat []).getD j 0).toNat (by omega)
      (repeat first | simp only [go_sem, ↓reduceIte, Nat.reduceEqDiff, Nat.reduceAdd, reduceCtorEq] | with_reducible refine V_W ?_ | (with_reducible refine And.intro ?_ ?_; focus first | assumption | omega | decide | grind) | (with_reducible refine Br.mk ?_ ?_; focus (intros; omega)) | decide)
      refine ⟨fun hc3 => ?_, fun hc3 => ?_⟩
      · have hp : blP R (c.getD k 0) ((B.getD (c.getD k 0).toNat []).getD j 0) = true := (by unfold blP; first | exact beq_iff_eq.2 hc3 | exact hc3)
        rw [hp, if_pos rfl] at hf
        (repeat first | simp only [go_sem, ↓reduceIte, Nat.reduceEqDiff, Nat.reduceAdd, reduceCtorEq] | with_reducible refine V_W ?_ | (with_reducible refine And.intro ?_ ?_; focus first | assumption | omega | decide | grind) | (with_reducible refine Br.mk ?_ ?_; focus (intros; omega)) | decide)
        refine ⟨j + 1, by omega, by omega, ?_⟩
        rw [hf, ← hsn]
        refine Ref.gc [2] rfl ?_ (by simp [sub, fget, go_sem, ↓reduceIte, Nat.reduceEqDiff, Nat.reduceAdd, reduceCtorEq, hap, Nat.add_assoc])
        (try simp only [go_sem, ↓reduceIte, Nat.reduceEqDiff, Nat.reduceAdd, reduceCtorEq, take_len, one_intsC, app_intsC])
      · have hp : blP R (c.getD k 0) ((B.getD (c.getD k 0).toNat []).getD j 0) = false := (by unfold blP; first | exact beq_eq_false_iff_ne.2 hc3 | exact hc3)
        rw [hp, if_neg (by simp)] at hf
        (repeat first | simp only [go_sem, ↓reduceIte, Nat.reduceEqDiff, Nat.reduceAdd, reduceCtorEq] | with_reducible refine V_W ?_ | (with_reducible refine And.intro ?_ ?_; focus first | assumption | omega | decide | grind) | (with_reducible refine Br.mk ?_ ?_; focus (intros; omega)) | decide)
        refine ⟨j + 1, by omega, by omega, ?_⟩
        rw [hf, hM]
        exact Ref.frame (by simp [sub, fget, hap])
    · obtain rfl : j = (B.getD (c.getD k 0).toNat []).length := by omega
      (repeat first | simp only [go_sem, ↓reduceIte, Nat.reduceEqDiff, Nat.reduceAdd, reduceCtorEq] | with_reducible refine V_W ?_ | (with_reducible refine And.intro ?_ ?_; focus first | assumption | omega | decide | grind) | (with_reducible refine Br.mk ?_ ?_; focus (intros; omega)) | decide)
      refine ⟨k + 1, by omega, by omega, ?_⟩
      rw [List.take_length] at hM
      subst hM
      rw [hst']
      exact Ref.frame (by simp [sub, fget, blw])
  · obtain rfl : k = c.length := by omega
    rw [List.take_length] at hL
    subst hL
    (repeat first | simp only [go_sem, ↓reduceIte, Nat.reduceEqDiff, Nat.reduceAdd, reduceCtorEq] | with_reducible refine V_W ?_ | (with_reducible refine And.intro ?_ ?_; focus first | assumption | omega | decide | grind) | (with_reducible refine Br.mk ?_ ?_; focus (intros; omega)) | decide)
    refine wriC (oddOf_c (c.map (blw R B)).flatten (by omega)) [0] (by first | rfl | simp) (by simp only [go_sem, ↓reduceIte, Nat.reduceEqDiff, Nat.reduceAdd, reduceCtorEq] <;> rfl) (by simp only [go_sem, ↓reduceIte, Nat.reduceEqDiff, Nat.reduceAdd, reduceCtorEq] <;> rfl) (by first | rfl | simp only [go_sem, ↓reduceIte, Nat.reduceEqDiff, Nat.reduceAdd, reduceCtorEq]) ?_
    (repeat first | simp only [go_sem, ↓reduceIte, Nat.reduceEqDiff, Nat.reduceAdd, reduceCtorEq] | with_reducible refine V_W ?_ | (with_reducible refine And.intro ?_ ?_; focus first | assumption | omega | decide | grind) | (with_reducible refine Br.mk ?_ ?_; focus (intros; omega)) | decide)
    (try simp only [go_sem, ↓reduceIte, Nat.reduceEqDiff, Nat.reduceAdd, reduceCtorEq, and_self])

end Go.Proofs.Ytmiapnfhlhgefaa
set_option maxRecDepth 100000
namespace Go.Proofs.Ytmiapnfhlhgefaa
open Go.Gov
open Classical

theorem chC_zero {r : Int} {R : List Int} {B : List (List Int)} {i : Int} {cs : List (List Int)} (h : chC r R B i cs = 0) : IsPos r R B ∧ (0 ≤ i ∧ i ≤ r - 1) ∧ ∀ c ∈ cs, ChOk R i c := by
  unfold chC at h
  split at h
  · rename_i hp
    split at h
    · rename_i h2; exact ⟨hp, h2.1, h2.2⟩
    · omega
  · omega
theorem chC_range (r : Int) (R : List Int) (B : List (List Int)) (i : Int) (cs : List (List Int)) : 0 ≤ chC r R B i cs ∧ chC r R B i cs ≤ 2 := by
  unfold chC
  split
  · split <;> omega
  · omega
theorem ChOk.sst {R : List Int} {i : Int} {c : List Int} (h : ChOk R i c) : sst c := sst_of_lt fun j hj => by
  have := (h (j + 1) hj).2.2.2 (by omega)
  simpa using this
theorem ChOk.len {R : List Int} {i : Int} {c : List Int} (h : ChOk R i c) : c.length ≤ R.length := by
  have hk : ∀ k, k < c.length → (k : Int) ≤ c.getD k 0 := by
    intro k
    induction k with
    | zero => intro hk; exact (h 0 hk).1
    | succ k ih =>
      intro hk
      have h1 := ih (by omega)
      have h2 := (h (k + 1) hk).2.2.2 (by omega)
      simp only [Nat.add_sub_cancel] at h2
      omega
  rcases Nat.eq_zero_or_pos c.length with h0 | h0
  · omega
  · have h1 := hk (c.length - 1) (by omega)
    have h2 := (h (c.length - 1) (by omega)).2.1
    omega
theorem ChOk.in {R : List Int} {i : Int} {c : List Int} (h : ChOk R i c) : ∀ k, k < c.length → 0 ≤ c.getD k 0 ∧ c.getD k 0 ≤ (R.length : Int) - 1 := fun k hk => ⟨(h k hk).1, (h k hk).2.1⟩

section
variable (r : Int) (R : List Int) (B : List (List Int)) (i : Int) (c : List Int)

noncomputable def icB : Bool := if chC r R B i [c] = 0 then (i == 0 || ((bdS R B c).length : Int) == 0) else false
noncomputable def bcV : List Int := if chC r R B i [c] = 0 then if i = 0 then [] else bdS R B c else []
noncomputable def bcC : Int := if chC r R B i [c] = 0 then if i = 0 then 2 else 0 else chC r R B i [c]

theorem bcV_len (hr : ∀ xs ∈ B, xs.length ≤ 1048576) (hc : c.length ≤ 1048576) : (bcV r R B i c).length ≤ 1099511627776 := by
  unfold bcV
  split
  · split
    · simp
    · unfold bdS
      have h2 := sums_len 1048576 (c.map (blw R B)) [] (fun l hl => by
        obtain ⟨e, _, rfl⟩ := List.mem_map.1 hl
        exact blw_len hr e)
      rw [List.length_map] at h2
      have h3 : c.length * 1048576 ≤ 1048576 * 1048576 := Nat.mul_le_mul_right _ hc
      simp only [List.length_nil] at h2
      omega
  · simp
end
end Go.Proofs.Ytmiapnfhlhgefaa
