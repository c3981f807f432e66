/- Texts that belong together. -/
import Derived.Test.YtghhlcioabdpfaaDoorV1
import Derived.Test.YtghhlcioabdpfaaDoorX9
import Derived.Test.YtghhlcioabdpfaaDoorU3
set_option linter.unusedSimpArgs false
set_option linter.unusedVariables false
set_option maxRecDepth 100000
namespace Go.Proofs.YtghhlcioabdpfaaDoor
open Go.Gov
open Classical

theorem CxOk.sst {v : Int} {F : List (List Int)} (h : CxOk v F) : SR F := fun x hx => (h.2.1.row hx).2.lt
theorem CxOk.six {v : Int} {F : List (List Int)} (h : CxOk v F) : F.length ≤ 400 ∧ ∀ x ∈ F, x.length ≤ 6 := ⟨h.1.2, fun x hx => (h.2.1.row hx).1.2⟩
theorem CxOk.ent {v : Int} {F : List (List Int)} (h : CxOk v F) {x : List Int} (hx : x ∈ F) : ∀ e ∈ x, 0 ≤ e ∧ e ≤ v - 1 := fun e he => by
  obtain ⟨i, hi, rfl⟩ := List.mem_iff_getElem.1 he
  have := ((h.2.1.row hx).2 i hi).1
  rwa [show x.getD i 0 = x[i] by simp [hi]] at this
theorem filter_take {x : List Int} {p : Int → Bool} {i : Nat} (hi : i < x.length) : (x.take (i + 1)).filter p = (x.take i).filter p ++ if p (x.getD i 0) then [x.getD i 0] else [] := by
  rw [List.take_succ_eq_append_getElem hi, List.filter_append]
  have : x.getD i 0 = x[i] := by simp [hi]
  rw [this]
  by_cases h : p x[i] <;> simp [h]
set_option maxHeartbeats 2000000 in
theorem l17Without_p (a b : List Int) (ha : a.length ≤ 1048576) (hb : b.length ≤ 1048576) : Pure Tryd.prog 47 [ints a, ints b] (.sl 0 1 0 (a.filter fun e => !decide (e ∈ b)).length) [some (intsC (a.filter fun e => !decide (e ∈ b)))] := by
  refine pureRV ok47 rfl ?_; unfold c47
  (repeat first | simp only [go_sem, ↓reduceIte, Nat.reduceEqDiff, Nat.reduceAdd, reduceCtorEq] | with_reducible refine V_W ?_ | (with_reducible refine And.intro ?_ ?_; focus first | assumption | omega | decide | grind) | (with_reducible refine Br.mk ?_ ?_; focus (intros; omega)) | decide)
  refine V_loop (α := Nat) (S := fun i => ([(0, ints a), (1, ints b), (5, .sl 0 1 0 ((a.take i).filter fun e => !decide (e ∈ b)).length), (6, i64 (i : Int))], [some (intsC ((a.take i).filter fun e => !decide (e ∈ b)))])) (C := fun i => i ≤ a.length) (μ := fun i => a.length - i) 0 (Nat.zero_le _) (Ref.to (by simp [intsC]) (by simp [sub, fget])) ?_
  intro i hi
  have hfl := List.length_filter_le (fun e => !decide (e ∈ b)) (a.take i)
  have hti : (a.take i).length = i := by rw [List.length_take]; omega
  obtain ⟨T, hT⟩ : ∃ T, T = (a.take i).filter fun e => !decide (e ∈ b) := ⟨_, rfl⟩
  rw [← hT] at hfl ⊢
  (repeat first | simp only [go_sem, ↓reduceIte, Nat.reduceEqDiff, Nat.reduceAdd, reduceCtorEq] | with_reducible refine V_W ?_ | (with_reducible refine And.intro ?_ ?_; focus first | assumption | omega | decide | grind) | (with_reducible refine Br.mk ?_ ?_; focus (intros; omega)) | decide)
  refine ⟨fun hc => ?_, fun hc => ?_⟩
  · have hft := filter_take (x := a) (p := fun e => !decide (e ∈ b)) (i := i) (by omega)
    rw [← hT] at hft
    (repeat first | simp only [go_sem, ↓reduceIte, Nat.reduceEqDiff, Nat.reduceAdd, reduceCtorEq] | with_reducible refine V_W ?_ | (with_reducible refine And.intro ?_ ?_; focus first | assumption | omega | decide | grind) | (with_reducible refine Br.mk ?_ ?_; focus (intros; omega)) | decide)
    refine pureC (l01Has_c b (a.getD i 0) (by omega)) (by simp only [go_sem, ↓reduceIte, Nat.reduceEqDiff, Nat.reduceAdd, reduceCtorEq] <;> rfl) (by first | rfl | simp only [go_sem, ↓reduceIte, Nat.reduceEqDiff, Nat.reduceAdd, reduceCtorEq]) ?_
    (repeat first | simp only [go_sem, ↓reduceIte, Nat.reduceEqDiff, Nat.reduceAdd, reduceCtorEq] | with_reducible refine V_W ?_ | (with_reducible refine And.intro ?_ ?_; focus first | assumption | omega | decide | grind) | (with_reducible refine Br.mk ?_ ?_; focus (intros; omega)) | decide)
    refine ⟨fun hc2 => ?_, fun hc2 => ?_⟩
    · rw [show (if (!decide (a.getD i 0 ∈ b)) = true then [a.getD i 0] else []) = [a.getD i 0] by simpa using hc2] at hft
      (repeat first | simp only [go_sem, ↓reduceIte, Nat.reduceEqDiff, Nat.reduceAdd, reduceCtorEq] | with_reducible refine V_W ?_ | (with_reducible refine And.intro ?_ ?_; focus first | assumption | omega | decide | grind) | (with_reducible refine Br.mk ?_ ?_; focus (intros; omega)) | decide)
      refine ⟨i + 1, by omega, by omega, Ref.gc [2] rfl ?_ (by rw [hft]; simp [sub, fget, go_sem, ↓reduceIte, Nat.reduceEqDiff, Nat.reduceAdd, reduceCtorEq])⟩
      rw [hft]
      simp only [go_sem, ↓reduceIte, Nat.reduceEqDiff, Nat.reduceAdd, reduceCtorEq]
      simp [intsC]
    · rw [show (if (!decide (a.getD i 0 ∈ b)) = true then [a.getD i 0] else []) = [] by simpa using hc2, List.append_nil] at hft
      (repeat first | simp only [go_sem, ↓reduceIte, Nat.reduceEqDiff, Nat.reduceAdd, reduceCtorEq] | with_reducible refine V_W ?_ | (with_reducible refine And.intro ?_ ?_; focus first | assumption | omega | decide | grind) | (with_reducible refine Br.mk ?_ ?_; focus (intros; omega)) | decide)
      exact ⟨i + 1, by omega, by omega, Ref.to (by rw [hft]) (by rw [hft]; simp [sub, fget])⟩
  · obtain rfl : i = a.length := by omega
    rw [List.take_length] at hT
    rw [hT]
    (repeat first | simp only [go_sem, ↓reduceIte, Nat.reduceEqDiff, Nat.reduceAdd, reduceCtorEq] | with_reducible refine V_W ?_ | (with_reducible refine And.intro ?_ ?_; focus first | assumption | omega | decide | grind) | (with_reducible refine Br.mk ?_ ?_; focus (intros; omega)) | decide)
    exact Ref.to rfl (by simp [sub, fget])
end Go.Proofs.YtghhlcioabdpfaaDoor
