/- Texts that belong together. -/
import Derived.Test.YtghhlcioabdpfaaDoorY8
import Derived.Test.YtghhlcioabdpfaaDoorW2
import Derived.Test.YtghhlcioabdpfaaDoorW4
import Derived.Test.YtghhlcioabdpfaaDoorW5
set_option linter.unusedSimpArgs false
set_option linter.unusedVariables false
set_option maxRecDepth 100000
namespace Go.Proofs.YtghhlcioabdpfaaDoor
open Go.Gov Go.Fl Go.Kz
open Classical

def Pty (r : Int) (R : List Int) (B : List (List Int)) (F : List (List Int)) : Prop := 0 < F.length ∧ Cov R F ∧ Dia r R B ∧ Lnk F
set_option maxHeartbeats 4000000 in
theorem l03Polytope_c (r : Int) (R : List Int) (B : List (List Int)) (hp : IsPos r R B) (F : List (List Int)) (hF : F.length ≤ 400) (hX : Fs r.toNat F) (hl : ∀ i : Nat, (F.getD i []).length ≤ 5) (hb : ∀ i : Nat, ∀ k, k < (F.getD i []).length → 0 ≤ (F.getD i []).getD k 0 ∧ (F.getD i []).getD k 0 ≤ (R.length : Int) - 1) :
    Pure Tryd.prog 51 [posetA r R B, mat F] (bl (decide (Pty r R B F))) [] := by
  obtain ⟨a1, a2, a3, a4, a5⟩ := hp.rank
  have hpu := l03Pure_c r R B (by omega) F (by omega) hl hb
  have hfa := l03Fault_e r R B hp
  refine pureV0 ok51 rfl rfl ?_; unfold c51
  (repeat first | simp only [go_sem, ↓reduceIte, Nat.reduceEqDiff, Nat.reduceAdd, reduceCtorEq] | with_reducible refine V_W ?_ | (with_reducible refine And.intro ?_ ?_; focus first | assumption | omega | decide | grind) | (with_reducible refine Br.mk ?_ ?_; focus (intros; omega)) | decide)
  by_cases h0 : 0 < F.length
  · have hpa := l03Parted_e F r.toNat hX (by omega) hF h0
    have d0 : decide ((0 : Int) < (F.length : Int)) = true := decide_eq_true (by omega)
    rw [d0]
    by_cases hcv : Cov R F
    · rw [decide_eq_true hcv] at hpu
      refine GCall.mk (bl true ) (fun hg => by first | exact pureC ( hpu) (by simp only [go_sem, ↓reduceIte, Nat.reduceEqDiff, Nat.reduceAdd, reduceCtorEq] <;> rfl) (by first | rfl | simp only [go_sem, ↓reduceIte, Nat.reduceEqDiff, Nat.reduceAdd, reduceCtorEq]) (by first | exact ⟨rfl, rfl⟩ | simp only [go_sem, ↓reduceIte, Nat.reduceEqDiff, Nat.reduceAdd, reduceCtorEq]) | exact ⟨hg, pureC ( hpu) (by simp only [go_sem, ↓reduceIte, Nat.reduceEqDiff, Nat.reduceAdd, reduceCtorEq] <;> rfl) (by first | rfl | simp only [go_sem, ↓reduceIte, Nat.reduceEqDiff, Nat.reduceAdd, reduceCtorEq]) (by first | exact ⟨rfl, rfl⟩ | simp only [go_sem, ↓reduceIte, Nat.reduceEqDiff, Nat.reduceAdd, reduceCtorEq])⟩ | exact ⟨by grind, pureC ( hpu) (by simp only [go_sem, ↓reduceIte, Nat.reduceEqDiff, Nat.reduceAdd, reduceCtorEq] <;> rfl) (by first | rfl | simp only [go_sem, ↓reduceIte, Nat.reduceEqDiff, Nat.reduceAdd, reduceCtorEq]) (by first | exact ⟨rfl, rfl⟩ | simp only [go_sem, ↓reduceIte, Nat.reduceEqDiff, Nat.reduceAdd, reduceCtorEq])⟩) ?_
      refine ⟨fun _ => ⟨by omega, by simp only [go_sem, ↓reduceIte, Nat.reduceEqDiff, Nat.reduceAdd, reduceCtorEq]⟩, ?_⟩
      simp only [go_sem, ↓reduceIte, Nat.reduceEqDiff, Nat.reduceAdd, reduceCtorEq, cond_true]
      refine GCall.on rfl ?_
      refine pureEC (hfa) (by simp only [go_sem, ↓reduceIte, Nat.reduceEqDiff, Nat.reduceAdd, reduceCtorEq] <;> rfl) (fun o => by first | rfl | simp only [go_sem, ↓reduceIte, Nat.reduceEqDiff, Nat.reduceAdd, reduceCtorEq]) fun o ho => ?_
      by_cases hd : o = []
      · subst hd
        have hdi := ho.2.1 rfl
        simp only [List.length_nil, go_sem, ↓reduceIte, Nat.reduceEqDiff, Nat.reduceAdd, reduceCtorEq]
        refine GCall.on rfl ?_
        refine ⟨rfl, ?_⟩
        refine pureEC (hpa) (by simp only [go_sem, ↓reduceIte, Nat.reduceEqDiff, Nat.reduceAdd, reduceCtorEq] <;> rfl) (fun o => by first | rfl | simp only [go_sem, ↓reduceIte, Nat.reduceEqDiff, Nat.reduceAdd, reduceCtorEq]) fun o ho => ?_
        by_cases hk : o = []
        · subst hk
          have dp : decide (Pty r R B F) = true := decide_eq_true ⟨h0, hcv, hdi, ho.2.1 rfl⟩
          rw [dp]
          simp only [List.length_nil, go_sem, ↓reduceIte, Nat.reduceEqDiff, Nat.reduceAdd, reduceCtorEq]
          (repeat first | simp only [go_sem, ↓reduceIte, Nat.reduceEqDiff, Nat.reduceAdd, reduceCtorEq] | with_reducible refine V_W ?_ | (with_reducible refine And.intro ?_ ?_; focus first | assumption | omega | decide | grind) | (with_reducible refine Br.mk ?_ ?_; focus (intros; omega)) | decide)
          rfl
        · have hnl : ¬ Lnk F := fun h => hk (ho.2.2 h)
          have dp : decide (Pty r R B F) = false := decide_eq_false fun h => hnl h.2.2.2
          have hln : ((o.length : Int) == 0) = false := by
            have : o.length ≠ 0 := fun e => hk (List.length_eq_zero_iff.1 e)
            simp; omega
          rw [dp]
          simp only [hln, go_sem, ↓reduceIte, Nat.reduceEqDiff, Nat.reduceAdd, reduceCtorEq]
          (repeat first | simp only [go_sem, ↓reduceIte, Nat.reduceEqDiff, Nat.reduceAdd, reduceCtorEq] | with_reducible refine V_W ?_ | (with_reducible refine And.intro ?_ ?_; focus first | assumption | omega | decide | grind) | (with_reducible refine Br.mk ?_ ?_; focus (intros; omega)) | decide)
      · have hdi : ¬ Dia r R B := fun h => hd (ho.2.2 h)
        have dp : decide (Pty r R B F) = false := decide_eq_false fun h => hdi h.2.2.1
        have hln : ((o.length : Int) == 0) = false := by
          have : o.length ≠ 0 := fun e => hd (List.length_eq_zero_iff.1 e)
          simp; omega
        rw [dp]
        simp only [hln, go_sem, ↓reduceIte, Nat.reduceEqDiff, Nat.reduceAdd, reduceCtorEq]
        refine GCall_no (.sl 0 1 0 0) (by first | rfl | exact hln) ?_
        simp only [go_sem, ↓reduceIte, Nat.reduceEqDiff, Nat.reduceAdd, reduceCtorEq]
        (repeat first | simp only [go_sem, ↓reduceIte, Nat.reduceEqDiff, Nat.reduceAdd, reduceCtorEq] | with_reducible refine V_W ?_ | (with_reducible refine And.intro ?_ ?_; focus first | assumption | omega | decide | grind) | (with_reducible refine Br.mk ?_ ?_; focus (intros; omega)) | decide)
    · have dp : decide (Pty r R B F) = false := decide_eq_false fun h => hcv h.2.1
      rw [decide_eq_false hcv] at hpu
      rw [dp]
      refine GCall.mk (bl false ) (fun hg => by first | exact pureC ( hpu) (by simp only [go_sem, ↓reduceIte, Nat.reduceEqDiff, Nat.reduceAdd, reduceCtorEq] <;> rfl) (by first | rfl | simp only [go_sem, ↓reduceIte, Nat.reduceEqDiff, Nat.reduceAdd, reduceCtorEq]) (by first | exact ⟨rfl, rfl⟩ | simp only [go_sem, ↓reduceIte, Nat.reduceEqDiff, Nat.reduceAdd, reduceCtorEq]) | exact ⟨hg, pureC ( hpu) (by simp only [go_sem, ↓reduceIte, Nat.reduceEqDiff, Nat.reduceAdd, reduceCtorEq] <;> rfl) (by first | rfl | simp only [go_sem, ↓reduceIte, Nat.reduceEqDiff, Nat.reduceAdd, reduceCtorEq]) (by first | exact ⟨rfl, rfl⟩ | simp only [go_sem, ↓reduceIte, Nat.reduceEqDiff, Nat.reduceAdd, reduceCtorEq])⟩ | exact ⟨by grind, pureC ( hpu) (by simp only [go_sem, ↓reduceIte, Nat.reduceEqDiff, Nat.reduceAdd, reduceCtorEq] <;> rfl) (by first | rfl | simp only [go_sem, ↓reduceIte, Nat.reduceEqDiff, Nat.reduceAdd, reduceCtorEq]) (by first | exact ⟨rfl, rfl⟩ | simp only [go_sem, ↓reduceIte, Nat.reduceEqDiff, Nat.reduceAdd, reduceCtorEq])⟩) ?_
      refine ⟨fun _ => ⟨by omega, by simp only [go_sem, ↓reduceIte, Nat.reduceEqDiff, Nat.reduceAdd, reduceCtorEq]⟩, ?_⟩
      simp only [go_sem, ↓reduceIte, Nat.reduceEqDiff, Nat.reduceAdd, reduceCtorEq, cond_true]
      refine GCall_no (.sl 0 1 0 0) rfl ?_
      simp only [go_sem, ↓reduceIte, Nat.reduceEqDiff, Nat.reduceAdd, reduceCtorEq]
      refine GCall_no (.sl 0 1 0 0) rfl ?_
      (repeat first | simp only [go_sem, ↓reduceIte, Nat.reduceEqDiff, Nat.reduceAdd, reduceCtorEq] | with_reducible refine V_W ?_ | (with_reducible refine And.intro ?_ ?_; focus first | assumption | omega | decide | grind) | (with_reducible refine Br.mk ?_ ?_; focus (intros; omega)) | decide)
  · have d0 : decide ((0 : Int) < (F.length : Int)) = false := decide_eq_false (by omega)
    have dp : decide (Pty r R B F) = false := decide_eq_false fun h => h0 h.1
    rw [dp, d0]
    refine GCall_no (bl false) rfl ?_
    refine ⟨fun h => (by cases h), ?_⟩
    simp only [go_sem, ↓reduceIte, Nat.reduceEqDiff, Nat.reduceAdd, reduceCtorEq, cond_false]
    refine GCall_no (.sl 0 1 0 0) rfl ?_
    simp only [go_sem, ↓reduceIte, Nat.reduceEqDiff, Nat.reduceAdd, reduceCtorEq]
    refine GCall_no (.sl 0 1 0 0) rfl ?_
    (repeat first | simp only [go_sem, ↓reduceIte, Nat.reduceEqDiff, Nat.reduceAdd, reduceCtorEq] | with_reducible refine V_W ?_ | (with_reducible refine And.intro ?_ ?_; focus first | assumption | omega | decide | grind) | (with_reducible refine Br.mk ?_ ?_; focus (intros; omega)) | decide)
end Go.Proofs.YtghhlcioabdpfaaDoor
set_option maxRecDepth 100000
namespace Go.Proofs.YtghhlcioabdpfaaDoor
open Go.Gov Go.Fl Go.Kz
open Classical

set_option maxHeartbeats 4000000 in
theorem isPolytope_c (r : Int) (R : List Int) (B : List (List Int)) (hp : IsPos r R B) (F : List (List Int)) (hF : F.length ≤ 400) (hX : Fs r.toNat F) (hS : Sm F) (hl : ∀ i : Nat, (F.getD i []).length ≤ 5) (hb : ∀ i : Nat, ∀ k, k < (F.getD i []).length → 0 ≤ (F.getD i []).getD k 0 ∧ (F.getD i []).getD k 0 ≤ (R.length : Int) - 1) :
    PureG Tryd.prog tabZ 54 [posetA r R B, mat F] (bl (decide (Pty r R B F))) [] := by
  obtain ⟨a1, a2, a3, a4, a5⟩ := hp.rank
  have hpu := isPure_c r R B (by omega) F (by omega) hl hb
  have hfa := diamondFault_e r R B hp
  have hcf := connectionFault_e F r.toNat hX hS (by omega) (by omega) hF
  refine pureGV ok54 rfl ?_; unfold c54
  (repeat first | simp only [go_sem, ↓reduceIte, Nat.reduceEqDiff, Nat.reduceAdd, reduceCtorEq] | with_reducible refine V_W ?_ | (with_reducible refine And.intro ?_ ?_; focus first | assumption | omega | decide | grind) | (with_reducible refine Br.mk ?_ ?_; focus (intros; omega)) | decide)
  by_cases h0 : 0 < F.length
  · have d0 : decide ((0 : Int) < (F.length : Int)) = true := decide_eq_true (by omega)
    rw [d0]
    by_cases hcv : Cov R F
    · rw [decide_eq_true hcv] at hpu
      refine GCall.mk (bl true ) (fun hg => by first | exact pureC ( hpu) (by simp only [go_sem, ↓reduceIte, Nat.reduceEqDiff, Nat.reduceAdd, reduceCtorEq] <;> rfl) (by first | rfl | simp only [go_sem, ↓reduceIte, Nat.reduceEqDiff, Nat.reduceAdd, reduceCtorEq]) (by first | exact ⟨rfl, rfl⟩ | simp only [go_sem, ↓reduceIte, Nat.reduceEqDiff, Nat.reduceAdd, reduceCtorEq]) | exact ⟨hg, pureC ( hpu) (by simp only [go_sem, ↓reduceIte, Nat.reduceEqDiff, Nat.reduceAdd, reduceCtorEq] <;> rfl) (by first | rfl | simp only [go_sem, ↓reduceIte, Nat.reduceEqDiff, Nat.reduceAdd, reduceCtorEq]) (by first | exact ⟨rfl, rfl⟩ | simp only [go_sem, ↓reduceIte, Nat.reduceEqDiff, Nat.reduceAdd, reduceCtorEq])⟩ | exact ⟨by grind, pureC ( hpu) (by simp only [go_sem, ↓reduceIte, Nat.reduceEqDiff, Nat.reduceAdd, reduceCtorEq] <;> rfl) (by first | rfl | simp only [go_sem, ↓reduceIte, Nat.reduceEqDiff, Nat.reduceAdd, reduceCtorEq]) (by first | exact ⟨rfl, rfl⟩ | simp only [go_sem, ↓reduceIte, Nat.reduceEqDiff, Nat.reduceAdd, reduceCtorEq])⟩) ?_
      refine ⟨fun _ => ⟨by omega, by simp only [go_sem, ↓reduceIte, Nat.reduceEqDiff, Nat.reduceAdd, reduceCtorEq]⟩, ?_⟩
      simp only [go_sem, ↓reduceIte, Nat.reduceEqDiff, Nat.reduceAdd, reduceCtorEq, cond_true]
      refine GCall.on rfl ?_
      refine pureEC hfa (by simp only [go_sem, ↓reduceIte, Nat.reduceEqDiff, Nat.reduceAdd, reduceCtorEq] <;> rfl) (fun o => by by_cases h : o = [] <;> simp [h, nf, nfH, intsC, go_sem, ↓reduceIte, Nat.reduceEqDiff, Nat.reduceAdd, reduceCtorEq]) fun o ho => ?_
      by_cases hd : o = []
      · subst hd
        have hdi := ho.2.1 rfl
        simp only [if_true, go_sem, ↓reduceIte, Nat.reduceEqDiff, Nat.reduceAdd, reduceCtorEq]
        have hn : ∀ H : Heap, nilOf H nilS = some true := fun _ => rfl
        simp only [hn, Option.isSome_some, Option.getD_some, true_and, go_sem, ↓reduceIte, Nat.reduceEqDiff, Nat.reduceAdd, reduceCtorEq]
        refine GCall.on rfl ?_
        refine pureGEC 0 hcf rfl (by simp only [go_sem, ↓reduceIte, Nat.reduceEqDiff, Nat.reduceAdd, reduceCtorEq] <;> rfl) (fun o => by by_cases h : o = [] <;> simp [h, nf, nfH, intsC, go_sem, ↓reduceIte, Nat.reduceEqDiff, Nat.reduceAdd, reduceCtorEq]) fun o ho => ?_
        by_cases hk : o = []
        · subst hk
          have dp : decide (Pty r R B F) = true := decide_eq_true ⟨h0, hcv, hdi, ho.2.1 rfl⟩
          rw [dp]
          simp only [if_true, go_sem, ↓reduceIte, Nat.reduceEqDiff, Nat.reduceAdd, reduceCtorEq]
          simp only [hn, Option.isSome_some, Option.getD_some, true_and, go_sem, ↓reduceIte, Nat.reduceEqDiff, Nat.reduceAdd, reduceCtorEq]
          (repeat first | simp only [go_sem, ↓reduceIte, Nat.reduceEqDiff, Nat.reduceAdd, reduceCtorEq] | with_reducible refine V_W ?_ | (with_reducible refine And.intro ?_ ?_; focus first | assumption | omega | decide | grind) | (with_reducible refine Br.mk ?_ ?_; focus (intros; omega)) | decide)
          exact Ref.gc [] rfl (by simp only [go_sem, ↓reduceIte, Nat.reduceEqDiff, Nat.reduceAdd, reduceCtorEq]) (by simp [sub, fget, go_sem, ↓reduceIte, Nat.reduceEqDiff, Nat.reduceAdd, reduceCtorEq])
        · have hnl : ¬ Lnk F := fun h => hk (ho.2.2 h)
          have dp : decide (Pty r R B F) = false := decide_eq_false fun h => hnl h.2.2.2
          rw [dp]
          obtain ⟨m, hm⟩ : ∃ m, o.length = m + 1 := ⟨o.length - 1, by
            have : o.length ≠ 0 := fun e => hk (List.length_eq_zero_iff.1 e)
            omega⟩
          have hn2 : ∀ C, nilOf [some (gvs tabZ), some [i64 r, ints R, mat B], some C] (.sl 2 1 0 (m + 1)) = some false := fun _ => rfl
          simp only [if_neg hk, hm, hn2, Option.isSome_some, Option.getD_some, true_and, go_sem, ↓reduceIte, Nat.reduceEqDiff, Nat.reduceAdd, reduceCtorEq]
          (repeat first | simp only [go_sem, ↓reduceIte, Nat.reduceEqDiff, Nat.reduceAdd, reduceCtorEq] | with_reducible refine V_W ?_ | (with_reducible refine And.intro ?_ ?_; focus first | assumption | omega | decide | grind) | (with_reducible refine Br.mk ?_ ?_; focus (intros; omega)) | decide)
          exact Ref.gc [] rfl (by simp only [go_sem, ↓reduceIte, Nat.reduceEqDiff, Nat.reduceAdd, reduceCtorEq]) (by simp [sub, fget, go_sem, ↓reduceIte, Nat.reduceEqDiff, Nat.reduceAdd, reduceCtorEq])
      · have hdi : ¬ Dia r R B := fun h => hd (ho.2.2 h)
        have dp : decide (Pty r R B F) = false := decide_eq_false fun h => hdi h.2.2.1
        rw [dp]
        obtain ⟨m, hm⟩ : ∃ m, o.length = m + 1 := ⟨o.length - 1, by
          have : o.length ≠ 0 := fun e => hd (List.length_eq_zero_iff.1 e)
          omega⟩
        have hn2 : ∀ C, nilOf [some (gvs tabZ), some [i64 r, ints R, mat B], some C] (.sl 2 1 0 (m + 1)) = some false := fun _ => rfl
        simp only [if_neg hd, hm, hn2, Option.isSome_some, Option.getD_some, true_and, go_sem, ↓reduceIte, Nat.reduceEqDiff, Nat.reduceAdd, reduceCtorEq]
        refine GCall_no nilS rfl ?_
        (repeat first | simp only [go_sem, ↓reduceIte, Nat.reduceEqDiff, Nat.reduceAdd, reduceCtorEq] | with_reducible refine V_W ?_ | (with_reducible refine And.intro ?_ ?_; focus first | assumption | omega | decide | grind) | (with_reducible refine Br.mk ?_ ?_; focus (intros; omega)) | decide)
        exact Ref.gc [] rfl (by simp only [go_sem, ↓reduceIte, Nat.reduceEqDiff, Nat.reduceAdd, reduceCtorEq]) (by simp [sub, fget, go_sem, ↓reduceIte, Nat.reduceEqDiff, Nat.reduceAdd, reduceCtorEq])
    · have dp : decide (Pty r R B F) = false := decide_eq_false fun h => hcv h.2.1
      rw [decide_eq_false hcv] at hpu
      rw [dp]
      refine GCall.mk (bl false ) (fun hg => by first | exact pureC ( hpu) (by simp only [go_sem, ↓reduceIte, Nat.reduceEqDiff, Nat.reduceAdd, reduceCtorEq] <;> rfl) (by first | rfl | simp only [go_sem, ↓reduceIte, Nat.reduceEqDiff, Nat.reduceAdd, reduceCtorEq]) (by first | exact ⟨rfl, rfl⟩ | simp only [go_sem, ↓reduceIte, Nat.reduceEqDiff, Nat.reduceAdd, reduceCtorEq]) | exact ⟨hg, pureC ( hpu) (by simp only [go_sem, ↓reduceIte, Nat.reduceEqDiff, Nat.reduceAdd, reduceCtorEq] <;> rfl) (by first | rfl | simp only [go_sem, ↓reduceIte, Nat.reduceEqDiff, Nat.reduceAdd, reduceCtorEq]) (by first | exact ⟨rfl, rfl⟩ | simp only [go_sem, ↓reduceIte, Nat.reduceEqDiff, Nat.reduceAdd, reduceCtorEq])⟩ | exact ⟨by grind, pureC ( hpu) (by simp only [go_sem, ↓reduceIte, Nat.reduceEqDiff, Nat.reduceAdd, reduceCtorEq] <;> rfl) (by first | rfl | simp only [go_sem, ↓reduceIte, Nat.reduceEqDiff, Nat.reduceAdd, reduceCtorEq]) (by first | exact ⟨rfl, rfl⟩ | simp only [go_sem, ↓reduceIte, Nat.reduceEqDiff, Nat.reduceAdd, reduceCtorEq])⟩) ?_
      refine ⟨fun _ => ⟨by omega, by simp only [go_sem, ↓reduceIte, Nat.reduceEqDiff, Nat.reduceAdd, reduceCtorEq]⟩, ?_⟩
      simp only [go_sem, ↓reduceIte, Nat.reduceEqDiff, Nat.reduceAdd, reduceCtorEq, cond_true]
      refine GCall_no nilS rfl ?_
      (repeat first | simp only [go_sem, ↓reduceIte, Nat.reduceEqDiff, Nat.reduceAdd, reduceCtorEq] | with_reducible refine V_W ?_ | (with_reducible refine And.intro ?_ ?_; focus first | assumption | omega | decide | grind) | (with_reducible refine Br.mk ?_ ?_; focus (intros; omega)) | decide)
      refine GCall_no nilS rfl ?_
      (repeat first | simp only [go_sem, ↓reduceIte, Nat.reduceEqDiff, Nat.reduceAdd, reduceCtorEq] | with_reducible refine V_W ?_ | (with_reducible refine And.intro ?_ ?_; focus first | assumption | omega | decide | grind) | (with_reducible refine Br.mk ?_ ?_; focus (intros; omega)) | decide)
      exact Ref.gc [] rfl (by simp only [go_sem, ↓reduceIte, Nat.reduceEqDiff, Nat.reduceAdd, reduceCtorEq]) (by simp [sub, fget, go_sem, ↓reduceIte, Nat.reduceEqDiff, Nat.reduceAdd, reduceCtorEq])
  · have d0 : decide ((0 : Int) < (F.length : Int)) = false := decide_eq_false (by omega)
    have dp : decide (Pty r R B F) = false := decide_eq_false fun h => h0 h.1
    rw [dp, d0]
    refine GCall_no (bl false) rfl ?_
    refine ⟨fun h => (by cases h), ?_⟩
    simp only [go_sem, ↓reduceIte, Nat.reduceEqDiff, Nat.reduceAdd, reduceCtorEq, cond_false]
    refine GCall_no nilS rfl ?_
    (repeat first | simp only [go_sem, ↓reduceIte, Nat.reduceEqDiff, Nat.reduceAdd, reduceCtorEq] | with_reducible refine V_W ?_ | (with_reducible refine And.intro ?_ ?_; focus first | assumption | omega | decide | grind) | (with_reducible refine Br.mk ?_ ?_; focus (intros; omega)) | decide)
    refine GCall_no nilS rfl ?_
    (repeat first | simp only [go_sem, ↓reduceIte, Nat.reduceEqDiff, Nat.reduceAdd, reduceCtorEq] | with_reducible refine V_W ?_ | (with_reducible refine And.intro ?_ ?_; focus first | assumption | omega | decide | grind) | (with_reducible refine Br.mk ?_ ?_; focus (intros; omega)) | decide)
    exact Ref.gc [] rfl (by simp only [go_sem, ↓reduceIte, Nat.reduceEqDiff, Nat.reduceAdd, reduceCtorEq]) (by simp [sub, fget, go_sem, ↓reduceIte, Nat.reduceEqDiff, Nat.reduceAdd, reduceCtorEq])
end Go.Proofs.YtghhlcioabdpfaaDoor
set_option maxRecDepth 100000
namespace Go.Proofs.YtghhlcioabdpfaaDoor
open Go.Gov Go.Fl Go.Kz
open Classical

noncomputable def iqB (r : Int) (R : List Int) (B : List (List Int)) : Bool := if IsPos r R B ∧ (allF r R B).length ≤ 400 then decide (Pty r R B (allF r R B)) else false
theorem allF_sm {r : Int} {R : List Int} {B : List (List Int)} (hp : IsPos r R B) : Sm (allF r R B) := by
  obtain ⟨a1, a2, a3, a4, a5⟩ := hp.rank
  intro x hx e he
  obtain ⟨a, ha, rfl⟩ := List.mem_iff_getElem.1 hx
  obtain ⟨k, hk, rfl⟩ := List.mem_iff_getElem.1 he
  have h1 : (allF r R B).getD a [] = (allF r R B)[a] := by simp [ha]
  have h := allF_at (r := r) (R := R) (B := B) a k (by rw [h1]; exact hk)
  rw [h1, show ((allF r R B)[a]).getD k 0 = ((allF r R B)[a])[k] by simp [hk]] at h
  omega
theorem specIq_c (r : Int) (R : List Int) (B : List (List Int)) (h1 : R.length ≤ 1048576) (hl : B.length ≤ 1048576) (hr : ∀ xs ∈ B, xs.length ≤ 1048576) : Pure Tryd.prog 16 [posetA r R B] (.tup [bl (iqB r R B), i64 (puK r R B)]) [] := by
  unfold iqB puK
  refine pureV0 ok16 rfl rfl ?_; unfold c16
  (repeat first | simp only [go_sem, ↓reduceIte, Nat.reduceEqDiff, Nat.reduceAdd, reduceCtorEq] | with_reducible refine V_W ?_ | (with_reducible refine And.intro ?_ ?_; focus first | assumption | omega | decide | grind) | (with_reducible refine Br.mk ?_ ?_; focus (intros; omega)) | decide)
  by_cases hp : IsPos r R B
  · obtain ⟨a1, a2, a3, a4, a5⟩ := hp.rank
    by_cases hk : (allF r R B).length ≤ 400
    · refine pureC (flagsOf_s2 r R B hp h1 hl hr hk) (by simp only [go_sem, ↓reduceIte, Nat.reduceEqDiff, Nat.reduceAdd, reduceCtorEq] <;> rfl) (by first | rfl | simp only [go_sem, ↓reduceIte, Nat.reduceEqDiff, Nat.reduceAdd, reduceCtorEq]) ?_
      simp only [if_pos hp, if_pos hk, if_pos (And.intro hp hk)]
      (repeat first | simp only [go_sem, ↓reduceIte, Nat.reduceEqDiff, Nat.reduceAdd, reduceCtorEq] | with_reducible refine V_W ?_ | (with_reducible refine And.intro ?_ ?_; focus first | assumption | omega | decide | grind) | (with_reducible refine Br.mk ?_ ?_; focus (intros; omega)) | decide)
      refine pureC (l03Polytope_c r R B hp (allF r R B) hk (allF_fs a1) (allF_len a2) (allF_at (r := r))) (by simp only [go_sem, ↓reduceIte, Nat.reduceEqDiff, Nat.reduceAdd, reduceCtorEq] <;> rfl) (by first | rfl | simp only [go_sem, ↓reduceIte, Nat.reduceEqDiff, Nat.reduceAdd, reduceCtorEq]) ?_
      (repeat first | simp only [go_sem, ↓reduceIte, Nat.reduceEqDiff, Nat.reduceAdd, reduceCtorEq] | with_reducible refine V_W ?_ | (with_reducible refine And.intro ?_ ?_; focus first | assumption | omega | decide | grind) | (with_reducible refine Br.mk ?_ ?_; focus (intros; omega)) | decide)
    · refine pureC (flagsOf_s1 r R B hp h1 hl hr hk) (by simp only [go_sem, ↓reduceIte, Nat.reduceEqDiff, Nat.reduceAdd, reduceCtorEq] <;> rfl) (by first | rfl | simp only [go_sem, ↓reduceIte, Nat.reduceEqDiff, Nat.reduceAdd, reduceCtorEq]) ?_
      simp only [if_pos hp, if_neg hk, if_neg (fun h : IsPos r R B ∧ (allF r R B).length ≤ 400 => hk h.2)]
      (repeat first | simp only [go_sem, ↓reduceIte, Nat.reduceEqDiff, Nat.reduceAdd, reduceCtorEq] | with_reducible refine V_W ?_ | (with_reducible refine And.intro ?_ ?_; focus first | assumption | omega | decide | grind) | (with_reducible refine Br.mk ?_ ?_; focus (intros; omega)) | decide)
      refine ⟨fun _ => ?_, fun h => by omega⟩
      (repeat first | simp only [go_sem, ↓reduceIte, Nat.reduceEqDiff, Nat.reduceAdd, reduceCtorEq] | with_reducible refine V_W ?_ | (with_reducible refine And.intro ?_ ?_; focus first | assumption | omega | decide | grind) | (with_reducible refine Br.mk ?_ ?_; focus (intros; omega)) | decide)
  · refine pureC (flagsOf_s0 r R B hp h1 hl hr) (by simp only [go_sem, ↓reduceIte, Nat.reduceEqDiff, Nat.reduceAdd, reduceCtorEq] <;> rfl) (by first | rfl | simp only [go_sem, ↓reduceIte, Nat.reduceEqDiff, Nat.reduceAdd, reduceCtorEq]) ?_
    simp only [if_neg hp, if_neg (fun h : IsPos r R B ∧ (allF r R B).length ≤ 400 => hp h.1)]
    (repeat first | simp only [go_sem, ↓reduceIte, Nat.reduceEqDiff, Nat.reduceAdd, reduceCtorEq] | with_reducible refine V_W ?_ | (with_reducible refine And.intro ?_ ?_; focus first | assumption | omega | decide | grind) | (with_reducible refine Br.mk ?_ ?_; focus (intros; omega)) | decide)
    refine ⟨fun _ => ?_, fun h => by omega⟩
    (repeat first | simp only [go_sem, ↓reduceIte, Nat.reduceEqDiff, Nat.reduceAdd, reduceCtorEq] | with_reducible refine V_W ?_ | (with_reducible refine And.intro ?_ ?_; focus first | assumption | omega | decide | grind) | (with_reducible refine Br.mk ?_ ?_; focus (intros; omega)) | decide)
theorem implIq_c (r : Int) (R : List Int) (B : List (List Int)) (h1 : R.length ≤ 1048576) (hl : B.length ≤ 1048576) (hr : ∀ xs ∈ B, xs.length ≤ 1048576) : PureG Tryd.prog tabZ 18 [posetA r R B] (.tup [bl (iqB r R B), i64 (puK r R B)]) [] := by
  unfold iqB puK
  refine pureGV ok18 rfl ?_; unfold c18
  (repeat first | simp only [go_sem, ↓reduceIte, Nat.reduceEqDiff, Nat.reduceAdd, reduceCtorEq] | with_reducible refine V_W ?_ | (with_reducible refine And.intro ?_ ?_; focus first | assumption | omega | decide | grind) | (with_reducible refine Br.mk ?_ ?_; focus (intros; omega)) | decide)
  by_cases hp : IsPos r R B
  · obtain ⟨a1, a2, a3, a4, a5⟩ := hp.rank
    have hfl := flagsOf_i r R B hp h1 hl hr _ _ rfl rfl
    by_cases hk : (allF r R B).length ≤ 400
    · rw [if_pos hk, if_pos hk] at hfl
      refine pureC (hfl) (by simp only [go_sem, ↓reduceIte, Nat.reduceEqDiff, Nat.reduceAdd, reduceCtorEq] <;> rfl) (by first | rfl | simp only [go_sem, ↓reduceIte, Nat.reduceEqDiff, Nat.reduceAdd, reduceCtorEq]) ?_
      simp only [if_pos hp, if_pos hk, if_pos (And.intro hp hk)]
      (repeat first | simp only [go_sem, ↓reduceIte, Nat.reduceEqDiff, Nat.reduceAdd, reduceCtorEq] | with_reducible refine V_W ?_ | (with_reducible refine And.intro ?_ ?_; focus first | assumption | omega | decide | grind) | (with_reducible refine Br.mk ?_ ?_; focus (intros; omega)) | decide)
      refine GCall.mk (bl (decide (Pty r R B (allF r R B))) ) (fun hg => by first | exact pureGC 0 ( isPolytope_c r R B hp (allF r R B) hk (allF_fs a1) (allF_sm hp) (allF_len a2) (allF_at (r := r))) rfl (by simp only [go_sem, ↓reduceIte, Nat.reduceEqDiff, Nat.reduceAdd, reduceCtorEq] <;> rfl) (by first | rfl | simp only [go_sem, ↓reduceIte, Nat.reduceEqDiff, Nat.reduceAdd, reduceCtorEq]) (by first | exact ⟨rfl, rfl⟩ | simp only [go_sem, ↓reduceIte, Nat.reduceEqDiff, Nat.reduceAdd, reduceCtorEq]) | exact ⟨hg, pureGC 0 ( isPolytope_c r R B hp (allF r R B) hk (allF_fs a1) (allF_sm hp) (allF_len a2) (allF_at (r := r))) rfl (by simp only [go_sem, ↓reduceIte, Nat.reduceEqDiff, Nat.reduceAdd, reduceCtorEq] <;> rfl) (by first | rfl | simp only [go_sem, ↓reduceIte, Nat.reduceEqDiff, Nat.reduceAdd, reduceCtorEq]) (by first | exact ⟨rfl, rfl⟩ | simp only [go_sem, ↓reduceIte, Nat.reduceEqDiff, Nat.reduceAdd, reduceCtorEq])⟩ | exact ⟨by grind, pureGC 0 ( isPolytope_c r R B hp (allF r R B) hk (allF_fs a1) (allF_sm hp) (allF_len a2) (allF_at (r := r))) rfl (by simp only [go_sem, ↓reduceIte, Nat.reduceEqDiff, Nat.reduceAdd, reduceCtorEq] <;> rfl) (by first | rfl | simp only [go_sem, ↓reduceIte, Nat.reduceEqDiff, Nat.reduceAdd, reduceCtorEq]) (by first | exact ⟨rfl, rfl⟩ | simp only [go_sem, ↓reduceIte, Nat.reduceEqDiff, Nat.reduceAdd, reduceCtorEq])⟩) ?_
      (repeat first | simp only [go_sem, ↓reduceIte, Nat.reduceEqDiff, Nat.reduceAdd, reduceCtorEq] | with_reducible refine V_W ?_ | (with_reducible refine And.intro ?_ ?_; focus first | assumption | omega | decide | grind) | (with_reducible refine Br.mk ?_ ?_; focus (intros; omega)) | decide)
      exact Ref.gc [] rfl (by simp only [go_sem, ↓reduceIte, Nat.reduceEqDiff, Nat.reduceAdd, reduceCtorEq]) (by simp [sub, fget, go_sem, ↓reduceIte, Nat.reduceEqDiff, Nat.reduceAdd, reduceCtorEq])
    · rw [if_neg hk, if_neg hk] at hfl
      refine pureC (hfl) (by simp only [go_sem, ↓reduceIte, Nat.reduceEqDiff, Nat.reduceAdd, reduceCtorEq] <;> rfl) (by first | rfl | simp only [go_sem, ↓reduceIte, Nat.reduceEqDiff, Nat.reduceAdd, reduceCtorEq]) ?_
      simp only [if_pos hp, if_neg hk, if_neg (fun h : IsPos r R B ∧ (allF r R B).length ≤ 400 => hk h.2)]
      (repeat first | simp only [go_sem, ↓reduceIte, Nat.reduceEqDiff, Nat.reduceAdd, reduceCtorEq] | with_reducible refine V_W ?_ | (with_reducible refine And.intro ?_ ?_; focus first | assumption | omega | decide | grind) | (with_reducible refine Br.mk ?_ ?_; focus (intros; omega)) | decide)
      refine GCall_no (bl false) rfl ?_
      (repeat first | simp only [go_sem, ↓reduceIte, Nat.reduceEqDiff, Nat.reduceAdd, reduceCtorEq] | with_reducible refine V_W ?_ | (with_reducible refine And.intro ?_ ?_; focus first | assumption | omega | decide | grind) | (with_reducible refine Br.mk ?_ ?_; focus (intros; omega)) | decide)
      exact Ref.gc [] rfl (by simp only [go_sem, ↓reduceIte, Nat.reduceEqDiff, Nat.reduceAdd, reduceCtorEq]) (by simp [sub, fget, go_sem, ↓reduceIte, Nat.reduceEqDiff, Nat.reduceAdd, reduceCtorEq])
  · refine pureC (flagsOf_i0 r R B hp h1 hl hr) (by simp only [go_sem, ↓reduceIte, Nat.reduceEqDiff, Nat.reduceAdd, reduceCtorEq] <;> rfl) (by first | rfl | simp only [go_sem, ↓reduceIte, Nat.reduceEqDiff, Nat.reduceAdd, reduceCtorEq]) ?_
    simp only [if_neg hp, if_neg (fun h : IsPos r R B ∧ (allF r R B).length ≤ 400 => hp h.1)]
    (repeat first | simp only [go_sem, ↓reduceIte, Nat.reduceEqDiff, Nat.reduceAdd, reduceCtorEq] | with_reducible refine V_W ?_ | (with_reducible refine And.intro ?_ ?_; focus first | assumption | omega | decide | grind) | (with_reducible refine Br.mk ?_ ?_; focus (intros; omega)) | decide)
    refine GCall_no (bl false) rfl ?_
    (repeat first | simp only [go_sem, ↓reduceIte, Nat.reduceEqDiff, Nat.reduceAdd, reduceCtorEq] | with_reducible refine V_W ?_ | (with_reducible refine And.intro ?_ ?_; focus first | assumption | omega | decide | grind) | (with_reducible refine Br.mk ?_ ?_; focus (intros; omega)) | decide)
    exact Ref.gc [] rfl (by simp only [go_sem, ↓reduceIte, Nat.reduceEqDiff, Nat.reduceAdd, reduceCtorEq]) (by simp [sub, fget, go_sem, ↓reduceIte, Nat.reduceEqDiff, Nat.reduceAdd, reduceCtorEq])
end Go.Proofs.YtghhlcioabdpfaaDoor
