/- Texts that belong together. -/
import Derived.Deep.SlicePairs
import Derived.Test.YtkolabjcmephaaaZd
import Derived.Test.YtkolabjcmephaaaZe
import Derived.Test.YtkolabjcmephaaaZm
import Derived.Test.YtkolabjcmephaaaZp
import Derived.Test.YtkolabjcmephaaaZw
import Derived.Test.YtkolabjcmephaaaZx
set_option linter.unusedSimpArgs false
set_option linter.unusedVariables false
set_option maxRecDepth 100000
namespace Go.Proofs.Ytkolabjcmephaaa
open Go.Gov
open Classical

def apV (M : List (List Int)) (T : List (List Tg)) (i f j : Nat) : Int := (if 0 ≤ (tg T j i).2 then (M.getD (tg T j i).2.toNat []).getD f 0 else (f : Int)) * T.length + (tg T j i).1
def apR (M : List (List Int)) (T : List (List Tg)) (i f m : Nat) : List Int := (List.range m).map fun j => apV M T i f j
def apF (M : List (List Int)) (T : List (List Tg)) (i k : Nat) : List Int := (List.range k).flatMap fun f => apR M T i f T.length
def apM (M : List (List Int)) (T : List (List Tg)) (k : Nat) : List (List Int) := (List.range k).map fun i => apF M T i (fl M)
theorem apR_succ (M : List (List Int)) (T : List (List Tg)) (i f m : Nat) : apR M T i f (m + 1) = apR M T i f m ++ [apV M T i f m] := by simp [apR, List.range_succ]
theorem apF_succ (M : List (List Int)) (T : List (List Tg)) (i k : Nat) : apF M T i (k + 1) = apF M T i k ++ apR M T i k T.length := by simp [apF, List.range_succ]
theorem apM_succ (M : List (List Int)) (T : List (List Tg)) (k : Nat) : apM M T (k + 1) = apM M T k ++ [apF M T k (fl M)] := by simp [apM, List.range_succ]
theorem apR_len (M : List (List Int)) (T : List (List Tg)) (i f m : Nat) : (apR M T i f m).length = m := by simp [apR]
theorem apF_len (M : List (List Int)) (T : List (List Tg)) (i : Nat) : ∀ k, (apF M T i k).length = k * T.length
  | 0 => by simp [apF]
  | k + 1 => by rw [apF_succ, List.length_append, apF_len M T i k, apR_len, Nat.add_mul]; omega
theorem apM_len (M : List (List Int)) (T : List (List Tg)) (k : Nat) : (apM M T k).length = k := by simp [apM]
theorem apV_b {M : List (List Int)} {T : List (List Tg)} (hM : IsMap M) (hT : IsTpl T) {i f j : Nat} (hi : i < 3) (hf : f < fl M) (hj : j < T.length) : 0 ≤ apV M T i f j ∧ apV M T i f j ≤ 10000 := by
  obtain ⟨o1, o2, o3, o4, _⟩ := hT.ok j i hj hi
  have h12 := hT.p2
  have h4 := hM.1.f4
  have hg : 0 ≤ (if 0 ≤ (tg T j i).2 then (M.getD (tg T j i).2.toNat []).getD f 0 else (f : Int)) ∧ (if 0 ≤ (tg T j i).2 then (M.getD (tg T j i).2.toNat []).getD f 0 else (f : Int)) ≤ 400 := by
    split
    · have h3 := hM.2
      obtain ⟨r1, r2, _⟩ := hM.1.rows (tg T j i).2.toNat (by omega)
      have := r2.at (k := f) (by omega)
      omega
    · omega
  unfold apV
  generalize (if 0 ≤ (tg T j i).2 then (M.getD (tg T j i).2.toNat []).getD f 0 else (f : Int)) = g at *
  have h5 : g * T.length ≤ 400 * 12 := Int.mul_le_mul hg.2 (by omega) (by omega) (by omega)
  have h6 : 0 ≤ g * T.length := Int.mul_nonneg hg.1 (by omega)
  omega

set_option maxHeartbeats 8000000 in
theorem l14Apply_c (M : List (List Int)) (T : List (List Tg)) (hM : IsMap M) (hT : IsTpl T) : Pure Try.prog 56 [maniA M, tplA T] (.agg [.sl 0 1 0 3]) [some ((apM M T 3).map oints)] := by
  have hM3 : M.length = 3 := hM.2
  have hn4 := hM.1.f4
  have hT1 := hT.p1
  have hT2 := hT.p2
  have hfe : fl M = (M.getD 0 []).length := rfl
  have hfl := l02Flags_c M (by omega) (by omega) (by omega)
  refine pureVg [4] ok56 rfl ?_; unfold c56
  (repeat first | simp only [go_sem, ↓reduceIte, Nat.reduceEqDiff, Nat.reduceAdd, reduceCtorEq] | with_reducible refine V_W ?_ | (with_reducible refine And.intro ?_ ?_; focus first | assumption | omega | decide | grind) | (with_reducible refine Br.mk ?_ ?_; focus (intros; omega)) | decide)
  refine V_loop (α := Nat) (S := fun i => ([(2, .ref 0 0), (3, .ref 1 0), (4, .ref 2 0), (5, i64 T.length), (6, .ref 3 0), (7, i64 i)], [some [mat M], some [tmt T], some [nilS], some [.sl 4 1 0 i], some ((apM M T i).map oints)])) (C := fun i => i ≤ 3) (μ := fun i => 3 - i) 0 (by omega) ((Ref.nilC 3 0 1 rfl rfl).trans (Ref.to (by simp [apM]) (by simp [sub, fget]))) ?_
  intro i hi
  have hml := apM_len M T i
  (repeat first | simp only [go_sem, ↓reduceIte, Nat.reduceEqDiff, Nat.reduceAdd, reduceCtorEq] | with_reducible refine V_W ?_ | (with_reducible refine And.intro ?_ ?_; focus first | assumption | omega | decide | grind) | (with_reducible refine Br.mk ?_ ?_; focus (intros; omega)) | decide)
  refine ⟨fun hc => ?_, fun hc => ?_⟩
  · have hi3 : i < 3 := by omega
    (repeat first | simp only [go_sem, ↓reduceIte, Nat.reduceEqDiff, Nat.reduceAdd, reduceCtorEq] | with_reducible refine V_W ?_ | (with_reducible refine And.intro ?_ ?_; focus first | assumption | omega | decide | grind) | (with_reducible refine Br.mk ?_ ?_; focus (intros; omega)) | decide)
    refine V_loop (α := Nat) (S := fun f => ([(2, .ref 0 0), (3, .ref 1 0), (4, .ref 2 0), (5, i64 T.length), (6, .ref 3 0), (7, i64 i), (8, .sl 5 1 0 (apF M T i f).length), (9, i64 f)], [some [mat M], some [tmt T], some [nilS], some [.sl 4 1 0 i], some ((apM M T i).map oints), some (intsC (apF M T i f))])) (C := fun f => f ≤ fl M) (μ := fun f => fl M - f) 0 (by omega) (Ref.to (by simp [intsC, apF]) (by simp [sub, fget, apF])) ?_
    intro f hf
    have hfl2 := apF_len M T i f
    (repeat first | simp only [go_sem, ↓reduceIte, Nat.reduceEqDiff, Nat.reduceAdd, reduceCtorEq] | with_reducible refine V_W ?_ | (with_reducible refine And.intro ?_ ?_; focus first | assumption | omega | decide | grind) | (with_reducible refine Br.mk ?_ ?_; focus (intros; omega)) | decide)
    refine pureC (hfl) (by simp only [go_sem, ↓reduceIte, Nat.reduceEqDiff, Nat.reduceAdd, reduceCtorEq] <;> rfl) (by first | rfl | simp only [go_sem, ↓reduceIte, Nat.reduceEqDiff, Nat.reduceAdd, reduceCtorEq]) ?_
    (repeat first | simp only [go_sem, ↓reduceIte, Nat.reduceEqDiff, Nat.reduceAdd, reduceCtorEq] | with_reducible refine V_W ?_ | (with_reducible refine And.intro ?_ ?_; focus first | assumption | omega | decide | grind) | (with_reducible refine Br.mk ?_ ?_; focus (intros; omega)) | decide)
    refine ⟨fun hc1 => ?_, fun hc1 => ?_⟩
    · have hff : f < fl M := by omega
      have hfp : f * T.length ≤ 400 * 12 := Nat.mul_le_mul (by omega) hT2
      (repeat first | simp only [go_sem, ↓reduceIte, Nat.reduceEqDiff, Nat.reduceAdd, reduceCtorEq] | with_reducible refine V_W ?_ | (with_reducible refine And.intro ?_ ?_; focus first | assumption | omega | decide | grind) | (with_reducible refine Br.mk ?_ ?_; focus (intros; omega)) | decide)
      refine V_loop (α := Nat) (S := fun j => ([(2, .ref 0 0), (3, .ref 1 0), (4, .ref 2 0), (5, i64 T.length), (6, .ref 3 0), (7, i64 i), (8, .sl 5 1 0 (apF M T i f ++ apR M T i f j).length), (9, i64 f), (10, i64 j)], [some [mat M], some [tmt T], some [nilS], some [.sl 4 1 0 i], some ((apM M T i).map oints), some (intsC (apF M T i f ++ apR M T i f j))])) (C := fun j => j ≤ T.length) (μ := fun j => T.length - j) 0 (by omega) (Ref.to (by simp [apR]) (by simp [sub, fget, apR])) ?_
      intro j hj
      have hrl := apR_len M T i f j
      have hll : (apF M T i f ++ apR M T i f j).length = f * T.length + j := by rw [List.length_append, hfl2, hrl]
      have hst := apR_succ M T i f j
      generalize hL : apF M T i f ++ apR M T i f j = L at *
      (repeat first | simp only [go_sem, ↓reduceIte, Nat.reduceEqDiff, Nat.reduceAdd, reduceCtorEq] | with_reducible refine V_W ?_ | (with_reducible refine And.intro ?_ ?_; focus first | assumption | omega | decide | grind) | (with_reducible refine Br.mk ?_ ?_; focus (intros; omega)) | decide)
      refine ⟨fun hc2 => ?_, fun hc2 => ?_⟩
      · have hjl : j < T.length := by omega
        have g1 := tmt_at T j hjl
        have g2 := tmt_any T j hjl
        have h3 := hT.len j hjl
        have g3 := flt_two (T.getD j []) i (by omega)
        obtain ⟨o1, o2, o3, o4, _⟩ := hT.ok j i hjl hi3
        have hvb := apV_b hM hT hi3 hff hjl
        (repeat first | simp only [go_sem, ↓reduceIte, Nat.reduceEqDiff, Nat.reduceAdd, reduceCtorEq] | with_reducible refine V_W ?_ | (with_reducible refine And.intro ?_ ?_; focus first | assumption | omega | decide | grind) | (with_reducible refine Br.mk ?_ ?_; focus (intros; omega)) | decide)
        simp only [g1, g2, go_sem, ↓reduceIte, Nat.reduceEqDiff, Nat.reduceAdd, reduceCtorEq]
        (repeat first | simp only [go_sem, ↓reduceIte, Nat.reduceEqDiff, Nat.reduceAdd, reduceCtorEq] | with_reducible refine V_W ?_ | (with_reducible refine And.intro ?_ ?_; focus first | assumption | omega | decide | grind) | (with_reducible refine Br.mk ?_ ?_; focus (intros; omega)) | decide)
        refine And.intro ⟨by rw [flt_len]; omega, by rw [g3]; rfl⟩ (And.intro (by rw [List.length_drop, len_intsC, flt_len]; omega) (And.intro (by rw [g3]; rfl) ?_))
        simp only [g3, go_sem, ↓reduceIte, Nat.reduceEqDiff, Nat.reduceAdd, reduceCtorEq]
        change W _ _ _ _ _ _ _ _
        rw [show (T.getD j []).getD i T0 = tg T j i from rfl]
        have hv : apV M T i f j = (if 0 ≤ (tg T j i).2 then (M.getD (tg T j i).2.toNat []).getD f 0 else (f : Int)) * T.length + (tg T j i).1 := rfl
        generalize hx : tg T j i = x at *
        have hrow : 0 ≤ x.2 → f < (M.getD x.2.toNat []).length := fun h => by
          obtain ⟨r1, _, _⟩ := hM.1.rows x.2.toNat (by omega)
          omega
        (repeat first | simp only [go_sem, ↓reduceIte, Nat.reduceEqDiff, Nat.reduceAdd, reduceCtorEq] | with_reducible refine V_W ?_ | (with_reducible refine And.intro ?_ ?_; focus first | assumption | omega | decide | grind) | (with_reducible refine Br.mk ?_ ?_; focus (intros; omega)) | decide)
        refine ⟨fun hc3 => ?_, fun hc3 => ?_⟩
        · have hr2 := hrow hc3
          rw [if_pos hc3] at hv
          (repeat first | simp only [go_sem, ↓reduceIte, Nat.reduceEqDiff, Nat.reduceAdd, reduceCtorEq] | with_reducible refine V_W ?_ | (with_reducible refine And.intro ?_ ?_; focus first | assumption | omega | decide | grind) | (with_reducible refine Br.mk ?_ ?_; focus (intros; omega)) | decide)
          refine ⟨j + 1, by omega, by omega, ?_⟩
          rw [hst, ← List.append_assoc, hL, hv]
          refine Ref.gc [0, 1, 2, 3, 4, 8] rfl ?_ (by simp [sub, fget, go_sem, ↓reduceIte, Nat.reduceEqDiff, Nat.reduceAdd, reduceCtorEq]; omega)
          (try simp only [go_sem, ↓reduceIte, Nat.reduceEqDiff, Nat.reduceAdd, reduceCtorEq, take_ints_len, one_intsC, app_intsC])
        · rw [if_neg (by omega)] at hv
          (repeat first | simp only [go_sem, ↓reduceIte, Nat.reduceEqDiff, Nat.reduceAdd, reduceCtorEq] | with_reducible refine V_W ?_ | (with_reducible refine And.intro ?_ ?_; focus first | assumption | omega | decide | grind) | (with_reducible refine Br.mk ?_ ?_; focus (intros; omega)) | decide)
          refine ⟨j + 1, by omega, by omega, ?_⟩
          rw [hst, ← List.append_assoc, hL, hv]
          refine Ref.gc [0, 1, 2, 3, 4, 8] rfl ?_ (by simp [sub, fget, go_sem, ↓reduceIte, Nat.reduceEqDiff, Nat.reduceAdd, reduceCtorEq]; omega)
          (try simp only [go_sem, ↓reduceIte, Nat.reduceEqDiff, Nat.reduceAdd, reduceCtorEq, take_ints_len, one_intsC, app_intsC])
      · obtain rfl : j = T.length := by omega
        have hs2 := apF_succ M T i f
        (repeat first | simp only [go_sem, ↓reduceIte, Nat.reduceEqDiff, Nat.reduceAdd, reduceCtorEq] | with_reducible refine V_W ?_ | (with_reducible refine And.intro ?_ ?_; focus first | assumption | omega | decide | grind) | (with_reducible refine Br.mk ?_ ?_; focus (intros; omega)) | decide)
        refine ⟨f + 1, by omega, by omega, ?_⟩
        rw [hs2, hL]
        exact Ref.frame (by simp [sub, fget])
    · obtain rfl : f = fl M := by omega
      have hs3 := apM_succ M T i
      have hlb : (apF M T i (fl M)).length ≤ 4800 := by rw [apF_len]; exact Nat.mul_le_mul hn4 hT2
      (repeat first | simp only [go_sem, ↓reduceIte, Nat.reduceEqDiff, Nat.reduceAdd, reduceCtorEq] | with_reducible refine V_W ?_ | (with_reducible refine And.intro ?_ ?_; focus first | assumption | omega | decide | grind) | (with_reducible refine Br.mk ?_ ?_; focus (intros; omega)) | decide)
      refine ⟨i + 1, by omega, by omega, ?_⟩
      rw [hs3]
      refine (Ref.close 7 i 5 (k := 1) (n := (apF M T i (fl M)).length) (cs2 := intsC (apF M T i (fl M))) rfl (by rw [List.getElem?_append_right (by simp [hml])]; simp [hml]) rfl (by decide) (by simp [intsC])).trans (Ref.gc [0, 1, 2, 3, 7] rfl ?_ (by simp [sub, fget, go_sem, ↓reduceIte, Nat.reduceEqDiff, Nat.reduceAdd, reduceCtorEq]))
      (try simp only [go_sem, ↓reduceIte, Nat.reduceEqDiff, Nat.reduceAdd, reduceCtorEq])
      have hset : ∀ x y : AV, ((apM M T i).map oints ++ [x]).set i y = (apM M T i).map oints ++ [y] := fun x y => by
        rw [List.set_append_right _ _ (by simp [hml])]; simp [hml]
      rw [List.take_of_length_le (by simp [hml]), rnmL_orows, hset]
      simp
  · obtain rfl : i = 3 := by omega
    (repeat first | simp only [go_sem, ↓reduceIte, Nat.reduceEqDiff, Nat.reduceAdd, reduceCtorEq] | with_reducible refine V_W ?_ | (with_reducible refine And.intro ?_ ?_; focus first | assumption | omega | decide | grind) | (with_reducible refine Br.mk ?_ ?_; focus (intros; omega)) | decide)
end Go.Proofs.Ytkolabjcmephaaa
set_option maxRecDepth 100000
namespace Go.Proofs.Ytkolabjcmephaaa
open Go.Gov
open Classical

set_option maxHeartbeats 8000000 in
theorem applyTemplate_c (M : List (List Int)) (T : List (List Tg)) (hM : IsMap M) (hT : IsTpl T) : Pure Try.prog 61 [maniA M, tplA T] (.agg [.sl 0 1 0 3]) [some ((apM M T 3).map oints)] := by
  have hM3 : M.length = 3 := hM.2
  have hn4 := hM.1.f4
  have hT1 := hT.p1
  have hT2 := hT.p2
  have hfe : fl M = (M.getD 0 []).length := rfl
  have hfl := flags_c M (by omega) (by omega) (by omega)
  have hsz := sizeT_c T (by omega)
  refine pureVg [4] ok61 rfl ?_; unfold c61
  (repeat first | simp only [go_sem, ↓reduceIte, Nat.reduceEqDiff, Nat.reduceAdd, reduceCtorEq] | with_reducible refine V_W ?_ | (with_reducible refine And.intro ?_ ?_; focus first | assumption | omega | decide | grind) | (with_reducible refine Br.mk ?_ ?_; focus (intros; omega)) | decide)
  refine pureC (hsz) (by simp only [go_sem, ↓reduceIte, Nat.reduceEqDiff, Nat.reduceAdd, reduceCtorEq] <;> rfl) (by first | rfl | simp only [go_sem, ↓reduceIte, Nat.reduceEqDiff, Nat.reduceAdd, reduceCtorEq]) ?_
  (repeat first | simp only [go_sem, ↓reduceIte, Nat.reduceEqDiff, Nat.reduceAdd, reduceCtorEq] | with_reducible refine V_W ?_ | (with_reducible refine And.intro ?_ ?_; focus first | assumption | omega | decide | grind) | (with_reducible refine Br.mk ?_ ?_; focus (intros; omega)) | decide)
  refine V_loop (α := Nat) (S := fun i => ([(2, .ref 0 0), (3, .ref 1 0), (4, .ref 2 0), (5, i64 T.length), (6, .ref 3 0), (16, i64 i)], [some [mat M], some [tmt T], some [nilS], some [.sl 4 1 0 i], some ((apM M T i).map oints)])) (C := fun i => i ≤ 3) (μ := fun i => 3 - i) 0 (by omega) ((Ref.nilC 3 0 1 rfl rfl).trans (Ref.to (by simp [apM]) (by simp [sub, fget]))) ?_
  intro i hi
  have hml := apM_len M T i
  (repeat first | simp only [go_sem, ↓reduceIte, Nat.reduceEqDiff, Nat.reduceAdd, reduceCtorEq] | with_reducible refine V_W ?_ | (with_reducible refine And.intro ?_ ?_; focus first | assumption | omega | decide | grind) | (with_reducible refine Br.mk ?_ ?_; focus (intros; omega)) | decide)
  refine ⟨fun hc => ?_, fun hc => ?_⟩
  · have hi3 : i < 3 := by omega
    (repeat first | simp only [go_sem, ↓reduceIte, Nat.reduceEqDiff, Nat.reduceAdd, reduceCtorEq] | with_reducible refine V_W ?_ | (with_reducible refine And.intro ?_ ?_; focus first | assumption | omega | decide | grind) | (with_reducible refine Br.mk ?_ ?_; focus (intros; omega)) | decide)
    refine pureC (hfl) (by simp only [go_sem, ↓reduceIte, Nat.reduceEqDiff, Nat.reduceAdd, reduceCtorEq] <;> rfl) (by first | rfl | simp only [go_sem, ↓reduceIte, Nat.reduceEqDiff, Nat.reduceAdd, reduceCtorEq]) ?_
    (repeat first | simp only [go_sem, ↓reduceIte, Nat.reduceEqDiff, Nat.reduceAdd, reduceCtorEq] | with_reducible refine V_W ?_ | (with_reducible refine And.intro ?_ ?_; focus first | assumption | omega | decide | grind) | (with_reducible refine Br.mk ?_ ?_; focus (intros; omega)) | decide)
    refine V_loop (α := Nat) (S := fun f => ([(2, .ref 0 0), (3, .ref 1 0), (4, .ref 2 0), (5, i64 T.length), (6, .ref 3 0), (16, i64 i), (7, i64 i), (8, .sl 5 1 0 (apF M T i f).length), (19, i64 (M.getD 0 []).length), (20, i64 f)], [some [mat M], some [tmt T], some [nilS], some [.sl 4 1 0 i], some ((apM M T i).map oints), some (intsC (apF M T i f))])) (C := fun f => f ≤ fl M) (μ := fun f => fl M - f) 0 (by omega) ((Ref.nil 8 1 rfl).trans (Ref.to (by simp [intsC, apF]) (by simp [sub, fget, apF]))) ?_
    intro f hf
    have hfl2 := apF_len M T i f
    (repeat first | simp only [go_sem, ↓reduceIte, Nat.reduceEqDiff, Nat.reduceAdd, reduceCtorEq] | with_reducible refine V_W ?_ | (with_reducible refine And.intro ?_ ?_; focus first | assumption | omega | decide | grind) | (with_reducible refine Br.mk ?_ ?_; focus (intros; omega)) | decide)
    refine ⟨fun hc1 => ?_, fun hc1 => ?_⟩
    · have hff : f < fl M := by omega
      have hfp : f * T.length ≤ 400 * 12 := Nat.mul_le_mul (by omega) hT2
      (repeat first | simp only [go_sem, ↓reduceIte, Nat.reduceEqDiff, Nat.reduceAdd, reduceCtorEq] | with_reducible refine V_W ?_ | (with_reducible refine And.intro ?_ ?_; focus first | assumption | omega | decide | grind) | (with_reducible refine Br.mk ?_ ?_; focus (intros; omega)) | decide)
      refine V_loop (α := Nat) (S := fun j => ([(2, .ref 0 0), (3, .ref 1 0), (4, .ref 2 0), (5, i64 T.length), (6, .ref 3 0), (16, i64 i), (7, i64 i), (8, .sl 5 1 0 (apF M T i f ++ apR M T i f j).length), (19, i64 (M.getD 0 []).length), (20, i64 f), (9, i64 f), (24, tmt T), (25, i64 T.length), (26, i64 j)], [some [mat M], some [tmt T], some [nilS], some [.sl 4 1 0 i], some ((apM M T i).map oints), some (intsC (apF M T i f ++ apR M T i f j))])) (C := fun j => j ≤ T.length) (μ := fun j => T.length - j) 0 (by omega) (Ref.to (by simp [apR]) (by simp [sub, fget, apR])) ?_
      intro j hj
      have hrl := apR_len M T i f j
      have hll : (apF M T i f ++ apR M T i f j).length = f * T.length + j := by rw [List.length_append, hfl2, hrl]
      have hst := apR_succ M T i f j
      generalize hL : apF M T i f ++ apR M T i f j = L at *
      (repeat first | simp only [go_sem, ↓reduceIte, Nat.reduceEqDiff, Nat.reduceAdd, reduceCtorEq] | with_reducible refine V_W ?_ | (with_reducible refine And.intro ?_ ?_; focus first | assumption | omega | decide | grind) | (with_reducible refine Br.mk ?_ ?_; focus (intros; omega)) | decide)
      refine ⟨fun hc2 => ?_, fun hc2 => ?_⟩
      · have hjl : j < T.length := by omega
        have g1 := tmt_at T j hjl
        have g2 := tmt_any T j hjl
        have h3 := hT.len j hjl
        have hl6 : (flt (T.getD j [])).length = 6 := by rw [flt_len, h3]
        have g4 : (flt (T.getD j [])).getD (i * 2) 0 = (tg T j i).1 := flt_at0 (T.getD j []) i
        have g5 : (flt (T.getD j [])).getD (i * 2 + 1) 0 = (tg T j i).2 := flt_at1 (T.getD j []) i
        obtain ⟨o1, o2, o3, o4, _⟩ := hT.ok j i hjl hi3
        have hvb := apV_b hM hT hi3 hff hjl
        (repeat first | simp only [go_sem, ↓reduceIte, Nat.reduceEqDiff, Nat.reduceAdd, reduceCtorEq] | with_reducible refine V_W ?_ | (with_reducible refine And.intro ?_ ?_; focus first | assumption | omega | decide | grind) | (with_reducible refine Br.mk ?_ ?_; focus (intros; omega)) | decide)
        simp only [g1, g2, go_sem, ↓reduceIte, Nat.reduceEqDiff, Nat.reduceAdd, reduceCtorEq]
        (repeat first | simp only [go_sem, ↓reduceIte, Nat.reduceEqDiff, Nat.reduceAdd, reduceCtorEq] | with_reducible refine V_W ?_ | (with_reducible refine And.intro ?_ ?_; focus first | assumption | omega | decide | grind) | (with_reducible refine Br.mk ?_ ?_; focus (intros; omega)) | decide)
        simp only [g4, g5, go_sem, ↓reduceIte, Nat.reduceEqDiff, Nat.reduceAdd, reduceCtorEq]
        have hv : apV M T i f j = (if 0 ≤ (tg T j i).2 then (M.getD (tg T j i).2.toNat []).getD f 0 else (f : Int)) * T.length + (tg T j i).1 := rfl
        generalize hx : tg T j i = x at *
        have hrow : 0 ≤ x.2 → f < (M.getD x.2.toNat []).length := fun h => by
          obtain ⟨r1, _, _⟩ := hM.1.rows x.2.toNat (by omega)
          omega
        (repeat first | simp only [go_sem, ↓reduceIte, Nat.reduceEqDiff, Nat.reduceAdd, reduceCtorEq] | with_reducible refine V_W ?_ | (with_reducible refine And.intro ?_ ?_; focus first | assumption | omega | decide | grind) | (with_reducible refine Br.mk ?_ ?_; focus (intros; omega)) | decide)
        refine ⟨fun hc3 => ?_, fun hc3 => ?_⟩
        · have hr2 := hrow hc3
          rw [if_pos hc3] at hv
          (repeat first | simp only [go_sem, ↓reduceIte, Nat.reduceEqDiff, Nat.reduceAdd, reduceCtorEq] | with_reducible refine V_W ?_ | (with_reducible refine And.intro ?_ ?_; focus first | assumption | omega | decide | grind) | (with_reducible refine Br.mk ?_ ?_; focus (intros; omega)) | decide)
          simp only [g4]
          refine ⟨j + 1, by omega, by omega, ?_⟩
          rw [hst, ← List.append_assoc, hL, hv]
          refine Ref.gc [0, 1, 2, 3, 4, 7] rfl ?_ (by simp [sub, fget, go_sem, ↓reduceIte, Nat.reduceEqDiff, Nat.reduceAdd, reduceCtorEq]; omega)
          (try simp only [go_sem, ↓reduceIte, Nat.reduceEqDiff, Nat.reduceAdd, reduceCtorEq, take_ints_len, one_intsC, app_intsC])
        · rw [if_neg (by omega)] at hv
          (repeat first | simp only [go_sem, ↓reduceIte, Nat.reduceEqDiff, Nat.reduceAdd, reduceCtorEq] | with_reducible refine V_W ?_ | (with_reducible refine And.intro ?_ ?_; focus first | assumption | omega | decide | grind) | (with_reducible refine Br.mk ?_ ?_; focus (intros; omega)) | decide)
          simp only [g4]
          refine ⟨j + 1, by omega, by omega, ?_⟩
          rw [hst, ← List.append_assoc, hL, hv]
          refine Ref.gc [0, 1, 2, 3, 4, 7] rfl ?_ (by simp [sub, fget, go_sem, ↓reduceIte, Nat.reduceEqDiff, Nat.reduceAdd, reduceCtorEq]; omega)
          (try simp only [go_sem, ↓reduceIte, Nat.reduceEqDiff, Nat.reduceAdd, reduceCtorEq, take_ints_len, one_intsC, app_intsC])
      · obtain rfl : j = T.length := by omega
        have hs2 := apF_succ M T i f
        (repeat first | simp only [go_sem, ↓reduceIte, Nat.reduceEqDiff, Nat.reduceAdd, reduceCtorEq] | with_reducible refine V_W ?_ | (with_reducible refine And.intro ?_ ?_; focus first | assumption | omega | decide | grind) | (with_reducible refine Br.mk ?_ ?_; focus (intros; omega)) | decide)
        refine ⟨f + 1, by omega, by omega, ?_⟩
        rw [hs2, hL]
        exact Ref.frame (by simp [sub, fget])
    · obtain rfl : f = fl M := by omega
      have hs3 := apM_succ M T i
      have hlb : (apF M T i (fl M)).length ≤ 4800 := by rw [apF_len]; exact Nat.mul_le_mul hn4 hT2
      (repeat first | simp only [go_sem, ↓reduceIte, Nat.reduceEqDiff, Nat.reduceAdd, reduceCtorEq] | with_reducible refine V_W ?_ | (with_reducible refine And.intro ?_ ?_; focus first | assumption | omega | decide | grind) | (with_reducible refine Br.mk ?_ ?_; focus (intros; omega)) | decide)
      refine ⟨i + 1, by omega, by omega, ?_⟩
      rw [hs3]
      refine (Ref.close 7 i 5 (k := 1) (n := (apF M T i (fl M)).length) (cs2 := intsC (apF M T i (fl M))) rfl (by rw [List.getElem?_append_right (by simp [hml])]; simp [hml]) rfl (by decide) (by simp [intsC])).trans (Ref.gc [0, 1, 2, 3, 7] rfl ?_ (by simp [sub, fget, go_sem, ↓reduceIte, Nat.reduceEqDiff, Nat.reduceAdd, reduceCtorEq]))
      (try simp only [go_sem, ↓reduceIte, Nat.reduceEqDiff, Nat.reduceAdd, reduceCtorEq])
      have hset : ∀ x y : AV, ((apM M T i).map oints ++ [x]).set i y = (apM M T i).map oints ++ [y] := fun x y => by
        rw [List.set_append_right _ _ (by simp [hml])]; simp [hml]
      rw [List.take_of_length_le (by simp [hml]), rnmL_orows, hset]
      simp
  · obtain rfl : i = 3 := by omega
    (repeat first | simp only [go_sem, ↓reduceIte, Nat.reduceEqDiff, Nat.reduceAdd, reduceCtorEq] | with_reducible refine V_W ?_ | (with_reducible refine And.intro ?_ ?_; focus first | assumption | omega | decide | grind) | (with_reducible refine Br.mk ?_ ?_; focus (intros; omega)) | decide)
end Go.Proofs.Ytkolabjcmephaaa
set_option maxRecDepth 100000
namespace Go.Proofs.Ytkolabjcmephaaa
open Go.Gov Go.ChangeShapes Go.WideShapes

theorem trod_i64 {K : Type} {enc : TypeId × Value → K} {P : Program} {w : World} {base : Nat} {spare : Nat → Bool} {held : Bool} {t : TypeId} {fuel : Nat} {v : Value} {x : DataW K × List MemPlace} (ht : P.underlying t = some (.int .i64))
    (h : DataW.trod enc P w base spare held fuel t [v] = some x) : ∃ n, v = .int .i64 n := by
  obtain ⟨n, hn, _, _⟩ := DataW.trod_int ht h
  simp only [List.cons.injEq, and_true] at hn
  exact ⟨n, hn⟩

theorem rd_pairs {K : Type} {enc : TypeId × Value → K} {P : Program} {w : World} {base : Nat} {spare : Nat → Bool} {held : Bool} {t e : TypeId} {f0 f1 : Field} {fuel : Nat} {cs : List Value} {x : DataW K × List MemPlace} (ht : P.underlying t = some (.slice e)) (he : P.underlying e = some (.struct #[f0, f1]))
    (ce : P.cellsOf e = 2) (o0 : f0.offset = 0) (o1 : f1.offset = 1) (c0 : P.cellsOf f0.type = 1) (c1 : P.cellsOf f1.type = 1) (i0 : P.underlying f0.type = some (.int .i64)) (i1 : P.underlying f1.type = some (.int .i64))
    (h : DataW.trod enc P w base spare held fuel t cs = some x) : ∃ v l, cs = [v] ∧ l.length ≤ maxLen ∧ ∀ tr, Rd w tr (fun b => b < w.heap.size) (tgs l) v [] := by
  rcases Go.Deep.open_slice_pairs ht he ce o0 o1 c0 c1 h with ⟨rfl, _⟩ | ⟨a, len, cap, m, n, V0, V1, D0, D1, P0, P1, rfl, hb, hl, hm, hmm, _, hx⟩
  · exact ⟨_, [], rfl, Nat.zero_le _, fun tr => .slc0 (Nat.zero_le _)⟩
  · have hlm : len ≤ m := by rw [hmm]; split <;> omega
    obtain ⟨z, hz⟩ := Go.Deep.choose_lt (α := Int × Int) (p := fun i q => V0 i = .int .i64 q.1 ∧ V1 i = .int .i64 q.2) (n := len) (fun i hi => by
      obtain ⟨_, _, g0, g1⟩ := hx i (by omega)
      obtain ⟨x0, e0⟩ := trod_i64 i0 g0
      obtain ⟨x1, e1⟩ := trod_i64 i1 g1
      exact ⟨(x0, x1), e0, e1⟩)
    let l : List Tg := (List.range len).map z
    have hll : l.length = len := by simp [l]
    refine ⟨_, l, rfl, by omega, fun tr => ?_⟩
    show Rd w tr _ (.slc 2 l.length (intsC (flt l))) _ []
    rw [hll]
    by_cases h0 : len = 0
    · have hl0 : l = [] := List.eq_nil_of_length_eq_zero (by omega)
      rw [hl0]
      subst h0
      exact .slc0 hm
    · obtain ⟨h1, h2⟩ := cell_spot (by simpa [Addr.add] using (hx 0 (by omega)).1)
      obtain ⟨b, off, s⟩ := a
      dsimp only at h1 h2
      subst h1
      have hcl : (intsC (flt l)).length = len * 2 := by rw [len_intsC, flt_len, hll]
      refine .slc (fun m => if m % 2 = 0 then V0 (m / 2) else V1 (m / 2)) hcl hl hm h2 (fun m hm' => ?_) (fun m hm' => ?_)
      · rw [hcl] at hm'
        obtain ⟨g0, g1, _⟩ := hx (m / 2) (by omega)
        try dsimp only
        by_cases e : m % 2 = 0
        · rw [if_pos e]
          have := cell_at rfl g0
          rwa [show m / 2 * 2 = m by omega] at this
        · rw [if_neg e]
          have := cell_at rfl g1
          rwa [show m / 2 * 2 + 1 = m by omega] at this
      · rw [hcl] at hm'
        have hq : m / 2 < len := by omega
        obtain ⟨e0, e1⟩ := hz (m / 2) hq
        have hld : l.getD (m / 2) T0 = z (m / 2) := by simp [l, hq]
        have hge : (intsC (flt l))[m] = i64 ((flt l).getD m 0) := by
          have : m < (flt l).length := by rw [flt_len, hll]; exact hm'
          simp [intsC, this]
        rw [hge]
        try dsimp only
        by_cases e : m % 2 = 0
        · rw [if_pos e, e0]
          have := flt_at0 l (m / 2)
          rw [show m / 2 * 2 = m by omega] at this
          rw [this, hld]
          exact .val
        · rw [if_neg e, e1]
          have := flt_at1 l (m / 2)
          rw [show m / 2 * 2 + 1 = m by omega] at this
          rw [this, hld]
          exact .val

theorem rd_prows {K : Type} {enc : TypeId × Value → K} {P : Program} {w : World} {base : Nat} {spare : Nat → Bool} {held : Bool} {t q e : TypeId} {f0 f1 : Field} {fuel : Nat} {cs : List Value} {x : DataW K × List MemPlace} (hq : P.underlying q = some (.slice t)) (cq : P.cellsOf t = 1) (ht : P.underlying t = some (.slice e)) (he : P.underlying e = some (.struct #[f0, f1]))
    (ce : P.cellsOf e = 2) (o0 : f0.offset = 0) (o1 : f1.offset = 1) (c0 : P.cellsOf f0.type = 1) (c1 : P.cellsOf f1.type = 1) (i0 : P.underlying f0.type = some (.int .i64)) (i1 : P.underlying f1.type = some (.int .i64))
    (h : DataW.trod enc P w base spare held fuel q cs = some x) : ∃ v T, cs = [v] ∧ T.length ≤ maxLen ∧ (∀ xs ∈ T, xs.length ≤ maxLen) ∧ ∀ tr, Rd w tr (fun b => b < w.heap.size) (tmt T) v [] := by
  rcases Go.Deep.open_slice1 hq cq h with ⟨rfl, _⟩ | ⟨a, len, cap, m, n, V, D, Pl, rfl, hb, hl, hm, hmm, _, hx⟩
  · exact ⟨_, [], rfl, Nat.zero_le _, by simp, fun tr => .slc0 (Nat.zero_le _)⟩
  · have hlm : len ≤ m := by rw [hmm]; split <;> omega
    obtain ⟨z, hz⟩ := Go.Deep.choose_lt (α := List Tg) (p := fun i l => l.length ≤ maxLen ∧ ∀ tr, Rd w tr (fun b => b < w.heap.size) (tgs l) (V i) []) (n := len) (fun i hi => by
      obtain ⟨v, l, h1, h2, h3⟩ := rd_pairs ht he ce o0 o1 c0 c1 i0 i1 (hx i (by omega)).2
      simp only [List.cons.injEq, and_true] at h1
      exact ⟨l, h2, h1 ▸ h3⟩)
    refine ⟨_, (List.range len).map z, rfl, by simp; omega, fun xs hx' => ?_, fun tr => ?_⟩
    · obtain ⟨r, hr, rfl⟩ := List.mem_map.1 hx'
      exact (hz r (List.mem_range.1 hr)).1
    · show Rd w tr _ (.slc 1 ((List.range len).map z).length (((List.range len).map z).map tgs)) _ []
      rw [show ((List.range len).map z).length = len by simp]
      by_cases h0 : len = 0
      · subst h0; exact .slc0 hm
      · obtain ⟨h1, h2⟩ := cell_spot (by simpa [Addr.add] using (hx 0 (by omega)).1)
        obtain ⟨b, off, s⟩ := a
        dsimp only at h1 h2
        subst h1
        refine .slc V (by simp) hl hm h2 (fun m hm' => ?_) (fun m hm' => ?_)
        · simp only [List.length_map, List.length_range] at hm'
          exact cell_at rfl (hx m (by omega)).1
        · simp only [List.length_map, List.length_range] at hm'
          simp only [List.getElem_map, List.getElem_range]
          exact (hz m hm').2 tr

/-- A nil slice in a struct that a call gives, first of several values, is told as an object. -/
theorem pure_nilA {P : Program} {f : FuncId} {args l : List AV} (k : Nat) (h : Gov.Pure P f args (.tup (.agg [nilS] :: l)) []) : Gov.Pure P f args (.tup (.agg [.sl 0 k 0 0] :: l)) [some []] :=
  fun g w vals hp hl hr => (h g w vals hp hl hr).mono fun _ w' ⟨v, g', av, H', he, hm, hx, hext, hk, hk2⟩ => by
    subst hk hk2
    have hm2 := nil_obj hm.hp
    refine ⟨v, _, _, _, he, hm.trans hm2, ?_, hext, rfl, rfl⟩
    have hx' := hm2.lift _ _ hx
    have e1 : (g'.add ([] : Heap).length none []).tr ([] ++ [some ([] : List AV)]) 0 = some (some (none, 0)) := by
      have e1 : (([] : Heap) ++ [some ([] : List AV)])[0]? = some (some []) := by simp
      rw [Gh.tr_some e1]
      simp [Gh.add]
    cases hx' with
    | tup hl' hr' =>
      refine .tup (by simpa using hl') fun m hm' => ?_
      match m, hm' with
      | 0, _ =>
        have h1 := hr' 0 (by simp)
        simp only [List.getElem_cons_zero] at h1 ⊢
        generalize Array.getD _ _ _ = u at h1 ⊢
        cases h1 with
        | agg hl2 hr2 =>
          refine .agg (by simpa using hl2) fun j hj => ?_
          simp only [List.length_cons, List.length_nil, Nat.zero_add] at hj
          obtain rfl : j = 0 := by omega
          have h2 := hr2 0 (by simp)
          simp only [List.getElem_cons_zero] at h2 ⊢
          rw [h2.val_inv.1]
          refine .sl (by rw [e1]; rfl) rfl fun l hl => ?_
          rw [e1] at hl
          obtain rfl := Option.some.inj (Option.some.inj hl)
          exact ⟨by dsimp only; omega, rfl, none, rfl⟩
      | m + 1, hm' =>
        have h1 := hr' (m + 1) (by simpa using hm')
        simpa using h1
end Go.Proofs.Ytkolabjcmephaaa
set_option maxRecDepth 100000
namespace Go.Proofs.Ytkolabjcmephaaa
open Go.Gov
open Classical

theorem le_ttot {T : List (List Tg)} {xs : List Tg} (h : xs ∈ T) : xs.length ≤ ttot T := by
  unfold ttot
  induction T with
  | nil => cases h
  | cons y T ih =>
    rw [List.map_cons, List.sum_cons]
    rcases List.mem_cons.1 h with rfl | h
    · omega
    · have := ih h; omega
theorem tmt_b {T : List (List Tg)} {n : Nat} (h : T.length + ttot T ≤ n) : T.length ≤ n ∧ ttot T ≤ n ∧ ∀ xs ∈ T, xs.length ≤ n := by
  refine ⟨by omega, by omega, fun xs hx => ?_⟩
  have := le_ttot hx
  omega
def AtOk (M : List (List Int)) (T : List (List Tg)) : Prop := (IsMap M ∧ IsTpl T) ∧ ¬ (fl M * T.length > 400) ∧ IsMap (apM M T 3)
noncomputable def atV (M : List (List Int)) (T : List (List Tg)) : List (List Int) := if AtOk M T then apM M T 3 else []
noncomputable def atC (M : List (List Int)) (T : List (List Tg)) : Int := if IsMap M ∧ IsTpl T then if fl M * T.length > 400 then 3 else if IsMap (apM M T 3) then 0 else 5 else 1
theorem apM_rows (M : List (List Int)) (T : List (List Tg)) (hM : IsMap M) (hT : IsTpl T) : ∀ p ∈ apM M T 3, p.length ≤ 4800 := fun p hp => by
  obtain ⟨i, _, rfl⟩ := List.mem_map.1 hp
  rw [apF_len]
  exact Nat.mul_le_mul hM.1.f4 hT.p2
theorem tot_le {n : Nat} : ∀ {L : List (List Int)}, (∀ p ∈ L, p.length ≤ n) → tot L ≤ L.length * n
  | [], _ => by simp [tot]
  | p :: L, h => by
    have h1 := tot_le (L := L) fun q hq => h q (by simp [hq])
    have h2 := h p (by simp)
    have h3 : tot (p :: L) = p.length + tot L := by simp [tot]
    rw [h3, List.length_cons, Nat.add_mul]
    omega
theorem atV_b (M : List (List Int)) (T : List (List Tg)) : (atV M T).length ≤ 3 ∧ tot (atV M T) ≤ 20000 ∧ ∀ p ∈ atV M T, p.length ≤ 4800 := by
  unfold atV
  split
  · rename_i h
    have h1 := apM_rows M T h.1.1 h.1.2
    have h2 := tot_le h1
    rw [apM_len] at h2
    exact ⟨by rw [apM_len]; omega, by omega, h1⟩
  · simp [tot]

set_option maxHeartbeats 4000000 in
theorem specAt_c (M : List (List Int)) (T : List (List Tg)) (hl : M.length ≤ 1048576) (hr : ∀ p ∈ M, p.length ≤ 1048576) (tl : T.length ≤ 1048576) (tr : ∀ xs ∈ T, xs.length ≤ 1048576) : Pure Try.prog 25 [maniA M, tplA T] (.tup [.agg [.sl 0 1 0 (atV M T).length], i64 (atC M T)]) [some ((atV M T).map oints)] := by
  have hm := l14Is_c M hl hr
  have ht := l14Template_c T tl tr
  by_cases hok : AtOk M T
  · obtain ⟨⟨hM, hT⟩, h4, hO⟩ := hok
    have hfn : fl M = (M.getD 0 []).length := rfl
    have hM3 : M.length = 3 := hM.2
    have hn4 := hM.1.f4
    have hT2 := hT.p2
    have hA := l14Apply_c M T hM hT
    have hO2 := l14Is_c (apM M T 3) (by rw [apM_len]; omega) (fun p hp => Nat.le_trans (apM_rows M T hM hT p hp) (by omega))
    have e1 : atV M T = apM M T 3 := if_pos ⟨⟨hM, hT⟩, h4, hO⟩
    have e2 : atC M T = 0 := by unfold atC; rw [if_pos ⟨hM, hT⟩, if_neg h4, if_pos hO]
    simp only [maniA, mat, apM_len] at hO2
    rw [e1, e2, apM_len]
    have hmul : (fl M : Int) * T.length ≤ 400 := by
      have : ((fl M * T.length : Nat) : Int) ≤ 400 := by omega
      rwa [Int.natCast_mul] at this
    have hmul0 : 0 ≤ (fl M : Int) * T.length := Int.mul_nonneg (by omega) (by omega)
    have hmul2 : ((M.getD 0 []).length : Int) * T.length ≤ 400 := hmul
    have hmul3 : 0 ≤ ((M.getD 0 []).length : Int) * T.length := hmul0
    refine pureVg [3] ok25 rfl ?_; unfold c25
    (repeat first | simp only [go_sem, ↓reduceIte, Nat.reduceEqDiff, Nat.reduceAdd, reduceCtorEq] | with_reducible refine V_W ?_ | (with_reducible refine And.intro ?_ ?_; focus first | assumption | omega | decide | grind) | (with_reducible refine Br.mk ?_ ?_; focus (intros; omega)) | decide)
    refine pureC (hm) (by simp only [go_sem, ↓reduceIte, Nat.reduceEqDiff, Nat.reduceAdd, reduceCtorEq] <;> rfl) (by first | rfl | simp only [go_sem, ↓reduceIte, Nat.reduceEqDiff, Nat.reduceAdd, reduceCtorEq]) ?_
    (repeat first | simp only [go_sem, ↓reduceIte, Nat.reduceEqDiff, Nat.reduceAdd, reduceCtorEq] | with_reducible refine V_W ?_ | (with_reducible refine And.intro ?_ ?_; focus first | assumption | omega | decide | grind) | (with_reducible refine Br.mk ?_ ?_; focus (intros; omega)) | decide)
    refine ⟨bl (decide (IsTpl T)) , fun hg => by first | exact pureC ( ht) (by simp only [go_sem, ↓reduceIte, Nat.reduceEqDiff, Nat.reduceAdd, reduceCtorEq] <;> rfl) (by first | rfl | simp only [go_sem, ↓reduceIte, Nat.reduceEqDiff, Nat.reduceAdd, reduceCtorEq]) (by first | exact ⟨rfl, rfl⟩ | simp only [go_sem, ↓reduceIte, Nat.reduceEqDiff, Nat.reduceAdd, reduceCtorEq]) | exact ⟨hg, pureC ( ht) (by simp only [go_sem, ↓reduceIte, Nat.reduceEqDiff, Nat.reduceAdd, reduceCtorEq] <;> rfl) (by first | rfl | simp only [go_sem, ↓reduceIte, Nat.reduceEqDiff, Nat.reduceAdd, reduceCtorEq]) (by first | exact ⟨rfl, rfl⟩ | simp only [go_sem, ↓reduceIte, Nat.reduceEqDiff, Nat.reduceAdd, reduceCtorEq])⟩ | exact ⟨by grind, pureC ( ht) (by simp only [go_sem, ↓reduceIte, Nat.reduceEqDiff, Nat.reduceAdd, reduceCtorEq] <;> rfl) (by first | rfl | simp only [go_sem, ↓reduceIte, Nat.reduceEqDiff, Nat.reduceAdd, reduceCtorEq]) (by first | exact ⟨rfl, rfl⟩ | simp only [go_sem, ↓reduceIte, Nat.reduceEqDiff, Nat.reduceAdd, reduceCtorEq])⟩, ?_⟩
    (repeat first | simp only [go_sem, ↓reduceIte, Nat.reduceEqDiff, Nat.reduceAdd, reduceCtorEq] | with_reducible refine V_W ?_ | (with_reducible refine And.intro ?_ ?_; focus first | assumption | omega | decide | grind) | (with_reducible refine Br.mk ?_ ?_; focus (intros; omega)) | decide)
    refine ⟨fun hc => ?_, fun _ => ?_⟩
    · exfalso
      rcases hc with hc | hc
      · exact hc hM
      · exact hc hT
    (repeat first | simp only [go_sem, ↓reduceIte, Nat.reduceEqDiff, Nat.reduceAdd, reduceCtorEq] | with_reducible refine V_W ?_ | (with_reducible refine And.intro ?_ ?_; focus first | assumption | omega | decide | grind) | (with_reducible refine Br.mk ?_ ?_; focus (intros; omega)) | decide)
    refine pureC (l02Flags_c M (by omega) hl (by omega)) (by simp only [go_sem, ↓reduceIte, Nat.reduceEqDiff, Nat.reduceAdd, reduceCtorEq] <;> rfl) (by first | rfl | simp only [go_sem, ↓reduceIte, Nat.reduceEqDiff, Nat.reduceAdd, reduceCtorEq]) ?_
    (repeat first | simp only [go_sem, ↓reduceIte, Nat.reduceEqDiff, Nat.reduceAdd, reduceCtorEq] | with_reducible refine V_W ?_ | (with_reducible refine And.intro ?_ ?_; focus first | assumption | omega | decide | grind) | (with_reducible refine Br.mk ?_ ?_; focus (intros; omega)) | decide)
    (try with_reducible refine fun _ => ?_)
    (repeat first | simp only [go_sem, ↓reduceIte, Nat.reduceEqDiff, Nat.reduceAdd, reduceCtorEq] | with_reducible refine V_W ?_ | (with_reducible refine And.intro ?_ ?_; focus first | assumption | omega | decide | grind) | (with_reducible refine Br.mk ?_ ?_; focus (intros; omega)) | decide)
    refine pureC (hA) (by simp only [go_sem, ↓reduceIte, Nat.reduceEqDiff, Nat.reduceAdd, reduceCtorEq] <;> rfl) (by first | rfl | simp only [go_sem, ↓reduceIte, Nat.reduceEqDiff, Nat.reduceAdd, reduceCtorEq]) ?_
    (repeat first | simp only [go_sem, ↓reduceIte, Nat.reduceEqDiff, Nat.reduceAdd, reduceCtorEq] | with_reducible refine V_W ?_ | (with_reducible refine And.intro ?_ ?_; focus first | assumption | omega | decide | grind) | (with_reducible refine Br.mk ?_ ?_; focus (intros; omega)) | decide)
    refine pureC hO2 (by simp only [go_sem, ↓reduceIte, Nat.reduceEqDiff, Nat.reduceAdd, reduceCtorEq]; rw [List.take_of_length_le (by simp [apM_len])]; simp only [go_sem, ↓reduceIte, Nat.reduceEqDiff, Nat.reduceAdd, reduceCtorEq]) (by first | rfl | simp only [go_sem, ↓reduceIte, Nat.reduceEqDiff, Nat.reduceAdd, reduceCtorEq]) ?_
    (repeat first | simp only [go_sem, ↓reduceIte, Nat.reduceEqDiff, Nat.reduceAdd, reduceCtorEq] | with_reducible refine V_W ?_ | (with_reducible refine And.intro ?_ ?_; focus first | assumption | omega | decide | grind) | (with_reducible refine Br.mk ?_ ?_; focus (intros; omega)) | decide)
    refine ⟨fun hc => ?_, fun _ => ?_⟩
    · exact absurd hO hc
    (repeat first | simp only [go_sem, ↓reduceIte, Nat.reduceEqDiff, Nat.reduceAdd, reduceCtorEq] | with_reducible refine V_W ?_ | (with_reducible refine And.intro ?_ ?_; focus first | assumption | omega | decide | grind) | (with_reducible refine Br.mk ?_ ?_; focus (intros; omega)) | decide)
  · have e1 : atV M T = [] := if_neg hok
    rw [e1]
    refine pure_nilA 1 ?_
    unfold atC
    by_cases hMT : IsMap M ∧ IsTpl T
    · obtain ⟨hM, hT⟩ := hMT
      rw [if_pos ⟨hM, hT⟩]
      have hfn : fl M = (M.getD 0 []).length := rfl
      have hM3 : M.length = 3 := hM.2
      have hn4 := hM.1.f4
      have hT2 := hT.p2
      have hA := l14Apply_c M T hM hT
      have hO2 := l14Is_c (apM M T 3) (by rw [apM_len]; omega) (fun p hp => Nat.le_trans (apM_rows M T hM hT p hp) (by omega))
      simp only [maniA, mat, apM_len] at hO2
      have hmul0 : 0 ≤ (fl M : Int) * T.length := Int.mul_nonneg (by omega) (by omega)
      have hmul1 : (fl M : Int) * T.length ≤ 400 * 12 := Int.mul_le_mul (by omega) (by omega) (by omega) (by omega)
      have hcast : ((fl M * T.length : Nat) : Int) = ((M.getD 0 []).length : Int) * T.length := Int.natCast_mul _ _
      have hmul2 : ((M.getD 0 []).length : Int) * T.length ≤ 400 * 12 := hmul1
      have hmul3 : 0 ≤ ((M.getD 0 []).length : Int) * T.length := hmul0
      refine pureV0 ok25 rfl rfl ?_; unfold c25
      (repeat first | simp only [go_sem, ↓reduceIte, Nat.reduceEqDiff, Nat.reduceAdd, reduceCtorEq] | with_reducible refine V_W ?_ | (with_reducible refine And.intro ?_ ?_; focus first | assumption | omega | decide | grind) | (with_reducible refine Br.mk ?_ ?_; focus (intros; omega)) | decide)
      refine pureC (hm) (by simp only [go_sem, ↓reduceIte, Nat.reduceEqDiff, Nat.reduceAdd, reduceCtorEq] <;> rfl) (by first | rfl | simp only [go_sem, ↓reduceIte, Nat.reduceEqDiff, Nat.reduceAdd, reduceCtorEq]) ?_
      (repeat first | simp only [go_sem, ↓reduceIte, Nat.reduceEqDiff, Nat.reduceAdd, reduceCtorEq] | with_reducible refine V_W ?_ | (with_reducible refine And.intro ?_ ?_; focus first | assumption | omega | decide | grind) | (with_reducible refine Br.mk ?_ ?_; focus (intros; omega)) | decide)
      refine ⟨bl (decide (IsTpl T)) , fun hg => by first | exact pureC ( ht) (by simp only [go_sem, ↓reduceIte, Nat.reduceEqDiff, Nat.reduceAdd, reduceCtorEq] <;> rfl) (by first | rfl | simp only [go_sem, ↓reduceIte, Nat.reduceEqDiff, Nat.reduceAdd, reduceCtorEq]) (by first | exact ⟨rfl, rfl⟩ | simp only [go_sem, ↓reduceIte, Nat.reduceEqDiff, Nat.reduceAdd, reduceCtorEq]) | exact ⟨hg, pureC ( ht) (by simp only [go_sem, ↓reduceIte, Nat.reduceEqDiff, Nat.reduceAdd, reduceCtorEq] <;> rfl) (by first | rfl | simp only [go_sem, ↓reduceIte, Nat.reduceEqDiff, Nat.reduceAdd, reduceCtorEq]) (by first | exact ⟨rfl, rfl⟩ | simp only [go_sem, ↓reduceIte, Nat.reduceEqDiff, Nat.reduceAdd, reduceCtorEq])⟩ | exact ⟨by grind, pureC ( ht) (by simp only [go_sem, ↓reduceIte, Nat.reduceEqDiff, Nat.reduceAdd, reduceCtorEq] <;> rfl) (by first | rfl | simp only [go_sem, ↓reduceIte, Nat.reduceEqDiff, Nat.reduceAdd, reduceCtorEq]) (by first | exact ⟨rfl, rfl⟩ | simp only [go_sem, ↓reduceIte, Nat.reduceEqDiff, Nat.reduceAdd, reduceCtorEq])⟩, ?_⟩
      (repeat first | simp only [go_sem, ↓reduceIte, Nat.reduceEqDiff, Nat.reduceAdd, reduceCtorEq] | with_reducible refine V_W ?_ | (with_reducible refine And.intro ?_ ?_; focus first | assumption | omega | decide | grind) | (with_reducible refine Br.mk ?_ ?_; focus (intros; omega)) | decide)
      refine ⟨fun hc => ?_, fun _ => ?_⟩
      · exfalso
        rcases hc with hc | hc
        · exact hc hM
        · exact hc hT
      (repeat first | simp only [go_sem, ↓reduceIte, Nat.reduceEqDiff, Nat.reduceAdd, reduceCtorEq] | with_reducible refine V_W ?_ | (with_reducible refine And.intro ?_ ?_; focus first | assumption | omega | decide | grind) | (with_reducible refine Br.mk ?_ ?_; focus (intros; omega)) | decide)
      refine pureC (l02Flags_c M (by omega) hl (by omega)) (by simp only [go_sem, ↓reduceIte, Nat.reduceEqDiff, Nat.reduceAdd, reduceCtorEq] <;> rfl) (by first | rfl | simp only [go_sem, ↓reduceIte, Nat.reduceEqDiff, Nat.reduceAdd, reduceCtorEq]) ?_
      (repeat first | simp only [go_sem, ↓reduceIte, Nat.reduceEqDiff, Nat.reduceAdd, reduceCtorEq] | with_reducible refine V_W ?_ | (with_reducible refine And.intro ?_ ?_; focus first | assumption | omega | decide | grind) | (with_reducible refine Br.mk ?_ ?_; focus (intros; omega)) | decide)
      refine ⟨fun hc => ?_, fun hc => ?_⟩
      · rw [if_pos (by omega)]
        (repeat first | simp only [go_sem, ↓reduceIte, Nat.reduceEqDiff, Nat.reduceAdd, reduceCtorEq] | with_reducible refine V_W ?_ | (with_reducible refine And.intro ?_ ?_; focus first | assumption | omega | decide | grind) | (with_reducible refine Br.mk ?_ ?_; focus (intros; omega)) | decide)
      · rw [if_neg (by omega)]
        have hO : ¬ IsMap (apM M T 3) := fun hO => hok ⟨⟨hM, hT⟩, by omega, hO⟩
        rw [if_neg hO]
        (repeat first | simp only [go_sem, ↓reduceIte, Nat.reduceEqDiff, Nat.reduceAdd, reduceCtorEq] | with_reducible refine V_W ?_ | (with_reducible refine And.intro ?_ ?_; focus first | assumption | omega | decide | grind) | (with_reducible refine Br.mk ?_ ?_; focus (intros; omega)) | decide)
        refine pureC (hA) (by simp only [go_sem, ↓reduceIte, Nat.reduceEqDiff, Nat.reduceAdd, reduceCtorEq] <;> rfl) (by first | rfl | simp only [go_sem, ↓reduceIte, Nat.reduceEqDiff, Nat.reduceAdd, reduceCtorEq]) ?_
        (repeat first | simp only [go_sem, ↓reduceIte, Nat.reduceEqDiff, Nat.reduceAdd, reduceCtorEq] | with_reducible refine V_W ?_ | (with_reducible refine And.intro ?_ ?_; focus first | assumption | omega | decide | grind) | (with_reducible refine Br.mk ?_ ?_; focus (intros; omega)) | decide)
        refine pureC hO2 (by simp only [go_sem, ↓reduceIte, Nat.reduceEqDiff, Nat.reduceAdd, reduceCtorEq]; rw [List.take_of_length_le (by simp [apM_len])]; simp only [go_sem, ↓reduceIte, Nat.reduceEqDiff, Nat.reduceAdd, reduceCtorEq]) (by first | rfl | simp only [go_sem, ↓reduceIte, Nat.reduceEqDiff, Nat.reduceAdd, reduceCtorEq]) ?_
        (repeat first | simp only [go_sem, ↓reduceIte, Nat.reduceEqDiff, Nat.reduceAdd, reduceCtorEq] | with_reducible refine V_W ?_ | (with_reducible refine And.intro ?_ ?_; focus first | assumption | omega | decide | grind) | (with_reducible refine Br.mk ?_ ?_; focus (intros; omega)) | decide)
        refine ⟨fun _ => ?_, fun hc => ?_⟩
        · (repeat first | simp only [go_sem, ↓reduceIte, Nat.reduceEqDiff, Nat.reduceAdd, reduceCtorEq] | with_reducible refine V_W ?_ | (with_reducible refine And.intro ?_ ?_; focus first | assumption | omega | decide | grind) | (with_reducible refine Br.mk ?_ ?_; focus (intros; omega)) | decide)
        · exact absurd hc hO
    · rw [if_neg hMT]
      refine pureV0 ok25 rfl rfl ?_; unfold c25
      (repeat first | simp only [go_sem, ↓reduceIte, Nat.reduceEqDiff, Nat.reduceAdd, reduceCtorEq] | with_reducible refine V_W ?_ | (with_reducible refine And.intro ?_ ?_; focus first | assumption | omega | decide | grind) | (with_reducible refine Br.mk ?_ ?_; focus (intros; omega)) | decide)
      refine pureC (hm) (by simp only [go_sem, ↓reduceIte, Nat.reduceEqDiff, Nat.reduceAdd, reduceCtorEq] <;> rfl) (by first | rfl | simp only [go_sem, ↓reduceIte, Nat.reduceEqDiff, Nat.reduceAdd, reduceCtorEq]) ?_
      (repeat first | simp only [go_sem, ↓reduceIte, Nat.reduceEqDiff, Nat.reduceAdd, reduceCtorEq] | with_reducible refine V_W ?_ | (with_reducible refine And.intro ?_ ?_; focus first | assumption | omega | decide | grind) | (with_reducible refine Br.mk ?_ ?_; focus (intros; omega)) | decide)
      refine ⟨bl (decide (IsTpl T)) , fun hg => by first | exact pureC ( ht) (by simp only [go_sem, ↓reduceIte, Nat.reduceEqDiff, Nat.reduceAdd, reduceCtorEq] <;> rfl) (by first | rfl | simp only [go_sem, ↓reduceIte, Nat.reduceEqDiff, Nat.reduceAdd, reduceCtorEq]) (by first | exact ⟨rfl, rfl⟩ | simp only [go_sem, ↓reduceIte, Nat.reduceEqDiff, Nat.reduceAdd, reduceCtorEq]) | exact ⟨hg, pureC ( ht) (by simp only [go_sem, ↓reduceIte, Nat.reduceEqDiff, Nat.reduceAdd, reduceCtorEq] <;> rfl) (by first | rfl | simp only [go_sem, ↓reduceIte, Nat.reduceEqDiff, Nat.reduceAdd, reduceCtorEq]) (by first | exact ⟨rfl, rfl⟩ | simp only [go_sem, ↓reduceIte, Nat.reduceEqDiff, Nat.reduceAdd, reduceCtorEq])⟩ | exact ⟨by grind, pureC ( ht) (by simp only [go_sem, ↓reduceIte, Nat.reduceEqDiff, Nat.reduceAdd, reduceCtorEq] <;> rfl) (by first | rfl | simp only [go_sem, ↓reduceIte, Nat.reduceEqDiff, Nat.reduceAdd, reduceCtorEq]) (by first | exact ⟨rfl, rfl⟩ | simp only [go_sem, ↓reduceIte, Nat.reduceEqDiff, Nat.reduceAdd, reduceCtorEq])⟩, ?_⟩
      (repeat first | simp only [go_sem, ↓reduceIte, Nat.reduceEqDiff, Nat.reduceAdd, reduceCtorEq] | with_reducible refine V_W ?_ | (with_reducible refine And.intro ?_ ?_; focus first | assumption | omega | decide | grind) | (with_reducible refine Br.mk ?_ ?_; focus (intros; omega)) | decide)
      refine ⟨fun _ => ?_, fun hc => ?_⟩
      · (repeat first | simp only [go_sem, ↓reduceIte, Nat.reduceEqDiff, Nat.reduceAdd, reduceCtorEq] | with_reducible refine V_W ?_ | (with_reducible refine And.intro ?_ ?_; focus first | assumption | omega | decide | grind) | (with_reducible refine Br.mk ?_ ?_; focus (intros; omega)) | decide)
      · exact absurd hc hMT

set_option maxHeartbeats 4000000 in
theorem implAt_c (M : List (List Int)) (T : List (List Tg)) (hl : M.length ≤ 1048576) (hr : ∀ p ∈ M, p.length ≤ 1048576) (tl : T.length ≤ 1048576) (tr : ∀ xs ∈ T, xs.length ≤ 1048576) : Pure Try.prog 27 [maniA M, tplA T] (.tup [.agg [.sl 0 1 0 (atV M T).length], i64 (atC M T)]) [some ((atV M T).map oints)] := by
  have hm := isMap_c M hl hr
  have ht := isTemplate_c T tl tr
  by_cases hok : AtOk M T
  · obtain ⟨⟨hM, hT⟩, h4, hO⟩ := hok
    have hfn : fl M = (M.getD 0 []).length := rfl
    have hM3 : M.length = 3 := hM.2
    have hn4 := hM.1.f4
    have hT2 := hT.p2
    have hA := applyTemplate_c M T hM hT
    have hO2 := isMap_c (apM M T 3) (by rw [apM_len]; omega) (fun p hp => Nat.le_trans (apM_rows M T hM hT p hp) (by omega))
    have e1 : atV M T = apM M T 3 := if_pos ⟨⟨hM, hT⟩, h4, hO⟩
    have e2 : atC M T = 0 := by unfold atC; rw [if_pos ⟨hM, hT⟩, if_neg h4, if_pos hO]
    simp only [maniA, mat, apM_len] at hO2
    rw [e1, e2, apM_len]
    have hmul : (fl M : Int) * T.length ≤ 400 := by
      have : ((fl M * T.length : Nat) : Int) ≤ 400 := by omega
      rwa [Int.natCast_mul] at this
    have hmul0 : 0 ≤ (fl M : Int) * T.length := Int.mul_nonneg (by omega) (by omega)
    have hmul2 : ((M.getD 0 []).length : Int) * T.length ≤ 400 := hmul
    have hmul3 : 0 ≤ ((M.getD 0 []).length : Int) * T.length := hmul0
    refine pureVg [3] ok27 rfl ?_; unfold c27
    (repeat first | simp only [go_sem, ↓reduceIte, Nat.reduceEqDiff, Nat.reduceAdd, reduceCtorEq] | with_reducible refine V_W ?_ | (with_reducible refine And.intro ?_ ?_; focus first | assumption | omega | decide | grind) | (with_reducible refine Br.mk ?_ ?_; focus (intros; omega)) | decide)
    refine pureC (hm) (by simp only [go_sem, ↓reduceIte, Nat.reduceEqDiff, Nat.reduceAdd, reduceCtorEq] <;> rfl) (by first | rfl | simp only [go_sem, ↓reduceIte, Nat.reduceEqDiff, Nat.reduceAdd, reduceCtorEq]) ?_
    (repeat first | simp only [go_sem, ↓reduceIte, Nat.reduceEqDiff, Nat.reduceAdd, reduceCtorEq] | with_reducible refine V_W ?_ | (with_reducible refine And.intro ?_ ?_; focus first | assumption | omega | decide | grind) | (with_reducible refine Br.mk ?_ ?_; focus (intros; omega)) | decide)
    refine ⟨bl (decide (IsTpl T)) , fun hg => by first | exact pureC ( ht) (by simp only [go_sem, ↓reduceIte, Nat.reduceEqDiff, Nat.reduceAdd, reduceCtorEq] <;> rfl) (by first | rfl | simp only [go_sem, ↓reduceIte, Nat.reduceEqDiff, Nat.reduceAdd, reduceCtorEq]) (by first | exact ⟨rfl, rfl⟩ | simp only [go_sem, ↓reduceIte, Nat.reduceEqDiff, Nat.reduceAdd, reduceCtorEq]) | exact ⟨hg, pureC ( ht) (by simp only [go_sem, ↓reduceIte, Nat.reduceEqDiff, Nat.reduceAdd, reduceCtorEq] <;> rfl) (by first | rfl | simp only [go_sem, ↓reduceIte, Nat.reduceEqDiff, Nat.reduceAdd, reduceCtorEq]) (by first | exact ⟨rfl, rfl⟩ | simp only [go_sem, ↓reduceIte, Nat.reduceEqDiff, Nat.reduceAdd, reduceCtorEq])⟩ | exact ⟨by grind, pureC ( ht) (by simp only [go_sem, ↓reduceIte, Nat.reduceEqDiff, Nat.reduceAdd, reduceCtorEq] <;> rfl) (by first | rfl | simp only [go_sem, ↓reduceIte, Nat.reduceEqDiff, Nat.reduceAdd, reduceCtorEq]) (by first | exact ⟨rfl, rfl⟩ | simp only [go_sem, ↓reduceIte, Nat.reduceEqDiff, Nat.reduceAdd, reduceCtorEq])⟩, ?_⟩
    (repeat first | simp only [go_sem, ↓reduceIte, Nat.reduceEqDiff, Nat.reduceAdd, reduceCtorEq] | with_reducible refine V_W ?_ | (with_reducible refine And.intro ?_ ?_; focus first | assumption | omega | decide | grind) | (with_reducible refine Br.mk ?_ ?_; focus (intros; omega)) | decide)
    refine ⟨fun hc => ?_, fun _ => ?_⟩
    · exfalso
      rcases hc with hc | hc
      · exact hc hM
      · exact hc hT
    (repeat first | simp only [go_sem, ↓reduceIte, Nat.reduceEqDiff, Nat.reduceAdd, reduceCtorEq] | with_reducible refine V_W ?_ | (with_reducible refine And.intro ?_ ?_; focus first | assumption | omega | decide | grind) | (with_reducible refine Br.mk ?_ ?_; focus (intros; omega)) | decide)
    refine pureC (flags_c M (by omega) hl (by omega)) (by simp only [go_sem, ↓reduceIte, Nat.reduceEqDiff, Nat.reduceAdd, reduceCtorEq] <;> rfl) (by first | rfl | simp only [go_sem, ↓reduceIte, Nat.reduceEqDiff, Nat.reduceAdd, reduceCtorEq]) ?_
    (repeat first | simp only [go_sem, ↓reduceIte, Nat.reduceEqDiff, Nat.reduceAdd, reduceCtorEq] | with_reducible refine V_W ?_ | (with_reducible refine And.intro ?_ ?_; focus first | assumption | omega | decide | grind) | (with_reducible refine Br.mk ?_ ?_; focus (intros; omega)) | decide)
    refine pureC (sizeT_c T tl) (by simp only [go_sem, ↓reduceIte, Nat.reduceEqDiff, Nat.reduceAdd, reduceCtorEq] <;> rfl) (by first | rfl | simp only [go_sem, ↓reduceIte, Nat.reduceEqDiff, Nat.reduceAdd, reduceCtorEq]) ?_
    (repeat first | simp only [go_sem, ↓reduceIte, Nat.reduceEqDiff, Nat.reduceAdd, reduceCtorEq] | with_reducible refine V_W ?_ | (with_reducible refine And.intro ?_ ?_; focus first | assumption | omega | decide | grind) | (with_reducible refine Br.mk ?_ ?_; focus (intros; omega)) | decide)
    (try with_reducible refine fun _ => ?_)
    (repeat first | simp only [go_sem, ↓reduceIte, Nat.reduceEqDiff, Nat.reduceAdd, reduceCtorEq] | with_reducible refine V_W ?_ | (with_reducible refine And.intro ?_ ?_; focus first | assumption | omega | decide | grind) | (with_reducible refine Br.mk ?_ ?_; focus (intros; omega)) | decide)
    refine pureC (hA) (by simp only [go_sem, ↓reduceIte, Nat.reduceEqDiff, Nat.reduceAdd, reduceCtorEq] <;> rfl) (by first | rfl | simp only [go_sem, ↓reduceIte, Nat.reduceEqDiff, Nat.reduceAdd, reduceCtorEq]) ?_
    (repeat first | simp only [go_sem, ↓reduceIte, Nat.reduceEqDiff, Nat.reduceAdd, reduceCtorEq] | with_reducible refine V_W ?_ | (with_reducible refine And.intro ?_ ?_; focus first | assumption | omega | decide | grind) | (with_reducible refine Br.mk ?_ ?_; focus (intros; omega)) | decide)
    refine pureC hO2 (by simp only [go_sem, ↓reduceIte, Nat.reduceEqDiff, Nat.reduceAdd, reduceCtorEq]; rw [List.take_of_length_le (by simp [apM_len])]; simp only [go_sem, ↓reduceIte, Nat.reduceEqDiff, Nat.reduceAdd, reduceCtorEq]) (by first | rfl | simp only [go_sem, ↓reduceIte, Nat.reduceEqDiff, Nat.reduceAdd, reduceCtorEq]) ?_
    (repeat first | simp only [go_sem, ↓reduceIte, Nat.reduceEqDiff, Nat.reduceAdd, reduceCtorEq] | with_reducible refine V_W ?_ | (with_reducible refine And.intro ?_ ?_; focus first | assumption | omega | decide | grind) | (with_reducible refine Br.mk ?_ ?_; focus (intros; omega)) | decide)
    refine ⟨fun hc => ?_, fun _ => ?_⟩
    · exact absurd hO hc
    (repeat first | simp only [go_sem, ↓reduceIte, Nat.reduceEqDiff, Nat.reduceAdd, reduceCtorEq] | with_reducible refine V_W ?_ | (with_reducible refine And.intro ?_ ?_; focus first | assumption | omega | decide | grind) | (with_reducible refine Br.mk ?_ ?_; focus (intros; omega)) | decide)
  · have e1 : atV M T = [] := if_neg hok
    rw [e1]
    refine pure_nilA 1 ?_
    unfold atC
    by_cases hMT : IsMap M ∧ IsTpl T
    · obtain ⟨hM, hT⟩ := hMT
      rw [if_pos ⟨hM, hT⟩]
      have hfn : fl M = (M.getD 0 []).length := rfl
      have hM3 : M.length = 3 := hM.2
      have hn4 := hM.1.f4
      have hT2 := hT.p2
      have hA := applyTemplate_c M T hM hT
      have hO2 := isMap_c (apM M T 3) (by rw [apM_len]; omega) (fun p hp => Nat.le_trans (apM_rows M T hM hT p hp) (by omega))
      simp only [maniA, mat, apM_len] at hO2
      have hmul0 : 0 ≤ (fl M : Int) * T.length := Int.mul_nonneg (by omega) (by omega)
      have hmul1 : (fl M : Int) * T.length ≤ 400 * 12 := Int.mul_le_mul (by omega) (by omega) (by omega) (by omega)
      have hcast : ((fl M * T.length : Nat) : Int) = ((M.getD 0 []).length : Int) * T.length := Int.natCast_mul _ _
      have hmul2 : ((M.getD 0 []).length : Int) * T.length ≤ 400 * 12 := hmul1
      have hmul3 : 0 ≤ ((M.getD 0 []).length : Int) * T.length := hmul0
      refine pureV0 ok27 rfl rfl ?_; unfold c27
      (repeat first | simp only [go_sem, ↓reduceIte, Nat.reduceEqDiff, Nat.reduceAdd, reduceCtorEq] | with_reducible refine V_W ?_ | (with_reducible refine And.intro ?_ ?_; focus first | assumption | omega | decide | grind) | (with_reducible refine Br.mk ?_ ?_; focus (intros; omega)) | decide)
      refine pureC (hm) (by simp only [go_sem, ↓reduceIte, Nat.reduceEqDiff, Nat.reduceAdd, reduceCtorEq] <;> rfl) (by first | rfl | simp only [go_sem, ↓reduceIte, Nat.reduceEqDiff, Nat.reduceAdd, reduceCtorEq]) ?_
      (repeat first | simp only [go_sem, ↓reduceIte, Nat.reduceEqDiff, Nat.reduceAdd, reduceCtorEq] | with_reducible refine V_W ?_ | (with_reducible refine And.intro ?_ ?_; focus first | assumption | omega | decide | grind) | (with_reducible refine Br.mk ?_ ?_; focus (intros; omega)) | decide)
      refine ⟨bl (decide (IsTpl T)) , fun hg => by first | exact pureC ( ht) (by simp only [go_sem, ↓reduceIte, Nat.reduceEqDiff, Nat.reduceAdd, reduceCtorEq] <;> rfl) (by first | rfl | simp only [go_sem, ↓reduceIte, Nat.reduceEqDiff, Nat.reduceAdd, reduceCtorEq]) (by first | exact ⟨rfl, rfl⟩ | simp only [go_sem, ↓reduceIte, Nat.reduceEqDiff, Nat.reduceAdd, reduceCtorEq]) | exact ⟨hg, pureC ( ht) (by simp only [go_sem, ↓reduceIte, Nat.reduceEqDiff, Nat.reduceAdd, reduceCtorEq] <;> rfl) (by first | rfl | simp only [go_sem, ↓reduceIte, Nat.reduceEqDiff, Nat.reduceAdd, reduceCtorEq]) (by first | exact ⟨rfl, rfl⟩ | simp only [go_sem, ↓reduceIte, Nat.reduceEqDiff, Nat.reduceAdd, reduceCtorEq])⟩ | exact ⟨by grind, pureC ( ht) (by simp only [go_sem, ↓reduceIte, Nat.reduceEqDiff, Nat.reduceAdd, reduceCtorEq] <;> rfl) (by first | rfl | simp only [go_sem, ↓reduceIte, Nat.reduceEqDiff, Nat.reduceAdd, reduceCtorEq]) (by first | exact ⟨rfl, rfl⟩ | simp only [go_sem, ↓reduceIte, Nat.reduceEqDiff, Nat.reduceAdd, reduceCtorEq])⟩, ?_⟩
      (repeat first | simp only [go_sem, ↓reduceIte, Nat.reduceEqDiff, Nat.reduceAdd, reduceCtorEq] | with_reducible refine V_W ?_ | (with_reducible refine And.intro ?_ ?_; focus first | assumption | omega | decide | grind) | (with_reducible refine Br.mk ?_ ?_; focus (intros; omega)) | decide)
      refine ⟨fun hc => ?_, fun _ => ?_⟩
      · exfalso
        rcases hc with hc | hc
        · exact hc hM
        · exact hc hT
      (repeat first | simp only [go_sem, ↓reduceIte, Nat.reduceEqDiff, Nat.reduceAdd, reduceCtorEq] | with_reducible refine V_W ?_ | (with_reducible refine And.intro ?_ ?_; focus first | assumption | omega | decide | grind) | (with_reducible refine Br.mk ?_ ?_; focus (intros; omega)) | decide)
      refine pureC (flags_c M (by omega) hl (by omega)) (by simp only [go_sem, ↓reduceIte, Nat.reduceEqDiff, Nat.reduceAdd, reduceCtorEq] <;> rfl) (by first | rfl | simp only [go_sem, ↓reduceIte, Nat.reduceEqDiff, Nat.reduceAdd, reduceCtorEq]) ?_
      (repeat first | simp only [go_sem, ↓reduceIte, Nat.reduceEqDiff, Nat.reduceAdd, reduceCtorEq] | with_reducible refine V_W ?_ | (with_reducible refine And.intro ?_ ?_; focus first | assumption | omega | decide | grind) | (with_reducible refine Br.mk ?_ ?_; focus (intros; omega)) | decide)
      refine pureC (sizeT_c T tl) (by simp only [go_sem, ↓reduceIte, Nat.reduceEqDiff, Nat.reduceAdd, reduceCtorEq] <;> rfl) (by first | rfl | simp only [go_sem, ↓reduceIte, Nat.reduceEqDiff, Nat.reduceAdd, reduceCtorEq]) ?_
      (repeat first | simp only [go_sem, ↓reduceIte, Nat.reduceEqDiff, Nat.reduceAdd, reduceCtorEq] | with_reducible refine V_W ?_ | (with_reducible refine And.intro ?_ ?_; focus first | assumption | omega | decide | grind) | (with_reducible refine Br.mk ?_ ?_; focus (intros; omega)) | decide)
      refine ⟨fun hc => ?_, fun hc => ?_⟩
      · rw [if_pos (by omega)]
        (repeat first | simp only [go_sem, ↓reduceIte, Nat.reduceEqDiff, Nat.reduceAdd, reduceCtorEq] | with_reducible refine V_W ?_ | (with_reducible refine And.intro ?_ ?_; focus first | assumption | omega | decide | grind) | (with_reducible refine Br.mk ?_ ?_; focus (intros; omega)) | decide)
      · rw [if_neg (by omega)]
        have hO : ¬ IsMap (apM M T 3) := fun hO => hok ⟨⟨hM, hT⟩, by omega, hO⟩
        rw [if_neg hO]
        (repeat first | simp only [go_sem, ↓reduceIte, Nat.reduceEqDiff, Nat.reduceAdd, reduceCtorEq] | with_reducible refine V_W ?_ | (with_reducible refine And.intro ?_ ?_; focus first | assumption | omega | decide | grind) | (with_reducible refine Br.mk ?_ ?_; focus (intros; omega)) | decide)
        refine pureC (hA) (by simp only [go_sem, ↓reduceIte, Nat.reduceEqDiff, Nat.reduceAdd, reduceCtorEq] <;> rfl) (by first | rfl | simp only [go_sem, ↓reduceIte, Nat.reduceEqDiff, Nat.reduceAdd, reduceCtorEq]) ?_
        (repeat first | simp only [go_sem, ↓reduceIte, Nat.reduceEqDiff, Nat.reduceAdd, reduceCtorEq] | with_reducible refine V_W ?_ | (with_reducible refine And.intro ?_ ?_; focus first | assumption | omega | decide | grind) | (with_reducible refine Br.mk ?_ ?_; focus (intros; omega)) | decide)
        refine pureC hO2 (by simp only [go_sem, ↓reduceIte, Nat.reduceEqDiff, Nat.reduceAdd, reduceCtorEq]; rw [List.take_of_length_le (by simp [apM_len])]; simp only [go_sem, ↓reduceIte, Nat.reduceEqDiff, Nat.reduceAdd, reduceCtorEq]) (by first | rfl | simp only [go_sem, ↓reduceIte, Nat.reduceEqDiff, Nat.reduceAdd, reduceCtorEq]) ?_
        (repeat first | simp only [go_sem, ↓reduceIte, Nat.reduceEqDiff, Nat.reduceAdd, reduceCtorEq] | with_reducible refine V_W ?_ | (with_reducible refine And.intro ?_ ?_; focus first | assumption | omega | decide | grind) | (with_reducible refine Br.mk ?_ ?_; focus (intros; omega)) | decide)
        refine ⟨fun _ => ?_, fun hc => ?_⟩
        · (repeat first | simp only [go_sem, ↓reduceIte, Nat.reduceEqDiff, Nat.reduceAdd, reduceCtorEq] | with_reducible refine V_W ?_ | (with_reducible refine And.intro ?_ ?_; focus first | assumption | omega | decide | grind) | (with_reducible refine Br.mk ?_ ?_; focus (intros; omega)) | decide)
        · exact absurd hc hO
    · rw [if_neg hMT]
      refine pureV0 ok27 rfl rfl ?_; unfold c27
      (repeat first | simp only [go_sem, ↓reduceIte, Nat.reduceEqDiff, Nat.reduceAdd, reduceCtorEq] | with_reducible refine V_W ?_ | (with_reducible refine And.intro ?_ ?_; focus first | assumption | omega | decide | grind) | (with_reducible refine Br.mk ?_ ?_; focus (intros; omega)) | decide)
      refine pureC (hm) (by simp only [go_sem, ↓reduceIte, Nat.reduceEqDiff, Nat.reduceAdd, reduceCtorEq] <;> rfl) (by first | rfl | simp only [go_sem, ↓reduceIte, Nat.reduceEqDiff, Nat.reduceAdd, reduceCtorEq]) ?_
      (repeat first | simp only [go_sem, ↓reduceIte, Nat.reduceEqDiff, Nat.reduceAdd, reduceCtorEq] | with_reducible refine V_W ?_ | (with_reducible refine And.intro ?_ ?_; focus first | assumption | omega | decide | grind) | (with_reducible refine Br.mk ?_ ?_; focus (intros; omega)) | decide)
      refine ⟨bl (decide (IsTpl T)) , fun hg => by first | exact pureC ( ht) (by simp only [go_sem, ↓reduceIte, Nat.reduceEqDiff, Nat.reduceAdd, reduceCtorEq] <;> rfl) (by first | rfl | simp only [go_sem, ↓reduceIte, Nat.reduceEqDiff, Nat.reduceAdd, reduceCtorEq]) (by first | exact ⟨rfl, rfl⟩ | simp only [go_sem, ↓reduceIte, Nat.reduceEqDiff, Nat.reduceAdd, reduceCtorEq]) | exact ⟨hg, pureC ( ht) (by simp only [go_sem, ↓reduceIte, Nat.reduceEqDiff, Nat.reduceAdd, reduceCtorEq] <;> rfl) (by first | rfl | simp only [go_sem, ↓reduceIte, Nat.reduceEqDiff, Nat.reduceAdd, reduceCtorEq]) (by first | exact ⟨rfl, rfl⟩ | simp only [go_sem, ↓reduceIte, Nat.reduceEqDiff, Nat.reduceAdd, reduceCtorEq])⟩ | exact ⟨by grind, pureC ( ht) (by simp only [go_sem, ↓reduceIte, Nat.reduceEqDiff, Nat.reduceAdd, reduceCtorEq] <;> rfl) (by first | rfl | simp only [go_sem, ↓reduceIte, Nat.reduceEqDiff, Nat.reduceAdd, reduceCtorEq]) (by first | exact ⟨rfl, rfl⟩ | simp only [go_sem, ↓reduceIte, Nat.reduceEqDiff, Nat.reduceAdd, reduceCtorEq])⟩, ?_⟩
      (repeat first | simp only [go_sem, ↓reduceIte, Nat.reduceEqDiff, Nat.reduceAdd, reduceCtorEq] | with_reducible refine V_W ?_ | (with_reducible refine And.intro ?_ ?_; focus first | assumption | omega | decide | grind) | (with_reducible refine Br.mk ?_ ?_; focus (intros; omega)) | decide)
      refine ⟨fun _ => ?_, fun hc => ?_⟩
      · (repeat first | simp only [go_sem, ↓reduceIte, Nat.reduceEqDiff, Nat.reduceAdd, reduceCtorEq] | with_reducible refine V_W ?_ | (with_reducible refine And.intro ?_ ?_; focus first | assumption | omega | decide | grind) | (with_reducible refine Br.mk ?_ ?_; focus (intros; omega)) | decide)
      · exact absurd hc hMT
end Go.Proofs.Ytkolabjcmephaaa
