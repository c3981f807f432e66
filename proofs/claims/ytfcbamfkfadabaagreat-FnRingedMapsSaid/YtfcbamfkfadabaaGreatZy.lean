/- Texts that belong together. -/
import Derived.Deep.SlicePairs
import Derived.Test.YtfcbamfkfadabaaGreatZd
import Derived.Test.YtfcbamfkfadabaaGreatZe
import Derived.Test.YtfcbamfkfadabaaGreatZm
import Derived.Test.YtfcbamfkfadabaaGreatZp
import Derived.Test.YtfcbamfkfadabaaGreatZw
import Derived.Test.YtfcbamfkfadabaaGreatZx
set_option linter.unusedSimpArgs false
set_option linter.unusedVariables false
set_option maxRecDepth 100000
namespace Go.Proofs.YtfcbamfkfadabaaGreat
open Go.Gov
open Classical

def apV (M : List (List Int)) (T : List (List Tg)) (i f j : Nat) : Int := (if 0 ≤ (tg T j i).2 then (M.getD (tg T j i).2.toNat []).getD f 0 else (f : Int)) * T.length + (tg T j i).1
def apR (M : List (List Int)) (T : List (List Tg)) (i f m : Nat) : List Int := (List.range m).map fun j => apV M T i f j
def apF (M : List (List Int)) (T : List (List Tg)) (i k : Nat) : List Int := (List.range k).flatMap fun f => apR M T i f T.length
def apM (M : List (List Int)) (T : List (List Tg)) (k : Nat) : List (List Int) := (List.range k).map fun i => apF M T i (fl M)
theorem apR_succ (M : List (List Int)) (T : List (List Tg)) (i f m : Nat) : apR M T i f (m + 1) = apR M T i f m ++ [apV M T i f m] := by simp [apR, List.range_succ]
theorem apF_succ (M : List (List Int)) (T : List (List Tg)) (i k : Nat) : apF M T i (k + 1) = apF M T i k ++ apR M T i k T.length := by simp [apF, List.range_succ]
theorem apM_succ (M : List (List Int)) (T : List (List Tg)) (k : Nat) : apM M T (k + 1) = apM M T k ++ [apF M T k (fl M)] := by simp [apM, List.range_succ]
theorem apR_len (M : List (List Int)) (T : List (List Tg)) (i f m : Nat) : (apR M T i f m).length = m := by simp [apR]
theorem apF_len (M : List (List Int)) (T : List (List Tg)) (i : Nat) : ∀ k, (apF M T i k).length = k * T.length
  | 0 => by simp [apF]
  | k + 1 => by rw [apF_succ, List.length_append, apF_len M T i k, apR_len, Nat.add_mul]; omega
theorem apM_len (M : List (List Int)) (T : List (List Tg)) (k : Nat) : (apM M T k).length = k := by simp [apM]
theorem apV_b {M : List (List Int)} {T : List (List Tg)} (hM : IsMap M) (hT : IsTpl T) {i f j : Nat} (hi : i < 3) (hf : f < fl M) (hj : j < T.length) : 0 ≤ apV M T i f j ∧ apV M T i f j ≤ 10000 := by
  obtain ⟨o1, o2, o3, o4, _⟩ := hT.ok j i hj hi
  have h12 := hT.p2
  have h4 := hM.1.f4
  have hg : 0 ≤ (if 0 ≤ (tg T j i).2 then (M.getD (tg T j i).2.toNat []).getD f 0 else (f : Int)) ∧ (if 0 ≤ (tg T j i).2 then (M.getD (tg T j i).2.toNat []).getD f 0 else (f : Int)) ≤ 400 := by
    split
    · have h3 := hM.2
      obtain ⟨r1, r2, _⟩ := hM.1.rows (tg T j i).2.toNat (by omega)
      have := r2.at (k := f) (by omega)
      omega
    · omega
  unfold apV
  generalize (if 0 ≤ (tg T j i).2 then (M.getD (tg T j i).2.toNat []).getD f 0 else (f : Int)) = g at *
  have h5 : g * T.length ≤ 400 * 12 := Int.mul_le_mul hg.2 (by omega) (by omega) (by omega)
  have h6 : 0 ≤ g * T.length := Int.mul_nonneg hg.1 (by omega)
  omega

end Go.Proofs.YtfcbamfkfadabaaGreat
set_option maxRecDepth 100000
namespace Go.Proofs.YtfcbamfkfadabaaGreat
open Go.Gov
open Classical

set_option maxHeartbeats 8000000 in
theorem applyTemplate_c (M : List (List Int)) (T : List (List Tg)) (hM : IsMap M) (hT : IsTpl T) : Pure Tryz.prog 30 [maniA M, tplA T] (.agg [.sl 0 1 0 3]) [some ((apM M T 3).map oints)] := by
  have hM3 : M.length = 3 := hM.2
  have hn4 := hM.1.f4
  have hT1 := hT.p1
  have hT2 := hT.p2
  have hfe : fl M = (M.getD 0 []).length := rfl
  have hfl := flags_c M (by omega) (by omega) (by omega)
  have hsz := sizeT_c T (by omega)
  refine pureVg [4] ok30 rfl ?_; unfold c30
  refine RN ?_
  refine pureC1 (hsz) ?_
  refine RN ?_
  refine V_loop (α := Nat) (S := fun i => ([(2, .ref 0 0), (3, .ref 1 0), (4, .ref 2 0), (5, i64 T.length), (6, .ref 3 0), (16, i64 i)], [some [mat M], some [tmt T], some [nilS], some [.sl 4 1 0 i], some ((apM M T i).map oints)])) (C := fun i => i ≤ 3) (μ := fun i => 3 - i) 0 (by omega) ((Ref.nilC 3 0 1 rfl rfl).trans (Ref.to (by simp [apM]) (by simp [sub, fget]))) ?_
  intro i hi
  have hml := apM_len M T i
  refine RN ?_
  refine ⟨fun hc => ?_, fun hc => ?_⟩
  · have hi3 : i < 3 := by omega
    refine RN ?_
    refine pureC1 (hfl) ?_
    refine RN ?_
    refine V_loop (α := Nat) (S := fun f => ([(2, .ref 0 0), (3, .ref 1 0), (4, .ref 2 0), (5, i64 T.length), (6, .ref 3 0), (16, i64 i), (7, i64 i), (8, .sl 5 1 0 (apF M T i f).length), (19, i64 (M.getD 0 []).length), (20, i64 f)], [some [mat M], some [tmt T], some [nilS], some [.sl 4 1 0 i], some ((apM M T i).map oints), some (intsC (apF M T i f))])) (C := fun f => f ≤ fl M) (μ := fun f => fl M - f) 0 (by omega) ((Ref.nil 8 1 rfl).trans (Ref.to (by simp [intsC, apF]) (by simp [sub, fget, apF]))) ?_
    intro f hf
    have hfl2 := apF_len M T i f
    refine RN ?_
    refine ⟨fun hc1 => ?_, fun hc1 => ?_⟩
    · have hff : f < fl M := by omega
      have hfp : f * T.length ≤ 400 * 12 := Nat.mul_le_mul (by omega) hT2
      refine RN ?_
      refine V_loop (α := Nat) (S := fun j => ([(2, .ref 0 0), (3, .ref 1 0), (4, .ref 2 0), (5, i64 T.length), (6, .ref 3 0), (16, i64 i), (7, i64 i), (8, .sl 5 1 0 (apF M T i f ++ apR M T i f j).length), (19, i64 (M.getD 0 []).length), (20, i64 f), (9, i64 f), (24, tmt T), (25, i64 T.length), (26, i64 j)], [some [mat M], some [tmt T], some [nilS], some [.sl 4 1 0 i], some ((apM M T i).map oints), some (intsC (apF M T i f ++ apR M T i f j))])) (C := fun j => j ≤ T.length) (μ := fun j => T.length - j) 0 (by omega) (Ref.to (by simp [apR]) (by simp [sub, fget, apR])) ?_
      intro j hj
      have hrl := apR_len M T i f j
      have hll : (apF M T i f ++ apR M T i f j).length = f * T.length + j := by rw [List.length_append, hfl2, hrl]
      have hst := apR_succ M T i f j
      generalize hL : apF M T i f ++ apR M T i f j = L at *
      refine RN ?_
      refine ⟨fun hc2 => ?_, fun hc2 => ?_⟩
      · have hjl : j < T.length := by omega
        have g1 := tmt_at T j hjl
        have g2 := tmt_any T j hjl
        have h3 := hT.len j hjl
        have hl6 : (flt (T.getD j [])).length = 6 := by rw [flt_len, h3]
        have g4 : (flt (T.getD j [])).getD (i * 2) 0 = (tg T j i).1 := flt_at0 (T.getD j []) i
        have g5 : (flt (T.getD j [])).getD (i * 2 + 1) 0 = (tg T j i).2 := flt_at1 (T.getD j []) i
        obtain ⟨o1, o2, o3, o4, _⟩ := hT.ok j i hjl hi3
        have hvb := apV_b hM hT hi3 hff hjl
        refine RN ?_
        simp only [g1, g2, go_sem, ↓reduceIte, Nat.reduceEqDiff, Nat.reduceAdd, reduceCtorEq]
        refine RN ?_
        simp only [g4, g5, go_sem, ↓reduceIte, Nat.reduceEqDiff, Nat.reduceAdd, reduceCtorEq]
        have hv : apV M T i f j = (if 0 ≤ (tg T j i).2 then (M.getD (tg T j i).2.toNat []).getD f 0 else (f : Int)) * T.length + (tg T j i).1 := rfl
        generalize hx : tg T j i = x at *
        have hrow : 0 ≤ x.2 → f < (M.getD x.2.toNat []).length := fun h => by
          obtain ⟨r1, _, _⟩ := hM.1.rows x.2.toNat (by omega)
          omega
        refine RN ?_
        refine ⟨fun hc3 => ?_, fun hc3 => ?_⟩
        · have hr2 := hrow hc3
          rw [if_pos hc3] at hv
          refine RN ?_
          simp only [g4]
          refine ⟨j + 1, by omega, by omega, ?_⟩
          rw [hst, ← List.append_assoc, hL, hv]
          refine Ref.gc [0, 1, 2, 3, 4, 7] rfl ?_ (by simp [sub, fget, go_sem, ↓reduceIte, Nat.reduceEqDiff, Nat.reduceAdd, reduceCtorEq]; omega)
          (try simp only [go_sem, ↓reduceIte, Nat.reduceEqDiff, Nat.reduceAdd, reduceCtorEq, take_ints_len, one_intsC, app_intsC])
        · rw [if_neg (by omega)] at hv
          refine RN ?_
          simp only [g4]
          refine ⟨j + 1, by omega, by omega, ?_⟩
          rw [hst, ← List.append_assoc, hL, hv]
          refine Ref.gc [0, 1, 2, 3, 4, 7] rfl ?_ (by simp [sub, fget, go_sem, ↓reduceIte, Nat.reduceEqDiff, Nat.reduceAdd, reduceCtorEq]; omega)
          (try simp only [go_sem, ↓reduceIte, Nat.reduceEqDiff, Nat.reduceAdd, reduceCtorEq, take_ints_len, one_intsC, app_intsC])
      · obtain rfl : j = T.length := by omega
        have hs2 := apF_succ M T i f
        refine RN ?_
        refine ⟨f + 1, by omega, by omega, ?_⟩
        rw [hs2, hL]
        exact Ref.frame (by simp [sub, fget])
    · obtain rfl : f = fl M := by omega
      have hs3 := apM_succ M T i
      have hlb : (apF M T i (fl M)).length ≤ 4800 := by rw [apF_len]; exact Nat.mul_le_mul hn4 hT2
      refine RN ?_
      refine ⟨i + 1, by omega, by omega, ?_⟩
      rw [hs3]
      refine (Ref.close 7 i 5 (k := 1) (n := (apF M T i (fl M)).length) (cs2 := intsC (apF M T i (fl M))) rfl (by rw [List.getElem?_append_right (by simp [hml])]; simp [hml]) rfl (by decide) (by simp [intsC])).trans (Ref.gc [0, 1, 2, 3, 7] rfl ?_ (by simp [sub, fget, go_sem, ↓reduceIte, Nat.reduceEqDiff, Nat.reduceAdd, reduceCtorEq]))
      (try simp only [go_sem, ↓reduceIte, Nat.reduceEqDiff, Nat.reduceAdd, reduceCtorEq])
      have hset : ∀ x y : AV, ((apM M T i).map oints ++ [x]).set i y = (apM M T i).map oints ++ [y] := fun x y => by
        rw [List.set_append_right _ _ (by simp [hml])]; simp [hml]
      rw [List.take_of_length_le (by simp [hml]), rnmL_orows, hset]
      simp
  · obtain rfl : i = 3 := by omega
    (refine RN ?_; try with_reducible exact trivial)
end Go.Proofs.YtfcbamfkfadabaaGreat
set_option maxRecDepth 100000
namespace Go.Proofs.YtfcbamfkfadabaaGreat
open Go.Gov Go.ChangeShapes Go.WideShapes

theorem pure_nilA {P : Program} {f : FuncId} {args l : List AV} (k : Nat) (h : Gov.Pure P f args (.tup (.agg [nilS] :: l)) []) : Gov.Pure P f args (.tup (.agg [.sl 0 k 0 0] :: l)) [some []] :=
  fun g w vals hp hl hr => (h g w vals hp hl hr).mono fun _ w' ⟨v, g', av, H', he, hm, hx, hext, hk, hk2⟩ => by
    subst hk hk2
    have hm2 := nil_obj hm.hp
    refine ⟨v, _, _, _, he, hm.trans hm2, ?_, hext, rfl, rfl⟩
    have hx' := hm2.lift _ _ hx
    have e1 : (g'.add ([] : Heap).length none []).tr ([] ++ [some ([] : List AV)]) 0 = some (some (none, 0)) := by
      have e1 : (([] : Heap) ++ [some ([] : List AV)])[0]? = some (some []) := by simp
      rw [Gh.tr_some e1]
      simp [Gh.add]
    cases hx' with
    | tup hl' hr' =>
      refine .tup (by simpa using hl') fun m hm' => ?_
      match m, hm' with
      | 0, _ =>
        have h1 := hr' 0 (by simp)
        simp only [List.getElem_cons_zero] at h1 ⊢
        generalize Array.getD _ _ _ = u at h1 ⊢
        cases h1 with
        | agg hl2 hr2 =>
          refine .agg (by simpa using hl2) fun j hj => ?_
          simp only [List.length_cons, List.length_nil, Nat.zero_add] at hj
          obtain rfl : j = 0 := by omega
          have h2 := hr2 0 (by simp)
          simp only [List.getElem_cons_zero] at h2 ⊢
          rw [h2.val_inv.1]
          refine .sl (by rw [e1]; rfl) rfl fun l hl => ?_
          rw [e1] at hl
          obtain rfl := Option.some.inj (Option.some.inj hl)
          exact ⟨by dsimp only; omega, rfl, none, rfl⟩
      | m + 1, hm' =>
        have h1 := hr' (m + 1) (by simpa using hm')
        simpa using h1
end Go.Proofs.YtfcbamfkfadabaaGreat
set_option maxRecDepth 100000
namespace Go.Proofs.YtfcbamfkfadabaaGreat
open Go.Gov
open Classical

def AtOk (M : List (List Int)) (T : List (List Tg)) : Prop := (IsMap M ∧ IsTpl T) ∧ ¬ (fl M * T.length > 400) ∧ IsMap (apM M T 3)
noncomputable def atV (M : List (List Int)) (T : List (List Tg)) : List (List Int) := if AtOk M T then apM M T 3 else []
noncomputable def atC (M : List (List Int)) (T : List (List Tg)) : Int := if IsMap M ∧ IsTpl T then if fl M * T.length > 400 then 3 else if IsMap (apM M T 3) then 0 else 5 else 1
theorem apM_rows (M : List (List Int)) (T : List (List Tg)) (hM : IsMap M) (hT : IsTpl T) : ∀ p ∈ apM M T 3, p.length ≤ 4800 := fun p hp => by
  obtain ⟨i, _, rfl⟩ := List.mem_map.1 hp
  rw [apF_len]
  exact Nat.mul_le_mul hM.1.f4 hT.p2
set_option maxHeartbeats 4000000 in
theorem implAt_c (M : List (List Int)) (T : List (List Tg)) (hl : M.length ≤ 1048576) (hr : ∀ p ∈ M, p.length ≤ 1048576) (tl : T.length ≤ 1048576) (tr : ∀ xs ∈ T, xs.length ≤ 1048576) : Pure Tryz.prog 10 [maniA M, tplA T] (.tup [.agg [.sl 0 1 0 (atV M T).length], i64 (atC M T)]) [some ((atV M T).map oints)] := by
  have hm := isMap_c M hl hr
  have ht := isTemplate_c T tl tr
  by_cases hok : AtOk M T
  · obtain ⟨⟨hM, hT⟩, h4, hO⟩ := hok
    have hfn : fl M = (M.getD 0 []).length := rfl
    have hM3 : M.length = 3 := hM.2
    have hn4 := hM.1.f4
    have hT2 := hT.p2
    have hA := applyTemplate_c M T hM hT
    have hO2 := isMap_c (apM M T 3) (by rw [apM_len]; omega) (fun p hp => Nat.le_trans (apM_rows M T hM hT p hp) (by omega))
    have e1 : atV M T = apM M T 3 := if_pos ⟨⟨hM, hT⟩, h4, hO⟩
    have e2 : atC M T = 0 := by unfold atC; rw [if_pos ⟨hM, hT⟩, if_neg h4, if_pos hO]
    simp only [maniA, mat, apM_len] at hO2
    rw [e1, e2, apM_len]
    have hmul : (fl M : Int) * T.length ≤ 400 := by
      have : ((fl M * T.length : Nat) : Int) ≤ 400 := by omega
      rwa [Int.natCast_mul] at this
    have hmul0 : 0 ≤ (fl M : Int) * T.length := Int.mul_nonneg (by omega) (by omega)
    have hmul2 : ((M.getD 0 []).length : Int) * T.length ≤ 400 := hmul
    have hmul3 : 0 ≤ ((M.getD 0 []).length : Int) * T.length := hmul0
    refine pureVg [3] ok10 rfl ?_; unfold c10
    refine RN ?_
    refine pureC1 (hm) ?_
    refine RN ?_
    refine GC1 (bl (decide (IsTpl T)) ) (fun hg =>  ht) ?_
    refine RN ?_
    refine ⟨fun hc => ?_, fun _ => ?_⟩
    · exfalso
      rcases hc with hc | hc
      · exact hc hM
      · exact hc hT
    refine RN ?_
    refine pureC1 (flags_c M (by omega) hl (by omega)) ?_
    refine RN ?_
    refine pureC1 (sizeT_c T tl) ?_
    (refine RN ?_; try with_reducible exact trivial)
    (try with_reducible refine fun _ => ?_)
    refine RN ?_
    refine pureC1 (hA) ?_
    refine RN ?_
    refine pureC hO2 (by simp only [go_sem, ↓reduceIte, Nat.reduceEqDiff, Nat.reduceAdd, reduceCtorEq]; rw [List.take_of_length_le (by simp [apM_len])]; simp only [go_sem, ↓reduceIte, Nat.reduceEqDiff, Nat.reduceAdd, reduceCtorEq]) (by first | rfl | simp only [go_sem, ↓reduceIte, Nat.reduceEqDiff, Nat.reduceAdd, reduceCtorEq]) ?_
    refine RN ?_
    refine ⟨fun hc => ?_, fun _ => ?_⟩
    · exact absurd hO hc
    (refine RN ?_; try with_reducible exact trivial)
  · have e1 : atV M T = [] := if_neg hok
    rw [e1]
    refine pure_nilA 1 ?_
    unfold atC
    by_cases hMT : IsMap M ∧ IsTpl T
    · obtain ⟨hM, hT⟩ := hMT
      rw [if_pos ⟨hM, hT⟩]
      have hfn : fl M = (M.getD 0 []).length := rfl
      have hM3 : M.length = 3 := hM.2
      have hn4 := hM.1.f4
      have hT2 := hT.p2
      have hA := applyTemplate_c M T hM hT
      have hO2 := isMap_c (apM M T 3) (by rw [apM_len]; omega) (fun p hp => Nat.le_trans (apM_rows M T hM hT p hp) (by omega))
      simp only [maniA, mat, apM_len] at hO2
      have hmul0 : 0 ≤ (fl M : Int) * T.length := Int.mul_nonneg (by omega) (by omega)
      have hmul1 : (fl M : Int) * T.length ≤ 400 * 12 := Int.mul_le_mul (by omega) (by omega) (by omega) (by omega)
      have hcast : ((fl M * T.length : Nat) : Int) = ((M.getD 0 []).length : Int) * T.length := Int.natCast_mul _ _
      have hmul2 : ((M.getD 0 []).length : Int) * T.length ≤ 400 * 12 := hmul1
      have hmul3 : 0 ≤ ((M.getD 0 []).length : Int) * T.length := hmul0
      refine pureV0 ok10 rfl rfl ?_; unfold c10
      refine RN ?_
      refine pureC1 (hm) ?_
      refine RN ?_
      refine GC1 (bl (decide (IsTpl T)) ) (fun hg =>  ht) ?_
      refine RN ?_
      refine ⟨fun hc => ?_, fun _ => ?_⟩
      · exfalso
        rcases hc with hc | hc
        · exact hc hM
        · exact hc hT
      refine RN ?_
      refine pureC1 (flags_c M (by omega) hl (by omega)) ?_
      refine RN ?_
      refine pureC1 (sizeT_c T tl) ?_
      refine RN ?_
      refine ⟨fun hc => ?_, fun hc => ?_⟩
      · rw [if_pos (by omega)]
        (refine RN ?_; try with_reducible exact trivial)
      · rw [if_neg (by omega)]
        have hO : ¬ IsMap (apM M T 3) := fun hO => hok ⟨⟨hM, hT⟩, by omega, hO⟩
        rw [if_neg hO]
        refine RN ?_
        refine pureC1 (hA) ?_
        refine RN ?_
        refine pureC hO2 (by simp only [go_sem, ↓reduceIte, Nat.reduceEqDiff, Nat.reduceAdd, reduceCtorEq]; rw [List.take_of_length_le (by simp [apM_len])]; simp only [go_sem, ↓reduceIte, Nat.reduceEqDiff, Nat.reduceAdd, reduceCtorEq]) (by first | rfl | simp only [go_sem, ↓reduceIte, Nat.reduceEqDiff, Nat.reduceAdd, reduceCtorEq]) ?_
        refine RN ?_
        refine ⟨fun _ => ?_, fun hc => ?_⟩
        · (refine RN ?_; try with_reducible exact trivial)
        · exact absurd hc hO
    · rw [if_neg hMT]
      refine pureV0 ok10 rfl rfl ?_; unfold c10
      refine RN ?_
      refine pureC1 (hm) ?_
      refine RN ?_
      refine GC1 (bl (decide (IsTpl T)) ) (fun hg =>  ht) ?_
      refine RN ?_
      refine ⟨fun _ => ?_, fun hc => ?_⟩
      · (refine RN ?_; try with_reducible exact trivial)
      · exact absurd hc hMT
end Go.Proofs.YtfcbamfkfadabaaGreat
