/- Texts that belong together. -/
import Derived.Test.YtfcbamfkfadabaaGreatDoorZe
import Derived.Test.YtfcbamfkfadabaaGreatDoorZj
import Derived.Test.YtfcbamfkfadabaaGreatDoorZq
import Derived.Test.YtfcbamfkfadabaaGreatDoorZr
import Derived.Test.YtfcbamfkfadabaaGreatDoorZt
import Derived.Test.YtfcbamfkfadabaaGreatDoorWg
set_option linter.unusedSimpArgs false
set_option linter.unusedVariables false
set_option maxRecDepth 100000
namespace Go.Proofs.YtfcbamfkfadabaaGreatDoor
open Go.Gov
open Classical

def olr (l : List Int) : AV := if l = [] then nilS else oints l
def cmpA : List (Int × List Int) → List AV
  | [] => []
  | p :: l => i64 p.1 :: olr p.2 :: cmpA l
def lab2 (a b : Int) (i : Nat) : Int := if i = 0 then a else b
def cpS (a b : Int) (mask : Nat) : Nat → List (Int × List Int) × Bool
  | 0 => ([], false)
  | i + 1 => if mask / 2 ^ i % 2 = 0 then ((cpS a b mask i).1, false) else
      (if (cpS a b mask i).2 then (cpS a b mask i).1.dropLast ++ [(((cpS a b mask i).1.getLastD (0, [])).1 + 2 ^ i, ((cpS a b mask i).1.getLastD (0, [])).2 ++ [lab2 a b (i - 1)])] else (cpS a b mask i).1 ++ [(2 ^ i, [])], decide (i < 2 ∧ lab2 a b i ≠ 2))
theorem bit_v (mask i : Nat) (hm : mask < 8) (hi : i < 3) : bitsV BinOp.and IntKind.i64 (shV BinOp.shr IntKind.i64 (mask : Int) (i : Int)) 1 = ((mask / 2 ^ i % 2 : Nat) : Int) := by
  have h : ∀ mask : Fin 8, ∀ i : Fin 3, bitsV BinOp.and IntKind.i64 (shV BinOp.shr IntKind.i64 ((mask.val : Nat) : Int) ((i.val : Nat) : Int)) 1 = ((mask.val / 2 ^ i.val % 2 : Nat) : Int) := by decide
  exact h ⟨mask, hm⟩ ⟨i, hi⟩
theorem shl_v (i : Nat) (hi : i < 3) : shV BinOp.shl IntKind.i64 1 (i : Int) = ((2 ^ i : Nat) : Int) := by
  have h : ∀ i : Fin 3, shV BinOp.shl IntKind.i64 1 ((i.val : Nat) : Int) = ((2 ^ i.val : Nat) : Int) := by decide
  exact h ⟨i, hi⟩
theorem or12 : bitsV BinOp.or IntKind.i64 1 2 = 3 := by decide
theorem or34 : bitsV BinOp.or IntKind.i64 3 4 = 7 := by decide
theorem or24 : bitsV BinOp.or IntKind.i64 2 4 = 6 := by decide
theorem or14 : bitsV BinOp.or IntKind.i64 1 4 = 5 := by decide
set_option maxHeartbeats 2000000 in
theorem components_p (a b : Int) (mask : Nat) (hm : mask < 8) (ha : 2 ≤ a ∧ a ≤ 32) (hb : 2 ≤ b ∧ b ≤ 32) : Pure Tryz.prog 172 [ints [a, b], i64 (mask : Int)] (.sl 0 2 0 (cpS a b mask 3).1.length) [some (cmpA (cpS a b mask 3).1)] := by
  have hsz := size_c [a, b] (by simp)
  refine pureRV ok172 rfl ?_; unfold c172
  refine RN ?_
  refine pureC1 (hsz) ?_
  refine RN ?_
  refine V_loop (α := Nat) (S := fun i => ([(0, ints [a, b]), (1, i64 (mask : Int)), (5, .sl 0 2 0 (cpS a b mask i).1.length), (6, bl (cpS a b mask i).2), (11, i64 3), (12, i64 (i : Int))], [some (cmpA (cpS a b mask i).1)])) (C := fun i => i ≤ 3) (μ := fun i => 3 - i) 0 (Nat.zero_le _) ((Ref.nil 5 2 rfl).trans (Ref.to rfl (by simp [sub, fget, cpS]))) ?_
  intro i hi
  refine RN ?_
  refine ⟨fun hc => ?_, fun hc => ?_⟩
  · have hi3 : i < 3 := by omega
    have e1 := bit_v mask i hm hi3
    have e2 := shl_v i hi3
    have h8 : mask = 0 ∨ mask = 1 ∨ mask = 2 ∨ mask = 3 ∨ mask = 4 ∨ mask = 5 ∨ mask = 6 ∨ mask = 7 := by omega
    have hA : (a = 2) = True ∧ (a != 2) = false ∨ (a = 2) = False ∧ (a != 2) = true := by by_cases h : a = 2 <;> simp [h]
    have hB : (b = 2) = True ∧ (b != 2) = false ∨ (b = 2) = False ∧ (b != 2) = true := by by_cases h : b = 2 <;> simp [h]
    obtain rfl | rfl | rfl : i = 0 ∨ i = 1 ∨ i = 2 := by omega
    all_goals (rcases h8 with rfl | rfl | rfl | rfl | rfl | rfl | rfl | rfl <;> rcases hA with ⟨h2a, hna⟩ | ⟨h2a, hna⟩ <;> rcases hB with ⟨h2b, hnb⟩ | ⟨h2b, hnb⟩ <;> (simp only [Nat.reducePow, Nat.reduceDiv, Nat.reduceMod, Int.cast_ofNat_Int] at e1 e2; simp only [cpS, lab2, h2a, h2b, cmpA, olr, if_true, if_false, ne_eq, not_true_eq_false, not_false_eq_true, and_true, true_and, and_false, false_and, and_self, reduceIte, reduceCtorEq, decide_true, decide_false, Bool.false_eq_true, List.dropLast, List.getLastD, List.getLast_singleton, List.getLast_cons_cons, List.getLast, List.dropLast_singleton, List.nil_append, List.cons_append, List.length_cons, List.length_nil, List.take, Int.cast_ofNat_Int, Int.reduceAdd, Int.reducePow, Int.reduceSub, Int.reduceNeg, Nat.reduceAdd, Nat.reduceSub, Nat.reduceMod, Nat.reduceDiv, Nat.reducePow, Nat.reduceEqDiff, Nat.reduceLT, List.getD_cons_zero, List.getD_cons_succ, Int.reduceLT, bne_self_eq_false, Bool.true_and, Bool.and_true, Bool.false_and, bne_iff_ne, hna, hnb, nilS]))
    all_goals (repeat first | simp only [e1, e2, or12, or34, or14, or24, Nat.reduceSub, Nat.reduceMul, Nat.zero_mul, Nat.sub_self, List.getD_cons_zero, List.getD_cons_succ, go_sem, ↓reduceIte, Nat.reduceEqDiff, Nat.reduceAdd, reduceCtorEq] | refine RX ?_ | decide)
    all_goals (try (intro hj; (repeat first | simp only [e1, e2, or12, or34, or14, or24, Nat.reduceSub, Nat.reduceMul, Nat.zero_mul, Nat.sub_self, List.getD_cons_zero, List.getD_cons_succ, go_sem, ↓reduceIte, Nat.reduceEqDiff, Nat.reduceAdd, reduceCtorEq] | refine RX ?_ | decide)))
    all_goals (try (refine pureC1 (hsz) ?_; (repeat first | simp only [e1, e2, or12, or34, or14, or24, Nat.reduceSub, Nat.reduceMul, Nat.zero_mul, Nat.sub_self, List.getD_cons_zero, List.getD_cons_succ, go_sem, ↓reduceIte, Nat.reduceEqDiff, Nat.reduceAdd, reduceCtorEq] | refine RX ?_ | decide)))
    all_goals (try (first | (refine ⟨1, by omega, by omega, ?_⟩; simp only [cpS, lab2, h2a, h2b, cmpA, olr, if_true, if_false, ne_eq, not_true_eq_false, not_false_eq_true, and_true, true_and, and_false, false_and, and_self, reduceIte, reduceCtorEq, decide_true, decide_false, Bool.false_eq_true, List.dropLast, List.getLastD, List.getLast_singleton, List.getLast_cons_cons, List.getLast, List.dropLast_singleton, List.nil_append, List.cons_append, List.length_cons, List.length_nil, List.take, Int.cast_ofNat_Int, Int.reduceAdd, Int.reducePow, Int.reduceSub, Int.reduceNeg, Nat.reduceAdd, Nat.reduceSub, Nat.reduceMod, Nat.reduceDiv, Nat.reducePow, Nat.reduceEqDiff, Nat.reduceLT, List.getD_cons_zero, List.getD_cons_succ, Int.reduceLT, bne_self_eq_false, Bool.true_and, Bool.and_true, Bool.false_and, bne_iff_ne, hna, hnb, nilS]; done) | (refine ⟨1, by omega, by omega, ?_⟩; simp only [cpS, lab2, h2a, h2b, cmpA, olr, if_true, if_false, ne_eq, not_true_eq_false, not_false_eq_true, and_true, true_and, and_false, false_and, and_self, reduceIte, reduceCtorEq, decide_true, decide_false, Bool.false_eq_true, List.dropLast, List.getLastD, List.getLast_singleton, List.getLast_cons_cons, List.getLast, List.dropLast_singleton, List.nil_append, List.cons_append, List.length_cons, List.length_nil, List.take, Int.cast_ofNat_Int, Int.reduceAdd, Int.reducePow, Int.reduceSub, Int.reduceNeg, Nat.reduceAdd, Nat.reduceSub, Nat.reduceMod, Nat.reduceDiv, Nat.reducePow, Nat.reduceEqDiff, Nat.reduceLT, List.getD_cons_zero, List.getD_cons_succ, Int.reduceLT, bne_self_eq_false, Bool.true_and, Bool.and_true, Bool.false_and, bne_iff_ne, hna, hnb, nilS]; first | exact Ref.to rfl (by simp [sub, fget, hna, hnb]) | exact Ref.gc [2] rfl (by first | rfl | simp) (by simp [sub, fget, gcF, rnm, gcT, rnmL_ints, hna, hnb])) | (refine ⟨2, by omega, by omega, ?_⟩; simp only [cpS, lab2, h2a, h2b, cmpA, olr, if_true, if_false, ne_eq, not_true_eq_false, not_false_eq_true, and_true, true_and, and_false, false_and, and_self, reduceIte, reduceCtorEq, decide_true, decide_false, Bool.false_eq_true, List.dropLast, List.getLastD, List.getLast_singleton, List.getLast_cons_cons, List.getLast, List.dropLast_singleton, List.nil_append, List.cons_append, List.length_cons, List.length_nil, List.take, Int.cast_ofNat_Int, Int.reduceAdd, Int.reducePow, Int.reduceSub, Int.reduceNeg, Nat.reduceAdd, Nat.reduceSub, Nat.reduceMod, Nat.reduceDiv, Nat.reducePow, Nat.reduceEqDiff, Nat.reduceLT, List.getD_cons_zero, List.getD_cons_succ, Int.reduceLT, bne_self_eq_false, Bool.true_and, Bool.and_true, Bool.false_and, bne_iff_ne, hna, hnb, nilS]; first | exact Ref.to rfl (by simp [sub, fget, hna, hnb]) | exact Ref.gc [2] rfl (by first | rfl | simp) (by simp [sub, fget, gcF, rnm, gcT, rnmL_ints, hna, hnb])) | (refine ⟨3, by omega, by omega, ?_⟩; simp only [cpS, lab2, h2a, h2b, cmpA, olr, if_true, if_false, ne_eq, not_true_eq_false, not_false_eq_true, and_true, true_and, and_false, false_and, and_self, reduceIte, reduceCtorEq, decide_true, decide_false, Bool.false_eq_true, List.dropLast, List.getLastD, List.getLast_singleton, List.getLast_cons_cons, List.getLast, List.dropLast_singleton, List.nil_append, List.cons_append, List.length_cons, List.length_nil, List.take, Int.cast_ofNat_Int, Int.reduceAdd, Int.reducePow, Int.reduceSub, Int.reduceNeg, Nat.reduceAdd, Nat.reduceSub, Nat.reduceMod, Nat.reduceDiv, Nat.reducePow, Nat.reduceEqDiff, Nat.reduceLT, List.getD_cons_zero, List.getD_cons_succ, Int.reduceLT, bne_self_eq_false, Bool.true_and, Bool.and_true, Bool.false_and, bne_iff_ne, hna, hnb, nilS]; first | exact Ref.to rfl (by simp [sub, fget, hna, hnb]) | exact Ref.gc [2] rfl (by first | rfl | simp) (by simp [sub, fget, gcF, rnm, gcT, rnmL_ints, hna, hnb]))))
    · refine V_altsS [(0, ints [a, b]), (1, i64 3), (5, .sl 0 2 0 1), (7, i64 1), (11, i64 3), (12, i64 1)] [some [i64 3, oints [a]]] ?_ ?_
      · repeat' first
          | simp only [Nat.reduceSub, Nat.reduceMul, Nat.zero_mul, Nat.sub_self, List.getD_cons_zero, List.getD_cons_succ, Int.sub_self, Int.reduceSub, Int.toNat_zero, Int.toNat_one, go_sem, ↓reduceIte, Nat.reduceEqDiff, Nat.reduceAdd, reduceCtorEq]
          | with_reducible refine LT_reg ?_
          | with_reducible refine LT_fin ?_
          | with_reducible exact LT_tt
          | with_reducible refine LT_alt ?_ ?_
          | (with_reducible refine And.intro ?_ ?_; focus first | assumption | omega | decide | grind)
        all_goals exact (Ref.close 0 1 2 (k := 1) (n := 1) (cs2 := intsC [a]) rfl rfl rfl (by decide) (by simp [intsC])).trans (Ref.gc [0] rfl rfl (by simp [sub, fget, gcF, rnm, gcT, rnmL_ints]))
      · (repeat first | simp only [e1, e2, or12, or34, or14, or24, Nat.reduceSub, Nat.reduceMul, Nat.zero_mul, Nat.sub_self, List.getD_cons_zero, List.getD_cons_succ, go_sem, ↓reduceIte, Nat.reduceEqDiff, Nat.reduceAdd, reduceCtorEq] | refine RX ?_ | decide)
        refine pureC1 (hsz) ?_
        (repeat first | simp only [e1, e2, or12, or34, or14, or24, Nat.reduceSub, Nat.reduceMul, Nat.zero_mul, Nat.sub_self, List.getD_cons_zero, List.getD_cons_succ, go_sem, ↓reduceIte, Nat.reduceEqDiff, Nat.reduceAdd, reduceCtorEq] | refine RX ?_ | decide)
        all_goals (try (first | (refine ⟨1, by omega, by omega, ?_⟩; simp only [cpS, lab2, h2a, h2b, cmpA, olr, if_true, if_false, ne_eq, not_true_eq_false, not_false_eq_true, and_true, true_and, and_false, false_and, and_self, reduceIte, reduceCtorEq, decide_true, decide_false, Bool.false_eq_true, List.dropLast, List.getLastD, List.getLast_singleton, List.getLast_cons_cons, List.getLast, List.dropLast_singleton, List.nil_append, List.cons_append, List.length_cons, List.length_nil, List.take, Int.cast_ofNat_Int, Int.reduceAdd, Int.reducePow, Int.reduceSub, Int.reduceNeg, Nat.reduceAdd, Nat.reduceSub, Nat.reduceMod, Nat.reduceDiv, Nat.reducePow, Nat.reduceEqDiff, Nat.reduceLT, List.getD_cons_zero, List.getD_cons_succ, Int.reduceLT, bne_self_eq_false, Bool.true_and, Bool.and_true, Bool.false_and, bne_iff_ne, hna, hnb, nilS]; done) | (refine ⟨1, by omega, by omega, ?_⟩; simp only [cpS, lab2, h2a, h2b, cmpA, olr, if_true, if_false, ne_eq, not_true_eq_false, not_false_eq_true, and_true, true_and, and_false, false_and, and_self, reduceIte, reduceCtorEq, decide_true, decide_false, Bool.false_eq_true, List.dropLast, List.getLastD, List.getLast_singleton, List.getLast_cons_cons, List.getLast, List.dropLast_singleton, List.nil_append, List.cons_append, List.length_cons, List.length_nil, List.take, Int.cast_ofNat_Int, Int.reduceAdd, Int.reducePow, Int.reduceSub, Int.reduceNeg, Nat.reduceAdd, Nat.reduceSub, Nat.reduceMod, Nat.reduceDiv, Nat.reducePow, Nat.reduceEqDiff, Nat.reduceLT, List.getD_cons_zero, List.getD_cons_succ, Int.reduceLT, bne_self_eq_false, Bool.true_and, Bool.and_true, Bool.false_and, bne_iff_ne, hna, hnb, nilS]; first | exact Ref.to rfl (by simp [sub, fget, hna, hnb]) | exact Ref.gc [2] rfl (by first | rfl | simp) (by simp [sub, fget, gcF, rnm, gcT, rnmL_ints, hna, hnb])) | (refine ⟨2, by omega, by omega, ?_⟩; simp only [cpS, lab2, h2a, h2b, cmpA, olr, if_true, if_false, ne_eq, not_true_eq_false, not_false_eq_true, and_true, true_and, and_false, false_and, and_self, reduceIte, reduceCtorEq, decide_true, decide_false, Bool.false_eq_true, List.dropLast, List.getLastD, List.getLast_singleton, List.getLast_cons_cons, List.getLast, List.dropLast_singleton, List.nil_append, List.cons_append, List.length_cons, List.length_nil, List.take, Int.cast_ofNat_Int, Int.reduceAdd, Int.reducePow, Int.reduceSub, Int.reduceNeg, Nat.reduceAdd, Nat.reduceSub, Nat.reduceMod, Nat.reduceDiv, Nat.reducePow, Nat.reduceEqDiff, Nat.reduceLT, List.getD_cons_zero, List.getD_cons_succ, Int.reduceLT, bne_self_eq_false, Bool.true_and, Bool.and_true, Bool.false_and, bne_iff_ne, hna, hnb, nilS]; first | exact Ref.to rfl (by simp [sub, fget, hna, hnb]) | exact Ref.gc [2] rfl (by first | rfl | simp) (by simp [sub, fget, gcF, rnm, gcT, rnmL_ints, hna, hnb])) | (refine ⟨3, by omega, by omega, ?_⟩; simp only [cpS, lab2, h2a, h2b, cmpA, olr, if_true, if_false, ne_eq, not_true_eq_false, not_false_eq_true, and_true, true_and, and_false, false_and, and_self, reduceIte, reduceCtorEq, decide_true, decide_false, Bool.false_eq_true, List.dropLast, List.getLastD, List.getLast_singleton, List.getLast_cons_cons, List.getLast, List.dropLast_singleton, List.nil_append, List.cons_append, List.length_cons, List.length_nil, List.take, Int.cast_ofNat_Int, Int.reduceAdd, Int.reducePow, Int.reduceSub, Int.reduceNeg, Nat.reduceAdd, Nat.reduceSub, Nat.reduceMod, Nat.reduceDiv, Nat.reducePow, Nat.reduceEqDiff, Nat.reduceLT, List.getD_cons_zero, List.getD_cons_succ, Int.reduceLT, bne_self_eq_false, Bool.true_and, Bool.and_true, Bool.false_and, bne_iff_ne, hna, hnb, nilS]; first | exact Ref.to rfl (by simp [sub, fget, hna, hnb]) | exact Ref.gc [2] rfl (by first | rfl | simp) (by simp [sub, fget, gcF, rnm, gcT, rnmL_ints, hna, hnb]))))
    · refine V_altsS [(0, ints [a, b]), (1, i64 3), (5, .sl 0 2 0 1), (7, i64 1), (11, i64 3), (12, i64 1)] [some [i64 3, oints [a]]] ?_ ?_
      · repeat' first
          | simp only [Nat.reduceSub, Nat.reduceMul, Nat.zero_mul, Nat.sub_self, List.getD_cons_zero, List.getD_cons_succ, Int.sub_self, Int.reduceSub, Int.toNat_zero, Int.toNat_one, go_sem, ↓reduceIte, Nat.reduceEqDiff, Nat.reduceAdd, reduceCtorEq]
          | with_reducible refine LT_reg ?_
          | with_reducible refine LT_fin ?_
          | with_reducible exact LT_tt
          | with_reducible refine LT_alt ?_ ?_
          | (with_reducible refine And.intro ?_ ?_; focus first | assumption | omega | decide | grind)
        all_goals exact (Ref.close 0 1 2 (k := 1) (n := 1) (cs2 := intsC [a]) rfl rfl rfl (by decide) (by simp [intsC])).trans (Ref.gc [0] rfl rfl (by simp [sub, fget, gcF, rnm, gcT, rnmL_ints]))
      · (repeat first | simp only [e1, e2, or12, or34, or14, or24, Nat.reduceSub, Nat.reduceMul, Nat.zero_mul, Nat.sub_self, List.getD_cons_zero, List.getD_cons_succ, go_sem, ↓reduceIte, Nat.reduceEqDiff, Nat.reduceAdd, reduceCtorEq] | refine RX ?_ | decide)
        refine pureC1 (hsz) ?_
        (repeat first | simp only [e1, e2, or12, or34, or14, or24, Nat.reduceSub, Nat.reduceMul, Nat.zero_mul, Nat.sub_self, List.getD_cons_zero, List.getD_cons_succ, go_sem, ↓reduceIte, Nat.reduceEqDiff, Nat.reduceAdd, reduceCtorEq] | refine RX ?_ | decide)
        all_goals (try (first | (refine ⟨1, by omega, by omega, ?_⟩; simp only [cpS, lab2, h2a, h2b, cmpA, olr, if_true, if_false, ne_eq, not_true_eq_false, not_false_eq_true, and_true, true_and, and_false, false_and, and_self, reduceIte, reduceCtorEq, decide_true, decide_false, Bool.false_eq_true, List.dropLast, List.getLastD, List.getLast_singleton, List.getLast_cons_cons, List.getLast, List.dropLast_singleton, List.nil_append, List.cons_append, List.length_cons, List.length_nil, List.take, Int.cast_ofNat_Int, Int.reduceAdd, Int.reducePow, Int.reduceSub, Int.reduceNeg, Nat.reduceAdd, Nat.reduceSub, Nat.reduceMod, Nat.reduceDiv, Nat.reducePow, Nat.reduceEqDiff, Nat.reduceLT, List.getD_cons_zero, List.getD_cons_succ, Int.reduceLT, bne_self_eq_false, Bool.true_and, Bool.and_true, Bool.false_and, bne_iff_ne, hna, hnb, nilS]; done) | (refine ⟨1, by omega, by omega, ?_⟩; simp only [cpS, lab2, h2a, h2b, cmpA, olr, if_true, if_false, ne_eq, not_true_eq_false, not_false_eq_true, and_true, true_and, and_false, false_and, and_self, reduceIte, reduceCtorEq, decide_true, decide_false, Bool.false_eq_true, List.dropLast, List.getLastD, List.getLast_singleton, List.getLast_cons_cons, List.getLast, List.dropLast_singleton, List.nil_append, List.cons_append, List.length_cons, List.length_nil, List.take, Int.cast_ofNat_Int, Int.reduceAdd, Int.reducePow, Int.reduceSub, Int.reduceNeg, Nat.reduceAdd, Nat.reduceSub, Nat.reduceMod, Nat.reduceDiv, Nat.reducePow, Nat.reduceEqDiff, Nat.reduceLT, List.getD_cons_zero, List.getD_cons_succ, Int.reduceLT, bne_self_eq_false, Bool.true_and, Bool.and_true, Bool.false_and, bne_iff_ne, hna, hnb, nilS]; first | exact Ref.to rfl (by simp [sub, fget, hna, hnb]) | exact Ref.gc [2] rfl (by first | rfl | simp) (by simp [sub, fget, gcF, rnm, gcT, rnmL_ints, hna, hnb])) | (refine ⟨2, by omega, by omega, ?_⟩; simp only [cpS, lab2, h2a, h2b, cmpA, olr, if_true, if_false, ne_eq, not_true_eq_false, not_false_eq_true, and_true, true_and, and_false, false_and, and_self, reduceIte, reduceCtorEq, decide_true, decide_false, Bool.false_eq_true, List.dropLast, List.getLastD, List.getLast_singleton, List.getLast_cons_cons, List.getLast, List.dropLast_singleton, List.nil_append, List.cons_append, List.length_cons, List.length_nil, List.take, Int.cast_ofNat_Int, Int.reduceAdd, Int.reducePow, Int.reduceSub, Int.reduceNeg, Nat.reduceAdd, Nat.reduceSub, Nat.reduceMod, Nat.reduceDiv, Nat.reducePow, Nat.reduceEqDiff, Nat.reduceLT, List.getD_cons_zero, List.getD_cons_succ, Int.reduceLT, bne_self_eq_false, Bool.true_and, Bool.and_true, Bool.false_and, bne_iff_ne, hna, hnb, nilS]; first | exact Ref.to rfl (by simp [sub, fget, hna, hnb]) | exact Ref.gc [2] rfl (by first | rfl | simp) (by simp [sub, fget, gcF, rnm, gcT, rnmL_ints, hna, hnb])) | (refine ⟨3, by omega, by omega, ?_⟩; simp only [cpS, lab2, h2a, h2b, cmpA, olr, if_true, if_false, ne_eq, not_true_eq_false, not_false_eq_true, and_true, true_and, and_false, false_and, and_self, reduceIte, reduceCtorEq, decide_true, decide_false, Bool.false_eq_true, List.dropLast, List.getLastD, List.getLast_singleton, List.getLast_cons_cons, List.getLast, List.dropLast_singleton, List.nil_append, List.cons_append, List.length_cons, List.length_nil, List.take, Int.cast_ofNat_Int, Int.reduceAdd, Int.reducePow, Int.reduceSub, Int.reduceNeg, Nat.reduceAdd, Nat.reduceSub, Nat.reduceMod, Nat.reduceDiv, Nat.reducePow, Nat.reduceEqDiff, Nat.reduceLT, List.getD_cons_zero, List.getD_cons_succ, Int.reduceLT, bne_self_eq_false, Bool.true_and, Bool.and_true, Bool.false_and, bne_iff_ne, hna, hnb, nilS]; first | exact Ref.to rfl (by simp [sub, fget, hna, hnb]) | exact Ref.gc [2] rfl (by first | rfl | simp) (by simp [sub, fget, gcF, rnm, gcT, rnmL_ints, hna, hnb]))))
    · refine V_altsS [(0, ints [a, b]), (1, i64 7), (5, .sl 0 2 0 1), (7, i64 1), (11, i64 3), (12, i64 1)] [some [i64 3, oints [a]]] ?_ ?_
      · repeat' first
          | simp only [Nat.reduceSub, Nat.reduceMul, Nat.zero_mul, Nat.sub_self, List.getD_cons_zero, List.getD_cons_succ, Int.sub_self, Int.reduceSub, Int.toNat_zero, Int.toNat_one, go_sem, ↓reduceIte, Nat.reduceEqDiff, Nat.reduceAdd, reduceCtorEq]
          | with_reducible refine LT_reg ?_
          | with_reducible refine LT_fin ?_
          | with_reducible exact LT_tt
          | with_reducible refine LT_alt ?_ ?_
          | (with_reducible refine And.intro ?_ ?_; focus first | assumption | omega | decide | grind)
        all_goals exact (Ref.close 0 1 2 (k := 1) (n := 1) (cs2 := intsC [a]) rfl rfl rfl (by decide) (by simp [intsC])).trans (Ref.gc [0] rfl rfl (by simp [sub, fget, gcF, rnm, gcT, rnmL_ints]))
      · (repeat first | simp only [e1, e2, or12, or34, or14, or24, Nat.reduceSub, Nat.reduceMul, Nat.zero_mul, Nat.sub_self, List.getD_cons_zero, List.getD_cons_succ, go_sem, ↓reduceIte, Nat.reduceEqDiff, Nat.reduceAdd, reduceCtorEq] | refine RX ?_ | decide)
        refine pureC1 (hsz) ?_
        (repeat first | simp only [e1, e2, or12, or34, or14, or24, Nat.reduceSub, Nat.reduceMul, Nat.zero_mul, Nat.sub_self, List.getD_cons_zero, List.getD_cons_succ, go_sem, ↓reduceIte, Nat.reduceEqDiff, Nat.reduceAdd, reduceCtorEq] | refine RX ?_ | decide)
        all_goals (try (first | (refine ⟨1, by omega, by omega, ?_⟩; simp only [cpS, lab2, h2a, h2b, cmpA, olr, if_true, if_false, ne_eq, not_true_eq_false, not_false_eq_true, and_true, true_and, and_false, false_and, and_self, reduceIte, reduceCtorEq, decide_true, decide_false, Bool.false_eq_true, List.dropLast, List.getLastD, List.getLast_singleton, List.getLast_cons_cons, List.getLast, List.dropLast_singleton, List.nil_append, List.cons_append, List.length_cons, List.length_nil, List.take, Int.cast_ofNat_Int, Int.reduceAdd, Int.reducePow, Int.reduceSub, Int.reduceNeg, Nat.reduceAdd, Nat.reduceSub, Nat.reduceMod, Nat.reduceDiv, Nat.reducePow, Nat.reduceEqDiff, Nat.reduceLT, List.getD_cons_zero, List.getD_cons_succ, Int.reduceLT, bne_self_eq_false, Bool.true_and, Bool.and_true, Bool.false_and, bne_iff_ne, hna, hnb, nilS]; done) | (refine ⟨1, by omega, by omega, ?_⟩; simp only [cpS, lab2, h2a, h2b, cmpA, olr, if_true, if_false, ne_eq, not_true_eq_false, not_false_eq_true, and_true, true_and, and_false, false_and, and_self, reduceIte, reduceCtorEq, decide_true, decide_false, Bool.false_eq_true, List.dropLast, List.getLastD, List.getLast_singleton, List.getLast_cons_cons, List.getLast, List.dropLast_singleton, List.nil_append, List.cons_append, List.length_cons, List.length_nil, List.take, Int.cast_ofNat_Int, Int.reduceAdd, Int.reducePow, Int.reduceSub, Int.reduceNeg, Nat.reduceAdd, Nat.reduceSub, Nat.reduceMod, Nat.reduceDiv, Nat.reducePow, Nat.reduceEqDiff, Nat.reduceLT, List.getD_cons_zero, List.getD_cons_succ, Int.reduceLT, bne_self_eq_false, Bool.true_and, Bool.and_true, Bool.false_and, bne_iff_ne, hna, hnb, nilS]; first | exact Ref.to rfl (by simp [sub, fget, hna, hnb]) | exact Ref.gc [2] rfl (by first | rfl | simp) (by simp [sub, fget, gcF, rnm, gcT, rnmL_ints, hna, hnb])) | (refine ⟨2, by omega, by omega, ?_⟩; simp only [cpS, lab2, h2a, h2b, cmpA, olr, if_true, if_false, ne_eq, not_true_eq_false, not_false_eq_true, and_true, true_and, and_false, false_and, and_self, reduceIte, reduceCtorEq, decide_true, decide_false, Bool.false_eq_true, List.dropLast, List.getLastD, List.getLast_singleton, List.getLast_cons_cons, List.getLast, List.dropLast_singleton, List.nil_append, List.cons_append, List.length_cons, List.length_nil, List.take, Int.cast_ofNat_Int, Int.reduceAdd, Int.reducePow, Int.reduceSub, Int.reduceNeg, Nat.reduceAdd, Nat.reduceSub, Nat.reduceMod, Nat.reduceDiv, Nat.reducePow, Nat.reduceEqDiff, Nat.reduceLT, List.getD_cons_zero, List.getD_cons_succ, Int.reduceLT, bne_self_eq_false, Bool.true_and, Bool.and_true, Bool.false_and, bne_iff_ne, hna, hnb, nilS]; first | exact Ref.to rfl (by simp [sub, fget, hna, hnb]) | exact Ref.gc [2] rfl (by first | rfl | simp) (by simp [sub, fget, gcF, rnm, gcT, rnmL_ints, hna, hnb])) | (refine ⟨3, by omega, by omega, ?_⟩; simp only [cpS, lab2, h2a, h2b, cmpA, olr, if_true, if_false, ne_eq, not_true_eq_false, not_false_eq_true, and_true, true_and, and_false, false_and, and_self, reduceIte, reduceCtorEq, decide_true, decide_false, Bool.false_eq_true, List.dropLast, List.getLastD, List.getLast_singleton, List.getLast_cons_cons, List.getLast, List.dropLast_singleton, List.nil_append, List.cons_append, List.length_cons, List.length_nil, List.take, Int.cast_ofNat_Int, Int.reduceAdd, Int.reducePow, Int.reduceSub, Int.reduceNeg, Nat.reduceAdd, Nat.reduceSub, Nat.reduceMod, Nat.reduceDiv, Nat.reducePow, Nat.reduceEqDiff, Nat.reduceLT, List.getD_cons_zero, List.getD_cons_succ, Int.reduceLT, bne_self_eq_false, Bool.true_and, Bool.and_true, Bool.false_and, bne_iff_ne, hna, hnb, nilS]; first | exact Ref.to rfl (by simp [sub, fget, hna, hnb]) | exact Ref.gc [2] rfl (by first | rfl | simp) (by simp [sub, fget, gcF, rnm, gcT, rnmL_ints, hna, hnb]))))
    · refine V_altsS [(0, ints [a, b]), (1, i64 7), (5, .sl 0 2 0 1), (7, i64 1), (11, i64 3), (12, i64 1)] [some [i64 3, oints [a]]] ?_ ?_
      · repeat' first
          | simp only [Nat.reduceSub, Nat.reduceMul, Nat.zero_mul, Nat.sub_self, List.getD_cons_zero, List.getD_cons_succ, Int.sub_self, Int.reduceSub, Int.toNat_zero, Int.toNat_one, go_sem, ↓reduceIte, Nat.reduceEqDiff, Nat.reduceAdd, reduceCtorEq]
          | with_reducible refine LT_reg ?_
          | with_reducible refine LT_fin ?_
          | with_reducible exact LT_tt
          | with_reducible refine LT_alt ?_ ?_
          | (with_reducible refine And.intro ?_ ?_; focus first | assumption | omega | decide | grind)
        all_goals exact (Ref.close 0 1 2 (k := 1) (n := 1) (cs2 := intsC [a]) rfl rfl rfl (by decide) (by simp [intsC])).trans (Ref.gc [0] rfl rfl (by simp [sub, fget, gcF, rnm, gcT, rnmL_ints]))
      · (repeat first | simp only [e1, e2, or12, or34, or14, or24, Nat.reduceSub, Nat.reduceMul, Nat.zero_mul, Nat.sub_self, List.getD_cons_zero, List.getD_cons_succ, go_sem, ↓reduceIte, Nat.reduceEqDiff, Nat.reduceAdd, reduceCtorEq] | refine RX ?_ | decide)
        refine pureC1 (hsz) ?_
        (repeat first | simp only [e1, e2, or12, or34, or14, or24, Nat.reduceSub, Nat.reduceMul, Nat.zero_mul, Nat.sub_self, List.getD_cons_zero, List.getD_cons_succ, go_sem, ↓reduceIte, Nat.reduceEqDiff, Nat.reduceAdd, reduceCtorEq] | refine RX ?_ | decide)
        all_goals (try (first | (refine ⟨1, by omega, by omega, ?_⟩; simp only [cpS, lab2, h2a, h2b, cmpA, olr, if_true, if_false, ne_eq, not_true_eq_false, not_false_eq_true, and_true, true_and, and_false, false_and, and_self, reduceIte, reduceCtorEq, decide_true, decide_false, Bool.false_eq_true, List.dropLast, List.getLastD, List.getLast_singleton, List.getLast_cons_cons, List.getLast, List.dropLast_singleton, List.nil_append, List.cons_append, List.length_cons, List.length_nil, List.take, Int.cast_ofNat_Int, Int.reduceAdd, Int.reducePow, Int.reduceSub, Int.reduceNeg, Nat.reduceAdd, Nat.reduceSub, Nat.reduceMod, Nat.reduceDiv, Nat.reducePow, Nat.reduceEqDiff, Nat.reduceLT, List.getD_cons_zero, List.getD_cons_succ, Int.reduceLT, bne_self_eq_false, Bool.true_and, Bool.and_true, Bool.false_and, bne_iff_ne, hna, hnb, nilS]; done) | (refine ⟨1, by omega, by omega, ?_⟩; simp only [cpS, lab2, h2a, h2b, cmpA, olr, if_true, if_false, ne_eq, not_true_eq_false, not_false_eq_true, and_true, true_and, and_false, false_and, and_self, reduceIte, reduceCtorEq, decide_true, decide_false, Bool.false_eq_true, List.dropLast, List.getLastD, List.getLast_singleton, List.getLast_cons_cons, List.getLast, List.dropLast_singleton, List.nil_append, List.cons_append, List.length_cons, List.length_nil, List.take, Int.cast_ofNat_Int, Int.reduceAdd, Int.reducePow, Int.reduceSub, Int.reduceNeg, Nat.reduceAdd, Nat.reduceSub, Nat.reduceMod, Nat.reduceDiv, Nat.reducePow, Nat.reduceEqDiff, Nat.reduceLT, List.getD_cons_zero, List.getD_cons_succ, Int.reduceLT, bne_self_eq_false, Bool.true_and, Bool.and_true, Bool.false_and, bne_iff_ne, hna, hnb, nilS]; first | exact Ref.to rfl (by simp [sub, fget, hna, hnb]) | exact Ref.gc [2] rfl (by first | rfl | simp) (by simp [sub, fget, gcF, rnm, gcT, rnmL_ints, hna, hnb])) | (refine ⟨2, by omega, by omega, ?_⟩; simp only [cpS, lab2, h2a, h2b, cmpA, olr, if_true, if_false, ne_eq, not_true_eq_false, not_false_eq_true, and_true, true_and, and_false, false_and, and_self, reduceIte, reduceCtorEq, decide_true, decide_false, Bool.false_eq_true, List.dropLast, List.getLastD, List.getLast_singleton, List.getLast_cons_cons, List.getLast, List.dropLast_singleton, List.nil_append, List.cons_append, List.length_cons, List.length_nil, List.take, Int.cast_ofNat_Int, Int.reduceAdd, Int.reducePow, Int.reduceSub, Int.reduceNeg, Nat.reduceAdd, Nat.reduceSub, Nat.reduceMod, Nat.reduceDiv, Nat.reducePow, Nat.reduceEqDiff, Nat.reduceLT, List.getD_cons_zero, List.getD_cons_succ, Int.reduceLT, bne_self_eq_false, Bool.true_and, Bool.and_true, Bool.false_and, bne_iff_ne, hna, hnb, nilS]; first | exact Ref.to rfl (by simp [sub, fget, hna, hnb]) | exact Ref.gc [2] rfl (by first | rfl | simp) (by simp [sub, fget, gcF, rnm, gcT, rnmL_ints, hna, hnb])) | (refine ⟨3, by omega, by omega, ?_⟩; simp only [cpS, lab2, h2a, h2b, cmpA, olr, if_true, if_false, ne_eq, not_true_eq_false, not_false_eq_true, and_true, true_and, and_false, false_and, and_self, reduceIte, reduceCtorEq, decide_true, decide_false, Bool.false_eq_true, List.dropLast, List.getLastD, List.getLast_singleton, List.getLast_cons_cons, List.getLast, List.dropLast_singleton, List.nil_append, List.cons_append, List.length_cons, List.length_nil, List.take, Int.cast_ofNat_Int, Int.reduceAdd, Int.reducePow, Int.reduceSub, Int.reduceNeg, Nat.reduceAdd, Nat.reduceSub, Nat.reduceMod, Nat.reduceDiv, Nat.reducePow, Nat.reduceEqDiff, Nat.reduceLT, List.getD_cons_zero, List.getD_cons_succ, Int.reduceLT, bne_self_eq_false, Bool.true_and, Bool.and_true, Bool.false_and, bne_iff_ne, hna, hnb, nilS]; first | exact Ref.to rfl (by simp [sub, fget, hna, hnb]) | exact Ref.gc [2] rfl (by first | rfl | simp) (by simp [sub, fget, gcF, rnm, gcT, rnmL_ints, hna, hnb]))))
    · refine V_altsS [(0, ints [a, b]), (1, i64 6), (5, .sl 0 2 0 1), (7, i64 2), (11, i64 3), (12, i64 2)] [some [i64 6, oints [b]]] ?_ ?_
      · repeat' first
          | simp only [Nat.reduceSub, Nat.reduceMul, Nat.zero_mul, Nat.sub_self, List.getD_cons_zero, List.getD_cons_succ, Int.sub_self, Int.reduceSub, Int.toNat_zero, Int.toNat_one, go_sem, ↓reduceIte, Nat.reduceEqDiff, Nat.reduceAdd, reduceCtorEq]
          | with_reducible refine LT_reg ?_
          | with_reducible refine LT_fin ?_
          | with_reducible exact LT_tt
          | with_reducible refine LT_alt ?_ ?_
          | (with_reducible refine And.intro ?_ ?_; focus first | assumption | omega | decide | grind)
        all_goals exact (Ref.close 0 1 2 (k := 1) (n := 1) (cs2 := intsC [b]) rfl rfl rfl (by decide) (by simp [intsC])).trans (Ref.gc [0] rfl rfl (by simp [sub, fget, gcF, rnm, gcT, rnmL_ints]))
      · (repeat first | simp only [e1, e2, or12, or34, or14, or24, Nat.reduceSub, Nat.reduceMul, Nat.zero_mul, Nat.sub_self, List.getD_cons_zero, List.getD_cons_succ, go_sem, ↓reduceIte, Nat.reduceEqDiff, Nat.reduceAdd, reduceCtorEq] | refine RX ?_ | decide)
        refine pureC1 (hsz) ?_
        (repeat first | simp only [e1, e2, or12, or34, or14, or24, Nat.reduceSub, Nat.reduceMul, Nat.zero_mul, Nat.sub_self, List.getD_cons_zero, List.getD_cons_succ, go_sem, ↓reduceIte, Nat.reduceEqDiff, Nat.reduceAdd, reduceCtorEq] | refine RX ?_ | decide)
        all_goals (try (first | (refine ⟨1, by omega, by omega, ?_⟩; simp only [cpS, lab2, h2a, h2b, cmpA, olr, if_true, if_false, ne_eq, not_true_eq_false, not_false_eq_true, and_true, true_and, and_false, false_and, and_self, reduceIte, reduceCtorEq, decide_true, decide_false, Bool.false_eq_true, List.dropLast, List.getLastD, List.getLast_singleton, List.getLast_cons_cons, List.getLast, List.dropLast_singleton, List.nil_append, List.cons_append, List.length_cons, List.length_nil, List.take, Int.cast_ofNat_Int, Int.reduceAdd, Int.reducePow, Int.reduceSub, Int.reduceNeg, Nat.reduceAdd, Nat.reduceSub, Nat.reduceMod, Nat.reduceDiv, Nat.reducePow, Nat.reduceEqDiff, Nat.reduceLT, List.getD_cons_zero, List.getD_cons_succ, Int.reduceLT, bne_self_eq_false, Bool.true_and, Bool.and_true, Bool.false_and, bne_iff_ne, hna, hnb, nilS]; done) | (refine ⟨1, by omega, by omega, ?_⟩; simp only [cpS, lab2, h2a, h2b, cmpA, olr, if_true, if_false, ne_eq, not_true_eq_false, not_false_eq_true, and_true, true_and, and_false, false_and, and_self, reduceIte, reduceCtorEq, decide_true, decide_false, Bool.false_eq_true, List.dropLast, List.getLastD, List.getLast_singleton, List.getLast_cons_cons, List.getLast, List.dropLast_singleton, List.nil_append, List.cons_append, List.length_cons, List.length_nil, List.take, Int.cast_ofNat_Int, Int.reduceAdd, Int.reducePow, Int.reduceSub, Int.reduceNeg, Nat.reduceAdd, Nat.reduceSub, Nat.reduceMod, Nat.reduceDiv, Nat.reducePow, Nat.reduceEqDiff, Nat.reduceLT, List.getD_cons_zero, List.getD_cons_succ, Int.reduceLT, bne_self_eq_false, Bool.true_and, Bool.and_true, Bool.false_and, bne_iff_ne, hna, hnb, nilS]; first | exact Ref.to rfl (by simp [sub, fget, hna, hnb]) | exact Ref.gc [2] rfl (by first | rfl | simp) (by simp [sub, fget, gcF, rnm, gcT, rnmL_ints, hna, hnb])) | (refine ⟨2, by omega, by omega, ?_⟩; simp only [cpS, lab2, h2a, h2b, cmpA, olr, if_true, if_false, ne_eq, not_true_eq_false, not_false_eq_true, and_true, true_and, and_false, false_and, and_self, reduceIte, reduceCtorEq, decide_true, decide_false, Bool.false_eq_true, List.dropLast, List.getLastD, List.getLast_singleton, List.getLast_cons_cons, List.getLast, List.dropLast_singleton, List.nil_append, List.cons_append, List.length_cons, List.length_nil, List.take, Int.cast_ofNat_Int, Int.reduceAdd, Int.reducePow, Int.reduceSub, Int.reduceNeg, Nat.reduceAdd, Nat.reduceSub, Nat.reduceMod, Nat.reduceDiv, Nat.reducePow, Nat.reduceEqDiff, Nat.reduceLT, List.getD_cons_zero, List.getD_cons_succ, Int.reduceLT, bne_self_eq_false, Bool.true_and, Bool.and_true, Bool.false_and, bne_iff_ne, hna, hnb, nilS]; first | exact Ref.to rfl (by simp [sub, fget, hna, hnb]) | exact Ref.gc [2] rfl (by first | rfl | simp) (by simp [sub, fget, gcF, rnm, gcT, rnmL_ints, hna, hnb])) | (refine ⟨3, by omega, by omega, ?_⟩; simp only [cpS, lab2, h2a, h2b, cmpA, olr, if_true, if_false, ne_eq, not_true_eq_false, not_false_eq_true, and_true, true_and, and_false, false_and, and_self, reduceIte, reduceCtorEq, decide_true, decide_false, Bool.false_eq_true, List.dropLast, List.getLastD, List.getLast_singleton, List.getLast_cons_cons, List.getLast, List.dropLast_singleton, List.nil_append, List.cons_append, List.length_cons, List.length_nil, List.take, Int.cast_ofNat_Int, Int.reduceAdd, Int.reducePow, Int.reduceSub, Int.reduceNeg, Nat.reduceAdd, Nat.reduceSub, Nat.reduceMod, Nat.reduceDiv, Nat.reducePow, Nat.reduceEqDiff, Nat.reduceLT, List.getD_cons_zero, List.getD_cons_succ, Int.reduceLT, bne_self_eq_false, Bool.true_and, Bool.and_true, Bool.false_and, bne_iff_ne, hna, hnb, nilS]; first | exact Ref.to rfl (by simp [sub, fget, hna, hnb]) | exact Ref.gc [2] rfl (by first | rfl | simp) (by simp [sub, fget, gcF, rnm, gcT, rnmL_ints, hna, hnb]))))
    · refine V_altsS [(0, ints [a, b]), (1, i64 6), (5, .sl 0 2 0 1), (7, i64 2), (11, i64 3), (12, i64 2)] [some [i64 6, oints [b]]] ?_ ?_
      · repeat' first
          | simp only [Nat.reduceSub, Nat.reduceMul, Nat.zero_mul, Nat.sub_self, List.getD_cons_zero, List.getD_cons_succ, Int.sub_self, Int.reduceSub, Int.toNat_zero, Int.toNat_one, go_sem, ↓reduceIte, Nat.reduceEqDiff, Nat.reduceAdd, reduceCtorEq]
          | with_reducible refine LT_reg ?_
          | with_reducible refine LT_fin ?_
          | with_reducible exact LT_tt
          | with_reducible refine LT_alt ?_ ?_
          | (with_reducible refine And.intro ?_ ?_; focus first | assumption | omega | decide | grind)
        all_goals exact (Ref.close 0 1 2 (k := 1) (n := 1) (cs2 := intsC [b]) rfl rfl rfl (by decide) (by simp [intsC])).trans (Ref.gc [0] rfl rfl (by simp [sub, fget, gcF, rnm, gcT, rnmL_ints]))
      · (repeat first | simp only [e1, e2, or12, or34, or14, or24, Nat.reduceSub, Nat.reduceMul, Nat.zero_mul, Nat.sub_self, List.getD_cons_zero, List.getD_cons_succ, go_sem, ↓reduceIte, Nat.reduceEqDiff, Nat.reduceAdd, reduceCtorEq] | refine RX ?_ | decide)
        refine pureC1 (hsz) ?_
        (repeat first | simp only [e1, e2, or12, or34, or14, or24, Nat.reduceSub, Nat.reduceMul, Nat.zero_mul, Nat.sub_self, List.getD_cons_zero, List.getD_cons_succ, go_sem, ↓reduceIte, Nat.reduceEqDiff, Nat.reduceAdd, reduceCtorEq] | refine RX ?_ | decide)
        all_goals (try (first | (refine ⟨1, by omega, by omega, ?_⟩; simp only [cpS, lab2, h2a, h2b, cmpA, olr, if_true, if_false, ne_eq, not_true_eq_false, not_false_eq_true, and_true, true_and, and_false, false_and, and_self, reduceIte, reduceCtorEq, decide_true, decide_false, Bool.false_eq_true, List.dropLast, List.getLastD, List.getLast_singleton, List.getLast_cons_cons, List.getLast, List.dropLast_singleton, List.nil_append, List.cons_append, List.length_cons, List.length_nil, List.take, Int.cast_ofNat_Int, Int.reduceAdd, Int.reducePow, Int.reduceSub, Int.reduceNeg, Nat.reduceAdd, Nat.reduceSub, Nat.reduceMod, Nat.reduceDiv, Nat.reducePow, Nat.reduceEqDiff, Nat.reduceLT, List.getD_cons_zero, List.getD_cons_succ, Int.reduceLT, bne_self_eq_false, Bool.true_and, Bool.and_true, Bool.false_and, bne_iff_ne, hna, hnb, nilS]; done) | (refine ⟨1, by omega, by omega, ?_⟩; simp only [cpS, lab2, h2a, h2b, cmpA, olr, if_true, if_false, ne_eq, not_true_eq_false, not_false_eq_true, and_true, true_and, and_false, false_and, and_self, reduceIte, reduceCtorEq, decide_true, decide_false, Bool.false_eq_true, List.dropLast, List.getLastD, List.getLast_singleton, List.getLast_cons_cons, List.getLast, List.dropLast_singleton, List.nil_append, List.cons_append, List.length_cons, List.length_nil, List.take, Int.cast_ofNat_Int, Int.reduceAdd, Int.reducePow, Int.reduceSub, Int.reduceNeg, Nat.reduceAdd, Nat.reduceSub, Nat.reduceMod, Nat.reduceDiv, Nat.reducePow, Nat.reduceEqDiff, Nat.reduceLT, List.getD_cons_zero, List.getD_cons_succ, Int.reduceLT, bne_self_eq_false, Bool.true_and, Bool.and_true, Bool.false_and, bne_iff_ne, hna, hnb, nilS]; first | exact Ref.to rfl (by simp [sub, fget, hna, hnb]) | exact Ref.gc [2] rfl (by first | rfl | simp) (by simp [sub, fget, gcF, rnm, gcT, rnmL_ints, hna, hnb])) | (refine ⟨2, by omega, by omega, ?_⟩; simp only [cpS, lab2, h2a, h2b, cmpA, olr, if_true, if_false, ne_eq, not_true_eq_false, not_false_eq_true, and_true, true_and, and_false, false_and, and_self, reduceIte, reduceCtorEq, decide_true, decide_false, Bool.false_eq_true, List.dropLast, List.getLastD, List.getLast_singleton, List.getLast_cons_cons, List.getLast, List.dropLast_singleton, List.nil_append, List.cons_append, List.length_cons, List.length_nil, List.take, Int.cast_ofNat_Int, Int.reduceAdd, Int.reducePow, Int.reduceSub, Int.reduceNeg, Nat.reduceAdd, Nat.reduceSub, Nat.reduceMod, Nat.reduceDiv, Nat.reducePow, Nat.reduceEqDiff, Nat.reduceLT, List.getD_cons_zero, List.getD_cons_succ, Int.reduceLT, bne_self_eq_false, Bool.true_and, Bool.and_true, Bool.false_and, bne_iff_ne, hna, hnb, nilS]; first | exact Ref.to rfl (by simp [sub, fget, hna, hnb]) | exact Ref.gc [2] rfl (by first | rfl | simp) (by simp [sub, fget, gcF, rnm, gcT, rnmL_ints, hna, hnb])) | (refine ⟨3, by omega, by omega, ?_⟩; simp only [cpS, lab2, h2a, h2b, cmpA, olr, if_true, if_false, ne_eq, not_true_eq_false, not_false_eq_true, and_true, true_and, and_false, false_and, and_self, reduceIte, reduceCtorEq, decide_true, decide_false, Bool.false_eq_true, List.dropLast, List.getLastD, List.getLast_singleton, List.getLast_cons_cons, List.getLast, List.dropLast_singleton, List.nil_append, List.cons_append, List.length_cons, List.length_nil, List.take, Int.cast_ofNat_Int, Int.reduceAdd, Int.reducePow, Int.reduceSub, Int.reduceNeg, Nat.reduceAdd, Nat.reduceSub, Nat.reduceMod, Nat.reduceDiv, Nat.reducePow, Nat.reduceEqDiff, Nat.reduceLT, List.getD_cons_zero, List.getD_cons_succ, Int.reduceLT, bne_self_eq_false, Bool.true_and, Bool.and_true, Bool.false_and, bne_iff_ne, hna, hnb, nilS]; first | exact Ref.to rfl (by simp [sub, fget, hna, hnb]) | exact Ref.gc [2] rfl (by first | rfl | simp) (by simp [sub, fget, gcF, rnm, gcT, rnmL_ints, hna, hnb]))))
    · refine V_altsS [(0, ints [a, b]), (1, i64 7), (5, .sl 0 2 0 2), (7, i64 2), (11, i64 3), (12, i64 2)] [some [i64 1, nilS, i64 6, oints [b]]] ?_ ?_
      · repeat' first
          | simp only [Nat.reduceSub, Nat.reduceMul, Nat.zero_mul, Nat.sub_self, List.getD_cons_zero, List.getD_cons_succ, Int.sub_self, Int.reduceSub, Int.toNat_zero, Int.toNat_one, go_sem, ↓reduceIte, Nat.reduceEqDiff, Nat.reduceAdd, reduceCtorEq]
          | with_reducible refine LT_reg ?_
          | with_reducible refine LT_fin ?_
          | with_reducible exact LT_tt
          | with_reducible refine LT_alt ?_ ?_
          | (with_reducible refine And.intro ?_ ?_; focus first | assumption | omega | decide | grind)
        all_goals exact (Ref.close 0 3 2 (k := 1) (n := 1) (cs2 := intsC [b]) rfl rfl rfl (by decide) (by simp [intsC])).trans (Ref.gc [0] rfl rfl (by simp [sub, fget, gcF, rnm, gcT, rnmL_ints]))
      · (repeat first | simp only [e1, e2, or12, or34, or14, or24, Nat.reduceSub, Nat.reduceMul, Nat.zero_mul, Nat.sub_self, List.getD_cons_zero, List.getD_cons_succ, go_sem, ↓reduceIte, Nat.reduceEqDiff, Nat.reduceAdd, reduceCtorEq] | refine RX ?_ | decide)
        refine pureC1 (hsz) ?_
        (repeat first | simp only [e1, e2, or12, or34, or14, or24, Nat.reduceSub, Nat.reduceMul, Nat.zero_mul, Nat.sub_self, List.getD_cons_zero, List.getD_cons_succ, go_sem, ↓reduceIte, Nat.reduceEqDiff, Nat.reduceAdd, reduceCtorEq] | refine RX ?_ | decide)
        all_goals (try (first | (refine ⟨1, by omega, by omega, ?_⟩; simp only [cpS, lab2, h2a, h2b, cmpA, olr, if_true, if_false, ne_eq, not_true_eq_false, not_false_eq_true, and_true, true_and, and_false, false_and, and_self, reduceIte, reduceCtorEq, decide_true, decide_false, Bool.false_eq_true, List.dropLast, List.getLastD, List.getLast_singleton, List.getLast_cons_cons, List.getLast, List.dropLast_singleton, List.nil_append, List.cons_append, List.length_cons, List.length_nil, List.take, Int.cast_ofNat_Int, Int.reduceAdd, Int.reducePow, Int.reduceSub, Int.reduceNeg, Nat.reduceAdd, Nat.reduceSub, Nat.reduceMod, Nat.reduceDiv, Nat.reducePow, Nat.reduceEqDiff, Nat.reduceLT, List.getD_cons_zero, List.getD_cons_succ, Int.reduceLT, bne_self_eq_false, Bool.true_and, Bool.and_true, Bool.false_and, bne_iff_ne, hna, hnb, nilS]; done) | (refine ⟨1, by omega, by omega, ?_⟩; simp only [cpS, lab2, h2a, h2b, cmpA, olr, if_true, if_false, ne_eq, not_true_eq_false, not_false_eq_true, and_true, true_and, and_false, false_and, and_self, reduceIte, reduceCtorEq, decide_true, decide_false, Bool.false_eq_true, List.dropLast, List.getLastD, List.getLast_singleton, List.getLast_cons_cons, List.getLast, List.dropLast_singleton, List.nil_append, List.cons_append, List.length_cons, List.length_nil, List.take, Int.cast_ofNat_Int, Int.reduceAdd, Int.reducePow, Int.reduceSub, Int.reduceNeg, Nat.reduceAdd, Nat.reduceSub, Nat.reduceMod, Nat.reduceDiv, Nat.reducePow, Nat.reduceEqDiff, Nat.reduceLT, List.getD_cons_zero, List.getD_cons_succ, Int.reduceLT, bne_self_eq_false, Bool.true_and, Bool.and_true, Bool.false_and, bne_iff_ne, hna, hnb, nilS]; first | exact Ref.to rfl (by simp [sub, fget, hna, hnb]) | exact Ref.gc [2] rfl (by first | rfl | simp) (by simp [sub, fget, gcF, rnm, gcT, rnmL_ints, hna, hnb])) | (refine ⟨2, by omega, by omega, ?_⟩; simp only [cpS, lab2, h2a, h2b, cmpA, olr, if_true, if_false, ne_eq, not_true_eq_false, not_false_eq_true, and_true, true_and, and_false, false_and, and_self, reduceIte, reduceCtorEq, decide_true, decide_false, Bool.false_eq_true, List.dropLast, List.getLastD, List.getLast_singleton, List.getLast_cons_cons, List.getLast, List.dropLast_singleton, List.nil_append, List.cons_append, List.length_cons, List.length_nil, List.take, Int.cast_ofNat_Int, Int.reduceAdd, Int.reducePow, Int.reduceSub, Int.reduceNeg, Nat.reduceAdd, Nat.reduceSub, Nat.reduceMod, Nat.reduceDiv, Nat.reducePow, Nat.reduceEqDiff, Nat.reduceLT, List.getD_cons_zero, List.getD_cons_succ, Int.reduceLT, bne_self_eq_false, Bool.true_and, Bool.and_true, Bool.false_and, bne_iff_ne, hna, hnb, nilS]; first | exact Ref.to rfl (by simp [sub, fget, hna, hnb]) | exact Ref.gc [2] rfl (by first | rfl | simp) (by simp [sub, fget, gcF, rnm, gcT, rnmL_ints, hna, hnb])) | (refine ⟨3, by omega, by omega, ?_⟩; simp only [cpS, lab2, h2a, h2b, cmpA, olr, if_true, if_false, ne_eq, not_true_eq_false, not_false_eq_true, and_true, true_and, and_false, false_and, and_self, reduceIte, reduceCtorEq, decide_true, decide_false, Bool.false_eq_true, List.dropLast, List.getLastD, List.getLast_singleton, List.getLast_cons_cons, List.getLast, List.dropLast_singleton, List.nil_append, List.cons_append, List.length_cons, List.length_nil, List.take, Int.cast_ofNat_Int, Int.reduceAdd, Int.reducePow, Int.reduceSub, Int.reduceNeg, Nat.reduceAdd, Nat.reduceSub, Nat.reduceMod, Nat.reduceDiv, Nat.reducePow, Nat.reduceEqDiff, Nat.reduceLT, List.getD_cons_zero, List.getD_cons_succ, Int.reduceLT, bne_self_eq_false, Bool.true_and, Bool.and_true, Bool.false_and, bne_iff_ne, hna, hnb, nilS]; first | exact Ref.to rfl (by simp [sub, fget, hna, hnb]) | exact Ref.gc [2] rfl (by first | rfl | simp) (by simp [sub, fget, gcF, rnm, gcT, rnmL_ints, hna, hnb]))))
    · refine V_ref ((Ref.open 0 1 (cs := [i64 7, oints [a]]) (cs2 := intsC [a]) (k := 1) (n := 1) rfl rfl).trans (Ref.to (F' := [(0, ints [a, b]), (1, i64 7), (5, .sl 0 2 0 1), (7, i64 2), (8, .ref 0 0), (11, i64 3), (12, i64 2)]) (H' := [some [i64 7, .sl 1 1 0 1], some (intsC [a])]) rfl (by simp [sub, fget]))) ?_
      refine V_altsS [(0, ints [a, b]), (1, i64 7), (5, .sl 0 2 0 1), (7, i64 2), (11, i64 3), (12, i64 2)] [some [i64 7, oints [a, b]]] ?_ ?_
      · repeat' first
          | simp only [Nat.reduceSub, Nat.reduceMul, Nat.zero_mul, Nat.sub_self, List.getD_cons_zero, List.getD_cons_succ, Int.sub_self, Int.reduceSub, Int.toNat_zero, Int.toNat_one, go_sem, ↓reduceIte, Nat.reduceEqDiff, Nat.reduceAdd, reduceCtorEq]
          | with_reducible refine LT_reg ?_
          | with_reducible refine LT_fin ?_
          | with_reducible exact LT_tt
          | with_reducible refine LT_alt ?_ ?_
          | (with_reducible refine And.intro ?_ ?_; focus first | assumption | omega | decide | grind)
        all_goals exact (Ref.close 0 1 3 (k := 1) (n := 2) (cs2 := intsC [a, b]) rfl rfl rfl (by decide) (by simp [intsC])).trans (Ref.gc [0] rfl rfl (by simp [sub, fget, gcF, rnm, gcT, rnmL_ints]))
      · (repeat first | simp only [e1, e2, or12, or34, or14, or24, Nat.reduceSub, Nat.reduceMul, Nat.zero_mul, Nat.sub_self, List.getD_cons_zero, List.getD_cons_succ, go_sem, ↓reduceIte, Nat.reduceEqDiff, Nat.reduceAdd, reduceCtorEq] | refine RX ?_ | decide)
        refine pureC1 (hsz) ?_
        (repeat first | simp only [e1, e2, or12, or34, or14, or24, Nat.reduceSub, Nat.reduceMul, Nat.zero_mul, Nat.sub_self, List.getD_cons_zero, List.getD_cons_succ, go_sem, ↓reduceIte, Nat.reduceEqDiff, Nat.reduceAdd, reduceCtorEq] | refine RX ?_ | decide)
        all_goals (try (first | (refine ⟨1, by omega, by omega, ?_⟩; simp only [cpS, lab2, h2a, h2b, cmpA, olr, if_true, if_false, ne_eq, not_true_eq_false, not_false_eq_true, and_true, true_and, and_false, false_and, and_self, reduceIte, reduceCtorEq, decide_true, decide_false, Bool.false_eq_true, List.dropLast, List.getLastD, List.getLast_singleton, List.getLast_cons_cons, List.getLast, List.dropLast_singleton, List.nil_append, List.cons_append, List.length_cons, List.length_nil, List.take, Int.cast_ofNat_Int, Int.reduceAdd, Int.reducePow, Int.reduceSub, Int.reduceNeg, Nat.reduceAdd, Nat.reduceSub, Nat.reduceMod, Nat.reduceDiv, Nat.reducePow, Nat.reduceEqDiff, Nat.reduceLT, List.getD_cons_zero, List.getD_cons_succ, Int.reduceLT, bne_self_eq_false, Bool.true_and, Bool.and_true, Bool.false_and, bne_iff_ne, hna, hnb, nilS]; done) | (refine ⟨1, by omega, by omega, ?_⟩; simp only [cpS, lab2, h2a, h2b, cmpA, olr, if_true, if_false, ne_eq, not_true_eq_false, not_false_eq_true, and_true, true_and, and_false, false_and, and_self, reduceIte, reduceCtorEq, decide_true, decide_false, Bool.false_eq_true, List.dropLast, List.getLastD, List.getLast_singleton, List.getLast_cons_cons, List.getLast, List.dropLast_singleton, List.nil_append, List.cons_append, List.length_cons, List.length_nil, List.take, Int.cast_ofNat_Int, Int.reduceAdd, Int.reducePow, Int.reduceSub, Int.reduceNeg, Nat.reduceAdd, Nat.reduceSub, Nat.reduceMod, Nat.reduceDiv, Nat.reducePow, Nat.reduceEqDiff, Nat.reduceLT, List.getD_cons_zero, List.getD_cons_succ, Int.reduceLT, bne_self_eq_false, Bool.true_and, Bool.and_true, Bool.false_and, bne_iff_ne, hna, hnb, nilS]; first | exact Ref.to rfl (by simp [sub, fget, hna, hnb]) | exact Ref.gc [2] rfl (by first | rfl | simp) (by simp [sub, fget, gcF, rnm, gcT, rnmL_ints, hna, hnb])) | (refine ⟨2, by omega, by omega, ?_⟩; simp only [cpS, lab2, h2a, h2b, cmpA, olr, if_true, if_false, ne_eq, not_true_eq_false, not_false_eq_true, and_true, true_and, and_false, false_and, and_self, reduceIte, reduceCtorEq, decide_true, decide_false, Bool.false_eq_true, List.dropLast, List.getLastD, List.getLast_singleton, List.getLast_cons_cons, List.getLast, List.dropLast_singleton, List.nil_append, List.cons_append, List.length_cons, List.length_nil, List.take, Int.cast_ofNat_Int, Int.reduceAdd, Int.reducePow, Int.reduceSub, Int.reduceNeg, Nat.reduceAdd, Nat.reduceSub, Nat.reduceMod, Nat.reduceDiv, Nat.reducePow, Nat.reduceEqDiff, Nat.reduceLT, List.getD_cons_zero, List.getD_cons_succ, Int.reduceLT, bne_self_eq_false, Bool.true_and, Bool.and_true, Bool.false_and, bne_iff_ne, hna, hnb, nilS]; first | exact Ref.to rfl (by simp [sub, fget, hna, hnb]) | exact Ref.gc [2] rfl (by first | rfl | simp) (by simp [sub, fget, gcF, rnm, gcT, rnmL_ints, hna, hnb])) | (refine ⟨3, by omega, by omega, ?_⟩; simp only [cpS, lab2, h2a, h2b, cmpA, olr, if_true, if_false, ne_eq, not_true_eq_false, not_false_eq_true, and_true, true_and, and_false, false_and, and_self, reduceIte, reduceCtorEq, decide_true, decide_false, Bool.false_eq_true, List.dropLast, List.getLastD, List.getLast_singleton, List.getLast_cons_cons, List.getLast, List.dropLast_singleton, List.nil_append, List.cons_append, List.length_cons, List.length_nil, List.take, Int.cast_ofNat_Int, Int.reduceAdd, Int.reducePow, Int.reduceSub, Int.reduceNeg, Nat.reduceAdd, Nat.reduceSub, Nat.reduceMod, Nat.reduceDiv, Nat.reducePow, Nat.reduceEqDiff, Nat.reduceLT, List.getD_cons_zero, List.getD_cons_succ, Int.reduceLT, bne_self_eq_false, Bool.true_and, Bool.and_true, Bool.false_and, bne_iff_ne, hna, hnb, nilS]; first | exact Ref.to rfl (by simp [sub, fget, hna, hnb]) | exact Ref.gc [2] rfl (by first | rfl | simp) (by simp [sub, fget, gcF, rnm, gcT, rnmL_ints, hna, hnb]))))
  · obtain rfl : i = 3 := by omega
    refine RN ?_
    exact Ref.refl
end Go.Proofs.YtfcbamfkfadabaaGreatDoor
set_option maxRecDepth 100000
namespace Go.Proofs.YtfcbamfkfadabaaGreatDoor
open Go.Gov
open Classical

set_option maxHeartbeats 1000000 in
theorem isEither_c (m : Int) (ls list : List Int) (hl : ls.length ≤ 1000) (h0 : 0 < list.length) (h1 : list.length ≤ 1000) : Pure Tryz.prog 210 [.agg [i64 m, ints ls], ints list] (bl (decide (ls = list) || decide (ls = list.reverse))) [] := by
  have hcl := clone_c list h0 (by omega)
  have hrv := reverse_c list (by omega)
  have he1 := equal_c ls list (by omega) (by omega)
  have he2 := equal_c ls list.reverse (by omega) (by simp; omega)
  have hlr : list.reverse.length = list.length := List.length_reverse
  have htk : (intsC list.reverse).take list.length = intsC list.reverse := by rw [← hlr, take_ints_len]
  refine pureV0 ok210 rfl rfl ?_; unfold c210
  refine RN ?_
  refine pureC1 (hcl) ?_
  refine RN ?_
  refine wriC1 (hrv) [1] ?_
  refine RN ?_
  refine pureC1 (he1) ?_
  refine RN ?_
  by_cases h1 : ls = list
  · simp only [h1, decide_true]
    refine RN ?_
    refine GCall.mk (bl true) (fun hg => absurd hg (by decide)) ?_
    (refine RN ?_; try with_reducible exact trivial)
  · simp only [h1, decide_false]
    refine RN ?_
    refine GCall.mk (bl (decide (ls = list.reverse))) (fun hg => ?_) ?_
    · exact pureC he2 (by simp only [go_sem, ↓reduceIte, Nat.reduceEqDiff, Nat.reduceAdd, reduceCtorEq, ints, htk, hlr]) (by simp only [go_sem, ↓reduceIte, Nat.reduceEqDiff, Nat.reduceAdd, reduceCtorEq]) ⟨rfl, rfl⟩
    · (refine RN ?_; try with_reducible exact trivial)
set_option maxHeartbeats 1000000 in
theorem gcd_c (a b : Int) (ha : 0 ≤ a ∧ a ≤ 1000000) (hb : 0 ≤ b ∧ b ≤ 1000000) : Pure Tryz.prog 175 [i64 a, i64 b] (i64 (Int.gcd a b : Int)) [] := by
  refine pureV ok175 rfl ?_; unfold c175
  refine RN ?_
  refine V_loop (α := Nat × Nat) (S := fun x => ([(0, i64 (x.1 : Int)), (1, i64 (x.2 : Int))], [])) (C := fun x => x.1 ≤ 1000000 ∧ x.2 ≤ 1000000 ∧ Nat.gcd x.1 x.2 = Int.gcd a b) (μ := fun x => x.2) (a.toNat, b.toNat) ⟨by omega, by omega, by rw [Int.gcd, show a.toNat = a.natAbs by omega, show b.toNat = b.natAbs by omega]⟩ (Ref.to rfl (by simp [sub, fget]; omega)) ?_
  rintro ⟨x, y⟩ ⟨hx, hy, hg⟩
  refine RN ?_
  refine ⟨fun hc => ?_, fun hc => ?_⟩
  · (refine RN ?_; try with_reducible exact trivial)
    exact ⟨(y, x % y), ⟨by omega, by have := Nat.mod_lt x (show 0 < y by omega); omega, by rw [← hg, Nat.gcd_comm x y, Nat.gcd_rec y x]; rw [Nat.gcd_comm]⟩, Nat.mod_lt _ (by omega), Ref.to rfl (by simp [sub, fget, Int.tmod_eq_emod_of_nonneg])⟩
  · have : y = 0 := by omega
    subst this
    simp only [Nat.gcd_zero_right] at hg
    refine RN ?_
    simp [hg]

def dgL (s : Int) (i : Nat) : List Int := (List.range i).map fun j : Nat => 2 + s * (j : Int)
theorem dgL_s (s : Int) (i : Nat) : intsC (dgL s (i + 1)) = intsC (dgL s i) ++ [i64 (2 + s * (i : Int))] := by simp [dgL, intsC, List.range_succ]
theorem dgL_n (s : Int) (i : Nat) : (intsC (dgL s i)).length = i := by simp [dgL, intsC]
def degA (ls : List Int) : List Int :=
  if ls = [] then [2] else if ls.length = 1 then [2, ls.headD 0] else if ls = [3, 5] ∨ ls = [5, 3] then [2, 6, 10] else if ls = [3, 3] then [2, 3, 4] else if ls = [3, 4] ∨ ls = [4, 3] then [2, 4, 6] else []
theorem size_nil : Pure Tryz.prog 99 [nilS] (i64 0) [] := by
  refine pureV ok99 rfl ?_; unfold c99
  refine RN ?_
  rfl
set_option maxHeartbeats 1000000 in
theorem degrees_nil (m : Int) : Pure Tryz.prog 173 [.agg [i64 m, nilS]] (.sl 0 1 0 1) [some (intsC [2])] := by
  refine pureRV ok173 rfl ?_; unfold c173
  refine RN ?_
  refine pureC1 (size_nil) ?_
  refine RN ?_
  refine ⟨fun _ => ?_, fun hc => absurd rfl hc⟩
  refine RN ?_
  exact Ref.gc [1] rfl (by simp only [go_sem, ↓reduceIte, Nat.reduceEqDiff, Nat.reduceAdd, reduceCtorEq] <;> rfl) (by simp [sub, fget, gcF, rnm, gcT])
set_option maxHeartbeats 1000000 in
theorem degrees_one (m a : Int) (ha : 2 ≤ a ∧ a ≤ 32) : Pure Tryz.prog 173 [.agg [i64 m, ints [a]]] (.sl 0 1 0 2) [some (intsC [2, a])] := by
  have hsz : Pure Tryz.prog 99 [ints [a]] (i64 1) [] := size_c [a] (by simp)
  refine pureRV ok173 rfl ?_; unfold c173
  refine RN ?_
  refine pureC1 (hsz) ?_
  refine RN ?_
  intro _
  refine RN ?_
  refine ⟨fun _ => ?_, fun hc => (show False by omega).elim⟩
  refine RN ?_
  exact Ref.gc [1] rfl (by simp only [go_sem, ↓reduceIte, Nat.reduceEqDiff, Nat.reduceAdd, reduceCtorEq] <;> rfl) (by simp [sub, fget, gcF, rnm, gcT])
set_option maxHeartbeats 4000000 in
theorem degrees_two (m a b : Int) (h : (a = 3 ∧ b = 3) ∨ (a = 4 ∧ b = 3) ∨ (a = 3 ∧ b = 4) ∨ (a = 5 ∧ b = 3) ∨ (a = 3 ∧ b = 5)) : Pure Tryz.prog 173 [.agg [i64 m, ints [a, b]]] (.sl 0 1 0 3) [some (intsC (degA [a, b]))] := by
  have hsz : Pure Tryz.prog 99 [ints [a, b]] (i64 2) [] := size_c [a, b] (by simp)
  have q1 := isEither_c m [a, b] [3, 5] (by simp) (by simp) (by simp)
  have q2 := isEither_c m [a, b] [3, 3, 5] (by simp) (by simp) (by simp)
  have q3 := isEither_c m [a, b] [3, 4, 3] (by simp) (by simp) (by simp)
  have q4 := isEither_c m [a, b] [4, 3] (by simp) (by simp) (by simp)
  have hr : Pure Tryz.prog 156 [ints [3], i64 2] (.sl 0 1 0 2) [some (intsC [3, 3])] := repeat_c 3 2 (by omega)
  have d0 : degA [3, 3] = [2, 3, 4] := by simp [degA]
  have d1 : degA [4, 3] = [2, 4, 6] := by simp [degA]
  have d2 : degA [3, 4] = [2, 4, 6] := by simp [degA]
  have d3 : degA [5, 3] = [2, 6, 10] := by simp [degA]
  have d4 : degA [3, 5] = [2, 6, 10] := by simp [degA]
  have he := equal_c [a, b] [3, 3] (by simp) (by simp)
  rcases h with ⟨rfl, rfl⟩ | ⟨rfl, rfl⟩ | ⟨rfl, rfl⟩ | ⟨rfl, rfl⟩ | ⟨rfl, rfl⟩
  all_goals simp at q1 q2 q3 q4 he
  all_goals refine pureRV ok173 rfl ?_; unfold c173
  all_goals (refine RN ?_; try with_reducible exact trivial)
  all_goals refine pureC1 (hsz) ?_
  all_goals (refine RN ?_; try with_reducible exact trivial)
  all_goals intro _
  all_goals (refine RN ?_; try with_reducible exact trivial)
  all_goals intro _
  all_goals (refine RN ?_; try with_reducible exact trivial)
  all_goals refine pureC1 (q1) ?_
  all_goals (refine RN ?_; try with_reducible exact trivial)
  rotate_left 3
  · rw [d3]; exact Ref.gc [2] rfl (by simp only [go_sem, ↓reduceIte, Nat.reduceEqDiff, Nat.reduceAdd, reduceCtorEq] <;> rfl) (by simp [sub, fget, gcF, rnm, gcT])
  · rw [d4]; exact Ref.gc [2] rfl (by simp only [go_sem, ↓reduceIte, Nat.reduceEqDiff, Nat.reduceAdd, reduceCtorEq] <;> rfl) (by simp [sub, fget, gcF, rnm, gcT])
  all_goals refine pureC1 (q2) ?_
  all_goals (refine RN ?_; try with_reducible exact trivial)
  all_goals refine pureC1 (q3) ?_
  all_goals (refine RN ?_; try with_reducible exact trivial)
  all_goals refine pureC1 (hr) ?_
  all_goals (refine RN ?_; try with_reducible exact trivial)
  all_goals refine pureC1 (he) ?_
  all_goals (refine RN ?_; try with_reducible exact trivial)
  rotate_left 1
  · refine pureC1 (q4) ?_
    refine RN ?_
    intro _
    refine RN ?_
    refine V_loop (α := Nat) (S := fun i => ([(5, i64 2), (6, .sl 0 1 0 i), (62, i64 3), (63, i64 (i : Int))], [some (intsC (dgL 2 i))])) (C := fun i => i ≤ 3) (μ := fun i => 3 - i) 0 (by omega) ((Ref.nil 6 1 rfl).trans (Ref.gc [6] rfl rfl (by simp [sub, fget, gcF, rnm, gcT]))) ?_
    intro i hi
    refine RN ?_
    refine ⟨fun hc => ?_, fun hc => ?_⟩
    · (refine RN ?_; try with_reducible exact trivial)
      have hA : (intsC (dgL 2 i)).take i ++ [AV.val (Value.int .i64 (2 + 2 * (i : Int)))] = intsC (dgL 2 (i + 1)) := by
        rw [List.take_of_length_le (by simp [dgL_n]), dgL_s]
      refine ⟨i + 1, by omega, by omega, ?_⟩
      first | rw [hA] | (simp only [Int.one_mul] at hA; rw [hA])
      exact Ref.gc [2] rfl (by simp only [go_sem, ↓reduceIte, Nat.reduceEqDiff, Nat.reduceAdd, reduceCtorEq] <;> rfl) (by simp [sub, fget, gcF, rnm, gcT])
    · obtain rfl : i = 3 := by omega
      refine RN ?_
      rw [d1]
      exact Ref.to1
  · refine pureC1 (q4) ?_
    refine RN ?_
    intro _
    refine RN ?_
    refine V_loop (α := Nat) (S := fun i => ([(5, i64 2), (6, .sl 0 1 0 i), (62, i64 3), (63, i64 (i : Int))], [some (intsC (dgL 2 i))])) (C := fun i => i ≤ 3) (μ := fun i => 3 - i) 0 (by omega) ((Ref.nil 6 1 rfl).trans (Ref.gc [6] rfl rfl (by simp [sub, fget, gcF, rnm, gcT]))) ?_
    intro i hi
    refine RN ?_
    refine ⟨fun hc => ?_, fun hc => ?_⟩
    · (refine RN ?_; try with_reducible exact trivial)
      have hA : (intsC (dgL 2 i)).take i ++ [AV.val (Value.int .i64 (2 + 2 * (i : Int)))] = intsC (dgL 2 (i + 1)) := by
        rw [List.take_of_length_le (by simp [dgL_n]), dgL_s]
      refine ⟨i + 1, by omega, by omega, ?_⟩
      first | rw [hA] | (simp only [Int.one_mul] at hA; rw [hA])
      exact Ref.gc [2] rfl (by simp only [go_sem, ↓reduceIte, Nat.reduceEqDiff, Nat.reduceAdd, reduceCtorEq] <;> rfl) (by simp [sub, fget, gcF, rnm, gcT])
    · obtain rfl : i = 3 := by omega
      refine RN ?_
      rw [d2]
      exact Ref.to1
  · skip
    intro _
    refine RN ?_
    refine V_loop (α := Nat) (S := fun i => ([(5, i64 1), (6, .sl 0 1 0 i), (62, i64 3), (63, i64 (i : Int))], [some (intsC (dgL 1 i))])) (C := fun i => i ≤ 3) (μ := fun i => 3 - i) 0 (by omega) ((Ref.nil 6 1 rfl).trans (Ref.gc [6] rfl rfl (by simp [sub, fget, gcF, rnm, gcT]))) ?_
    intro i hi
    refine RN ?_
    refine ⟨fun hc => ?_, fun hc => ?_⟩
    · (refine RN ?_; try with_reducible exact trivial)
      have hA : (intsC (dgL 1 i)).take i ++ [AV.val (Value.int .i64 (2 + 1 * (i : Int)))] = intsC (dgL 1 (i + 1)) := by
        rw [List.take_of_length_le (by simp [dgL_n]), dgL_s]
      refine ⟨i + 1, by omega, by omega, ?_⟩
      first | rw [hA] | (simp only [Int.one_mul] at hA; rw [hA])
      exact Ref.gc [2] rfl (by simp only [go_sem, ↓reduceIte, Nat.reduceEqDiff, Nat.reduceAdd, reduceCtorEq] <;> rfl) (by simp [sub, fget, gcF, rnm, gcT])
    · obtain rfl : i = 3 := by omega
      refine RN ?_
      rw [d0]
      exact Ref.to1
end Go.Proofs.YtfcbamfkfadabaaGreatDoor
set_option maxRecDepth 100000
namespace Go.Proofs.YtfcbamfkfadabaaGreatDoor
open Go.Gov
open Classical

def olF (l : List Int) : AV := if l = [] then nilS else ints l
def OkC (l : List Int) : Prop := l = [] ∨ (∃ x, l = [x] ∧ 2 ≤ x ∧ x ≤ 32) ∨ ∃ a b, l = [a, b] ∧ ((a = 3 ∧ b = 3) ∨ (a = 4 ∧ b = 3) ∨ (a = 3 ∧ b = 4) ∨ (a = 5 ∧ b = 3) ∨ (a = 3 ∧ b = 5))
theorem degrees_c (m : Int) (l : List Int) (h : OkC l) : Pure Tryz.prog 173 [.agg [i64 m, olF l]] (.sl 0 1 0 (degA l).length) [some (intsC (degA l))] := by
  rcases h with rfl | ⟨x, rfl, hx⟩ | ⟨a, b, rfl, hab⟩
  · have := degrees_nil m; simpa [olF, degA] using this
  · have := degrees_one m x hx; simpa [olF, degA] using this
  · have := degrees_two m a b hab
    have hn : (degA [a, b]).length = 3 := by rcases hab with ⟨rfl, rfl⟩ | ⟨rfl, rfl⟩ | ⟨rfl, rfl⟩ | ⟨rfl, rfl⟩ | ⟨rfl, rfl⟩ <;> simp [degA]
    rw [hn]; simpa [olF] using this
theorem degA_ok (l : List Int) (h : OkC l) : 0 < (degA l).length ∧ (degA l).length ≤ 3 ∧ ∀ x ∈ degA l, 2 ≤ x ∧ x ≤ 32 := by
  rcases h with rfl | ⟨x, rfl, hx⟩ | ⟨a, b, rfl, hab⟩
  · simp [degA]
  · simp [degA]; omega
  · rcases hab with ⟨rfl, rfl⟩ | ⟨rfl, rfl⟩ | ⟨rfl, rfl⟩ | ⟨rfl, rfl⟩ | ⟨rfl, rfl⟩ <;> simp [degA]
def mxF (xs : List Int) : Nat → Int
  | 0 => xs.headD 0
  | i + 1 => max (mxF xs i) (xs.getD (i + 1) 0)
theorem mxF_b (xs : List Int) (lo hi : Int) (h0 : 0 < xs.length) (h : ∀ x ∈ xs, lo ≤ x ∧ x ≤ hi) : ∀ i, i < xs.length → lo ≤ mxF xs i ∧ mxF xs i ≤ hi
  | 0, _ => by cases xs with
    | nil => simp at h0
    | cons a l => simpa [mxF] using h a (by simp)
  | i + 1, hi' => by
    have := mxF_b xs lo hi h0 h i (by omega)
    have h2 := h (xs.getD (i + 1) 0) (by rw [List.getD, List.getElem?_eq_getElem hi', Option.getD_some]; exact List.getElem_mem _)
    simp only [mxF]; omega
set_option maxHeartbeats 1000000 in
theorem max_c (xs : List Int) (h0 : 0 < xs.length) (hl : xs.length ≤ 1000) : Pure Tryz.prog 174 [ints xs] (i64 (mxF xs (xs.length - 1))) [] := by
  have hh : xs[0]?.getD 0 = mxF xs 0 := by cases xs <;> simp [mxF]
  refine pureV ok174 rfl ?_; unfold c174
  refine RN ?_
  intro _
  refine RN ?_
  refine V_loop (α := Nat) (S := fun i => ([(0, ints xs), (3, i64 (mxF xs (i - 1))), (4, i64 (i : Int))], [])) (C := fun i => 1 ≤ i ∧ i ≤ xs.length) (μ := fun i => xs.length - i) 1 (by omega) ?_ ?_
  · exact Ref.to rfl (by simp [sub, fget, hh])
  intro i hi
  refine RN ?_
  refine ⟨fun hc => ?_, fun hc => ?_⟩
  · (refine RN ?_; try with_reducible exact trivial)
    obtain ⟨k, rfl⟩ : ∃ k, i = k + 1 := ⟨i - 1, by omega⟩
    exact ⟨k + 1 + 1, ⟨by omega, by omega⟩, by omega, Ref.to rfl (by simp [sub, fget, mxF]; split <;> omega)⟩
  · obtain rfl : i = xs.length := by omega
    (refine RN ?_; try with_reducible exact trivial)

def cmpF : List (Int × List Int) → List AV
  | [] => []
  | p :: l => i64 p.1 :: olF p.2 :: cmpF l
theorem cmpF_len : ∀ l, (cmpF l).length = 2 * l.length
  | [] => rfl
  | p :: l => by simp only [cmpF, List.length_cons, cmpF_len l]; omega
theorem cmpF_at : ∀ (l : List (Int × List Int)) (i : Nat) (h : i < l.length), ((cmpF l).drop (i * 2)).take 2 = [i64 (l[i]).1, olF (l[i]).2]
  | p :: l, 0, _ => by simp [cmpF]
  | p :: l, i + 1, h => by
    have := cmpF_at l i (by simpa using h)
    rw [show (i + 1) * 2 = i * 2 + 1 + 1 by omega, cmpF, List.drop_succ_cons, List.drop_succ_cons]
    simpa using this
theorem olF_p (l : List Int) : plainC (olF l) = true := by unfold olF; split <;> simp [plainC, nilS, ints, intsC]
theorem olF_o (l : List Int) : oneA (olF l) = true := by unfold olF; split <;> first | rfl | simp [oneA, nilS, ints]
theorem frz_olF (H : Heap) (d : Nat) (l : List Int) : frz H (d + 2) (olF l) = olF l := by unfold olF; split <;> first | rfl | exact frz_ints H d l
theorem nilOf_ne (x y : Option (List AV)) (dl : List Int) (h : 0 < dl.length) : nilOf [x, y, some (intsC dl)] (.sl 2 1 0 dl.length) = some false := by
  cases dl with
  | nil => simp at h
  | cons c l => simp [nilOf, intsC]
theorem cpS_len (a b : Int) (mask : Nat) : ∀ i, (cpS a b mask i).1.length ≤ i
  | 0 => by simp [cpS]
  | i + 1 => by
    have := cpS_len a b mask i
    simp only [cpS]
    split
    · simp; omega
    · split <;> simp [List.length_dropLast] <;> omega
theorem cmpA_nf : ∀ l, (cmpA l).all (nf 6) = true
  | [] => rfl
  | p :: l => by
    have := cmpA_nf l
    rw [cmpA, List.all_cons, List.all_cons, this]
    unfold olr
    split <;> simp [nf, oints, nilS, intsC]
theorem cmpA_fs (H : Heap) : ∀ l, (cmpA l).map (frz H 5 ∘ shf 0 6) = cmpF l
  | [] => rfl
  | p :: l => by
    rw [cmpA, cmpF, List.map_cons, List.map_cons, cmpA_fs H l]
    congr 1
    congr 1
    unfold olr olF
    split
    · rfl
    · rw [Function.comp, shf_oints, frz_oints]
theorem cmpF_rn (τ : Nat → Option Nat) : ∀ l, rnmL τ (cmpF l) = cmpF l
  | [] => rfl
  | p :: l => by
    have := cmpF_rn τ l
    rw [rnmL_map] at this ⊢
    rw [cmpF, List.map_cons, List.map_cons, this]
    congr 1
    congr 1
    unfold olF
    split
    · rfl
    · simp [ints, rnm, rnmL_ints]
def allA (l : List (Int × List Int)) : List Int := (l.map fun p => degA p.2).flatten
theorem allA_len : ∀ l : List (Int × List Int), (∀ p ∈ l, OkC p.2) → (allA l).length ≤ 3 * l.length
  | [], _ => by simp [allA]
  | p :: l, h => by
    have := allA_len l fun q hq => h q (by simp [hq])
    have h2 := (degA_ok p.2 (h p (by simp))).2.1
    simp only [allA, List.map_cons, List.flatten_cons, List.length_append, List.length_cons] at this ⊢
    omega
theorem allA_s (l : List (Int × List Int)) (i : Nat) (h : i < l.length) : allA (l.take (i + 1)) = allA (l.take i) ++ degA (l[i]).2 := by
  unfold allA
  rw [List.take_add_one, List.getElem?_eq_getElem h, List.map_append, List.flatten_append]
  simp
set_option maxHeartbeats 1000000 in
theorem allDegrees_c (a b : Int) (mask : Nat) (hm : mask < 8) (ha : 2 ≤ a ∧ a ≤ 32) (hb : 2 ≤ b ∧ b ≤ 32) (hO : ∀ p ∈ (cpS a b mask 3).1, OkC p.2) :
    PureE Tryz.prog 123 [ints [a, b], i64 (mask : Int)] (fun _ : Int => True) (fun o => .tup [.sl 0 1 0 (allA (cpS a b mask 3).1).length, i64 o, bl true]) (fun _ => [some (intsC (srtL (allA (cpS a b mask 3).1)))]) := by
  have hcp := components_p a b mask hm ha hb
  have hL3 := cpS_len a b mask 3
  generalize (cpS a b mask 3).1 = L at hcp hO hL3 ⊢
  refine pureREV ok123 rfl ?_; unfold c123
  refine RN ?_
  refine pureC hcp (by simp only [go_sem, ↓reduceIte, Nat.reduceEqDiff, Nat.reduceAdd, reduceCtorEq] <;> rfl) (by simp only [go_sem, ↓reduceIte, Nat.reduceEqDiff, Nat.reduceAdd, reduceCtorEq, cmpA_nf]) ?_
  refine RN ?_
  refine V_ref ((Ref.dead (F' := [(7, nilS), (8, i64 1), (15, .slc 2 L.length (cmpF L)), (16, i64 L.length), (17, i64 0)]) ?_).trans ((Ref.gc [] (F' := [(7, nilS), (8, i64 1), (15, .slc 2 L.length (cmpF L)), (16, i64 L.length), (17, i64 0)]) (H' := []) rfl rfl ?_).trans (Ref.nil 7 1 rfl))) ?_
  · simp [sub, fget, frzF, go_sem, ↓reduceIte, Nat.reduceEqDiff, Nat.reduceAdd, reduceCtorEq, cmpA_fs]
    exact List.take_of_length_le (by rw [cmpF_len]; omega)
  · simp [sub, fget, gcF, rnm, gcT, cmpF_rn]
  refine V_loop (α := Nat × Nat) (S := fun x => ([(7, .sl 0 1 0 (allA (L.take x.1)).length), (8, i64 (x.2 : Int)), (15, .slc 2 L.length (cmpF L)), (16, i64 L.length), (17, i64 (x.1 : Int))], [some (intsC (allA (L.take x.1)))])) (C := fun x => x.1 ≤ L.length ∧ 1 ≤ x.2 ∧ x.2 ≤ 32 ^ x.1) (μ := fun x => L.length - x.1) (0, 1) ⟨by simp, by simp, by simp⟩ ?_ ?_
  · exact Ref.to rfl (by simp [sub, fget, allA])
  rintro ⟨i, mu⟩ ⟨hi, hm1, hm2⟩
  dsimp only at hi hm1 hm2
  refine RN ?_
  refine ⟨fun hc => ?_, fun hc => ?_⟩
  · have hil : i < L.length := by omega
    have c1 := cmpF_at L i hil
    have c2 : ((cmpF L).drop (i * 2)).length = 2 * L.length - i * 2 := by simp [cmpF_len]
    have c3 := cmpF_len L
    have hok := hO L[i] (List.getElem_mem hil)
    have hd := degrees_c (L[i]).1 (L[i]).2 hok
    obtain ⟨g1, g2, g3⟩ := degA_ok (L[i]).2 hok
    have c4 := olF_p (L[i]).2
    have c5 := olF_o (L[i]).2
    have hs := allA_s L i hil
    generalize (L[i]).1 = mk at c1 hd
    generalize hls : (L[i]).2 = ls at c1 hd hok g1 g2 g3 c4 c5 hs
    generalize hdl : degA ls = dl at hd g1 g2 g3 hs
    have hmx := max_c dl g1 (by omega)
    have hmb := mxF_b dl 2 32 g1 g3 (dl.length - 1) (by omega)
    obtain ⟨q, hq⟩ : ∃ q : Nat, mxF dl (dl.length - 1) = (q : Int) := ⟨(mxF dl (dl.length - 1)).toNat, by omega⟩
    rw [hq] at hmx hmb
    have h32 : 32 ^ i ≤ 32 ^ 2 := Nat.pow_le_pow_right (by omega) (by omega)
    have hgc := gcd_c (mu : Int) (q : Int) (by omega) (by omega)
    rw [Int.gcd_natCast_natCast] at hgc
    (repeat first | simp only [c1, c2, c3, c4, c5, go_sem, ↓reduceIte, Nat.reduceEqDiff, Nat.reduceAdd, reduceCtorEq] | refine RX ?_ | decide)
    refine pureC hd (by simp only [go_sem, ↓reduceIte, Nat.reduceEqDiff, Nat.reduceAdd, reduceCtorEq, frz_olF]) (by simp only [go_sem, ↓reduceIte, Nat.reduceEqDiff, Nat.reduceAdd, reduceCtorEq]) ?_
    (repeat first | simp only [nilOf_ne _ _ dl g1, Option.isSome_some, Option.getD_some, go_sem, ↓reduceIte, Nat.reduceEqDiff, Nat.reduceAdd, reduceCtorEq] | refine RX ?_ | decide)
    have hli := allA_len (L.take i) fun p hp => hO p (List.mem_of_mem_take hp)
    have hl2 : (L.take i).length ≤ 3 := by rw [List.length_take]; omega
    refine ⟨by omega, by omega, ?_⟩
    refine RN ?_
    refine pureC hmx (by simp only [go_sem, ↓reduceIte, Nat.reduceEqDiff, Nat.reduceAdd, reduceCtorEq, ints]) (by simp only [go_sem, ↓reduceIte, Nat.reduceEqDiff, Nat.reduceAdd, reduceCtorEq]) ?_
    refine RN ?_
    refine pureC1 (hgc) ?_
    refine RN ?_
    have hg0 : 0 < mu.gcd q := Nat.gcd_pos_of_pos_left _ (by omega)
    have hgle : mu.gcd q ≤ q := Nat.gcd_le_right _ (by omega)
    have hd1 : 1 ≤ q / mu.gcd q := Nat.div_pos hgle hg0
    have hd2 : q / mu.gcd q ≤ 32 := Nat.le_trans (Nat.div_le_self _ _) (by omega)
    have hgd : (q : Int).tdiv (mu.gcd q : Int) = ((q / mu.gcd q : Nat) : Int) := (Int.ofNat_tdiv q (mu.gcd q)).symm
    rw [hgd]
    generalize q / mu.gcd q = d at hd1 hd2
    have h4 : (mu : Int) * (d : Int) = ((mu * d : Nat) : Int) := by simp
    have h5 : mu * d ≤ 32 ^ (i + 1) := by rw [Nat.pow_succ]; exact Nat.mul_le_mul hm2 hd2
    have h6 : 32 ^ (i + 1) ≤ 32 ^ 3 := Nat.pow_le_pow_right (by omega) (by omega)
    have h7 : 0 < mu * d := Nat.mul_pos (by omega) (by omega)
    rw [h4]
    generalize mu * d = md at h5 h7
    refine ⟨⟨by omega, by omega, by omega⟩, ⟨by omega, by omega⟩, ?_⟩
    refine RN ?_
    refine ⟨(i + 1, md), ⟨by omega, by omega, h5⟩, by dsimp only; omega, ?_⟩
    dsimp only
    rw [hs, show intsC (allA (L.take i) ++ dl) = intsC (allA (L.take i)) ++ intsC dl by simp [intsC]]
    exact Ref.gc [3] rfl (by simp only [go_sem, ↓reduceIte, Nat.reduceEqDiff, Nat.reduceAdd, reduceCtorEq] <;> rfl) (by simp [sub, fget, gcF, rnm, gcT, cmpF_rn])
  · obtain rfl : i = L.length := by omega
    rw [List.take_length]
    refine RN ?_
    have hal := allA_len L hO
    refine wriC1 (sort_c (allA L) (by omega)) [0] ?_
    refine RN ?_
    exact ⟨(mu : Int), Ref.refl⟩

def prdL (l : List Int) (i : Nat) : Int := (l.take i).foldl (· * ·) 1
theorem prdL_s (l : List Int) (i : Nat) (h : i < l.length) : prdL l (i + 1) = prdL l i * l[i] := by
  unfold prdL
  rw [List.take_add_one, List.getElem?_eq_getElem h, List.foldl_append]
  simp
theorem prdL_b (l : List Int) (h : ∀ x ∈ l, 2 ≤ x ∧ x ≤ 32) : ∀ i, i ≤ l.length → 1 ≤ prdL l i ∧ prdL l i ≤ 32 ^ i
  | 0, _ => by simp [prdL]
  | i + 1, hi => by
    have h1 := prdL_b l h i (by omega)
    have h2 := h l[i] (List.getElem_mem _)
    rw [prdL_s l i (by omega)]
    generalize prdL l i = p at h1
    generalize l[i] = x at h2
    obtain ⟨P, rfl⟩ : ∃ P : Nat, p = (P : Int) := ⟨p.toNat, by omega⟩
    obtain ⟨X, rfl⟩ : ∃ X : Nat, x = (X : Int) := ⟨x.toNat, by omega⟩
    have e : (P : Int) * (X : Int) = ((P * X : Nat) : Int) := by simp
    rw [e]
    have h3 : P * X ≤ 32 ^ i * 32 := Nat.mul_le_mul (by have := h1.2; exact_mod_cast this) (by omega)
    have h4 : 0 < P * X := Nat.mul_pos (by omega) (by omega)
    rw [Int.pow_succ]
    exact ⟨by omega, by exact_mod_cast h3⟩
set_option maxHeartbeats 1000000 in
theorem orderOf_c (a b : Int) (mask : Nat) (hm : mask < 8) (ha : 2 ≤ a ∧ a ≤ 32) (hb : 2 ≤ b ∧ b ≤ 32) (hO : ∀ p ∈ (cpS a b mask 3).1, OkC p.2) :
    Pure Tryz.prog 71 [ints [a, b], i64 (mask : Int)] (.tup [i64 (prdL (srtL (allA (cpS a b mask 3).1)) (allA (cpS a b mask 3).1).length), bl true]) [] := by
  have hcp := allDegrees_c a b mask hm ha hb hO
  have hL3 := cpS_len a b mask 3
  generalize (cpS a b mask 3).1 = L at hcp hO hL3 ⊢
  have hn : (srtL (allA L)).length = (allA L).length := (srtL_perm _).length_eq
  have hl := allA_len L hO
  have hx : ∀ x ∈ srtL (allA L), 2 ≤ x ∧ x ≤ 32 := fun x hx => by
    have h1 := (srtL_perm _).mem_iff.1 hx
    simp only [allA, List.mem_flatten, List.mem_map] at h1
    obtain ⟨_, ⟨p, hp, rfl⟩, h2⟩ := h1
    exact (degA_ok p.2 (hO p hp)).2.2 x h2
  rw [← hn] at hl
  rw [← hn] at hcp ⊢
  generalize srtL (allA L) = X at hl hx hcp ⊢
  refine pureV0 ok71 rfl rfl ?_; unfold c71
  refine RN ?_
  refine pureEC hcp (by simp only [go_sem, ↓reduceIte, Nat.reduceEqDiff, Nat.reduceAdd, reduceCtorEq] <;> rfl) (fun o => by simp only [go_sem, ↓reduceIte, Nat.reduceEqDiff, Nat.reduceAdd, reduceCtorEq]) fun o ho => ?_
  refine RN ?_
  refine V_loop (α := Nat) (S := fun i => ([(8, bl true), (9, i64 (prdL X i)), (19, .sl 0 1 0 X.length), (20, i64 X.length), (21, i64 (i : Int))], [some (intsC X)])) (C := fun i => i ≤ X.length) (μ := fun i => X.length - i) 0 (by omega) ?_ ?_
  · exact Ref.to rfl (by simp [sub, fget, prdL])
  intro i hi
  refine RN ?_
  refine ⟨fun hc => ?_, fun hc => ?_⟩
  · have hil : i < X.length := by omega
    obtain ⟨b1, b2⟩ := prdL_b X hx i hi
    obtain ⟨b3, b4⟩ := prdL_b X hx (i + 1) (by omega)
    have hs := prdL_s X i hil
    have hg : X.getD i 0 = X[i] := by rw [List.getD, List.getElem?_eq_getElem hil, Option.getD_some]
    have h9 : (32 : Int) ^ (i + 1) ≤ 32 ^ 9 := by exact_mod_cast Nat.pow_le_pow_right (n := 32) (by omega) (show i + 1 ≤ 9 by omega)
    (repeat first | simp only [hg, ← hs, go_sem, ↓reduceIte, Nat.reduceEqDiff, Nat.reduceAdd, reduceCtorEq] | refine RX ?_ | decide)
    exact ⟨i + 1, by omega, by omega, Ref.to rfl (by simp [sub, fget, hs])⟩
  · obtain rfl : i = X.length := by omega
    (refine RN ?_; try with_reducible exact trivial)
end Go.Proofs.YtfcbamfkfadabaaGreatDoor
set_option maxRecDepth 100000
namespace Go.Proofs.YtfcbamfkfadabaaGreatDoor
open Go.Gov
open Classical

theorem cpS_ok (a b : Int) (mask : Nat) (hm : mask < 8) (ha : 2 ≤ a ∧ a ≤ 32) (hb : 2 ≤ b ∧ b ≤ 32) (h : a = 2 ∨ b = 2 ∨ ((a = 3 ∧ b = 3) ∨ (a = 4 ∧ b = 3) ∨ (a = 3 ∧ b = 4) ∨ (a = 5 ∧ b = 3) ∨ (a = 3 ∧ b = 5))) : ∀ p ∈ (cpS a b mask 3).1, OkC p.2 := by
  have k0 : OkC [] := .inl rfl
  have k1 : ∀ x : Int, 2 ≤ x ∧ x ≤ 32 → OkC [x] := fun x hx => .inr (.inl ⟨x, rfl, hx⟩)
  have k2 : a ≠ 2 → b ≠ 2 → OkC [a, b] := fun h1 h2 => .inr (.inr ⟨a, b, rfl, by omega⟩)
  have ka := k1 a ha
  have kb := k1 b hb
  have h8 : mask = 0 ∨ mask = 1 ∨ mask = 2 ∨ mask = 3 ∨ mask = 4 ∨ mask = 5 ∨ mask = 6 ∨ mask = 7 := by omega
  by_cases h2a : a = 2 <;> by_cases h2b : b = 2 <;> rcases h8 with rfl | rfl | rfl | rfl | rfl | rfl | rfl | rfl <;> simp [cpS, lab2, h2a, h2b, k0] <;> first | exact ka | exact kb | exact k2 h2a h2b | (refine ⟨?_, ?_⟩ <;> assumption) | (subst_vars; assumption) | skip
theorem allNodes_c (a b : Int) : Pure Tryz.prog 122 [ints [a, b]] (i64 7) [] := by
  refine pureV ok122 rfl ?_; unfold c122
  refine RN ?_
  rfl
end Go.Proofs.YtfcbamfkfadabaaGreatDoor
set_option maxRecDepth 100000
namespace Go.Proofs.YtfcbamfkfadabaaGreatDoor
open Go.Gov

def ordP (a b : Int) (m : Nat) : Int := (allA (cpS a b m 3).1).foldl (· * ·) 1
theorem foldl_mul_perm {l m : List Int} (h : l.Perm m) : ∀ x : Int, l.foldl (· * ·) x = m.foldl (· * ·) x := by
  induction h with
  | nil => intro x; rfl
  | cons y _ ih => intro x; exact ih _
  | swap y z l => intro x; simp only [List.foldl_cons]; rw [Int.mul_assoc, Int.mul_comm z y, ← Int.mul_assoc]
  | trans _ _ a b => intro x; exact (a x).trans (b x)
theorem ordP_eq (a b : Int) (m : Nat) : prdL (srtL (allA (cpS a b m 3).1)) (allA (cpS a b m 3).1).length = ordP a b m := by
  unfold prdL ordP
  have h := srtL_perm (allA (cpS a b m 3).1)
  rw [← h.length_eq, List.take_length]
  exact foldl_mul_perm h 1
end Go.Proofs.YtfcbamfkfadabaaGreatDoor
