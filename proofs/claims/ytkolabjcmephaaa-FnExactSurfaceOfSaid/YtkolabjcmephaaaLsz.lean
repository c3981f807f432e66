/- The faces of a rank, their sizes: the rule's side. -/
import Derived.Test.YtkolabjcmephaaaSzs
import Derived.Test.YtkolabjcmephaaaGov20
set_option linter.unusedSimpArgs false
set_option linter.unusedVariables false
set_option maxRecDepth 100000
namespace Go.Proofs.Ytkolabjcmephaaa
open Go.Gov

theorem take_rows (L : List (List Int)) : (L.map ints).take (L.length * 1) = L.map ints := List.take_of_length_le (by simp)
theorem take_rows1 (L : List (List Int)) (r : List Int) : ((L ++ [r]).map ints).take (L.length * 1) = L.map ints := by
  rw [← List.map_take, Nat.mul_one, List.take_left']
  rfl
theorem l02Faces_c (n : Nat) (M : List (List Int)) (i : Nat) (hM : MvOk n M) (hi : i < M.length) (hr : (M.getD 0 []).length = n) (hn : n ≤ 1048576) (hl : M.length ≤ 1048576) :
    Pure Try.prog 47 [maniA M, i64 i] (.sl 0 1 0 n) [some (intsC (labs n (oth M i M.length)))] := by
  have hol := oth_len (M := M) (i := i) (k := M.length) (Nat.le_refl _)
  rw [if_pos hi] at hol
  have hmo := hM.oth i M.length
  have hot := l02Others_c M i hl (by omega)
  rw [show ((i : Nat) : Int).toNat = i by omega] at hot
  refine pureVg [3] ok47 rfl ?_; unfold c47
  (repeat first | simp only [go_sem, ↓reduceIte, Nat.reduceEqDiff, Nat.reduceAdd, reduceCtorEq] | (with_reducible refine And.intro ?_ ?_; focus first | omega | decide | grind) | (with_reducible refine Br.mk ?_ ?_; focus (intros; omega)) | decide)
  refine ⟨?_, rfl, ?_⟩
  · refine pureC (l02Flags_c M (by omega) hl (by omega)) (by simp only [go_sem, ↓reduceIte, Nat.reduceEqDiff, Nat.reduceAdd, reduceCtorEq] <;> rfl) (by first | rfl | simp only [go_sem, ↓reduceIte, Nat.reduceEqDiff, Nat.reduceAdd, reduceCtorEq]) ?_
    refine ⟨rfl, ?_⟩
    refine call_pureZ (hot) (by (try simp only [go_sem, ↓reduceIte, Nat.reduceEqDiff, Nat.reduceAdd, reduceCtorEq, Nat.reduceMul, List.take_succ_cons, List.take_zero]); try rfl) ?_
    generalize oth M i M.length = L at *
    simp only [hr, go_sem, ↓reduceIte, Nat.reduceEqDiff, Nat.reduceAdd, reduceCtorEq]
    refine pureC (l01Orbits_c n L hmo hn (by omega)) (by simp only [take_rows, take_rows1, map_frz_rows, go_sem, ↓reduceIte, Nat.reduceEqDiff, Nat.reduceAdd, reduceCtorEq]) (by first | rfl | simp only [go_sem, ↓reduceIte, Nat.reduceEqDiff, Nat.reduceAdd, reduceCtorEq]) ?_
    (repeat first | simp only [go_sem, ↓reduceIte, Nat.reduceEqDiff, Nat.reduceAdd, reduceCtorEq] | (with_reducible refine And.intro ?_ ?_; focus first | omega | decide | grind) | (with_reducible refine Br.mk ?_ ?_; focus (intros; omega)) | decide)
    (try simp only [go_sem, ↓reduceIte, Nat.reduceEqDiff, Nat.reduceAdd, reduceCtorEq, and_self])
  · refine pureC (l02Flags_c M (by omega) hl (by omega)) (by simp only [go_sem, ↓reduceIte, Nat.reduceEqDiff, Nat.reduceAdd, reduceCtorEq] <;> rfl) (by first | rfl | simp only [go_sem, ↓reduceIte, Nat.reduceEqDiff, Nat.reduceAdd, reduceCtorEq]) ?_
    refine call_pureZ (hot) (by (try simp only [go_sem, ↓reduceIte, Nat.reduceEqDiff, Nat.reduceAdd, reduceCtorEq, Nat.reduceMul, List.take_succ_cons, List.take_zero]); try rfl) ?_
    generalize oth M i M.length = L at *
    simp only [hr, go_sem, ↓reduceIte, Nat.reduceEqDiff, Nat.reduceAdd, reduceCtorEq]
    refine pureC (l01Orbits_c n L hmo hn (by omega)) (by simp only [take_rows, take_rows1, map_frz_rows, go_sem, ↓reduceIte, Nat.reduceEqDiff, Nat.reduceAdd, reduceCtorEq]) (by first | rfl | simp only [go_sem, ↓reduceIte, Nat.reduceEqDiff, Nat.reduceAdd, reduceCtorEq]) ?_
    (repeat first | simp only [go_sem, ↓reduceIte, Nat.reduceEqDiff, Nat.reduceAdd, reduceCtorEq] | (with_reducible refine And.intro ?_ ?_; focus first | omega | decide | grind) | (with_reducible refine Br.mk ?_ ?_; focus (intros; omega)) | decide)
    (try simp only [go_sem, ↓reduceIte, Nat.reduceEqDiff, Nat.reduceAdd, reduceCtorEq, and_self])

theorem faces_c (n : Nat) (M : List (List Int)) (i : Nat) (hM : MvOk n M) (hi : i < M.length) (hr : (M.getD 0 []).length = n) (hn : n ≤ 1048576) (hl : M.length ≤ 1048576) :
    Pure Try.prog 76 [maniP M, i64 i] (.tup [.sl 0 1 0 n, i64 (ncnt (oth M i M.length) n)]) [some (intsC (labs n (oth M i M.length)))] := by
  have hol := oth_len (M := M) (i := i) (k := M.length) (Nat.le_refl _)
  rw [if_pos hi] at hol
  have hmo := hM.oth i M.length
  refine pureVg [1] ok76 rfl ?_; unfold c76
  (repeat first | simp only [go_sem, ↓reduceIte, Nat.reduceEqDiff, Nat.reduceAdd, reduceCtorEq] | (with_reducible refine And.intro ?_ ?_; focus first | omega | decide | grind) | (with_reducible refine Br.mk ?_ ?_; focus (intros; omega)) | decide)
  refine pureC (flags_c M (by omega) hl (by omega)) (by simp only [go_sem, ↓reduceIte, Nat.reduceEqDiff, Nat.reduceAdd, reduceCtorEq] <;> rfl) (by first | rfl | simp only [go_sem, ↓reduceIte, Nat.reduceEqDiff, Nat.reduceAdd, reduceCtorEq]) ?_
  (repeat first | simp only [go_sem, ↓reduceIte, Nat.reduceEqDiff, Nat.reduceAdd, reduceCtorEq] | (with_reducible refine And.intro ?_ ?_; focus first | omega | decide | grind) | (with_reducible refine Br.mk ?_ ?_; focus (intros; omega)) | decide)
  refine call_pureG (without_c M i hi hl) (by simp only [go_sem, ↓reduceIte, Nat.reduceEqDiff, Nat.reduceAdd, reduceCtorEq] <;> rfl) ?_
  (repeat first | simp only [go_sem, ↓reduceIte, Nat.reduceEqDiff, Nat.reduceAdd, reduceCtorEq] | (with_reducible refine And.intro ?_ ?_; focus first | omega | decide | grind) | (with_reducible refine Br.mk ?_ ?_; focus (intros; omega)) | decide)
  generalize oth M i M.length = L at *
  rw [hr]
  refine pureC (orbitLabels_c n L hmo hn (by omega)) (by simp only [take_rows, take_rows1, map_frz_rows, go_sem, ↓reduceIte, Nat.reduceEqDiff, Nat.reduceAdd, reduceCtorEq]) (by first | rfl | simp only [go_sem, ↓reduceIte, Nat.reduceEqDiff, Nat.reduceAdd, reduceCtorEq]) ?_
  (repeat first | simp only [go_sem, ↓reduceIte, Nat.reduceEqDiff, Nat.reduceAdd, reduceCtorEq] | (with_reducible refine And.intro ?_ ?_; focus first | omega | decide | grind) | (with_reducible refine Br.mk ?_ ?_; focus (intros; omega)) | decide)
  (try simp only [go_sem, ↓reduceIte, Nat.reduceEqDiff, Nat.reduceAdd, reduceCtorEq, and_self])

theorem l14Sizes_c (n : Nat) (M : List (List Int)) (i : Nat) (hM : MvOk n M) (hi : i < M.length) (hr : (M.getD 0 []).length = n) (hn : n ≤ 1048576) (hl : M.length ≤ 1048576) :
    Pure Try.prog 35 [maniA M, i64 i] (.sl 0 1 0 (ncnt (oth M i M.length) n)) [some (intsC (hlvs (cntL (ncnt (oth M i M.length) n) (labs n (oth M i M.length)) n)))] := by
  have hol := oth_len (M := M) (i := i) (k := M.length) (Nat.le_refl _)
  rw [if_pos hi] at hol
  have hmo := hM.oth i M.length
  refine pureVg [2] ok35 rfl ?_; unfold c35
  (repeat first | simp only [go_sem, ↓reduceIte, Nat.reduceEqDiff, Nat.reduceAdd, reduceCtorEq] | (with_reducible refine And.intro ?_ ?_; focus first | omega | decide | grind) | (with_reducible refine Br.mk ?_ ?_; focus (intros; omega)) | decide)
  refine pureC (l02Faces_c n M i hM hi hr hn hl) (by simp only [go_sem, ↓reduceIte, Nat.reduceEqDiff, Nat.reduceAdd, reduceCtorEq] <;> rfl) (by first | rfl | simp only [go_sem, ↓reduceIte, Nat.reduceEqDiff, Nat.reduceAdd, reduceCtorEq]) ?_
  (repeat first | simp only [go_sem, ↓reduceIte, Nat.reduceEqDiff, Nat.reduceAdd, reduceCtorEq] | (with_reducible refine And.intro ?_ ?_; focus first | omega | decide | grind) | (with_reducible refine Br.mk ?_ ?_; focus (intros; omega)) | decide)
  generalize oth M i M.length = L at *
  have hll := labs_len n L
  have htk : (intsC (labs n L)).take n = intsC (labs n L) := List.take_of_length_le (by simp [intsC, hll])
  have hg := l02Greatest_c n L hmo hn
  have hcl := ncnt_le L n
  refine pureC hg (by simp only [go_sem, ↓reduceIte, Nat.reduceEqDiff, Nat.reduceAdd, reduceCtorEq, ints, hll, htk]) (by simp only [go_sem, ↓reduceIte, Nat.reduceEqDiff, Nat.reduceAdd, reduceCtorEq]) ?_
  (repeat first | simp only [go_sem, ↓reduceIte, Nat.reduceEqDiff, Nat.reduceAdd, reduceCtorEq] | (with_reducible refine And.intro ?_ ?_; focus first | omega | decide | grind) | (with_reducible refine Br.mk ?_ ?_; focus (intros; omega)) | decide)
  refine V_loop (α := Nat) (S := fun k => ([(5, .sl 1 1 0 n), (6, .sl 2 1 0 (ncnt L n)), (7, i64 k)], [some [mat M], some (intsC (labs n L)), some (intsC (cntL (ncnt L n) (labs n L) k))])) (C := fun k => k ≤ n) (μ := fun k => n - k) 0 (by omega) (Ref.to (by simp [cntL_zero, intsC]) (by simp [sub, fget])) ?_
  intro k hk
  have hcL := cntL_len (ncnt L n) (labs n L) k
  (repeat first | simp only [go_sem, ↓reduceIte, Nat.reduceEqDiff, Nat.reduceAdd, reduceCtorEq] | (with_reducible refine And.intro ?_ ?_; focus first | omega | decide | grind) | (with_reducible refine Br.mk ?_ ?_; focus (intros; omega)) | decide)
  refine ⟨fun hc => ?_, fun hc => ?_⟩
  · have hk' : k < n := by omega
    have hat := labs_at (L := L) hk'
    have hlt := lab_lt hmo hk'
    have hst := cntL_step (c := ncnt L n) (xs := labs n L) (k := k) (v := lab L k) (by omega) hat hlt
    have hle := cntL_le (c := ncnt L n) (xs := labs n L) (k := k) (v := lab L k)
    rw [hll] at hle
    generalize hx : lab L k = x at hat hlt hst hle
    have hxi : ((x : Nat) : Int).toNat = x := by omega
    (repeat first | simp only [go_sem, ↓reduceIte, Nat.reduceEqDiff, Nat.reduceAdd, reduceCtorEq] | (with_reducible refine And.intro ?_ ?_; focus first | omega | decide | grind) | (with_reducible refine Br.mk ?_ ?_; focus (intros; omega)) | decide)
    simp only [hat, hxi, go_sem, ↓reduceIte, Nat.reduceEqDiff, Nat.reduceAdd, reduceCtorEq]
    (repeat first | simp only [go_sem, ↓reduceIte, Nat.reduceEqDiff, Nat.reduceAdd, reduceCtorEq] | (with_reducible refine And.intro ?_ ?_; focus first | omega | decide | grind) | (with_reducible refine Br.mk ?_ ?_; focus (intros; omega)) | decide)
    refine ⟨k + 1, by omega, by omega, ?_⟩
    rw [← hst]
    exact Ref.frame (by simp [sub, fget])
  · obtain rfl : k = n := by omega
    (repeat first | simp only [go_sem, ↓reduceIte, Nat.reduceEqDiff, Nat.reduceAdd, reduceCtorEq] | (with_reducible refine And.intro ?_ ?_; focus first | omega | decide | grind) | (with_reducible refine Br.mk ?_ ?_; focus (intros; omega)) | decide)
    generalize hc : cntL (ncnt L k) (labs k L) k = cs
    have hcs : cs.length = ncnt L k := by rw [← hc, cntL_len]
    have hle : ∀ v, 0 ≤ cs.getD v 0 ∧ cs.getD v 0 ≤ (k : Int) := fun v => by
      have := cntL_le (c := ncnt L k) (xs := labs k L) (k := k) (v := v)
      rw [hc, labs_len] at this
      exact this
    refine V_loop (α := Nat) (S := fun j => ([(5, .sl 1 1 0 k), (6, .sl 2 1 0 cs.length), (8, i64 j)], [some [mat M], some (intsC (labs k L)), some (intsC (hlvs (cs.take j) ++ cs.drop j))])) (C := fun j => j ≤ cs.length) (μ := fun j => cs.length - j) 0 (by omega) (Ref.to (by simp [hlvs]) (by simp [sub, fget, hcs])) ?_
    intro j hj
    have hlk := hlvs_len cs j
    (repeat first | simp only [go_sem, ↓reduceIte, Nat.reduceEqDiff, Nat.reduceAdd, reduceCtorEq] | (with_reducible refine And.intro ?_ ?_; focus first | omega | decide | grind) | (with_reducible refine Br.mk ?_ ?_; focus (intros; omega)) | decide)
    refine ⟨fun hc1 => ?_, fun hc1 => ?_⟩
    · have hj' : j < cs.length := by omega
      have hat := hlvs_at cs j hj'
      have hst := hlvs_step cs j hj'
      have hv := hle j
      have htd := tdiv2 hv.1
      (repeat first | simp only [go_sem, ↓reduceIte, Nat.reduceEqDiff, Nat.reduceAdd, reduceCtorEq] | (with_reducible refine And.intro ?_ ?_; focus first | omega | decide | grind) | (with_reducible refine Br.mk ?_ ?_; focus (intros; omega)) | decide)
      simp only [hat, htd, go_sem, ↓reduceIte, Nat.reduceEqDiff, Nat.reduceAdd, reduceCtorEq]
      (repeat first | simp only [go_sem, ↓reduceIte, Nat.reduceEqDiff, Nat.reduceAdd, reduceCtorEq] | (with_reducible refine And.intro ?_ ?_; focus first | omega | decide | grind) | (with_reducible refine Br.mk ?_ ?_; focus (intros; omega)) | decide)
      refine ⟨j + 1, by omega, by omega, ?_⟩
      rw [hst]
      exact Ref.frame (by simp [sub, fget])
    · obtain rfl : j = cs.length := by omega
      (repeat first | simp only [go_sem, ↓reduceIte, Nat.reduceEqDiff, Nat.reduceAdd, reduceCtorEq] | (with_reducible refine And.intro ?_ ?_; focus first | omega | decide | grind) | (with_reducible refine Br.mk ?_ ?_; focus (intros; omega)) | decide)
      (try simp only [go_sem, ↓reduceIte, Nat.reduceEqDiff, Nat.reduceAdd, reduceCtorEq, List.take_length, List.drop_length, List.append_nil, true_and, and_true, and_self])
      try rw [hcs]

end Go.Proofs.Ytkolabjcmephaaa
