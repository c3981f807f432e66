/- The sizes of the faces of a rank: both sides. -/
import Derived.Test.YtkolabjcmephaaaFac
set_option linter.unusedSimpArgs false
set_option linter.unusedVariables false
set_option maxRecDepth 100000
namespace Go.Proofs.Ytkolabjcmephaaa
open Go.Gov

theorem labs_len (n : Nat) (L : List (List Int)) : (labs n L).length = n := by simp [labs]
theorem labs_at {n : Nat} {L : List (List Int)} {x : Nat} (h : x < n) : (labs n L).getD x 0 = ((lab L x : Nat) : Int) := by simp [labs, h]
/-- How often each number below c occurs among the first k. -/
def cntL (c : Nat) (xs : List Int) (k : Nat) : List Int := (List.range c).map fun (v : Nat) => (((xs.take k).count (v : Int) : Nat) : Int)
theorem cntL_len (c : Nat) (xs : List Int) (k : Nat) : (cntL c xs k).length = c := by simp [cntL]
theorem cntL_zero (c : Nat) (xs : List Int) : cntL c xs 0 = List.replicate c 0 := List.ext_getElem (by simp [cntL]) fun j h1 h2 => by simp [cntL]
theorem cntL_at {c : Nat} {xs : List Int} {k v : Nat} (h : v < c) : (cntL c xs k).getD v 0 = (((xs.take k).count (v : Int) : Nat) : Int) := by simp [cntL, h]
theorem cntL_le {c : Nat} {xs : List Int} {k v : Nat} : 0 ≤ (cntL c xs k).getD v 0 ∧ (cntL c xs k).getD v 0 ≤ (xs.length : Int) := by
  rcases Nat.lt_or_ge v c with h | h
  · rw [cntL_at h]
    have := List.count_le_length (a := (v : Int)) (l := xs.take k)
    simp only [List.length_take] at this
    omega
  · rw [List.getD_eq_getElem?_getD, List.getElem?_eq_none (by rw [cntL_len]; exact h)]
    exact ⟨Int.le_refl 0, by simp⟩
theorem cntL_step {c : Nat} {xs : List Int} {k v : Nat} (hk : k < xs.length) (hx : xs.getD k 0 = (v : Int)) (h : v < c) : (cntL c xs k).set v ((cntL c xs k).getD v 0 + 1) = cntL c xs (k + 1) := by
  have e : xs.take (k + 1) = xs.take k ++ [(v : Int)] := by rw [List.take_succ_eq_append_getElem hk, ← hx]; simp [hk]
  rw [cntL_at h]
  refine List.ext_getElem (by simp [cntL]) fun j h1 h2 => ?_
  by_cases e2 : v = j
  · subst e2
    simp only [List.getElem_set_self, cntL, List.getElem_map, List.getElem_range, e, List.count_append, List.count_singleton_self]
    omega
  · rw [List.getElem_set_ne e2]
    simp only [cntL, List.getElem_map, List.getElem_range, e, List.count_append, List.count_singleton]
    rw [if_neg (by simp; omega)]
    simp
/-- The halves of the first k, then the others as they are. -/
def hlvs (xs : List Int) : List Int := xs.map fun x => x / 2
theorem hlvs_step (xs : List Int) (i : Nat) (h : i < xs.length) : (hlvs (xs.take i) ++ xs.drop i).set i (xs.getD i 0 / 2) = hlvs (xs.take (i + 1)) ++ xs.drop (i + 1) := by
  refine List.ext_getElem (by simp [hlvs]; omega) fun j h1 h2 => ?_
  have hj : j < xs.length := by simp [hlvs] at h1; omega
  by_cases e : i = j
  · subst e
    rw [List.getElem_set_self, List.getElem_append_left (by simp [hlvs]; omega)]
    simp [hlvs, hj]
  · rw [List.getElem_set_ne e]
    rcases Nat.lt_or_ge j i with h3 | h3
    · rw [List.getElem_append_left (by simp [hlvs]; omega), List.getElem_append_left (by simp [hlvs]; omega)]
      simp [hlvs]
    · rw [List.getElem_append_right (by simp [hlvs]; omega), List.getElem_append_right (by simp [hlvs]; omega)]
      simp only [hlvs, List.length_map, List.length_take, List.getElem_drop]
      congr 1; omega
theorem hlvs_at (xs : List Int) (i : Nat) (h : i < xs.length) : (hlvs (xs.take i) ++ xs.drop i).getD i 0 = xs.getD i 0 := by
  rw [List.getD_eq_getElem?_getD, List.getElem?_append_right (by simp [hlvs]; omega)]
  simp [hlvs, show min i xs.length = i by omega]
theorem hlvs_len (xs : List Int) (i : Nat) : (hlvs (xs.take i) ++ xs.drop i).length = xs.length := by simp [hlvs]; omega
theorem tdiv2 {x : Int} (h : 0 ≤ x) : x.tdiv 2 = x / 2 := Int.tdiv_eq_ediv_of_nonneg h

theorem orbitSizes_c (n : Nat) (L : List (List Int)) (hL : MvOk n L) (hn : n ≤ 1048576) (hl : L.length ≤ 1048576) : Pure Try.prog 72 [i64 n, mat L] (.sl 0 1 0 (ncnt L n)) [some (intsC (cntL (ncnt L n) (labs n L) n))] := by
  have hcl := ncnt_le L n
  have hll := labs_len n L
  refine pureVg [1] ok72 rfl ?_; unfold c72
  (repeat first | simp only [go_sem, ↓reduceIte, Nat.reduceEqDiff, Nat.reduceAdd, reduceCtorEq] | (with_reducible refine And.intro ?_ ?_; focus first | omega | decide | grind) | (with_reducible refine Br.mk ?_ ?_; focus (intros; omega)) | decide)
  refine pureC (orbitLabels_c n L hL hn hl) (by simp only [go_sem, ↓reduceIte, Nat.reduceEqDiff, Nat.reduceAdd, reduceCtorEq] <;> rfl) (by first | rfl | simp only [go_sem, ↓reduceIte, Nat.reduceEqDiff, Nat.reduceAdd, reduceCtorEq]) ?_
  (repeat first | simp only [go_sem, ↓reduceIte, Nat.reduceEqDiff, Nat.reduceAdd, reduceCtorEq] | (with_reducible refine And.intro ?_ ?_; focus first | omega | decide | grind) | (with_reducible refine Br.mk ?_ ?_; focus (intros; omega)) | decide)
  refine V_loop (α := Nat) (S := fun k => ([(7, .sl 1 1 0 (ncnt L n)), (18, .sl 0 1 0 n), (19, i64 n), (20, i64 k)], [some (intsC (labs n L)), some (intsC (cntL (ncnt L n) (labs n L) k))])) (C := fun k => k ≤ n) (μ := fun k => n - k) 0 (by omega) (Ref.to (by simp [cntL_zero, intsC]) (by simp [sub, fget])) ?_
  intro k hk
  have hcL := cntL_len (ncnt L n) (labs n L) k
  (repeat first | simp only [go_sem, ↓reduceIte, Nat.reduceEqDiff, Nat.reduceAdd, reduceCtorEq] | (with_reducible refine And.intro ?_ ?_; focus first | omega | decide | grind) | (with_reducible refine Br.mk ?_ ?_; focus (intros; omega)) | decide)
  refine ⟨fun hc => ?_, fun hc => ?_⟩
  · have hk' : k < n := by omega
    have hat := labs_at (L := L) hk'
    have hlt := lab_lt hL hk'
    have hst := cntL_step (c := ncnt L n) (xs := labs n L) (k := k) (v := lab L k) (by omega) hat hlt
    have hle := cntL_le (c := ncnt L n) (xs := labs n L) (k := k) (v := lab L k)
    rw [hll] at hle
    generalize hx : lab L k = x at hat hlt hst hle
    have hxi : ((x : Nat) : Int).toNat = x := by omega
    (repeat first | simp only [go_sem, ↓reduceIte, Nat.reduceEqDiff, Nat.reduceAdd, reduceCtorEq] | (with_reducible refine And.intro ?_ ?_; focus first | omega | decide | grind) | (with_reducible refine Br.mk ?_ ?_; focus (intros; omega)) | decide)
    simp only [hat, hxi, go_sem, ↓reduceIte, Nat.reduceEqDiff, Nat.reduceAdd, reduceCtorEq]
    (repeat first | simp only [go_sem, ↓reduceIte, Nat.reduceEqDiff, Nat.reduceAdd, reduceCtorEq] | (with_reducible refine And.intro ?_ ?_; focus first | omega | decide | grind) | (with_reducible refine Br.mk ?_ ?_; focus (intros; omega)) | decide)
    refine ⟨k + 1, by omega, by omega, ?_⟩
    rw [← hst]
    exact Ref.frame (by simp [sub, fget])
  · obtain rfl : k = n := by omega
    (repeat first | simp only [go_sem, ↓reduceIte, Nat.reduceEqDiff, Nat.reduceAdd, reduceCtorEq] | (with_reducible refine And.intro ?_ ?_; focus first | omega | decide | grind) | (with_reducible refine Br.mk ?_ ?_; focus (intros; omega)) | decide)
    (try simp only [go_sem, ↓reduceIte, Nat.reduceEqDiff, Nat.reduceAdd, reduceCtorEq, and_self])

theorem sizesOf_c (n : Nat) (M : List (List Int)) (i : Nat) (hM : MvOk n M) (hi : i < M.length) (hr : (M.getD 0 []).length = n) (hn : n ≤ 1048576) (hl : M.length ≤ 1048576) :
    Pure Try.prog 38 [maniP M, i64 i] (.sl 0 1 0 (ncnt (oth M i M.length) n)) [some (intsC (hlvs (cntL (ncnt (oth M i M.length) n) (labs n (oth M i M.length)) n)))] := by
  have hol := oth_len (M := M) (i := i) (k := M.length) (Nat.le_refl _)
  rw [if_pos hi] at hol
  have hmo := hM.oth i M.length
  refine pureVg [1] ok38 rfl ?_; unfold c38
  (repeat first | simp only [go_sem, ↓reduceIte, Nat.reduceEqDiff, Nat.reduceAdd, reduceCtorEq] | (with_reducible refine And.intro ?_ ?_; focus first | omega | decide | grind) | (with_reducible refine Br.mk ?_ ?_; focus (intros; omega)) | decide)
  refine pureC (flags_c M (by omega) hl (by omega)) (by simp only [go_sem, ↓reduceIte, Nat.reduceEqDiff, Nat.reduceAdd, reduceCtorEq] <;> rfl) (by first | rfl | simp only [go_sem, ↓reduceIte, Nat.reduceEqDiff, Nat.reduceAdd, reduceCtorEq]) ?_
  (repeat first | simp only [go_sem, ↓reduceIte, Nat.reduceEqDiff, Nat.reduceAdd, reduceCtorEq] | (with_reducible refine And.intro ?_ ?_; focus first | omega | decide | grind) | (with_reducible refine Br.mk ?_ ?_; focus (intros; omega)) | decide)
  refine call_pureG (without_c M i hi hl) (by simp only [go_sem, ↓reduceIte, Nat.reduceEqDiff, Nat.reduceAdd, reduceCtorEq] <;> rfl) ?_
  (repeat first | simp only [go_sem, ↓reduceIte, Nat.reduceEqDiff, Nat.reduceAdd, reduceCtorEq] | (with_reducible refine And.intro ?_ ?_; focus first | omega | decide | grind) | (with_reducible refine Br.mk ?_ ?_; focus (intros; omega)) | decide)
  generalize oth M i M.length = L at *
  rw [hr]
  refine pureC (orbitSizes_c n L hmo hn (by omega)) (by simp only [go_sem, ↓reduceIte, Nat.reduceEqDiff, Nat.reduceAdd, reduceCtorEq] <;> rfl) (by first | rfl | simp only [go_sem, ↓reduceIte, Nat.reduceEqDiff, Nat.reduceAdd, reduceCtorEq]) ?_
  (repeat first | simp only [go_sem, ↓reduceIte, Nat.reduceEqDiff, Nat.reduceAdd, reduceCtorEq] | (with_reducible refine And.intro ?_ ?_; focus first | omega | decide | grind) | (with_reducible refine Br.mk ?_ ?_; focus (intros; omega)) | decide)
  generalize hc : cntL (ncnt L n) (labs n L) n = cs
  have hcs : cs.length = ncnt L n := by rw [← hc, cntL_len]
  have hle : ∀ v, 0 ≤ cs.getD v 0 ∧ cs.getD v 0 ≤ (n : Int) := fun v => by
    have := cntL_le (c := ncnt L n) (xs := labs n L) (k := n) (v := v)
    rw [hc, labs_len] at this
    exact this
  have hcl := ncnt_le L n
  refine V_loop (α := Nat) (S := fun k => ([(5, .sl 1 1 0 cs.length), (14, i64 cs.length), (15, i64 k)], [some ((L ++ [[]]).map ints), some (intsC (hlvs (cs.take k) ++ cs.drop k))])) (C := fun k => k ≤ cs.length) (μ := fun k => cs.length - k) 0 (by omega) (Ref.to (by simp [hlvs]) (by simp [sub, fget, hcs])) ?_
  intro k hk
  have hlk := hlvs_len cs k
  (repeat first | simp only [go_sem, ↓reduceIte, Nat.reduceEqDiff, Nat.reduceAdd, reduceCtorEq] | (with_reducible refine And.intro ?_ ?_; focus first | omega | decide | grind) | (with_reducible refine Br.mk ?_ ?_; focus (intros; omega)) | decide)
  refine ⟨fun hc1 => ?_, fun hc1 => ?_⟩
  · have hk' : k < cs.length := by omega
    have hat := hlvs_at cs k hk'
    have hst := hlvs_step cs k hk'
    have hv := hle k
    have htd := tdiv2 hv.1
    (repeat first | simp only [go_sem, ↓reduceIte, Nat.reduceEqDiff, Nat.reduceAdd, reduceCtorEq] | (with_reducible refine And.intro ?_ ?_; focus first | omega | decide | grind) | (with_reducible refine Br.mk ?_ ?_; focus (intros; omega)) | decide)
    simp only [hat, htd, hst, go_sem, ↓reduceIte, Nat.reduceEqDiff, Nat.reduceAdd, reduceCtorEq]
    (repeat first | simp only [go_sem, ↓reduceIte, Nat.reduceEqDiff, Nat.reduceAdd, reduceCtorEq] | (with_reducible refine And.intro ?_ ?_; focus first | omega | decide | grind) | (with_reducible refine Br.mk ?_ ?_; focus (intros; omega)) | decide)
    refine ⟨k + 1, by omega, by omega, ?_⟩
    exact Ref.frame (by simp [sub, fget])
  · obtain rfl : k = cs.length := by omega
    (repeat first | simp only [go_sem, ↓reduceIte, Nat.reduceEqDiff, Nat.reduceAdd, reduceCtorEq] | (with_reducible refine And.intro ?_ ?_; focus first | omega | decide | grind) | (with_reducible refine Br.mk ?_ ?_; focus (intros; omega)) | decide)
    (try simp only [go_sem, ↓reduceIte, Nat.reduceEqDiff, Nat.reduceAdd, reduceCtorEq, List.take_length, List.drop_length, List.append_nil, true_and, and_true, and_self])
    try rw [hcs]

theorem ncnt_low {L : List (List Int)} {x k : Nat} (h : fst L x < k) (hf : fst L (fst L x) = fst L x) : lab L x < ncnt L k := by
  have h1 := ncnt_new hf
  have h2 := ncnt_mono L (a := fst L x + 1) (b := k) (by omega)
  unfold lab
  omega

theorem l02Greatest_c (n : Nat) (L : List (List Int)) (hL : MvOk n L) (hn : n ≤ 1048576) : Pure Try.prog 69 [ints (labs n L)] (i64 (ncnt L n)) [] := by
  have hll := labs_len n L
  refine pureV ok69 rfl ?_; unfold c69
  (repeat first | simp only [go_sem, ↓reduceIte, Nat.reduceEqDiff, Nat.reduceAdd, reduceCtorEq] | (with_reducible refine And.intro ?_ ?_; focus first | omega | decide | grind) | (with_reducible refine Br.mk ?_ ?_; focus (intros; omega)) | decide)
  refine V_loop (α := Nat) (S := fun k => ([(0, ints (labs n L)), (3, i64 (ncnt L k)), (4, i64 k)], [])) (C := fun k => k ≤ n) (μ := fun k => n - k) 0 (by omega) (Ref.to (by simp) (by simp [sub, fget, ncnt])) ?_
  intro k hk
  (repeat first | simp only [go_sem, ↓reduceIte, Nat.reduceEqDiff, Nat.reduceAdd, reduceCtorEq] | (with_reducible refine And.intro ?_ ?_; focus first | omega | decide | grind) | (with_reducible refine Br.mk ?_ ?_; focus (intros; omega)) | decide)
  refine ⟨fun hc => ?_, fun hc => ?_⟩
  · have hk' : k < n := by omega
    have hat := labs_at (L := L) hk'
    have hle := (fst_spec L k).1
    have hff := fst_fst hL hk'
    have hcl := ncnt_le L k
    have hlow := fun h => ncnt_low (L := L) (x := k) (k := k) h hff
    (repeat first | simp only [go_sem, ↓reduceIte, Nat.reduceEqDiff, Nat.reduceAdd, reduceCtorEq] | (with_reducible refine And.intro ?_ ?_; focus first | omega | decide | grind) | (with_reducible refine Br.mk ?_ ?_; focus (intros; omega)) | decide)
    refine ⟨fun hc1 => ?_, fun hc1 => ?_⟩
    · have hf : fst L k = k := by
        rcases Nat.lt_or_ge (fst L k) k with h | h
        · have := hlow h; omega
        · omega
      have hlk : lab L k = ncnt L k := by unfold lab; rw [hf]
      have hnew := ncnt_new hf
      (repeat first | simp only [go_sem, ↓reduceIte, Nat.reduceEqDiff, Nat.reduceAdd, reduceCtorEq] | (with_reducible refine And.intro ?_ ?_; focus first | omega | decide | grind) | (with_reducible refine Br.mk ?_ ?_; focus (intros; omega)) | decide)
      refine ⟨k + 1, by omega, by omega, ?_⟩
      rw [show (labs n L).getD k 0 + 1 = ((ncnt L (k + 1) : Nat) : Int) by omega]
      exact Ref.frame (by simp [sub, fget])
    · have hf : fst L k ≠ k := fun h => by
        have hlk : lab L k = ncnt L k := by unfold lab; rw [h]
        omega
      have hold := ncnt_old hf
      (repeat first | simp only [go_sem, ↓reduceIte, Nat.reduceEqDiff, Nat.reduceAdd, reduceCtorEq] | (with_reducible refine And.intro ?_ ?_; focus first | omega | decide | grind) | (with_reducible refine Br.mk ?_ ?_; focus (intros; omega)) | decide)
      refine ⟨k + 1, by omega, by omega, ?_⟩
      rw [hold]
      exact Ref.frame (by simp [sub, fget])
  · obtain rfl : k = n := by omega
    (repeat first | simp only [go_sem, ↓reduceIte, Nat.reduceEqDiff, Nat.reduceAdd, reduceCtorEq] | (with_reducible refine And.intro ?_ ?_; focus first | omega | decide | grind) | (with_reducible refine Br.mk ?_ ?_; focus (intros; omega)) | decide)

end Go.Proofs.Ytkolabjcmephaaa
