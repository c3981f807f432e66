/- Contracts of what a law uses to tell memory apart: marks, and whether they hold. -/
import Derived.Test.YtkolabjcmephaaaCodeB
import Derived.Test.YtkolabjcmephaaaCpy
set_option linter.unusedSimpArgs false
set_option linter.unusedVariables false
set_option maxRecDepth 100000
namespace Go.Proofs.Ytkolabjcmephaaa
open Go.Gov

def up (k : Int) (n : Nat) : List Int := (List.range n).map fun (i : Nat) => k + (i : Int)
theorem up_len (k : Int) (n : Nat) : (up k n).length = n := by simp [up]
theorem up_at (k : Int) (n i : Nat) (h : i < n) : (up k n).getD i 0 = k + i := by simp [up, h]
theorem up_succ (k : Int) (n : Nat) : up k (n + 1) = up k n ++ [k + n] := by simp [up, List.range_succ]
theorem up_step (k : Int) (xs : List Int) (i : Nat) (h : i < xs.length) : (up k i ++ xs.drop i).set i (k + i) = up k (i + 1) ++ xs.drop (i + 1) := by
  rw [List.set_append_right _ _ (by rw [up_len]; exact Nat.le_refl _), up_len, Nat.sub_self, List.drop_eq_getElem_cons h, List.set_cons_zero, up_succ, List.append_assoc]
  rfl

theorem markInt64S_c (xs : List Int) (k : Int) (hl : xs.length ≤ 1099511627776) (h0 : 0 ≤ k) (hk : k ≤ 1125899906842624) : Wri Try.prog 16 [.sl 0 1 0 xs.length, i64 k] [some (intsC xs)] (i64 (k + xs.length)) [some (intsC (up k xs.length))] := by
  refine wriV ok16 rfl ?_; unfold c16
  (repeat first | simp only [go_sem, ↓reduceIte, Nat.reduceEqDiff, Nat.reduceAdd, reduceCtorEq] | (with_reducible refine And.intro ?_ ?_; focus first | omega | decide | grind) | (with_reducible refine Br.mk ?_ ?_; focus (intros; omega)) | decide)
  refine V_loop (α := Nat) (S := fun i => ([(0, .sl 0 1 0 xs.length), (1, i64 (k + i)), (5, i64 i)], [some (intsC (up k i ++ xs.drop i))])) (C := fun i => i ≤ xs.length) (μ := fun i => xs.length - i) 0 (by omega) (Ref.to (by simp [up]) (by simp [sub, fget])) ?_
  intro i hi
  have hlen : (up k i ++ xs.drop i).length = xs.length := by simp [up_len]; omega
  (repeat first | simp only [go_sem, ↓reduceIte, Nat.reduceEqDiff, Nat.reduceAdd, reduceCtorEq] | (with_reducible refine And.intro ?_ ?_; focus first | omega | decide | grind) | (with_reducible refine Br.mk ?_ ?_; focus (intros; omega)) | decide)
  refine ⟨fun hc => ?_, fun hc => ?_⟩
  · (repeat first | simp only [go_sem, ↓reduceIte, Nat.reduceEqDiff, Nat.reduceAdd, reduceCtorEq] | (with_reducible refine And.intro ?_ ?_; focus first | omega | decide | grind) | (with_reducible refine Br.mk ?_ ?_; focus (intros; omega)) | decide)
    rw [up_step k xs i (by omega)]
    exact ⟨i + 1, by omega, by omega, Ref.frame (by simp [sub, fget]; omega)⟩
  · (repeat first | simp only [go_sem, ↓reduceIte, Nat.reduceEqDiff, Nat.reduceAdd, reduceCtorEq] | (with_reducible refine And.intro ?_ ?_; focus first | omega | decide | grind) | (with_reducible refine Br.mk ?_ ?_; focus (intros; omega)) | decide)
    obtain rfl : i = xs.length := by omega
    simp

theorem heldInt64S_c (n : Nat) (k : Int) (hl : n ≤ 1099511627776) (h0 : 0 ≤ k) (hk : k ≤ 1125899906842624) : Pure Try.prog 17 [ints (up k n), i64 k] (i64 (k + n)) [] := by
  refine pureV ok17 rfl ?_; unfold c17
  have hlen := up_len k n
  (repeat first | simp only [go_sem, ↓reduceIte, Nat.reduceEqDiff, Nat.reduceAdd, reduceCtorEq] | (with_reducible refine And.intro ?_ ?_; focus first | omega | decide | grind) | (with_reducible refine Br.mk ?_ ?_; focus (intros; omega)) | decide)
  refine V_loop (α := Nat) (S := fun i => ([(0, ints (up k n)), (1, i64 (k + i)), (5, i64 i)], [])) (C := fun i => i ≤ n) (μ := fun i => n - i) 0 (by omega) (by exact Ref.frame (by simp [sub, fget])) ?_
  intro i hi
  (repeat first | simp only [go_sem, ↓reduceIte, Nat.reduceEqDiff, Nat.reduceAdd, reduceCtorEq] | (with_reducible refine And.intro ?_ ?_; focus first | omega | decide | grind) | (with_reducible refine Br.mk ?_ ?_; focus (intros; omega)) | decide)
  refine ⟨fun hc => ?_, fun hc => ?_⟩
  · have hat := up_at k n i (by omega)
    (repeat first | simp only [go_sem, ↓reduceIte, Nat.reduceEqDiff, Nat.reduceAdd, reduceCtorEq] | (with_reducible refine And.intro ?_ ?_; focus first | omega | decide | grind) | (with_reducible refine Br.mk ?_ ?_; focus (intros; omega)) | decide)
    refine fun hc2 => ?_
    (repeat first | simp only [go_sem, ↓reduceIte, Nat.reduceEqDiff, Nat.reduceAdd, reduceCtorEq] | (with_reducible refine And.intro ?_ ?_; focus first | omega | decide | grind) | (with_reducible refine Br.mk ?_ ?_; focus (intros; omega)) | decide)
    exact ⟨i + 1, by omega, by omega, Ref.frame (by simp [sub, fget]; omega)⟩
  · (repeat first | simp only [go_sem, ↓reduceIte, Nat.reduceEqDiff, Nat.reduceAdd, reduceCtorEq] | (with_reducible refine And.intro ?_ ?_; focus first | omega | decide | grind) | (with_reducible refine Br.mk ?_ ?_; focus (intros; omega)) | decide)
    obtain rfl : i = n := by omega
    rfl

def upR : Int → List (List Int) → List (List Int)
  | _, [] => []
  | k, x :: xs => up k x.length :: upR (k + x.length) xs
theorem upR_len : ∀ (k : Int) (xss : List (List Int)), (upR k xss).length = xss.length
  | _, [] => rfl
  | k, x :: xs => by simp [upR, upR_len]
theorem upR_app : ∀ (k : Int) (a b : List (List Int)), upR k (a ++ b) = upR k a ++ upR (k + tot a) b
  | k, [], b => by simp [upR, tot]
  | k, x :: a, b => by
    rw [List.cons_append, upR, upR_app, upR, List.cons_append, tot_cons]
    congr 3
    push_cast; omega
theorem upR_at (k : Int) (xss : List (List Int)) (i : Nat) (h : i < xss.length) : (upR k xss).getD i [] = up (k + tot (xss.take i)) (xss.getD i []).length := by
  have e : xss = xss.take i ++ xss.drop i := (List.take_append_drop i xss).symm
  have h2 : (upR k (xss.take i)).length = i := by rw [upR_len, List.length_take]; omega
  conv => lhs; rw [e]
  rw [upR_app, List.drop_eq_getElem_cons h, upR, List.getD_eq_getElem?_getD, List.getElem?_append_right (by omega), h2, Nat.sub_self]
  simp [h]

theorem heldInt64SS_c (xss : List (List Int)) (k : Int) (hl : xss.length ≤ 1099511627776) (ht : tot xss ≤ 1099511627776) (h0 : 0 ≤ k) (hk : k ≤ 562949953421312) : Pure Try.prog 64 [mat (upR k xss), i64 k] (i64 (k + tot xss)) [] := by
  refine pureV ok64 rfl ?_; unfold c64
  have hlen := upR_len k xss
  (repeat first | simp only [go_sem, ↓reduceIte, Nat.reduceEqDiff, Nat.reduceAdd, reduceCtorEq] | (with_reducible refine And.intro ?_ ?_; focus first | omega | decide | grind) | (with_reducible refine Br.mk ?_ ?_; focus (intros; omega)) | decide)
  refine V_loop (α := Nat) (S := fun i => ([(0, mat (upR k xss)), (1, i64 (k + tot (xss.take i))), (5, i64 i)], [])) (C := fun i => i ≤ xss.length) (μ := fun i => xss.length - i) 0 (by omega) (by exact Ref.frame (by simp [sub, fget, tot])) ?_
  intro i hi
  have h1 := tot_take_le xss i
  (repeat first | simp only [go_sem, ↓reduceIte, Nat.reduceEqDiff, Nat.reduceAdd, reduceCtorEq] | (with_reducible refine And.intro ?_ ?_; focus first | omega | decide | grind) | (with_reducible refine Br.mk ?_ ?_; focus (intros; omega)) | decide)
  refine ⟨fun hc => ?_, fun hc => ?_⟩
  · have hat := upR_at k xss i (by omega)
    have h2 := tot_take xss i (by omega)
    have h3 := tot_take_le xss (i + 1)
    (repeat first | simp only [go_sem, ↓reduceIte, Nat.reduceEqDiff, Nat.reduceAdd, reduceCtorEq] | (with_reducible refine And.intro ?_ ?_; focus first | omega | decide | grind) | (with_reducible refine Br.mk ?_ ?_; focus (intros; omega)) | decide)
    simp only [hat, up_len]
    refine call_pure (heldInt64S_c (xss.getD i []).length (k + tot (xss.take i)) (by omega) (by omega) (by omega)) (by simp only [go_sem, ↓reduceIte, Nat.reduceEqDiff, Nat.reduceAdd, reduceCtorEq, ints, up_len]) rfl rfl ?_
    (try simp only [go_sem, ↓reduceIte, Nat.reduceEqDiff, Nat.reduceAdd, reduceCtorEq, go_sem, ↓reduceIte, Nat.reduceEqDiff, Nat.reduceAdd, reduceCtorEq])
    (repeat first | simp only [go_sem, ↓reduceIte, Nat.reduceEqDiff, Nat.reduceAdd, reduceCtorEq] | (with_reducible refine And.intro ?_ ?_; focus first | omega | decide | grind) | (with_reducible refine Br.mk ?_ ?_; focus (intros; omega)) | decide)
    refine fun hc2 => ?_
    (repeat first | simp only [go_sem, ↓reduceIte, Nat.reduceEqDiff, Nat.reduceAdd, reduceCtorEq] | (with_reducible refine And.intro ?_ ?_; focus first | omega | decide | grind) | (with_reducible refine Br.mk ?_ ?_; focus (intros; omega)) | decide)
    refine ⟨i + 1, by omega, by omega, Ref.frame (by simp [sub, fget, h2]; omega)⟩
  · (repeat first | simp only [go_sem, ↓reduceIte, Nat.reduceEqDiff, Nat.reduceAdd, reduceCtorEq] | (with_reducible refine And.intro ?_ ?_; focus first | omega | decide | grind) | (with_reducible refine Br.mk ?_ ?_; focus (intros; omega)) | decide)
    obtain rfl : i = xss.length := by omega
    rw [List.take_length]

theorem upR_step (k : Int) (xss : List (List Int)) (i : Nat) (h : i < xss.length) : ((upR k (xss.take i) ++ xss.drop i).map oints).set i (oints (up (k + tot (xss.take i)) (xss.getD i []).length)) = (upR k (xss.take (i + 1)) ++ xss.drop (i + 1)).map oints := by
  have h2 : (upR k (xss.take i)).length = i := by rw [upR_len, List.length_take]; omega
  rw [List.take_succ_eq_append_getElem h, upR_app, List.drop_eq_getElem_cons h, ← List.map_set, List.set_append_right _ _ (by omega), h2, Nat.sub_self, List.set_cons_zero, List.append_assoc]
  simp [upR, h]

theorem getD_set_self' {α : Type} (l : List α) (i : Nat) (x d : α) (h : i < l.length) : (l.set i x).getD i d = x := by simp [h]

theorem markInt64SS_c (xss : List (List Int)) (k : Int) (hl : xss.length ≤ 1099511627776) (ht : tot xss ≤ 1099511627776) (h0 : 0 ≤ k) (hk : k ≤ 562949953421312) : Wri Try.prog 40 [.sl 0 1 0 xss.length, i64 k] [some (xss.map oints)] (i64 (k + tot xss)) [some ((upR k xss).map oints)] := by
  refine wriV ok40 rfl ?_; unfold c40
  (repeat first | simp only [go_sem, ↓reduceIte, Nat.reduceEqDiff, Nat.reduceAdd, reduceCtorEq] | (with_reducible refine And.intro ?_ ?_; focus first | omega | decide | grind) | (with_reducible refine Br.mk ?_ ?_; focus (intros; omega)) | decide)
  refine (W_loop (α := Nat) (S := fun i => ([(0, .sl 0 1 0 xss.length), (1, i64 (k + tot (xss.take i))), (5, i64 i)], [some ((upR k (xss.take i) ++ xss.drop i).map oints)])) (C := fun i => i ≤ xss.length) (μ := fun i => xss.length - i) 0 (by omega) (Ref.to (by simp [upR]) (by simp [sub, fget, tot])) ?_)
  intro i hi
  have h1 := tot_take_le xss i
  have hlen : ((upR k (xss.take i) ++ xss.drop i).map oints).length = xss.length := by simp [upR_len]; omega
  by_cases hc : i < xss.length
  · have h2 : (upR k (xss.take i)).length = i := by rw [upR_len, List.length_take]; omega
    have h3 := tot_take xss i hc
    have h4 := tot_take_le xss (i + 1)
    have hrow : ((upR k (xss.take i) ++ xss.drop i).map oints)[i]? = some (oints (xss.getD i [])) := by
      rw [List.getElem?_map, List.getElem?_append_right (by omega), h2, Nat.sub_self, List.getElem?_drop]
      simp [hc]
    generalize hL : (upR k (xss.take i) ++ xss.drop i).map oints = L at hlen hrow ⊢
    refine V_ref (Ref.open 0 i (cs := L) rfl hrow) ?_
    simp only [List.set_cons_zero, List.cons_append, List.nil_append, List.length_cons, List.length_nil, Nat.zero_add]
    have hg := getD_set_self' L i (.sl 1 1 0 (xss.getD i []).length) (.slc 1 0 []) (by omega)
    have hg2 := getD_set_self' L i (.sl 1 1 0 (xss.getD i []).length) .any (by omega)
    have hls : (L.set i (.sl 1 1 0 (xss.getD i []).length)).length = xss.length := by rw [List.length_set]; exact hlen
    (repeat first | simp only [go_sem, ↓reduceIte, Nat.reduceEqDiff, Nat.reduceAdd, reduceCtorEq] | (with_reducible refine And.intro ?_ ?_; focus first | omega | decide | grind) | (with_reducible refine Br.mk ?_ ?_; focus (intros; omega)) | decide)
    refine ⟨fun hc1 => ?_, fun hc1 => absurd hc1 (by omega)⟩
    (repeat first | simp only [go_sem, ↓reduceIte, Nat.reduceEqDiff, Nat.reduceAdd, reduceCtorEq] | (with_reducible refine And.intro ?_ ?_; focus first | omega | decide | grind) | (with_reducible refine Br.mk ?_ ?_; focus (intros; omega)) | decide)
    simp only [hg, hg2, go_sem, ↓reduceIte, Nat.reduceEqDiff, Nat.reduceAdd, reduceCtorEq]
    (repeat first | simp only [go_sem, ↓reduceIte, Nat.reduceEqDiff, Nat.reduceAdd, reduceCtorEq] | (with_reducible refine And.intro ?_ ?_; focus first | omega | decide | grind) | (with_reducible refine Br.mk ?_ ?_; focus (intros; omega)) | decide)
    refine wriC (markInt64S_c (xss.getD i []) (k + tot (xss.take i)) (by omega) (by omega) (by omega)) [1] (by first | rfl | simp) (by simp only [go_sem, ↓reduceIte, Nat.reduceEqDiff, Nat.reduceAdd, reduceCtorEq] <;> rfl) (by simp only [go_sem, ↓reduceIte, Nat.reduceEqDiff, Nat.reduceAdd, reduceCtorEq] <;> rfl) (by first | rfl | simp only [go_sem, ↓reduceIte, Nat.reduceEqDiff, Nat.reduceAdd, reduceCtorEq]) ?_
    (repeat first | simp only [go_sem, ↓reduceIte, Nat.reduceEqDiff, Nat.reduceAdd, reduceCtorEq] | (with_reducible refine And.intro ?_ ?_; focus first | omega | decide | grind) | (with_reducible refine Br.mk ?_ ?_; focus (intros; omega)) | decide)
    subst hL
    refine ⟨i + 1, by omega, by omega, (Ref.close 0 i 1 (cs2 := intsC (up (k + tot (xss.take i)) (xss.getD i []).length)) rfl (List.getElem?_set_self (by omega)) rfl (by decide) (by simp [intsC, up])).trans (Ref.gc [0] rfl ?_ (by simp [sub, fget, go_sem, ↓reduceIte, Nat.reduceEqDiff, Nat.reduceAdd, reduceCtorEq, h3]; omega))⟩
    (try simp only [go_sem, ↓reduceIte, Nat.reduceEqDiff, Nat.reduceAdd, reduceCtorEq, List.set_set])
    have hst := upR_step k xss i hc
    simp only [oints, up_len] at hst
    rw [← hst]
  · obtain rfl : i = xss.length := by omega
    refine V_W ?_
    (repeat first | simp only [go_sem, ↓reduceIte, Nat.reduceEqDiff, Nat.reduceAdd, reduceCtorEq] | (with_reducible refine And.intro ?_ ?_; focus first | omega | decide | grind) | (with_reducible refine Br.mk ?_ ?_; focus (intros; omega)) | decide)
    refine fun hc1 => ?_
    (repeat first | simp only [go_sem, ↓reduceIte, Nat.reduceEqDiff, Nat.reduceAdd, reduceCtorEq] | (with_reducible refine And.intro ?_ ?_; focus first | omega | decide | grind) | (with_reducible refine Br.mk ?_ ?_; focus (intros; omega)) | decide)
    simp

theorem le_tot {xs : List Int} {B : List (List Int)} (h : xs ∈ B) : xs.length ≤ tot B := by
  unfold tot
  obtain ⟨a, b, rfl⟩ := List.append_of_mem h
  simp; omega
theorem take_up (k : Int) (n : Nat) : (intsC (up k n)).take n = intsC (up k n) := by exact List.take_of_length_le (by simp [intsC, up])
theorem take_upR (k : Int) (xss : List (List Int)) : ((upR k xss).map oints).take xss.length = (upR k xss).map oints := by exact List.take_of_length_le (by simp [upR_len])
theorem heldS_c (n : Nat) (k : Int) (hl : n ≤ 1099511627776) (h0 : 0 ≤ k) (hk : k ≤ 1125899906842624) : Pure Try.prog 17 [.slc 1 n (intsC (up k n)), i64 k] (i64 (k + n)) [] := by
  have h := heldInt64S_c n k hl h0 hk
  simpa only [ints, up_len] using h
theorem heldSS_c (xss : List (List Int)) (k : Int) (hl : xss.length ≤ 1099511627776) (ht : tot xss ≤ 1099511627776) (h0 : 0 ≤ k) (hk : k ≤ 562949953421312) : Pure Try.prog 64 [.slc 1 xss.length ((upR k xss).map ints), i64 k] (i64 (k + tot xss)) [] := by
  have h := heldInt64SS_c xss k hl ht h0 hk
  simpa only [mat, upR_len] using h
attribute [go_sem] take_up take_upR
theorem mat_b {B : List (List Int)} {n : Nat} (h : B.length + tot B ≤ n) : B.length ≤ n ∧ tot B ≤ n ∧ ∀ xs ∈ B, xs.length ≤ n := by
  refine ⟨by omega, by omega, fun xs hx => ?_⟩
  have := le_tot hx
  omega
theorem psz_b {R : List Int} {B : List (List Int)} {n : Nat} (h : psz R B ≤ n) : R.length ≤ n ∧ B.length ≤ n ∧ tot B ≤ n ∧ ∀ xs ∈ B, xs.length ≤ n := by
  unfold psz at h
  refine ⟨by omega, by omega, by omega, fun xs hx => ?_⟩
  have := le_tot hx
  omega

end Go.Proofs.Ytkolabjcmephaaa
