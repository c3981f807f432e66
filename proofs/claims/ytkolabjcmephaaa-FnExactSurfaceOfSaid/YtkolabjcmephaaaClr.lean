/- Colourings: both sides' walks. -/
import Derived.Test.YtkolabjcmephaaaClp
import Derived.Test.YtkolabjcmephaaaVdg
set_option linter.unusedSimpArgs false
set_option linter.unusedVariables false
set_option maxRecDepth 100000
namespace Go.Proofs.Ytkolabjcmephaaa
open Go.Gov
open Classical

theorem yes_c (i : Int) : Pure Try.prog 78 [i64 i] (bl true) [] := by
  refine pureV ok78 rfl ?_; unfold c78
  (repeat first | simp only [go_sem, ↓reduceIte, Nat.reduceEqDiff, Nat.reduceAdd, reduceCtorEq] | (with_reducible refine And.intro ?_ ?_; focus first | assumption | omega | decide | grind) | (with_reducible refine Br.mk ?_ ?_; focus (intros; omega)) | decide)
theorem at_app (A : List Int) (x : Nat) (O : List Nat) : (A ++ nz (x :: O)).getD A.length 0 = (x : Int) := by simp [nz]
theorem at_app' (A : List Int) (x : Nat) (O : List Nat) {k : Nat} (h : k = A.length) : (A ++ nz (x :: O)).getD k 0 = (x : Int) := by subst h; exact at_app A x O
theorem nz_cons (x : Nat) (O : List Nat) : nz (x :: O) = (x : Int) :: nz O := rfl
theorem drop_app (A B : List Int) : (intsC (A ++ B)).drop A.length = intsC B := by simp [intsC]
theorem take_nzc (x : Nat) (O : List Nat) : (intsC ((x : Int) :: nz O)).take (O.length + 1) = intsC ((x : Int) :: nz O) := List.take_of_length_le (by simp [intsC, nz])
theorem take_nz (O : List Nat) : (intsC (nz O)).take O.length = intsC (nz O) := List.take_of_length_le (by simp [intsC, nz])

set_option maxHeartbeats 4000000 in
theorem coloured_c (n : Nat) (M : List (List Int)) (hM : MvOk n M) (h0 : 0 < n) (hn : n ≤ 1048576) (h1 : 0 < M.length) (hl : M.length ≤ 1048576) (hr : (M.getD 0 []).length = n) (hcon : ∀ x, x < n → Rch M 0 x) :
    PureE Try.prog 77 [maniP M, .clo 78 [] []] (fun o : List Int => o.length = n ∧ (BipE n M → o = colV n M)) (fun o => .tup [.sl 0 1 0 n, bl (decide (BipE n M))]) (fun o => [some (intsC o)]) := by
  have hk : callable Try.prog 78 = true := by kernel_rfl
  have tz : Int.toNat 0 = 0 := rfl
  refine pureEV [0] ok77 rfl ?_; unfold c77
  (repeat first | simp only [go_sem, ↓reduceIte, Nat.reduceEqDiff, Nat.reduceAdd, reduceCtorEq] | (with_reducible refine And.intro ?_ ?_; focus first | assumption | omega | decide | grind) | (with_reducible refine Br.mk ?_ ?_; focus (intros; omega)) | decide)
  refine pureC (flags_c M h1 hl (by omega)) (by simp only [go_sem, ↓reduceIte, Nat.reduceEqDiff, Nat.reduceAdd, reduceCtorEq] <;> rfl) (by first | rfl | simp only [go_sem, ↓reduceIte, Nat.reduceEqDiff, Nat.reduceAdd, reduceCtorEq]) ?_
  rw [hr]
  (repeat first | simp only [go_sem, ↓reduceIte, Nat.reduceEqDiff, Nat.reduceAdd, reduceCtorEq] | (with_reducible refine And.intro ?_ ?_; focus first | assumption | omega | decide | grind) | (with_reducible refine Br.mk ?_ ?_; focus (intros; omega)) | decide)
  refine pureC (repeat_c (-1) n (by omega)) (by (try simp only [go_sem, ↓reduceIte, Nat.reduceEqDiff, Nat.reduceAdd, reduceCtorEq, Nat.reduceMul, List.take_succ_cons, List.take_zero, List.take_nil]); try rfl) (by first | rfl | simp only [go_sem, ↓reduceIte, Nat.reduceEqDiff, Nat.reduceAdd, reduceCtorEq]) ?_
  (repeat first | simp only [go_sem, ↓reduceIte, Nat.reduceEqDiff, Nat.reduceAdd, reduceCtorEq] | (with_reducible refine And.intro ?_ ?_; focus first | assumption | omega | decide | grind) | (with_reducible refine Br.mk ?_ ?_; focus (intros; omega)) | decide)
  simp only [tz, go_sem, ↓reduceIte, Nat.reduceEqDiff, Nat.reduceAdd, reduceCtorEq]
  refine V_loop (α := List Int × List Int × List Nat × Bool) (S := fun p => ([(0, maniP M), (1, .clo 78 [] []), (6, .sl 0 1 0 n), (7, bl p.2.2.2), (8, .sl 1 1 p.2.1.length p.2.2.1.length)], [some (intsC p.1), some (intsC (p.2.1 ++ nz p.2.2.1))])) (C := fun p => ColI n M p.1 p.2.2.1 p.2.2.2 none) (μ := fun p => 2 * unc p.1 + p.2.2.1.length) ((List.replicate n (-1)).set 0 0, [], [0], true) (ColI.init h0) (Ref.gc [1, 2] rfl (by simp only [go_sem, ↓reduceIte, Nat.reduceEqDiff, Nat.reduceAdd, reduceCtorEq]; rfl) (by simp [sub, fget, go_sem, ↓reduceIte, Nat.reduceEqDiff, Nat.reduceAdd, reduceCtorEq])) ?_
  rintro ⟨col, A, O, b⟩ hI
  have hI : ColI n M col O b none := hI
  dsimp only
  have hlen := hI.len
  have hfew := hI.few
  have hnzl := nz_len O
  (repeat first | simp only [go_sem, ↓reduceIte, Nat.reduceEqDiff, Nat.reduceAdd, reduceCtorEq] | (with_reducible refine And.intro ?_ ?_; focus first | assumption | omega | decide | grind) | (with_reducible refine Br.mk ?_ ?_; focus (intros; omega)) | decide)
  refine ⟨fun hc => ?_, fun hc => ?_⟩
  · obtain ⟨x, O, rfl⟩ : ∃ x O1, O = x :: O1 := by cases O with | nil => simp at hc | cons x O1 => exact ⟨x, O1, rfl⟩
    have hx := (hI.wait x (by simp)).1
    have hpop := hI.pop
    have hxo : (x :: O).length = O.length + 1 := rfl
    have hax := at_app' A x O rfl
    have hxi : ((x : Nat) : Int).toNat = x := by omega
    (repeat first | simp only [go_sem, ↓reduceIte, Nat.reduceEqDiff, Nat.reduceAdd, reduceCtorEq] | (with_reducible refine And.intro ?_ ?_; focus first | assumption | omega | decide | grind) | (with_reducible refine Br.mk ?_ ?_; focus (intros; omega)) | decide)
    simp only [tz, Nat.add_zero, hax, go_sem, ↓reduceIte, Nat.reduceEqDiff, Nat.reduceAdd, reduceCtorEq]
    (repeat first | simp only [go_sem, ↓reduceIte, Nat.reduceEqDiff, Nat.reduceAdd, reduceCtorEq] | (with_reducible refine And.intro ?_ ?_; focus first | assumption | omega | decide | grind) | (with_reducible refine Br.mk ?_ ?_; focus (intros; omega)) | decide)
    refine V_loop (α := Nat × List Int × List Int × List Nat × Bool) (S := fun p => ([(0, maniP M), (1, .clo 78 [] []), (6, .sl 0 1 0 n), (7, bl p.2.2.2.2), (8, .sl 1 1 p.2.2.1.length (p.2.2.2.1.length + 1)), (9, i64 x), (32, mat M), (33, i64 M.length), (34, i64 p.1)], [some (intsC p.2.1), some (intsC (p.2.2.1 ++ nz (x :: p.2.2.2.1)))])) (C := fun p => p.1 ≤ M.length ∧ ColI n M p.2.1 p.2.2.2.1 p.2.2.2.2 (some (x, p.1)) ∧ 2 * unc p.2.1 + p.2.2.2.1.length < 2 * unc col + (x :: O).length) (μ := fun p => M.length - p.1) (0, col, A, O, b) ⟨Nat.zero_le _, hpop, by simp⟩ (by exact Ref.frame (by simp [sub, fget])) ?_
    rintro ⟨k, col2, A2, O2, b2⟩ ⟨hk2, hI2, hμ⟩
    dsimp only at hk2 hI2 hμ ⊢
    have hlen2 := hI2.len
    have hfew2 := hI2.few
    (repeat first | simp only [go_sem, ↓reduceIte, Nat.reduceEqDiff, Nat.reduceAdd, reduceCtorEq] | (with_reducible refine And.intro ?_ ?_; focus first | assumption | omega | decide | grind) | (with_reducible refine Br.mk ?_ ?_; focus (intros; omega)) | decide)
    refine ⟨fun hc3 => ?_, fun hc3 => ?_⟩
    · have hrm := row_mem (L := M) (k := k) (by omega)
      obtain ⟨hrl, hrb⟩ := hM _ hrm
      obtain ⟨y1, y2, _⟩ := hrb x hx
      have vx := hI2.vals x hx
      (repeat first | simp only [go_sem, ↓reduceIte, Nat.reduceEqDiff, Nat.reduceAdd, reduceCtorEq] | (with_reducible refine And.intro ?_ ?_; focus first | assumption | omega | decide | grind) | (with_reducible refine Br.mk ?_ ?_; focus (intros; omega)) | decide)
      refine pureC (yes_c k) (by simp only [go_sem, ↓reduceIte, Nat.reduceEqDiff, Nat.reduceAdd, reduceCtorEq] <;> rfl) (by first | rfl | simp only [go_sem, ↓reduceIte, Nat.reduceEqDiff, Nat.reduceAdd, reduceCtorEq]) ?_
      (repeat first | simp only [go_sem, ↓reduceIte, Nat.reduceEqDiff, Nat.reduceAdd, reduceCtorEq] | (with_reducible refine And.intro ?_ ?_; focus first | assumption | omega | decide | grind) | (with_reducible refine Br.mk ?_ ?_; focus (intros; omega)) | decide)
      refine ⟨fun hc4 => ?_, fun hc4 => ?_⟩
      · have hnew := hI2.new hM (by omega) (by omega) hc4
        have hs := unc_set (l := col2) (i := ((M.getD k []).getD x 0).toNat) (v := 1 - col2.getD x 0) (by omega) hc4 (by omega)
        have hy3 : ((((M.getD k []).getD x 0).toNat : Nat) : Int) = (M.getD k []).getD x 0 := by omega
        (repeat first | simp only [go_sem, ↓reduceIte, Nat.reduceEqDiff, Nat.reduceAdd, reduceCtorEq] | (with_reducible refine And.intro ?_ ?_; focus first | assumption | omega | decide | grind) | (with_reducible refine Br.mk ?_ ?_; focus (intros; omega)) | decide)
        refine ⟨(k + 1, _, [], O2 ++ [((M.getD k []).getD x 0).toNat], b2), ⟨by dsimp only; omega, hnew, by simp only [List.length_append, List.length_singleton]; omega⟩, by dsimp only; omega, ?_⟩
        dsimp only
        refine Ref.gc [0, 3] rfl ?_ (by simp [sub, fget, go_sem, ↓reduceIte, Nat.reduceEqDiff, Nat.reduceAdd, reduceCtorEq])
        simp only [go_sem, ↓reduceIte, Nat.reduceEqDiff, Nat.reduceAdd, reduceCtorEq, drop_app, List.nil_append]
        rw [nz_cons, nz_cons, nz_snoc, hy3]
        rw [take_nzc, rnmL_ints, one_intsC, app_intsC]
        rfl
      · have hold := hI2.old (by omega) (by omega) hc4
        (repeat first | simp only [go_sem, ↓reduceIte, Nat.reduceEqDiff, Nat.reduceAdd, reduceCtorEq] | (with_reducible refine And.intro ?_ ?_; focus first | assumption | omega | decide | grind) | (with_reducible refine Br.mk ?_ ?_; focus (intros; omega)) | decide)
        refine ⟨fun hc5 => ?_, fun hc5 => ?_⟩
        · rw [decide_eq_false hc5, Bool.and_false] at hold
          (repeat first | simp only [go_sem, ↓reduceIte, Nat.reduceEqDiff, Nat.reduceAdd, reduceCtorEq] | (with_reducible refine And.intro ?_ ?_; focus first | assumption | omega | decide | grind) | (with_reducible refine Br.mk ?_ ?_; focus (intros; omega)) | decide)
          exact ⟨(k + 1, col2, A2, O2, false), ⟨by dsimp only; omega, hold, hμ⟩, by dsimp only; omega, by exact Ref.frame (by simp [sub, fget])⟩
        · rw [decide_eq_true hc5, Bool.and_true] at hold
          (repeat first | simp only [go_sem, ↓reduceIte, Nat.reduceEqDiff, Nat.reduceAdd, reduceCtorEq] | (with_reducible refine And.intro ?_ ?_; focus first | assumption | omega | decide | grind) | (with_reducible refine Br.mk ?_ ?_; focus (intros; omega)) | decide)
          exact ⟨(k + 1, col2, A2, O2, b2), ⟨by dsimp only; omega, hold, hμ⟩, by dsimp only; omega, by exact Ref.frame (by simp [sub, fget])⟩
    · obtain rfl : k = M.length := by omega
      (repeat first | simp only [go_sem, ↓reduceIte, Nat.reduceEqDiff, Nat.reduceAdd, reduceCtorEq] | (with_reducible refine And.intro ?_ ?_; focus first | assumption | omega | decide | grind) | (with_reducible refine Br.mk ?_ ?_; focus (intros; omega)) | decide)
      refine ⟨(col2, A2 ++ [(x : Int)], O2, b2), hI2.fin, by dsimp only; omega, Ref.to (by simp [nz]) (by simp [sub, fget])⟩
  · obtain rfl : O = [] := List.eq_nil_of_length_eq_zero (by omega)
    obtain ⟨hb, hcol⟩ := hI.all hM h0 hcon
    (repeat first | simp only [go_sem, ↓reduceIte, Nat.reduceEqDiff, Nat.reduceAdd, reduceCtorEq] | (with_reducible refine And.intro ?_ ?_; focus first | assumption | omega | decide | grind) | (with_reducible refine Br.mk ?_ ?_; focus (intros; omega)) | decide)
    exact ⟨col, ⟨hlen, hcol⟩, by rw [hb], rfl⟩

theorem colouring_c (n : Nat) (M : List (List Int)) (hM : MvOk n M) (h0 : 0 < n) (hn : n ≤ 1048576) (h1 : 0 < M.length) (hl : M.length ≤ 1048576) (hr : (M.getD 0 []).length = n) (hcon : ∀ x, x < n → Rch M 0 x) :
    PureE Try.prog 46 [maniP M] (fun o : List Int => o.length = n ∧ (BipE n M → o = colV n M)) (fun o => .tup [.sl 0 1 0 n, bl (decide (BipE n M))]) (fun o => [some (intsC o)]) := by
  refine pureEV [0] ok46 rfl ?_; unfold c46
  (repeat first | simp only [go_sem, ↓reduceIte, Nat.reduceEqDiff, Nat.reduceAdd, reduceCtorEq] | (with_reducible refine And.intro ?_ ?_; focus first | assumption | omega | decide | grind) | (with_reducible refine Br.mk ?_ ?_; focus (intros; omega)) | decide)
  refine pureEC (coloured_c n M hM h0 hn h1 hl hr hcon) (by simp only [go_sem, ↓reduceIte, Nat.reduceEqDiff, Nat.reduceAdd, reduceCtorEq] <;> rfl) (fun o => by first | rfl | simp only [go_sem, ↓reduceIte, Nat.reduceEqDiff, Nat.reduceAdd, reduceCtorEq]) fun o ho => ?_
  (repeat first | simp only [go_sem, ↓reduceIte, Nat.reduceEqDiff, Nat.reduceAdd, reduceCtorEq] | (with_reducible refine And.intro ?_ ?_; focus first | assumption | omega | decide | grind) | (with_reducible refine Br.mk ?_ ?_; focus (intros; omega)) | decide)
  exact ⟨o, ho, by first | rfl | exact ⟨rfl, rfl⟩⟩

end Go.Proofs.Ytkolabjcmephaaa
