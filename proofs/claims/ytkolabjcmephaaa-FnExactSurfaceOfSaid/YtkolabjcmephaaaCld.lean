/- Colourings: the rule's walk. -/
import Derived.Test.YtkolabjcmephaaaClr
set_option linter.unusedSimpArgs false
set_option linter.unusedVariables false
set_option maxRecDepth 100000
namespace Go.Proofs.Ytkolabjcmephaaa
open Go.Gov
open Classical

/-- What the distances tell: they are told for all; a colouring is their parity. -/
def DisQ (n : Nat) (M : List (List Int)) (d : List Int) : Prop := d.length = n ∧ d.getD 0 0 = 0 ∧ (∀ x, x < n → 0 ≤ d.getD x 0 ∧ d.getD x 0 ≤ n) ∧ ∀ c, Bip n M c → ∀ y, y < n → d.getD y 0 % 2 = c y

set_option maxHeartbeats 4000000 in
theorem l02Distances_c (n : Nat) (M : List (List Int)) (hM : MvOk n M) (h0 : 0 < n) (hn : n ≤ 1048576) (h1 : 0 < M.length) (hl : M.length ≤ 1048576) (hr : (M.getD 0 []).length = n) (hcon : ∀ x, x < n → Rch M 0 x) :
    PureE Try.prog 74 [maniA M, i64 0] (DisQ n M) (fun _ => .sl 0 1 0 n) (fun o => [some (intsC o)]) := by
  have tz : Int.toNat 0 = 0 := rfl
  have hfl := l02Flags_c M h1 hl (by omega)
  rw [hr] at hfl
  refine pureEV [1] ok74 rfl ?_; unfold c74
  (repeat first | simp only [go_sem, ↓reduceIte, Nat.reduceEqDiff, Nat.reduceAdd, reduceCtorEq] | (with_reducible refine And.intro ?_ ?_; focus first | assumption | omega | decide | grind) | (with_reducible refine Br.mk ?_ ?_; focus (intros; omega)) | decide)
  refine V_loop (α := Nat) (S := fun k => ([(1, i64 0), (2, .ref 0 0), (5, .sl 1 1 0 k), (6, i64 k)], [some [mat M], some (intsC (List.replicate k (-1)))])) (C := fun k => k ≤ n) (μ := fun k => n - k) 0 (by omega) (Ref.to (by simp [intsC]) (by simp [sub, fget])) ?_
  intro k hk
  have hkl : (List.replicate k (-1 : Int)).length = k := by simp
  (repeat first | simp only [go_sem, ↓reduceIte, Nat.reduceEqDiff, Nat.reduceAdd, reduceCtorEq] | (with_reducible refine And.intro ?_ ?_; focus first | assumption | omega | decide | grind) | (with_reducible refine Br.mk ?_ ?_; focus (intros; omega)) | decide)
  refine pureC (hfl) (by simp only [go_sem, ↓reduceIte, Nat.reduceEqDiff, Nat.reduceAdd, reduceCtorEq] <;> rfl) (by first | rfl | simp only [go_sem, ↓reduceIte, Nat.reduceEqDiff, Nat.reduceAdd, reduceCtorEq]) ?_
  (repeat first | simp only [go_sem, ↓reduceIte, Nat.reduceEqDiff, Nat.reduceAdd, reduceCtorEq] | (with_reducible refine And.intro ?_ ?_; focus first | assumption | omega | decide | grind) | (with_reducible refine Br.mk ?_ ?_; focus (intros; omega)) | decide)
  refine ⟨fun hc => ?_, fun hc => ?_⟩
  · (repeat first | simp only [go_sem, ↓reduceIte, Nat.reduceEqDiff, Nat.reduceAdd, reduceCtorEq] | (with_reducible refine And.intro ?_ ?_; focus first | assumption | omega | decide | grind) | (with_reducible refine Br.mk ?_ ?_; focus (intros; omega)) | decide)
    refine ⟨k + 1, by omega, by omega, Ref.gc [0, 3] rfl ?_ (by simp [sub, fget, go_sem, ↓reduceIte, Nat.reduceEqDiff, Nat.reduceAdd, reduceCtorEq])⟩
    have e1 : (intsC (List.replicate k (-1))).take k = intsC (List.replicate k (-1)) := List.take_of_length_le (by simp [intsC])
    simp only [go_sem, ↓reduceIte, Nat.reduceEqDiff, Nat.reduceAdd, reduceCtorEq, e1, one_intsC, app_intsC, List.replicate_succ']
  · obtain rfl : k = n := by omega
    (repeat first | simp only [go_sem, ↓reduceIte, Nat.reduceEqDiff, Nat.reduceAdd, reduceCtorEq] | (with_reducible refine And.intro ?_ ?_; focus first | assumption | omega | decide | grind) | (with_reducible refine Br.mk ?_ ?_; focus (intros; omega)) | decide)
    simp only [tz, go_sem, ↓reduceIte, Nat.reduceEqDiff, Nat.reduceAdd, reduceCtorEq]
    refine V_loop (α := Nat × List Int × List Nat) (S := fun p => ([(2, .ref 0 0), (5, .sl 1 1 0 k), (7, .sl 2 1 0 p.2.2.length), (8, i64 p.1)], [some [mat M], some (intsC p.2.1), some (intsC (nz p.2.2))])) (C := fun p => p.1 ≤ p.2.2.length ∧ DisI k M p.2.1 p.2.2 p.1 0) (μ := fun p => k - p.1) (0, (List.replicate k (-1)).set 0 0, [0]) ⟨Nat.zero_le _, DisI.init h0⟩ (Ref.to (by simp [nz, intsC]) (by simp [sub, fget])) ?_
    rintro ⟨i, d, R⟩ ⟨hi, hI⟩
    dsimp only at hi hI ⊢
    have hlen := hI.len
    have hfew := hI.few
    have hnzl := nz_len R
    (repeat first | simp only [go_sem, ↓reduceIte, Nat.reduceEqDiff, Nat.reduceAdd, reduceCtorEq] | (with_reducible refine And.intro ?_ ?_; focus first | assumption | omega | decide | grind) | (with_reducible refine Br.mk ?_ ?_; focus (intros; omega)) | decide)
    refine ⟨fun hc2 => ?_, fun hc2 => ?_⟩
    · have hi' : i < R.length := by omega
      obtain ⟨x, hx⟩ : ∃ x, x = R[i] := ⟨_, rfl⟩
      obtain ⟨hxn, hxd⟩ := hI.inR _ (List.getElem_mem hi')
      rw [← hx] at hxn hxd
      have hxi : ((x : Nat) : Int).toNat = x := by omega
      have hat : ∀ W : List Nat, (nz (R ++ W)).getD i 0 = (x : Int) := fun W => by simp [nz, hi', List.getElem?_append_left, hx]
      (repeat first | simp only [go_sem, ↓reduceIte, Nat.reduceEqDiff, Nat.reduceAdd, reduceCtorEq] | (with_reducible refine And.intro ?_ ?_; focus first | assumption | omega | decide | grind) | (with_reducible refine Br.mk ?_ ?_; focus (intros; omega)) | decide)
      refine V_loop (α := Nat × List Int × List Nat) (S := fun p => ([(2, .ref 0 0), (5, .sl 1 1 0 k), (7, .sl 2 1 0 (R ++ p.2.2).length), (8, i64 i), (9, i64 p.1)], [some [mat M], some (intsC p.2.1), some (intsC (nz (R ++ p.2.2)))])) (C := fun p => p.1 ≤ M.length ∧ DisI k M p.2.1 (R ++ p.2.2) i p.1) (μ := fun p => M.length - p.1) (0, d, []) ⟨Nat.zero_le _, by simpa using hI⟩ (Ref.to (by simp) (by simp [sub, fget])) ?_
      rintro ⟨q, d2, W⟩ ⟨hq, hI2⟩
      dsimp only at hq hI2 ⊢
      have hlen2 := hI2.len
      have hfew2 := hI2.few
      have hnzl2 := nz_len (R ++ W)
      have hat2 := hat W
      have hRW : (R ++ W).length = R.length + W.length := List.length_append
      have hiW : i < (R ++ W).length := by omega
      have hxW : (R ++ W)[i] = x := by rw [List.getElem_append_left hi']; exact hx.symm
      (repeat first | simp only [go_sem, ↓reduceIte, Nat.reduceEqDiff, Nat.reduceAdd, reduceCtorEq] | (with_reducible refine And.intro ?_ ?_; focus first | assumption | omega | decide | grind) | (with_reducible refine Br.mk ?_ ?_; focus (intros; omega)) | decide)
      refine ⟨fun hc3 => ?_, fun hc3 => ?_⟩
      · have hrm := row_mem (L := M) (k := q) (by omega)
        obtain ⟨hrl, hrb⟩ := hM _ hrm
        obtain ⟨y1, y2, _⟩ := hrb x hxn
        have vx := hI2.vals x hxn
        have hnew := hI2.new hiW (by omega)
        have hold := hI2.old hiW
        rw [hxW] at hnew hold
        generalize hZ : R ++ W = Z at hnzl2 hat2 hRW hI2 hnew hold hfew2 hiW ⊢
        (repeat first | simp only [go_sem, ↓reduceIte, Nat.reduceEqDiff, Nat.reduceAdd, reduceCtorEq] | (with_reducible refine And.intro ?_ ?_; focus first | assumption | omega | decide | grind) | (with_reducible refine Br.mk ?_ ?_; focus (intros; omega)) | decide)
        simp only [hat2, hxi, go_sem, ↓reduceIte, Nat.reduceEqDiff, Nat.reduceAdd, reduceCtorEq]
        (repeat first | simp only [go_sem, ↓reduceIte, Nat.reduceEqDiff, Nat.reduceAdd, reduceCtorEq] | (with_reducible refine And.intro ?_ ?_; focus first | assumption | omega | decide | grind) | (with_reducible refine Br.mk ?_ ?_; focus (intros; omega)) | decide)
        refine ⟨fun hc4 => ?_, fun hc4 => ?_⟩
        · have hnew := hnew (by omega) hc4
          have hy3 : ((((M.getD q []).getD x 0).toNat : Nat) : Int) = (M.getD q []).getD x 0 := by omega
          (repeat first | simp only [go_sem, ↓reduceIte, Nat.reduceEqDiff, Nat.reduceAdd, reduceCtorEq] | (with_reducible refine And.intro ?_ ?_; focus first | assumption | omega | decide | grind) | (with_reducible refine Br.mk ?_ ?_; focus (intros; omega)) | decide)
          refine ⟨(q + 1, d2.set ((M.getD q []).getD x 0).toNat (d2.getD x 0 + 1), W ++ [((M.getD q []).getD x 0).toNat]), ⟨by dsimp only; omega, ?_⟩, by dsimp only; omega, ?_⟩
          · dsimp only
            rw [← List.append_assoc, hZ]
            exact hnew
          · dsimp only
            rw [← List.append_assoc, hZ, nz_snoc, hy3]
            refine Ref.gc [0, 1, 4] rfl ?_ (by simp [sub, fget, go_sem, ↓reduceIte, Nat.reduceEqDiff, Nat.reduceAdd, reduceCtorEq, Nat.add_assoc])
            have hRW' : R.length + W.length = (nz Z).length := by omega
            (try simp only [go_sem, ↓reduceIte, Nat.reduceEqDiff, Nat.reduceAdd, reduceCtorEq, hRW', take_ints_len, one_intsC, app_intsC])
        · have hold := hold hc4
          (repeat first | simp only [go_sem, ↓reduceIte, Nat.reduceEqDiff, Nat.reduceAdd, reduceCtorEq] | (with_reducible refine And.intro ?_ ?_; focus first | assumption | omega | decide | grind) | (with_reducible refine Br.mk ?_ ?_; focus (intros; omega)) | decide)
          refine ⟨(q + 1, d2, W), ⟨by dsimp only; omega, by dsimp only; rw [hZ]; exact hold⟩, by dsimp only; omega, ?_⟩
          dsimp only
          rw [hZ]
          exact Ref.frame (by simp [sub, fget])
      · obtain rfl : q = M.length := by omega
        (repeat first | simp only [go_sem, ↓reduceIte, Nat.reduceEqDiff, Nat.reduceAdd, reduceCtorEq] | (with_reducible refine And.intro ?_ ?_; focus first | assumption | omega | decide | grind) | (with_reducible refine Br.mk ?_ ?_; focus (intros; omega)) | decide)
        exact ⟨(i + 1, d2, R ++ W), ⟨by dsimp only; omega, hI2.next hiW⟩, by dsimp only; omega, by exact Ref.frame (by simp [sub, fget])⟩
    · obtain rfl : i = R.length := by omega
      (repeat first | simp only [go_sem, ↓reduceIte, Nat.reduceEqDiff, Nat.reduceAdd, reduceCtorEq] | (with_reducible refine And.intro ?_ ?_; focus first | assumption | omega | decide | grind) | (with_reducible refine Br.mk ?_ ?_; focus (intros; omega)) | decide)
      exact ⟨d, hI.all hM h0 hcon, rfl⟩

/-- The parities of the first k. -/
def prs (d : List Int) (k : Nat) : List Int := (d.take k).map (fun x => x % 2) ++ d.drop k
theorem prs_len (d : List Int) (k : Nat) : (prs d k).length = d.length := by simp [prs]; omega
theorem prs_at {d : List Int} {k : Nat} (h : k < d.length) : (prs d k).getD k 0 = d.getD k 0 := by
  unfold prs
  rw [List.getD_eq_getElem?_getD, List.getElem?_append_right (by simp; omega)]
  simp [show min k d.length = k by omega]
theorem prs_step {d : List Int} {k : Nat} (h : k < d.length) : (prs d k).set k (d.getD k 0 % 2) = prs d (k + 1) := by
  unfold prs
  refine List.ext_getElem (by simp; omega) fun j h1 h2 => ?_
  have hj : j < d.length := by simp at h1; omega
  by_cases e : k = j
  · subst e
    rw [List.getElem_set_self, List.getElem_append_left (by simp; omega)]
    simp [hj]
  · rw [List.getElem_set_ne e]
    rcases Nat.lt_or_ge j k with h3 | h3
    · rw [List.getElem_append_left (by simp; omega), List.getElem_append_left (by simp; omega)]
      simp
    · rw [List.getElem_append_right (by simp; omega), List.getElem_append_right (by simp; omega)]
      simp only [List.length_map, List.length_take, List.getElem_drop]
      congr 1; omega
theorem prs_all {d : List Int} {y : Nat} (h : y < d.length) : (prs d d.length).getD y 0 = d.getD y 0 % 2 := by simp [prs, h]
theorem DisQ.par {n : Nat} {M : List (List Int)} {d : List Int} (h : DisQ n M d) (h0 : 0 < n) : (prs d n).length = n ∧ (prs d n).getD 0 0 = 0 ∧ (∀ y, y < n → (prs d n).getD y 0 = d.getD y 0 % 2) ∧ (∀ x, x < n → (prs d n).getD x 0 = 0 ∨ (prs d n).getD x 0 = 1) ∧ ∀ c, Bip n M c → ∀ y, y < n → (prs d n).getD y 0 = c y := by
  obtain ⟨a1, a2, a3, a4⟩ := h
  have hat : ∀ y, y < n → (prs d n).getD y 0 = d.getD y 0 % 2 := fun y hy => by
    have := prs_all (d := d) (y := y) (by omega)
    rwa [a1] at this
  exact ⟨by rw [prs_len, a1], by rw [hat 0 h0, a2]; rfl, hat, fun x hx => by rw [hat x hx]; omega, fun c hc y hy => by rw [hat y hy]; exact a4 c hc y hy⟩

set_option maxHeartbeats 4000000 in
theorem l02Colours_c (n : Nat) (M : List (List Int)) (hM : MvOk n M) (h0 : 0 < n) (hn : n ≤ 1048576) (h1 : 0 < M.length) (hl : M.length ≤ 1048576) (hr : (M.getD 0 []).length = n) (hcon : ∀ x, x < n → Rch M 0 x) :
    if BipE n M then Pure Try.prog 41 [maniA M] (.tup [.sl 0 1 0 n, bl true]) [some (intsC (colV n M))] else Pure Try.prog 41 [maniA M] (.tup [nilS, bl false]) [] := by
  have hD := l02Distances_c n M hM h0 hn h1 hl hr hcon
  by_cases hE : BipE n M
  · rw [if_pos hE]
    refine pureVg [1] ok41 rfl ?_; unfold c41
    (repeat first | simp only [go_sem, ↓reduceIte, Nat.reduceEqDiff, Nat.reduceAdd, reduceCtorEq] | (with_reducible refine And.intro ?_ ?_; focus first | assumption | omega | decide | grind) | (with_reducible refine Br.mk ?_ ?_; focus (intros; omega)) | decide)
    refine pureEC (hD) (by simp only [go_sem, ↓reduceIte, Nat.reduceEqDiff, Nat.reduceAdd, reduceCtorEq] <;> rfl) (fun o => by first | rfl | simp only [go_sem, ↓reduceIte, Nat.reduceEqDiff, Nat.reduceAdd, reduceCtorEq]) fun o ho => ?_
    obtain ⟨p1, p2, p3, p4, p5⟩ := ho.par h0
    obtain ⟨a1, a2, a3, a4⟩ := ho
    have hcv : prs o n = colV n M := by
      obtain ⟨c, hc⟩ := hE
      refine colV_eq hM h0 hcon p1 ⟨p2, p4, fun x hx p hp => ?_⟩
      have hb := (hM p hp).2 x hx
      dsimp only
      rw [p5 c hc _ (by omega), p5 c hc x hx]
      exact hc.2.2 x hx p hp
    have hpr : ∀ x, x < n → ∀ k, k < M.length → (prs o n).getD ((M.getD k []).getD x 0).toNat 0 ≠ (prs o n).getD x 0 := fun x hx k hk => by
      obtain ⟨c, hc⟩ := hE
      have hp := row_mem (L := M) (k := k) hk
      have hb := (hM _ hp).2 x hx
      rw [p5 c hc _ (by omega), p5 c hc x hx]
      exact hc.2.2 x hx _ hp
    (repeat first | simp only [go_sem, ↓reduceIte, Nat.reduceEqDiff, Nat.reduceAdd, reduceCtorEq] | (with_reducible refine And.intro ?_ ?_; focus first | assumption | omega | decide | grind) | (with_reducible refine Br.mk ?_ ?_; focus (intros; omega)) | decide)
    refine V_loop (α := Nat) (S := fun k => ([(1, .ref 0 0), (4, .sl 1 1 0 n), (5, i64 k)], [some [mat M], some (intsC (prs o k))])) (C := fun k => k ≤ n) (μ := fun k => n - k) 0 (by omega) (Ref.to (by simp [prs]) (by simp [sub, fget])) ?_
    intro k hk
    have hpl := prs_len o k
    (repeat first | simp only [go_sem, ↓reduceIte, Nat.reduceEqDiff, Nat.reduceAdd, reduceCtorEq] | (with_reducible refine And.intro ?_ ?_; focus first | assumption | omega | decide | grind) | (with_reducible refine Br.mk ?_ ?_; focus (intros; omega)) | decide)
    refine ⟨fun hc => ?_, fun hc => ?_⟩
    · have hat := prs_at (d := o) (k := k) (by omega)
      have hst := prs_step (d := o) (k := k) (by omega)
      have h3 := a3 k (by omega)
      have htm : (o.getD k 0).tmod 2 = o.getD k 0 % 2 := Int.tmod_eq_emod_of_nonneg h3.1
      (repeat first | simp only [go_sem, ↓reduceIte, Nat.reduceEqDiff, Nat.reduceAdd, reduceCtorEq] | (with_reducible refine And.intro ?_ ?_; focus first | assumption | omega | decide | grind) | (with_reducible refine Br.mk ?_ ?_; focus (intros; omega)) | decide)
      simp only [hat, htm, hst, go_sem, ↓reduceIte, Nat.reduceEqDiff, Nat.reduceAdd, reduceCtorEq]
      (repeat first | simp only [go_sem, ↓reduceIte, Nat.reduceEqDiff, Nat.reduceAdd, reduceCtorEq] | (with_reducible refine And.intro ?_ ?_; focus first | assumption | omega | decide | grind) | (with_reducible refine Br.mk ?_ ?_; focus (intros; omega)) | decide)
      exact ⟨k + 1, by omega, by omega, by exact Ref.frame (by simp [sub, fget])⟩
    · obtain rfl : k = n := by omega
      (repeat first | simp only [go_sem, ↓reduceIte, Nat.reduceEqDiff, Nat.reduceAdd, reduceCtorEq] | (with_reducible refine And.intro ?_ ?_; focus first | assumption | omega | decide | grind) | (with_reducible refine Br.mk ?_ ?_; focus (intros; omega)) | decide)
      refine V_loop (α := Nat) (S := fun x => ([(1, .ref 0 0), (4, .sl 1 1 0 k), (6, i64 x)], [some [mat M], some (intsC (prs o k))])) (C := fun x => x ≤ k) (μ := fun x => k - x) 0 (by omega) (by exact Ref.frame (by simp [sub, fget])) ?_
      intro x hx
      (repeat first | simp only [go_sem, ↓reduceIte, Nat.reduceEqDiff, Nat.reduceAdd, reduceCtorEq] | (with_reducible refine And.intro ?_ ?_; focus first | assumption | omega | decide | grind) | (with_reducible refine Br.mk ?_ ?_; focus (intros; omega)) | decide)
      refine ⟨fun hc2 => ?_, fun hc2 => ?_⟩
      · (repeat first | simp only [go_sem, ↓reduceIte, Nat.reduceEqDiff, Nat.reduceAdd, reduceCtorEq] | (with_reducible refine And.intro ?_ ?_; focus first | assumption | omega | decide | grind) | (with_reducible refine Br.mk ?_ ?_; focus (intros; omega)) | decide)
        refine V_loop (α := Nat) (S := fun q => ([(1, .ref 0 0), (4, .sl 1 1 0 k), (6, i64 x), (7, i64 q)], [some [mat M], some (intsC (prs o k))])) (C := fun q => q ≤ M.length) (μ := fun q => M.length - q) 0 (by omega) (by exact Ref.frame (by simp [sub, fget])) ?_
        intro q hq
        (repeat first | simp only [go_sem, ↓reduceIte, Nat.reduceEqDiff, Nat.reduceAdd, reduceCtorEq] | (with_reducible refine And.intro ?_ ?_; focus first | assumption | omega | decide | grind) | (with_reducible refine Br.mk ?_ ?_; focus (intros; omega)) | decide)
        refine ⟨fun hc3 => ?_, fun hc3 => ?_⟩
        · obtain ⟨hrl, hrb⟩ := hM _ (row_mem (L := M) (k := q) (by omega))
          obtain ⟨y1, y2, _⟩ := hrb x (by omega)
          have hne := hpr x (by omega) q (by omega)
          (repeat first | simp only [go_sem, ↓reduceIte, Nat.reduceEqDiff, Nat.reduceAdd, reduceCtorEq] | (with_reducible refine And.intro ?_ ?_; focus first | assumption | omega | decide | grind) | (with_reducible refine Br.mk ?_ ?_; focus (intros; omega)) | decide)
          (try with_reducible refine fun _ => ?_)
          (repeat first | simp only [go_sem, ↓reduceIte, Nat.reduceEqDiff, Nat.reduceAdd, reduceCtorEq] | (with_reducible refine And.intro ?_ ?_; focus first | assumption | omega | decide | grind) | (with_reducible refine Br.mk ?_ ?_; focus (intros; omega)) | decide)
          exact ⟨q + 1, by omega, by omega, by exact Ref.frame (by simp [sub, fget])⟩
        · (repeat first | simp only [go_sem, ↓reduceIte, Nat.reduceEqDiff, Nat.reduceAdd, reduceCtorEq] | (with_reducible refine And.intro ?_ ?_; focus first | assumption | omega | decide | grind) | (with_reducible refine Br.mk ?_ ?_; focus (intros; omega)) | decide)
          exact ⟨x + 1, by omega, by omega, by exact Ref.frame (by simp [sub, fget])⟩
      · (repeat first | simp only [go_sem, ↓reduceIte, Nat.reduceEqDiff, Nat.reduceAdd, reduceCtorEq] | (with_reducible refine And.intro ?_ ?_; focus first | assumption | omega | decide | grind) | (with_reducible refine Br.mk ?_ ?_; focus (intros; omega)) | decide)
        rw [hcv]
  · rw [if_neg hE]
    refine pureV0 ok41 rfl rfl ?_; unfold c41
    (repeat first | simp only [go_sem, ↓reduceIte, Nat.reduceEqDiff, Nat.reduceAdd, reduceCtorEq] | (with_reducible refine And.intro ?_ ?_; focus first | assumption | omega | decide | grind) | (with_reducible refine Br.mk ?_ ?_; focus (intros; omega)) | decide)
    refine pureEC (hD) (by simp only [go_sem, ↓reduceIte, Nat.reduceEqDiff, Nat.reduceAdd, reduceCtorEq] <;> rfl) (fun o => by first | rfl | simp only [go_sem, ↓reduceIte, Nat.reduceEqDiff, Nat.reduceAdd, reduceCtorEq]) fun o ho => ?_
    obtain ⟨p1, p2, p3, p4, p5⟩ := ho.par h0
    obtain ⟨a1, a2, a3, a4⟩ := ho
    obtain ⟨x0, q0, hx0, hq0, hbad⟩ : ∃ x q, x < n ∧ q < M.length ∧ (prs o n).getD ((M.getD q []).getD x 0).toNat 0 = (prs o n).getD x 0 := by
      refine Classical.byContradiction fun hno => hE ⟨fun x => (prs o n).getD x 0, p2, p4, fun x hx p hp he => hno ?_⟩
      obtain ⟨q, hq, rfl⟩ := List.mem_iff_getElem.1 hp
      exact ⟨x, q, hx, hq, by simpa [hq] using he⟩
    (repeat first | simp only [go_sem, ↓reduceIte, Nat.reduceEqDiff, Nat.reduceAdd, reduceCtorEq] | (with_reducible refine And.intro ?_ ?_; focus first | assumption | omega | decide | grind) | (with_reducible refine Br.mk ?_ ?_; focus (intros; omega)) | decide)
    refine V_loop (α := Nat) (S := fun k => ([(1, .ref 0 0), (4, .sl 1 1 0 n), (5, i64 k)], [some [mat M], some (intsC (prs o k))])) (C := fun k => k ≤ n) (μ := fun k => n - k) 0 (by omega) (Ref.to (by simp [prs]) (by simp [sub, fget])) ?_
    intro k hk
    have hpl := prs_len o k
    (repeat first | simp only [go_sem, ↓reduceIte, Nat.reduceEqDiff, Nat.reduceAdd, reduceCtorEq] | (with_reducible refine And.intro ?_ ?_; focus first | assumption | omega | decide | grind) | (with_reducible refine Br.mk ?_ ?_; focus (intros; omega)) | decide)
    refine ⟨fun hc => ?_, fun hc => ?_⟩
    · have hat := prs_at (d := o) (k := k) (by omega)
      have hst := prs_step (d := o) (k := k) (by omega)
      have h3 := a3 k (by omega)
      have htm : (o.getD k 0).tmod 2 = o.getD k 0 % 2 := Int.tmod_eq_emod_of_nonneg h3.1
      (repeat first | simp only [go_sem, ↓reduceIte, Nat.reduceEqDiff, Nat.reduceAdd, reduceCtorEq] | (with_reducible refine And.intro ?_ ?_; focus first | assumption | omega | decide | grind) | (with_reducible refine Br.mk ?_ ?_; focus (intros; omega)) | decide)
      simp only [hat, htm, hst, go_sem, ↓reduceIte, Nat.reduceEqDiff, Nat.reduceAdd, reduceCtorEq]
      (repeat first | simp only [go_sem, ↓reduceIte, Nat.reduceEqDiff, Nat.reduceAdd, reduceCtorEq] | (with_reducible refine And.intro ?_ ?_; focus first | assumption | omega | decide | grind) | (with_reducible refine Br.mk ?_ ?_; focus (intros; omega)) | decide)
      exact ⟨k + 1, by omega, by omega, by exact Ref.frame (by simp [sub, fget])⟩
    · obtain rfl : k = n := by omega
      (repeat first | simp only [go_sem, ↓reduceIte, Nat.reduceEqDiff, Nat.reduceAdd, reduceCtorEq] | (with_reducible refine And.intro ?_ ?_; focus first | assumption | omega | decide | grind) | (with_reducible refine Br.mk ?_ ?_; focus (intros; omega)) | decide)
      refine V_loop (α := Nat) (S := fun x => ([(1, .ref 0 0), (4, .sl 1 1 0 k), (6, i64 x)], [some [mat M], some (intsC (prs o k))])) (C := fun x => x ≤ x0) (μ := fun x => k - x) 0 (by omega) (by exact Ref.frame (by simp [sub, fget])) ?_
      intro x hx
      (repeat first | simp only [go_sem, ↓reduceIte, Nat.reduceEqDiff, Nat.reduceAdd, reduceCtorEq] | (with_reducible refine And.intro ?_ ?_; focus first | assumption | omega | decide | grind) | (with_reducible refine Br.mk ?_ ?_; focus (intros; omega)) | decide)
      refine ⟨fun hc2 => ?_, fun hc2 => by omega⟩
      · (repeat first | simp only [go_sem, ↓reduceIte, Nat.reduceEqDiff, Nat.reduceAdd, reduceCtorEq] | (with_reducible refine And.intro ?_ ?_; focus first | assumption | omega | decide | grind) | (with_reducible refine Br.mk ?_ ?_; focus (intros; omega)) | decide)
        refine V_loop (α := Nat) (S := fun q => ([(1, .ref 0 0), (4, .sl 1 1 0 k), (6, i64 x), (7, i64 q)], [some [mat M], some (intsC (prs o k))])) (C := fun q => q ≤ M.length ∧ (x = x0 → q ≤ q0)) (μ := fun q => M.length - q) 0 ⟨by omega, by omega⟩ (by exact Ref.frame (by simp [sub, fget])) ?_
        rintro q ⟨hq, hq2⟩
        (repeat first | simp only [go_sem, ↓reduceIte, Nat.reduceEqDiff, Nat.reduceAdd, reduceCtorEq] | (with_reducible refine And.intro ?_ ?_; focus first | assumption | omega | decide | grind) | (with_reducible refine Br.mk ?_ ?_; focus (intros; omega)) | decide)
        refine ⟨fun hc3 => ?_, fun hc3 => ?_⟩
        · obtain ⟨hrl, hrb⟩ := hM _ (row_mem (L := M) (k := q) (by omega))
          obtain ⟨y1, y2, _⟩ := hrb x (by omega)
          (repeat first | simp only [go_sem, ↓reduceIte, Nat.reduceEqDiff, Nat.reduceAdd, reduceCtorEq] | (with_reducible refine And.intro ?_ ?_; focus first | assumption | omega | decide | grind) | (with_reducible refine Br.mk ?_ ?_; focus (intros; omega)) | decide)
          refine ⟨fun hc4 => ?_, fun hc4 => ?_⟩
          · (repeat first | simp only [go_sem, ↓reduceIte, Nat.reduceEqDiff, Nat.reduceAdd, reduceCtorEq] | (with_reducible refine And.intro ?_ ?_; focus first | assumption | omega | decide | grind) | (with_reducible refine Br.mk ?_ ?_; focus (intros; omega)) | decide)
          · (repeat first | simp only [go_sem, ↓reduceIte, Nat.reduceEqDiff, Nat.reduceAdd, reduceCtorEq] | (with_reducible refine And.intro ?_ ?_; focus first | assumption | omega | decide | grind) | (with_reducible refine Br.mk ?_ ?_; focus (intros; omega)) | decide)
            refine ⟨q + 1, ⟨by omega, fun e => ?_⟩, by omega, by exact Ref.frame (by simp [sub, fget])⟩
            subst e
            have := hq2 rfl
            rcases Nat.lt_or_ge q q0 with h | h
            · omega
            · obtain rfl : q = q0 := by omega
              exact absurd hbad hc4
        · have hne : x ≠ x0 := fun e => by have := hq2 e; omega
          (repeat first | simp only [go_sem, ↓reduceIte, Nat.reduceEqDiff, Nat.reduceAdd, reduceCtorEq] | (with_reducible refine And.intro ?_ ?_; focus first | assumption | omega | decide | grind) | (with_reducible refine Br.mk ?_ ?_; focus (intros; omega)) | decide)
          exact ⟨x + 1, by omega, by omega, by exact Ref.frame (by simp [sub, fget])⟩

end Go.Proofs.Ytkolabjcmephaaa
