/- Texts that belong together. -/
import Derived.Test.YtdgcpjfffpkhkaaX2
import Derived.Test.YtdgcpjfffpkhkaaX3
set_option linter.unusedSimpArgs false
set_option linter.unusedVariables false
set_option maxRecDepth 100000
namespace Go.Proofs.Ytdgcpjfffpkhkaa
open Go.Gov
open Classical

theorem isBelow_c (r : Int) (R : List Int) (B : List (List Int)) (x y : Nat) (hp : IsPos r R B) (hy : y < R.length) : Pure Try.prog 39 [.pto [i64 r, ints R, mat B] 0, i64 (x : Int), i64 (y : Int)] (bl (decide ((x : Int) ∈ B.getD y []))) [] := by
  obtain ⟨a1, a2, a3, a4, a5⟩ := hp.rank
  have hrow := row_500 hp y
  have hs : srt (B.getD y []) := fun j hj => Int.le_of_lt (lt_of_sst (hp.rows.2 y) j hj)
  refine pureV0 ok39 rfl rfl ?_; unfold c39
  (repeat first | simp only [go_sem, ↓reduceIte, Nat.reduceEqDiff, Nat.reduceAdd, reduceCtorEq] | with_reducible refine V_W ?_ | (with_reducible refine And.intro ?_ ?_; focus first | assumption | omega | decide | grind) | (with_reducible refine Br.mk ?_ ?_; focus (intros; omega)) | decide)
  refine pureC (binS_c (B.getD y []) x hs (by omega)) (by simp only [go_sem, ↓reduceIte, Nat.reduceEqDiff, Nat.reduceAdd, reduceCtorEq] <;> rfl) (by first | rfl | simp only [go_sem, ↓reduceIte, Nat.reduceEqDiff, Nat.reduceAdd, reduceCtorEq]) ?_
  (repeat first | simp only [go_sem, ↓reduceIte, Nat.reduceEqDiff, Nat.reduceAdd, reduceCtorEq] | with_reducible refine V_W ?_ | (with_reducible refine And.intro ?_ ?_; focus first | assumption | omega | decide | grind) | (with_reducible refine Br.mk ?_ ?_; focus (intros; omega)) | decide)
theorem btw1_c (r : Int) (R : List Int) (B : List (List Int)) (x : Nat) (z : Int) (hp : IsPos r R B) (h0 : 0 ≤ z) (hz : z ≤ (R.length : Int) - 1) : Pure Try.prog 51 [i64 z, .pto [.pto [i64 r, ints R, mat B] 0] 0, .pto [i64 (x : Int)] 0] (bl (decide ((x : Int) ∈ B.getD z.toNat []))) [] := by
  obtain ⟨y, rfl⟩ : ∃ y : Nat, z = y := ⟨z.toNat, by omega⟩
  rw [Int.toNat_natCast]
  refine pureV0 ok51 rfl rfl ?_; unfold c51
  (repeat first | simp only [go_sem, ↓reduceIte, Nat.reduceEqDiff, Nat.reduceAdd, reduceCtorEq] | with_reducible refine V_W ?_ | (with_reducible refine And.intro ?_ ?_; focus first | assumption | omega | decide | grind) | (with_reducible refine Br.mk ?_ ?_; focus (intros; omega)) | decide)
  refine pureC (isBelow_c r R B x y hp (by omega)) (by simp only [go_sem, ↓reduceIte, Nat.reduceEqDiff, Nat.reduceAdd, reduceCtorEq] <;> rfl) (by first | rfl | simp only [go_sem, ↓reduceIte, Nat.reduceEqDiff, Nat.reduceAdd, reduceCtorEq]) ?_
  (repeat first | simp only [go_sem, ↓reduceIte, Nat.reduceEqDiff, Nat.reduceAdd, reduceCtorEq] | with_reducible refine V_W ?_ | (with_reducible refine And.intro ?_ ?_; focus first | assumption | omega | decide | grind) | (with_reducible refine Br.mk ?_ ?_; focus (intros; omega)) | decide)
/-- Something lies between. -/
noncomputable def btw (B : List (List Int)) (x y : Nat) : Bool := (B.getD y []).any fun z => decide ((x : Int) ∈ B.getD z.toNat [])
theorem hasBetween_c (r : Int) (R : List Int) (B : List (List Int)) (x y : Nat) (hp : IsPos r R B) (hy : y < R.length) : Pure Try.prog 40 [.pto [i64 r, ints R, mat B] 0, i64 (x : Int), i64 (y : Int)] (bl (btw B x y)) [] := by
  obtain ⟨a1, a2, a3, a4, a5⟩ := hp.rank
  have hrow := row_500 hp y
  have hb : ∀ i, i < (B.getD y []).length → 0 ≤ (B.getD y []).getD i 0 ∧ (B.getD y []).getD i 0 ≤ (R.length : Int) - 1 := fun i hi => hp.rows.1 y (by omega) i hi
  unfold btw
  refine pureV0 ok40 rfl rfl ?_; unfold c40
  (repeat first | simp only [go_sem, ↓reduceIte, Nat.reduceEqDiff, Nat.reduceAdd, reduceCtorEq] | with_reducible refine V_W ?_ | (with_reducible refine And.intro ?_ ?_; focus first | assumption | omega | decide | grind) | (with_reducible refine Br.mk ?_ ?_; focus (intros; omega)) | decide)
  refine pureC (containsFuncM_c (B.getD y []) 51 [] [.pto [.pto [i64 r, ints R, mat B] 0] 0, .pto [i64 (x : Int)] 0] (fun z => decide ((x : Int) ∈ B.getD z.toNat [])) (by omega) (fun i hi => btw1_c r R B x _ hp (hb i hi).1 (hb i hi).2) (by kernel_rfl) rfl (by simp only [go_sem, ↓reduceIte, Nat.reduceEqDiff, Nat.reduceAdd, reduceCtorEq]) rfl (by simp only [go_sem, ↓reduceIte, Nat.reduceEqDiff, Nat.reduceAdd, reduceCtorEq])) (by simp only [go_sem, ↓reduceIte, Nat.reduceEqDiff, Nat.reduceAdd, reduceCtorEq] <;> rfl) (by first | rfl | simp only [go_sem, ↓reduceIte, Nat.reduceEqDiff, Nat.reduceAdd, reduceCtorEq]) ?_
  (repeat first | simp only [go_sem, ↓reduceIte, Nat.reduceEqDiff, Nat.reduceAdd, reduceCtorEq] | with_reducible refine V_W ?_ | (with_reducible refine And.intro ?_ ?_; focus first | assumption | omega | decide | grind) | (with_reducible refine Br.mk ?_ ?_; focus (intros; omega)) | decide)

theorem cv_btw {r : Int} {R : List Int} {B : List (List Int)} (hp : IsPos r R B) {x y : Nat} (hy : y < R.length) : Cv R.length B x y ↔ Ab B x y ∧ btw B x y = false := by
  unfold btw
  rw [List.any_eq_false]
  constructor
  · rintro ⟨_, h1, h2⟩
    refine ⟨h1, fun z hz => ?_⟩
    obtain ⟨w, rfl, hw⟩ := row_nat hp hy hz
    rw [Int.toNat_natCast]
    simp only [decide_eq_true_eq]
    exact fun h3 => h2 w h3 hz
  · rintro ⟨h1, h2⟩
    refine ⟨hy, h1, fun z h3 h4 => ?_⟩
    have := h2 (z : Int) h4
    rw [Int.toNat_natCast] at this
    exact this (decide_eq_true h3)

section
variable (n : Nat) (B : List (List Int))
/-- What covers x, before j. -/
noncomputable def cvJ (x j : Nat) : List Int := ((List.range j).filter fun y => decide (Cv n B x y)).map fun y : Nat => (y : Int)
/-- What has nothing below, before j. -/
noncomputable def mnJ (j : Nat) : List Int := ((List.range j).filter fun y => decide (B.getD y [] = [])).map fun y : Nat => (y : Int)
/-- What goes on from each element before x; last: what begins. -/
noncomputable def ovT (x : Nat) : List (List Int) := ((List.range n).map fun y => if y < x then cvJ n B y n else []) ++ [mnJ B x]
/-- The elements that go on with a chain. -/
noncomputable def nxs (l : List Int) : List Nat := (List.range n).filter fun e => decide (nxc B l e)
/-- .. what the first m of them give. -/
noncomputable def chtm (k : Nat) (l : List Int) (m : Nat) : List (List Int) := ((nxs n B l).take m).flatMap fun e : Nat => chs n B k (l ++ [(e : Int)])
end
variable {n : Nat} {B : List (List Int)}
theorem cvJ_yes {x j : Nat} (h : Cv n B x j) : cvJ n B x (j + 1) = cvJ n B x j ++ [(j : Int)] := by
  unfold cvJ
  rw [List.range_succ, List.filter_append, List.filter_cons_of_pos (by simpa using h)]
  simp
theorem cvJ_no {x j : Nat} (h : ¬ Cv n B x j) : cvJ n B x (j + 1) = cvJ n B x j := by
  unfold cvJ
  rw [List.range_succ, List.filter_append, List.filter_cons_of_neg (by simpa using h)]
  simp
theorem cvJ_len (x j : Nat) : (cvJ n B x j).length ≤ j := by
  unfold cvJ
  rw [List.length_map]
  exact Nat.le_trans (List.length_filter_le _ _) (by simp)
theorem mnJ_yes {j : Nat} (h : B.getD j [] = []) : mnJ B (j + 1) = mnJ B j ++ [(j : Int)] := by
  unfold mnJ
  rw [List.range_succ, List.filter_append, List.filter_cons_of_pos (by simpa using h)]
  simp
theorem mnJ_no {j : Nat} (h : ¬ B.getD j [] = []) : mnJ B (j + 1) = mnJ B j := by
  unfold mnJ
  rw [List.range_succ, List.filter_append, List.filter_cons_of_neg (by simpa using h)]
  simp
theorem mnJ_len (j : Nat) : (mnJ B j).length ≤ j := by
  unfold mnJ
  rw [List.length_map]
  exact Nat.le_trans (List.length_filter_le _ _) (by simp)
theorem ovT_len (x : Nat) : (ovT n B x).length = n + 1 := by simp [ovT]
theorem ovT_at {x y : Nat} (h : y < n) : (ovT n B x).getD y [] = if y < x then cvJ n B y n else [] := by
  unfold ovT
  rw [List.getD_eq_getElem?_getD, List.getElem?_append_left (by simpa using h), List.getElem?_map, List.getElem?_range h]
  rfl
theorem ovT_end (x : Nat) : (ovT n B x).getD n [] = mnJ B x := by
  unfold ovT
  rw [List.getD_eq_getElem?_getD, List.getElem?_append_right (by simp)]
  simp
theorem ovT_zero : ovT n B 0 = List.replicate (n + 1) [] := by
  refine List.ext_getElem (by simp [ovT]) fun y h1 h2 => ?_
  have h3 := ovT_len (n := n) (B := B) 0
  have h4 : (ovT n B 0).getD y [] = [] := by
    rcases Nat.lt_or_ge y n with h | h
    · rw [ovT_at h, if_neg (by omega)]
    · obtain rfl : y = n := by omega
      rw [ovT_end]; rfl
  simpa [h1] using h4
theorem ovT_step {x : Nat} (hx : x < n) : ((ovT n B x).set x (cvJ n B x n)).set n (mnJ B (x + 1)) = ovT n B (x + 1) := by
  have h3 := ovT_len (n := n) (B := B) x
  have h4 := ovT_len (n := n) (B := B) (x + 1)
  refine List.ext_getElem (by simp [h3, h4]) fun y h1 h2 => ?_
  have e1 : (ovT n B (x + 1))[y] = (ovT n B (x + 1)).getD y [] := by simp [h2]
  have hy : y < (ovT n B x).length := by omega
  have e2 : (ovT n B x)[y] = (ovT n B x).getD y [] := by simp [hy]
  rw [e1, List.getElem_set, List.getElem_set, e2]
  rcases Nat.lt_or_ge y n with h | h
  · rw [if_neg (by omega), ovT_at h, ovT_at h]
    by_cases hxy : x = y
    · subst hxy; rw [if_pos rfl, if_pos (by omega)]
    · rw [if_neg hxy]
      by_cases h5 : y < x
      · rw [if_pos h5, if_pos (by omega)]
      · rw [if_neg h5, if_neg (by omega)]
  · obtain rfl : y = n := by omega
    rw [if_pos rfl, ovT_end]
theorem chtm_all (k : Nat) (l : List Int) : chtm n B k l (nxs n B l).length = chto n B k l n := by
  unfold chtm
  rw [List.take_length]
  rfl
theorem chtm_succ (k : Nat) (l : List Int) (m : Nat) (h : m < (nxs n B l).length) : chtm n B k l (m + 1) = chtm n B k l m ++ chs n B k (l ++ [((nxs n B l).getD m 0 : Int)]) := by
  unfold chtm
  rw [List.take_succ_eq_append_getElem h, List.flatMap_append]
  simp [h]
theorem nxs_le (l : List Int) : (nxs n B l).length ≤ n := Nat.le_trans (List.length_filter_le _ _) (by simp)
theorem nxs_at {l : List Int} {m : Nat} (h : m < (nxs n B l).length) : (nxs n B l).getD m 0 < n ∧ nxc B l ((nxs n B l).getD m 0) := by
  have hm : (nxs n B l)[m] ∈ nxs n B l := List.getElem_mem h
  rw [show (nxs n B l).getD m 0 = (nxs n B l)[m] by simp [h]]
  generalize (nxs n B l)[m] = e at hm
  unfold nxs at hm
  have h2 := List.mem_filter.1 hm
  exact ⟨List.mem_range.1 h2.1, of_decide_eq_true h2.2⟩
theorem nxs_cv {r : Int} {R : List Int} {B : List (List Int)} (hp : IsPos r R B) (l : List Int) (x : Nat) : (nxs R.length B (l ++ [(x : Int)])).map (fun y : Nat => (y : Int)) = cvJ R.length B x R.length := by
  unfold nxs cvJ
  congr 1
  exact List.filter_congr fun e he => decide_eq_decide.2 (nxc_iff hp (List.mem_range.1 he))
theorem nxs_mn : (nxs n B []).map (fun y : Nat => (y : Int)) = mnJ B n := by
  unfold nxs mnJ
  congr 1
  exact List.filter_congr fun e _ => decide_eq_decide.2 (by unfold nxc; rw [if_pos rfl])
theorem cv_some {x : Nat} (ho : Ord n B) (h : ∃ f, f < n ∧ Ab B x f) : ∃ f, Cv n B x f := by
  obtain ⟨f0, hf0⟩ := h
  obtain ⟨f, hm, hl⟩ := least (p := fun f => f < n ∧ Ab B x f) f0 hf0
  refine ⟨f, hm.1, hm.2, fun z h1 h2 => ?_⟩
  have hz := ho.lt hm.1 h2
  exact hl z hz ⟨by omega, h1⟩
/-- A chain ends where nothing goes on. -/
theorem leaf_nxs {r : Int} {R : List Int} {B : List (List Int)} (hp : IsPos r R B) (l : List Int) (x : Nat) : leaf R.length B (l ++ [(x : Int)]) ↔ (nxs R.length B (l ++ [(x : Int)])).length = 0 := by
  rw [leaf_iff]
  constructor
  · intro h
    rw [List.length_eq_zero_iff]
    refine List.filter_eq_nil_iff.2 fun e he => ?_
    simp only [decide_eq_true_eq]
    exact fun hc => h e (List.mem_range.1 he) ((nxc_iff hp (List.mem_range.1 he)).1 hc).2.1
  · intro h f hf ha
    obtain ⟨g, hg⟩ := cv_some hp.ord ⟨f, hf, ha⟩
    have hm : g ∈ nxs R.length B (l ++ [(x : Int)]) := List.mem_filter.2 ⟨List.mem_range.2 hg.1, decide_eq_true ((nxc_iff hp hg.1).2 hg)⟩
    rw [List.length_eq_zero_iff.1 h] at hm
    simp at hm
end Go.Proofs.Ytdgcpjfffpkhkaa
set_option maxRecDepth 100000
namespace Go.Proofs.Ytdgcpjfffpkhkaa
open Go.Gov
open Classical

theorem clone_nil : Pure Try.prog 42 [nilS] (.sl 0 1 0 0) [some []] := by
  refine pureRV ok42 rfl ?_; unfold c42
  (repeat first | simp only [go_sem, ↓reduceIte, Nat.reduceEqDiff, Nat.reduceAdd, reduceCtorEq] | with_reducible refine V_W ?_ | (with_reducible refine And.intro ?_ ?_; focus first | assumption | omega | decide | grind) | (with_reducible refine Br.mk ?_ ?_; focus (intros; omega)) | decide)
  have hn : ∀ H, nilOf H nilS = some true := fun _ => rfl
  simp only [hn, Option.getD_some, go_sem, ↓reduceIte, Nat.reduceEqDiff, Nat.reduceAdd, reduceCtorEq]
  (repeat first | simp only [go_sem, ↓reduceIte, Nat.reduceEqDiff, Nat.reduceAdd, reduceCtorEq] | with_reducible refine V_W ?_ | (with_reducible refine And.intro ?_ ?_; focus first | assumption | omega | decide | grind) | (with_reducible refine Br.mk ?_ ?_; focus (intros; omega)) | decide)
  exact (Ref.nil 0 1 rfl).trans (Ref.to rfl (by simp [sub, fget]))
/-- The closure's own place, what it has caught. -/
@[go_sem] def growS (R : List Int) (B O : List (List Int)) : List AV := [.clo 41 [] [.pto [mat O] 0, .ref 0 0, .ref 2 0]]

set_option maxHeartbeats 4000000 in
theorem growS_w (r : Int) (R : List Int) (B O : List (List Int)) (v : Int) (hp : IsPos r R B) (hOl : O.length = R.length + 1) (hO : ∀ y, y < R.length → O.getD y [] = cvJ R.length B y R.length) : ∀ (k x : Nat) (l a : List Int) (L L' : List (List Int)), l = a ++ [(x : Int)] → R.length ≤ x + k → x < R.length → l.length + k ≤ R.length + 1 → L.length ≤ 400 → L' = (L ++ chs R.length B k l).take 401 →
    Wri Try.prog 41 [.sl 3 1 0 l.length, i64 (x : Int), .pto [mat O] 0, .ref 0 0, .ref 2 0] [some [i64 v, .sl 1 1 0 L.length], some (L.map oints), some (growS R B O), some (intsC l)] (.tup []) [some [i64 v, .sl 4 1 0 L'.length], none, some (growS R B O), some (intsC l), some (L'.map oints)] := by
  obtain ⟨a1, a2, a3, a4, a5⟩ := hp.rank
  intro k
  induction k with
  | zero =>
    intro x l a L L' hlx hk hxn
    omega
  | succ k ih =>
    intro x l a L L' hlx hk hxn hlen hL hL'
    have hlp : 0 < l.length := by rw [hlx]; simp
    have hOx := hO x hxn
    have hnx : (nxs R.length B l).map (fun y : Nat => (y : Int)) = cvJ R.length B x R.length := by rw [hlx]; exact nxs_cv hp a x
    have hnl0 : (nxs R.length B l).length = (cvJ R.length B x R.length).length := by rw [← hnx, List.length_map]
    have hcl := cvJ_len (n := R.length) (B := B) x R.length
    refine wriRV ok41 rfl ?_; unfold c41
    (repeat first | simp only [go_sem, ↓reduceIte, Nat.reduceEqDiff, Nat.reduceAdd, reduceCtorEq] | with_reducible refine V_W ?_ | (with_reducible refine And.intro ?_ ?_; focus first | assumption | omega | decide | grind) | (with_reducible refine Br.mk ?_ ?_; focus (intros; omega)) | decide)
    simp only [hOx, go_sem, ↓reduceIte, Nat.reduceEqDiff, Nat.reduceAdd, reduceCtorEq]
    by_cases hlf : (nxs R.length B l).length = 0
    · have hleaf : leaf R.length B l := by rw [hlx] at hlf ⊢; exact (leaf_nxs hp a x).2 hlf
      have hN0 : (cvJ R.length B x R.length).length = 0 := by rw [← hnl0]; exact hlf
      have hcl := clone_c l hlp (by omega)
      obtain rfl : L' = L ++ [l] := by
        rw [hL', chs_succ, if_pos hleaf, ← chtm_all, hlf, show chtm R.length B k l 0 = [] from rfl, List.nil_append, List.take_of_length_le (by simp; omega)]
      (repeat first | simp only [go_sem, ↓reduceIte, Nat.reduceEqDiff, Nat.reduceAdd, reduceCtorEq] | with_reducible refine V_W ?_ | (with_reducible refine And.intro ?_ ?_; focus first | assumption | omega | decide | grind) | (with_reducible refine Br.mk ?_ ?_; focus (intros; omega)) | decide)
      refine ⟨fun _ => ?_, fun h => by omega⟩
      refine pureC (hcl) (by simp only [go_sem, ↓reduceIte, Nat.reduceEqDiff, Nat.reduceAdd, reduceCtorEq] <;> rfl) (by first | rfl | simp only [go_sem, ↓reduceIte, Nat.reduceEqDiff, Nat.reduceAdd, reduceCtorEq]) ?_
      (repeat first | simp only [go_sem, ↓reduceIte, Nat.reduceEqDiff, Nat.reduceAdd, reduceCtorEq] | with_reducible refine V_W ?_ | (with_reducible refine And.intro ?_ ?_; focus first | assumption | omega | decide | grind) | (with_reducible refine Br.mk ?_ ?_; focus (intros; omega)) | decide)
      refine V_loop (α := Unit) (S := fun _ => ([(31, i64 (cvJ R.length B x R.length).length), (32, i64 0)], [some [i64 v, .sl 4 1 0 (L.length + 1)], none, some (growS R B O), some (intsC l), some ((L ++ [l]).map oints)])) (C := fun _ => True) (μ := fun _ => 0) () trivial ?_ ?_
      · refine (Ref.close 6 L.length 4 (k := 1) (n := l.length) (cs := L.map oints ++ [.sl 4 1 0 l.length]) (cs2 := intsC l) rfl (by simp) rfl (by decide) (by simp [intsC])).trans (Ref.gc [0, 1, 2, 3, 6] rfl ?_ (by simp only [hOx]; simp [sub, fget, go_sem, ↓reduceIte, Nat.reduceEqDiff, Nat.reduceAdd, reduceCtorEq]))
        simp [go_sem, ↓reduceIte, Nat.reduceEqDiff, Nat.reduceAdd, reduceCtorEq]
      intro _ _
      (repeat first | simp only [go_sem, ↓reduceIte, Nat.reduceEqDiff, Nat.reduceAdd, reduceCtorEq] | with_reducible refine V_W ?_ | (with_reducible refine And.intro ?_ ?_; focus first | assumption | omega | decide | grind) | (with_reducible refine Br.mk ?_ ?_; focus (intros; omega)) | decide)
      refine fun _ => ?_
      (repeat first | simp only [go_sem, ↓reduceIte, Nat.reduceEqDiff, Nat.reduceAdd, reduceCtorEq] | with_reducible refine V_W ?_ | (with_reducible refine And.intro ?_ ?_; focus first | assumption | omega | decide | grind) | (with_reducible refine Br.mk ?_ ?_; focus (intros; omega)) | decide)
      exact Ref.to rfl (by simp [sub, fget])
    · have hnl : ¬ leaf R.length B l := fun h => hlf (by rw [hlx] at h ⊢; exact (leaf_nxs hp a x).1 h)
      have hN0 : ¬ (cvJ R.length B x R.length).length = 0 := by rw [← hnl0]; exact hlf
      (repeat first | simp only [go_sem, ↓reduceIte, Nat.reduceEqDiff, Nat.reduceAdd, reduceCtorEq] | with_reducible refine V_W ?_ | (with_reducible refine And.intro ?_ ?_; focus first | assumption | omega | decide | grind) | (with_reducible refine Br.mk ?_ ?_; focus (intros; omega)) | decide)
      refine fun _ => ?_
      (repeat first | simp only [go_sem, ↓reduceIte, Nat.reduceEqDiff, Nat.reduceAdd, reduceCtorEq] | with_reducible refine V_W ?_ | (with_reducible refine And.intro ?_ ?_; focus first | assumption | omega | decide | grind) | (with_reducible refine Br.mk ?_ ?_; focus (intros; omega)) | decide)
      simp only [hOx, go_sem, ↓reduceIte, Nat.reduceEqDiff, Nat.reduceAdd, reduceCtorEq]
      (repeat first | simp only [go_sem, ↓reduceIte, Nat.reduceEqDiff, Nat.reduceAdd, reduceCtorEq] | with_reducible refine V_W ?_ | (with_reducible refine And.intro ?_ ?_; focus first | assumption | omega | decide | grind) | (with_reducible refine Br.mk ?_ ?_; focus (intros; omega)) | decide)
      refine V_loop (α := Nat × List (List Int)) (S := fun q => ([(0, .sl 3 1 0 l.length), (2, .pto [mat O] 0), (3, .ref 0 0), (4, .ref 2 0), (30, ints (cvJ R.length B x R.length)), (31, i64 (cvJ R.length B x R.length).length), (32, i64 (q.1 : Int))], [some [i64 v, .sl 4 1 0 q.2.length], none, some (growS R B O), some (intsC l), some (q.2.map oints)])) (C := fun q => q.1 ≤ (nxs R.length B l).length ∧ q.2 = (L ++ chtm R.length B k l q.1).take 401) (μ := fun q => (nxs R.length B l).length - q.1) (0, L) ⟨Nat.zero_le _, by rw [show chtm R.length B k l 0 = [] from rfl, List.append_nil, List.take_of_length_le (by omega)]⟩ ?_ ?_
      · refine (Ref.mv 1 (cs := L.map oints) (F' := [(0, .sl 3 1 0 l.length), (2, .pto [mat O] 0), (3, .ref 0 0), (4, .ref 2 0), (30, ints (cvJ R.length B x R.length)), (31, i64 (cvJ R.length B x R.length).length), (32, i64 0)]) (H' := [some [i64 v, .sl 4 1 0 L.length], none, some (growS R B O), some (intsC l), some (L.map oints)]) rfl (by simp only [go_sem, ↓reduceIte, Nat.reduceEqDiff, Nat.reduceAdd, reduceCtorEq]) (by simp [sub, fget, go_sem, ↓reduceIte, Nat.reduceEqDiff, Nat.reduceAdd, reduceCtorEq])).trans (Ref.to rfl (by simp [sub, fget, go_sem, ↓reduceIte, Nat.reduceEqDiff, Nat.reduceAdd, reduceCtorEq]))
      rintro ⟨m, Lm⟩ ⟨hm, hLm⟩
      dsimp only at hm hLm ⊢
      have hLl : Lm.length ≤ 401 := by rw [hLm, List.length_take]; exact Nat.min_le_left _ _
      (repeat first | simp only [go_sem, ↓reduceIte, Nat.reduceEqDiff, Nat.reduceAdd, reduceCtorEq] | with_reducible refine V_W ?_ | (with_reducible refine And.intro ?_ ?_; focus first | assumption | omega | decide | grind) | (with_reducible refine Br.mk ?_ ?_; focus (intros; omega)) | decide)
      refine ⟨fun hc => ?_, fun hc => ?_⟩
      · have hm' : m < (nxs R.length B l).length := by omega
        obtain ⟨e, he0⟩ : ∃ e, (nxs R.length B l).getD m 0 = e := ⟨_, rfl⟩
        have hat := nxs_at hm'
        rw [he0] at hat
        have hen : (cvJ R.length B x R.length).getD m 0 = (e : Int) := by
          rw [← hnx, ← he0]
          simp [hm']
        obtain ⟨L2, hL2⟩ : ∃ L2, L2 = (L ++ chtm R.length B k l (m + 1)).take 401 := ⟨_, rfl⟩
        have hstep : L2 = (Lm ++ chs R.length B k (l ++ [(e : Int)])).take 401 := by rw [hL2, chtm_succ _ _ _ hm', he0, ← List.append_assoc, ← take_app, ← hLm]
        have hnxe := (nxs_cv hp l e).symm
        have hxe : x < e := hp.ord.lt hat.1 ((nxc_iff hp hat.1).1 (hlx ▸ hat.2)).2.1
        (repeat first | simp only [go_sem, ↓reduceIte, Nat.reduceEqDiff, Nat.reduceAdd, reduceCtorEq] | with_reducible refine V_W ?_ | (with_reducible refine And.intro ?_ ?_; focus first | assumption | omega | decide | grind) | (with_reducible refine Br.mk ?_ ?_; focus (intros; omega)) | decide)
        simp only [hen, go_sem, ↓reduceIte, Nat.reduceEqDiff, Nat.reduceAdd, reduceCtorEq]
        (repeat first | simp only [go_sem, ↓reduceIte, Nat.reduceEqDiff, Nat.reduceAdd, reduceCtorEq] | with_reducible refine V_W ?_ | (with_reducible refine And.intro ?_ ?_; focus first | assumption | omega | decide | grind) | (with_reducible refine Br.mk ?_ ?_; focus (intros; omega)) | decide)
        refine ⟨fun hc2 => ?_, fun hc2 => ?_⟩
        · have hx := (ih e (l ++ [(e : Int)]) l Lm L2 rfl (by omega) hat.1 (by simp; omega) (by omega) hstep)
          rw [show intsC (l ++ [(e : Int)]) = intsC l ++ [i64 (e : Int)] by simp [intsC], show (l ++ [(e : Int)]).length = l.length + 1 by simp] at hx
          have hcl := clone_c l hlp (by omega)
          (repeat first | simp only [go_sem, ↓reduceIte, Nat.reduceEqDiff, Nat.reduceAdd, reduceCtorEq] | with_reducible refine V_W ?_ | (with_reducible refine And.intro ?_ ?_; focus first | assumption | omega | decide | grind) | (with_reducible refine Br.mk ?_ ?_; focus (intros; omega)) | decide)
          refine V_altsB [(0, .sl 3 1 0 l.length), (2, .pto [mat O] 0), (3, .ref 0 0), (4, .ref 2 0), (30, ints (cvJ R.length B x R.length)), (31, i64 (cvJ R.length B x R.length).length), (32, i64 (m : Int))] [some [i64 v, .sl 4 1 0 L2.length], none, some (growS R B O), some (intsC l), some (L2.map oints)] ?_ ?_
          · repeat' first
              | simp only [go_sem, ↓reduceIte, Nat.reduceEqDiff, Nat.reduceAdd, reduceCtorEq]
              | with_reducible refine LT_reg ?_
              | with_reducible refine LT_fin ?_
              | with_reducible exact LT_tt
              | with_reducible refine LT_alt ?_ ?_
              | ((with_reducible refine And.intro ?_ ?_); (focus first | assumption | omega | exact rfl | decide | grind))
              | (refine pureC (hcl) ?_ ?_ ?_; (focus (simp only [go_sem, ↓reduceIte, Nat.reduceEqDiff, Nat.reduceAdd, reduceCtorEq] <;> rfl)); (focus first | rfl | simp only [go_sem, ↓reduceIte, Nat.reduceEqDiff, Nat.reduceAdd, reduceCtorEq]))
              | (refine wriCF (hx) [0, 4, 2, 7] ?_ ?_ ?_ ?_; (focus first | rfl | simp); (focus (simp only [go_sem, ↓reduceIte, Nat.reduceEqDiff, Nat.reduceAdd, reduceCtorEq] <;> rfl)); (focus (simp only [go_sem, ↓reduceIte, Nat.reduceEqDiff, Nat.reduceAdd, reduceCtorEq] <;> rfl)))
            all_goals exact Ref.gc [0, 1, 2, 3, 8] rfl (by simp only [go_sem, ↓reduceIte, Nat.reduceEqDiff, Nat.reduceAdd, reduceCtorEq]) (by simp [sub, fget, go_sem, ↓reduceIte, Nat.reduceEqDiff, Nat.reduceAdd, reduceCtorEq])
          · (repeat first | simp only [go_sem, ↓reduceIte, Nat.reduceEqDiff, Nat.reduceAdd, reduceCtorEq] | with_reducible refine V_W ?_ | (with_reducible refine And.intro ?_ ?_; focus first | assumption | omega | decide | grind) | (with_reducible refine Br.mk ?_ ?_; focus (intros; omega)) | decide)
            exact ⟨(m + 1, L2), ⟨by dsimp only; omega, hL2⟩, by dsimp only; omega, by exact Ref.frame (by simp [sub, fget])⟩
        · have hsame : L2 = Lm := by rw [hstep, take_full (by omega)]
          (repeat first | simp only [go_sem, ↓reduceIte, Nat.reduceEqDiff, Nat.reduceAdd, reduceCtorEq] | with_reducible refine V_W ?_ | (with_reducible refine And.intro ?_ ?_; focus first | assumption | omega | decide | grind) | (with_reducible refine Br.mk ?_ ?_; focus (intros; omega)) | decide)
          exact ⟨(m + 1, Lm), ⟨by dsimp only; omega, by dsimp only; rw [← hsame]; exact hL2⟩, by dsimp only; omega, by exact Ref.frame (by simp [sub, fget])⟩
      · have hend : L' = Lm := by
          rw [hL', hLm, show m = (nxs R.length B l).length by omega, chtm_all, chs_succ, if_neg hnl, List.append_nil]
        obtain rfl := hend
        (repeat first | simp only [go_sem, ↓reduceIte, Nat.reduceEqDiff, Nat.reduceAdd, reduceCtorEq] | with_reducible refine V_W ?_ | (with_reducible refine And.intro ?_ ?_; focus first | assumption | omega | decide | grind) | (with_reducible refine Br.mk ?_ ?_; focus (intros; omega)) | decide)
        exact Ref.gc [0, 1, 2, 3, 4] rfl (by simp only [go_sem, ↓reduceIte, Nat.reduceEqDiff, Nat.reduceAdd, reduceCtorEq]) (by simp [sub, fget, go_sem, ↓reduceIte, Nat.reduceEqDiff, Nat.reduceAdd, reduceCtorEq])

set_option maxHeartbeats 4000000 in
theorem growS_t (r : Int) (R : List Int) (B O : List (List Int)) (v : Int) (hp : IsPos r R B) (hOl : O.length = R.length + 1) (hO : ∀ y, y < R.length → O.getD y [] = cvJ R.length B y R.length) (hOn : O.getD R.length [] = mnJ B R.length) (l : List Int) (hl0 : l = []) (k : Nat) (hk : k = R.length) (L L' : List (List Int)) (hL : L.length ≤ 400) (hL' : L' = (L ++ chs R.length B (k + 1) l).take 401) :
    Wri Try.prog 41 [nilS, i64 (R.length : Int), .pto [mat O] 0, .ref 0 0, .ref 2 0] [some [i64 v, .sl 1 1 0 L.length], some (L.map oints), some (growS R B O)] (.tup []) [some [i64 v, .sl 3 1 0 L'.length], none, some (growS R B O), some (L'.map oints)] := by
  obtain ⟨a1, a2, a3, a4, a5⟩ := hp.rank
  have hx0 := fun (e : Nat) (Lm L2 : List (List Int)) (he : e < R.length) (hlm : Lm.length ≤ 400) (h2 : L2 = (Lm ++ chs R.length B k (l ++ [(e : Int)])).take 401) => growS_w r R B O v hp hOl hO k e [(e : Int)] [] Lm L2 rfl (by omega) he (by simp; omega) hlm (by rw [h2, hl0]; rfl)
  have hnx : (nxs R.length B l).map (fun y : Nat => (y : Int)) = mnJ B R.length := by rw [hl0]; exact nxs_mn
  have hnl0 : (nxs R.length B l).length = (mnJ B R.length).length := by rw [← hnx, List.length_map]
  have hcl := mnJ_len (B := B) R.length
  have hnl : ¬ leaf R.length B l := fun h => h.1 hl0
  refine wriRV ok41 rfl ?_; unfold c41
  (repeat first | simp only [go_sem, ↓reduceIte, Nat.reduceEqDiff, Nat.reduceAdd, reduceCtorEq] | with_reducible refine V_W ?_ | (with_reducible refine And.intro ?_ ?_; focus first | assumption | omega | decide | grind) | (with_reducible refine Br.mk ?_ ?_; focus (intros; omega)) | decide)
  simp only [hOn, go_sem, ↓reduceIte, Nat.reduceEqDiff, Nat.reduceAdd, reduceCtorEq]
  (repeat first | simp only [go_sem, ↓reduceIte, Nat.reduceEqDiff, Nat.reduceAdd, reduceCtorEq] | with_reducible refine V_W ?_ | (with_reducible refine And.intro ?_ ?_; focus first | assumption | omega | decide | grind) | (with_reducible refine Br.mk ?_ ?_; focus (intros; omega)) | decide)
  refine fun _ => ?_
  (repeat first | simp only [go_sem, ↓reduceIte, Nat.reduceEqDiff, Nat.reduceAdd, reduceCtorEq] | with_reducible refine V_W ?_ | (with_reducible refine And.intro ?_ ?_; focus first | assumption | omega | decide | grind) | (with_reducible refine Br.mk ?_ ?_; focus (intros; omega)) | decide)
  simp only [hOn, go_sem, ↓reduceIte, Nat.reduceEqDiff, Nat.reduceAdd, reduceCtorEq]
  (repeat first | simp only [go_sem, ↓reduceIte, Nat.reduceEqDiff, Nat.reduceAdd, reduceCtorEq] | with_reducible refine V_W ?_ | (with_reducible refine And.intro ?_ ?_; focus first | assumption | omega | decide | grind) | (with_reducible refine Br.mk ?_ ?_; focus (intros; omega)) | decide)
  refine V_loop (α := Nat × List (List Int)) (S := fun q => ([(0, nilS), (2, .pto [mat O] 0), (3, .ref 0 0), (4, .ref 2 0), (30, ints (mnJ B R.length)), (31, i64 (mnJ B R.length).length), (32, i64 (q.1 : Int))], [some [i64 v, .sl 3 1 0 q.2.length], none, some (growS R B O), some (q.2.map oints)])) (C := fun q => q.1 ≤ (nxs R.length B l).length ∧ q.2 = (L ++ chtm R.length B k l q.1).take 401) (μ := fun q => (nxs R.length B l).length - q.1) (0, L) ⟨Nat.zero_le _, by rw [show chtm R.length B k l 0 = [] from rfl, List.append_nil, List.take_of_length_le (by omega)]⟩ ?_ ?_
  · refine (Ref.mv 1 (cs := L.map oints) (F' := [(0, nilS), (2, .pto [mat O] 0), (3, .ref 0 0), (4, .ref 2 0), (30, ints (mnJ B R.length)), (31, i64 (mnJ B R.length).length), (32, i64 0)]) (H' := [some [i64 v, .sl 3 1 0 L.length], none, some (growS R B O), some (L.map oints)]) rfl (by simp only [go_sem, ↓reduceIte, Nat.reduceEqDiff, Nat.reduceAdd, reduceCtorEq]) (by simp [sub, fget, go_sem, ↓reduceIte, Nat.reduceEqDiff, Nat.reduceAdd, reduceCtorEq])).trans (Ref.to rfl (by simp [sub, fget, go_sem, ↓reduceIte, Nat.reduceEqDiff, Nat.reduceAdd, reduceCtorEq]))
  rintro ⟨m, Lm⟩ ⟨hm, hLm⟩
  dsimp only at hm hLm ⊢
  have hLl : Lm.length ≤ 401 := by rw [hLm, List.length_take]; exact Nat.min_le_left _ _
  (repeat first | simp only [go_sem, ↓reduceIte, Nat.reduceEqDiff, Nat.reduceAdd, reduceCtorEq] | with_reducible refine V_W ?_ | (with_reducible refine And.intro ?_ ?_; focus first | assumption | omega | decide | grind) | (with_reducible refine Br.mk ?_ ?_; focus (intros; omega)) | decide)
  refine ⟨fun hc => ?_, fun hc => ?_⟩
  · have hm' : m < (nxs R.length B l).length := by omega
    obtain ⟨e, he0⟩ : ∃ e, (nxs R.length B l).getD m 0 = e := ⟨_, rfl⟩
    have hat := nxs_at hm'
    rw [he0] at hat
    have hen : (mnJ B R.length).getD m 0 = (e : Int) := by
      rw [← hnx, ← he0]
      simp [hm']
    obtain ⟨L2, hL2⟩ : ∃ L2, L2 = (L ++ chtm R.length B k l (m + 1)).take 401 := ⟨_, rfl⟩
    have hstep : L2 = (Lm ++ chs R.length B k (l ++ [(e : Int)])).take 401 := by rw [hL2, chtm_succ _ _ _ hm', he0, ← List.append_assoc, ← take_app, ← hLm]
    have hnxe := (nxs_cv hp l e).symm
    (repeat first | simp only [go_sem, ↓reduceIte, Nat.reduceEqDiff, Nat.reduceAdd, reduceCtorEq] | with_reducible refine V_W ?_ | (with_reducible refine And.intro ?_ ?_; focus first | assumption | omega | decide | grind) | (with_reducible refine Br.mk ?_ ?_; focus (intros; omega)) | decide)
    simp only [hen, go_sem, ↓reduceIte, Nat.reduceEqDiff, Nat.reduceAdd, reduceCtorEq]
    (repeat first | simp only [go_sem, ↓reduceIte, Nat.reduceEqDiff, Nat.reduceAdd, reduceCtorEq] | with_reducible refine V_W ?_ | (with_reducible refine And.intro ?_ ?_; focus first | assumption | omega | decide | grind) | (with_reducible refine Br.mk ?_ ?_; focus (intros; omega)) | decide)
    refine ⟨fun hc2 => ?_, fun hc2 => ?_⟩
    · have hx := (hx0 e Lm L2 hat.1 (by omega) hstep)
      simp only [show intsC [(e : Int)] = [i64 (e : Int)] from rfl, List.length_cons, List.length_nil, Nat.zero_add] at hx
      have hcl := clone_nil
      (repeat first | simp only [go_sem, ↓reduceIte, Nat.reduceEqDiff, Nat.reduceAdd, reduceCtorEq] | with_reducible refine V_W ?_ | (with_reducible refine And.intro ?_ ?_; focus first | assumption | omega | decide | grind) | (with_reducible refine Br.mk ?_ ?_; focus (intros; omega)) | decide)
      refine V_altsB [(0, nilS), (2, .pto [mat O] 0), (3, .ref 0 0), (4, .ref 2 0), (30, ints (mnJ B R.length)), (31, i64 (mnJ B R.length).length), (32, i64 (m : Int))] [some [i64 v, .sl 3 1 0 L2.length], none, some (growS R B O), some (L2.map oints)] ?_ ?_
      · repeat' first
          | simp only [go_sem, ↓reduceIte, Nat.reduceEqDiff, Nat.reduceAdd, reduceCtorEq]
          | with_reducible refine LT_reg ?_
          | with_reducible refine LT_fin ?_
          | with_reducible exact LT_tt
          | with_reducible refine LT_alt ?_ ?_
          | ((with_reducible refine And.intro ?_ ?_); (focus first | assumption | omega | exact rfl | decide | grind))
          | (refine pureC (hcl) ?_ ?_ ?_; (focus (simp only [go_sem, ↓reduceIte, Nat.reduceEqDiff, Nat.reduceAdd, reduceCtorEq] <;> rfl)); (focus first | rfl | simp only [go_sem, ↓reduceIte, Nat.reduceEqDiff, Nat.reduceAdd, reduceCtorEq]))
          | (refine wriCF (hx) [0, 3, 2, 6] ?_ ?_ ?_ ?_; (focus first | rfl | simp); (focus (simp only [go_sem, ↓reduceIte, Nat.reduceEqDiff, Nat.reduceAdd, reduceCtorEq] <;> rfl)); (focus (simp only [go_sem, ↓reduceIte, Nat.reduceEqDiff, Nat.reduceAdd, reduceCtorEq] <;> rfl)))
        all_goals exact Ref.gc [0, 1, 2, 7] rfl (by simp only [go_sem, ↓reduceIte, Nat.reduceEqDiff, Nat.reduceAdd, reduceCtorEq]) (by simp [sub, fget, go_sem, ↓reduceIte, Nat.reduceEqDiff, Nat.reduceAdd, reduceCtorEq])
      · (repeat first | simp only [go_sem, ↓reduceIte, Nat.reduceEqDiff, Nat.reduceAdd, reduceCtorEq] | with_reducible refine V_W ?_ | (with_reducible refine And.intro ?_ ?_; focus first | assumption | omega | decide | grind) | (with_reducible refine Br.mk ?_ ?_; focus (intros; omega)) | decide)
        exact ⟨(m + 1, L2), ⟨by dsimp only; omega, hL2⟩, by dsimp only; omega, by exact Ref.frame (by simp [sub, fget])⟩
    · have hsame : L2 = Lm := by rw [hstep, take_full (by omega)]
      (repeat first | simp only [go_sem, ↓reduceIte, Nat.reduceEqDiff, Nat.reduceAdd, reduceCtorEq] | with_reducible refine V_W ?_ | (with_reducible refine And.intro ?_ ?_; focus first | assumption | omega | decide | grind) | (with_reducible refine Br.mk ?_ ?_; focus (intros; omega)) | decide)
      exact ⟨(m + 1, Lm), ⟨by dsimp only; omega, by dsimp only; rw [← hsame]; exact hL2⟩, by dsimp only; omega, by exact Ref.frame (by simp [sub, fget])⟩
  · have hend : L' = Lm := by
      rw [hL', hLm, show m = (nxs R.length B l).length by omega, chtm_all, chs_succ, if_neg hnl, List.append_nil]
    obtain rfl := hend
    (repeat first | simp only [go_sem, ↓reduceIte, Nat.reduceEqDiff, Nat.reduceAdd, reduceCtorEq] | with_reducible refine V_W ?_ | (with_reducible refine And.intro ?_ ?_; focus first | assumption | omega | decide | grind) | (with_reducible refine Br.mk ?_ ?_; focus (intros; omega)) | decide)
    exact Ref.gc [0, 1, 2, 3] rfl (by simp only [go_sem, ↓reduceIte, Nat.reduceEqDiff, Nat.reduceAdd, reduceCtorEq]) (by simp [sub, fget, go_sem, ↓reduceIte, Nat.reduceEqDiff, Nat.reduceAdd, reduceCtorEq])
end Go.Proofs.Ytdgcpjfffpkhkaa
set_option maxRecDepth 100000
namespace Go.Proofs.Ytdgcpjfffpkhkaa
open Go.Gov
open Classical

/-- Two cells of a list of cells. -/
def two (L : List AV) (e n : Nat) (a b : AV) : List AV := (L.set e a).set n b
section
variable {L : List AV} {e n : Nat} (hen : e < n) (hl : L.length = n + 1)
include hen hl
theorem two_ge' (a b : AV) : (two L e n a b)[e]? = some a := by
  unfold two
  rw [List.getElem?_set_ne (by omega), List.getElem?_set_self (by omega)]
omit hen in
theorem two_gn' (a b : AV) : (two L e n a b)[n]? = some b := by
  unfold two
  rw [List.getElem?_set_self (by simp; omega)]
theorem two_e (a b c : AV) : (two L e n a b).set e c = two L e n c b := by
  unfold two
  rw [List.set_comm _ _ (by omega : n ≠ e), List.set_set]
omit hen hl in
theorem two_n (a b c : AV) : (two L e n a b).set n c = two L e n a c := by
  unfold two
  rw [List.set_set]
theorem two_ge (a b d : AV) : (two L e n a b).getD e d = a := by
  unfold two
  rw [List.getD_eq_getElem?_getD, List.getElem?_set_ne (by omega), List.getElem?_set_self (by omega)]
  rfl
omit hen in
theorem two_gn (a b d : AV) : (two L e n a b).getD n d = b := by
  unfold two
  rw [List.getD_eq_getElem?_getD, List.getElem?_set_self (by simp; omega)]
  rfl
omit hen in
theorem two_len (a b : AV) : (two L e n a b).length = n + 1 := by simp [two, hl]
omit hen hl in
theorem two_rnm {τ : Nat → Option Nat} (h : rnmL τ L = L) (a b : AV) : rnmL τ (two L e n a b) = two L e n (rnm τ a) (rnm τ b) := by
  unfold two
  rw [rnmL_set, rnmL_set, h]
end

set_option maxHeartbeats 8000000 in
theorem subdivisionOf_i (r : Int) (R : List Int) (B : List (List Int)) (hp : IsPos r R B) (h1 : R.length ≤ 1048576) : Pure Try.prog 21 [posetA r R B] (.tup [.agg [i64 (sdV r R B), .sl 0 1 0 (sdF r R B).length], i64 (sdK r R B)]) [some ((sdF r R B).map oints)] := by
  obtain ⟨a1, a2, a3, a4, a5⟩ := hp.rank
  have hrow := row_500 hp
  obtain ⟨n, hn⟩ : ∃ n, n = R.length := ⟨_, rfl⟩
  refine pureRV ok21 rfl ?_; unfold c21
  (repeat first | simp only [go_sem, ↓reduceIte, Nat.reduceEqDiff, Nat.reduceAdd, reduceCtorEq] | with_reducible refine V_W ?_ | (with_reducible refine And.intro ?_ ?_; focus first | assumption | omega | decide | grind) | (with_reducible refine Br.mk ?_ ?_; focus (intros; omega)) | decide)
  refine pureC (size_c R (by omega)) (by simp only [go_sem, ↓reduceIte, Nat.reduceEqDiff, Nat.reduceAdd, reduceCtorEq] <;> rfl) (by first | rfl | simp only [go_sem, ↓reduceIte, Nat.reduceEqDiff, Nat.reduceAdd, reduceCtorEq]) ?_
  (repeat first | simp only [go_sem, ↓reduceIte, Nat.reduceEqDiff, Nat.reduceAdd, reduceCtorEq] | with_reducible refine V_W ?_ | (with_reducible refine And.intro ?_ ?_; focus first | assumption | omega | decide | grind) | (with_reducible refine Br.mk ?_ ?_; focus (intros; omega)) | decide)
  refine ⟨fun hc => ?_, fun hc => ?_⟩
  · have hno : ¬ (R.length ≤ 60 ∧ (allC R B).length ≤ 400) := by omega
    have e1 : sdV r R B = 0 := if_neg fun h => hno h.2
    have e2 : sdF r R B = [] := if_neg fun h => hno h.2
    have e3 : sdK r R B = 3 := by unfold sdK; rw [if_pos hp, if_neg hno]
    rw [e1, e2, e3]
    (repeat first | simp only [go_sem, ↓reduceIte, Nat.reduceEqDiff, Nat.reduceAdd, reduceCtorEq] | with_reducible refine V_W ?_ | (with_reducible refine And.intro ?_ ?_; focus first | assumption | omega | decide | grind) | (with_reducible refine Br.mk ?_ ?_; focus (intros; omega)) | decide)
    exact err_end
  · (repeat first | simp only [go_sem, ↓reduceIte, Nat.reduceEqDiff, Nat.reduceAdd, reduceCtorEq] | with_reducible refine V_W ?_ | (with_reducible refine And.intro ?_ ?_; focus first | assumption | omega | decide | grind) | (with_reducible refine Br.mk ?_ ?_; focus (intros; omega)) | decide)
    refine V_loop (α := Nat) (S := fun e => ([(1, .ref 0 0), (2, .ref 1 0), (4, i64 R.length), (5, .ref 2 0), (6, .ref 4 0), (21, i64 R.length), (22, i64 (e : Int))], [some [i64 r, ints R, mat B], some [i64 0, nilS], some [i64 R.length, nilS], some ((ovT R.length B e).map oints), some [.sl 3 1 0 (R.length + 1)]])) (C := fun e => e ≤ R.length) (μ := fun e => R.length - e) 0 (Nat.zero_le _) ?_ ?_
    · refine (Ref.nils 3 1 (R.length + 1) rfl).trans (Ref.to ?_ (by simp [sub, fget]))
      simp [ovT_zero, intsC]
    intro e he
    (repeat first | simp only [go_sem, ↓reduceIte, Nat.reduceEqDiff, Nat.reduceAdd, reduceCtorEq] | with_reducible refine V_W ?_ | (with_reducible refine And.intro ?_ ?_; focus first | assumption | omega | decide | grind) | (with_reducible refine Br.mk ?_ ?_; focus (intros; omega)) | decide)
    refine ⟨fun hc2 => ?_, fun hc2 => ?_⟩
    · have hen : e < R.length := by omega
      obtain ⟨Lv, hLv⟩ : ∃ Lv, Lv = (ovT R.length B e).map oints := ⟨_, rfl⟩
      have hLl : Lv.length = R.length + 1 := by rw [hLv, List.length_map, ovT_len]
      have hrn : ∀ τ, rnmL τ Lv = Lv := fun τ => by rw [hLv]; exact rnmL_orows τ _
      have hue : Lv[e]? = some (.osl 1 0 []) := by
        rw [hLv, List.getElem?_map, List.getElem?_eq_getElem (by rw [ovT_len]; omega)]
        have := ovT_at (n := R.length) (B := B) (x := e) hen
        rw [if_neg (by omega)] at this
        have h2 : (ovT R.length B e)[e]'(by rw [ovT_len]; omega) = [] := by
          rw [← this]; simp [ovT_len, show e < R.length + 1 by omega]
        rw [h2]; rfl
      have hun : (Lv.set e (.sl 5 1 0 0))[R.length]? = some (oints (mnJ B e)) := by
        rw [List.getElem?_set_ne (by omega), hLv, List.getElem?_map, List.getElem?_eq_getElem (by rw [ovT_len]; omega)]
        have := ovT_end (n := R.length) (B := B) e
        have h2 : (ovT R.length B e)[R.length]'(by rw [ovT_len]; omega) = mnJ B e := by
          rw [← this]; simp [ovT_len]
        rw [h2]; rfl
      have hml := mnJ_len (B := B) e
      rw [← hLv]
      (repeat first | simp only [go_sem, ↓reduceIte, Nat.reduceEqDiff, Nat.reduceAdd, reduceCtorEq] | with_reducible refine V_W ?_ | (with_reducible refine And.intro ?_ ?_; focus first | assumption | omega | decide | grind) | (with_reducible refine Br.mk ?_ ?_; focus (intros; omega)) | decide)
      refine V_loop (α := Nat) (S := fun j => ([(1, .ref 0 0), (2, .ref 1 0), (4, i64 R.length), (5, .ref 2 0), (6, .ref 4 0), (7, i64 (e : Int)), (21, i64 R.length), (22, i64 (e : Int)), (25, i64 R.length), (26, i64 (j : Int))], [some [i64 r, ints R, mat B], some [i64 0, nilS], some [i64 R.length, nilS], some (two Lv e R.length (.sl 5 1 0 (cvJ R.length B e j).length) (.sl 6 1 0 (mnJ B e).length)), some [.sl 3 1 0 (R.length + 1)], some (intsC (cvJ R.length B e j)), some (intsC (mnJ B e))])) (C := fun j => j ≤ R.length) (μ := fun j => R.length - j) 0 (Nat.zero_le _) ?_ ?_
      · refine (Ref.open 3 e rfl hue).trans ((Ref.open 3 R.length (cs := Lv.set e (.sl 5 1 0 0)) rfl hun).trans (Ref.to ?_ (by simp [sub, fget])))
        simp [two, intsC, cvJ]
      intro j hj
      have hcl := cvJ_len (n := R.length) (B := B) e j
      have hcv := fun h : j < R.length => cv_btw (x := e) (y := j) hp h
      obtain ⟨cur, hcur⟩ : ∃ cur, cur = cvJ R.length B e j := ⟨_, rfl⟩
      obtain ⟨mns, hmns⟩ : ∃ mns, mns = mnJ B e := ⟨_, rfl⟩
      rw [← hcur] at hcl ⊢
      rw [← hmns] at hml ⊢
      have tge := two_ge (L := Lv) hen hLl
      have tgn := two_gn (L := Lv) (e := e) hLl
      have te := two_e (L := Lv) hen hLl
      have tn := two_n (L := Lv) (e := e) (n := R.length)
      have tl := two_len (L := Lv) (e := e) hLl
      have tr := fun τ => two_rnm (L := Lv) (e := e) (n := R.length) (hrn τ)
      (repeat first | simp only [go_sem, ↓reduceIte, Nat.reduceEqDiff, Nat.reduceAdd, reduceCtorEq] | with_reducible refine V_W ?_ | (with_reducible refine And.intro ?_ ?_; focus first | assumption | omega | decide | grind) | (with_reducible refine Br.mk ?_ ?_; focus (intros; omega)) | decide)
      refine ⟨fun hc3 => ?_, fun hc3 => ?_⟩
      · have hj2 : j < R.length := by omega
        have hcv := hcv hj2
        (repeat first | simp only [go_sem, ↓reduceIte, Nat.reduceEqDiff, Nat.reduceAdd, reduceCtorEq] | with_reducible refine V_W ?_ | (with_reducible refine And.intro ?_ ?_; focus first | assumption | omega | decide | grind) | (with_reducible refine Br.mk ?_ ?_; focus (intros; omega)) | decide)
        refine GCall.mk (bl (decide ((e : Int) ∈ B.getD j [])) ) (fun hg => by first | exact pureC ( isBelow_c r R B e j hp hj2) (by simp only [go_sem, ↓reduceIte, Nat.reduceEqDiff, Nat.reduceAdd, reduceCtorEq] <;> rfl) (by first | rfl | simp only [go_sem, ↓reduceIte, Nat.reduceEqDiff, Nat.reduceAdd, reduceCtorEq]) (by first | exact ⟨rfl, rfl⟩ | simp only [go_sem, ↓reduceIte, Nat.reduceEqDiff, Nat.reduceAdd, reduceCtorEq]) | exact ⟨hg, pureC ( isBelow_c r R B e j hp hj2) (by simp only [go_sem, ↓reduceIte, Nat.reduceEqDiff, Nat.reduceAdd, reduceCtorEq] <;> rfl) (by first | rfl | simp only [go_sem, ↓reduceIte, Nat.reduceEqDiff, Nat.reduceAdd, reduceCtorEq]) (by first | exact ⟨rfl, rfl⟩ | simp only [go_sem, ↓reduceIte, Nat.reduceEqDiff, Nat.reduceAdd, reduceCtorEq])⟩ | exact ⟨by grind, pureC ( isBelow_c r R B e j hp hj2) (by simp only [go_sem, ↓reduceIte, Nat.reduceEqDiff, Nat.reduceAdd, reduceCtorEq] <;> rfl) (by first | rfl | simp only [go_sem, ↓reduceIte, Nat.reduceEqDiff, Nat.reduceAdd, reduceCtorEq]) (by first | exact ⟨rfl, rfl⟩ | simp only [go_sem, ↓reduceIte, Nat.reduceEqDiff, Nat.reduceAdd, reduceCtorEq])⟩) ?_
        (repeat first | simp only [go_sem, ↓reduceIte, Nat.reduceEqDiff, Nat.reduceAdd, reduceCtorEq] | with_reducible refine V_W ?_ | (with_reducible refine And.intro ?_ ?_; focus first | assumption | omega | decide | grind) | (with_reducible refine Br.mk ?_ ?_; focus (intros; omega)) | decide)
        refine GCall.mk (bl (btw B e j) ) (fun hg => by first | exact pureC ( hasBetween_c r R B e j hp hj2) (by simp only [go_sem, ↓reduceIte, Nat.reduceEqDiff, Nat.reduceAdd, reduceCtorEq] <;> rfl) (by first | rfl | simp only [go_sem, ↓reduceIte, Nat.reduceEqDiff, Nat.reduceAdd, reduceCtorEq]) (by first | exact ⟨rfl, rfl⟩ | simp only [go_sem, ↓reduceIte, Nat.reduceEqDiff, Nat.reduceAdd, reduceCtorEq]) | exact ⟨hg, pureC ( hasBetween_c r R B e j hp hj2) (by simp only [go_sem, ↓reduceIte, Nat.reduceEqDiff, Nat.reduceAdd, reduceCtorEq] <;> rfl) (by first | rfl | simp only [go_sem, ↓reduceIte, Nat.reduceEqDiff, Nat.reduceAdd, reduceCtorEq]) (by first | exact ⟨rfl, rfl⟩ | simp only [go_sem, ↓reduceIte, Nat.reduceEqDiff, Nat.reduceAdd, reduceCtorEq])⟩ | exact ⟨by grind, pureC ( hasBetween_c r R B e j hp hj2) (by simp only [go_sem, ↓reduceIte, Nat.reduceEqDiff, Nat.reduceAdd, reduceCtorEq] <;> rfl) (by first | rfl | simp only [go_sem, ↓reduceIte, Nat.reduceEqDiff, Nat.reduceAdd, reduceCtorEq]) (by first | exact ⟨rfl, rfl⟩ | simp only [go_sem, ↓reduceIte, Nat.reduceEqDiff, Nat.reduceAdd, reduceCtorEq])⟩) ?_
        (repeat first | simp only [go_sem, ↓reduceIte, Nat.reduceEqDiff, Nat.reduceAdd, reduceCtorEq] | with_reducible refine V_W ?_ | (with_reducible refine And.intro ?_ ?_; focus first | assumption | omega | decide | grind) | (with_reducible refine Br.mk ?_ ?_; focus (intros; omega)) | decide)
        refine ⟨fun hc4 => ?_, fun hc4 => ?_⟩
        · have hyes : Cv R.length B e j := hcv.2 ⟨hc4.1.2, by simpa using hc4.2⟩
          refine V_altsB [(1, .ref 0 0), (2, .ref 1 0), (4, i64 R.length), (5, .ref 2 0), (6, .ref 4 0), (7, i64 (e : Int)), (21, i64 R.length), (22, i64 (e : Int)), (25, i64 R.length), (26, i64 (j : Int))] [some [i64 r, ints R, mat B], some [i64 0, nilS], some [i64 R.length, nilS], some (two Lv e R.length (.sl 5 1 0 (cur.length + 1)) (.sl 6 1 0 (mns.length))), some [.sl 3 1 0 (R.length + 1)], some (intsC cur ++ [i64 (j : Int)]), some (intsC mns)] ?_ ?_
          · skip
            repeat' first
              | simp only [tge, tgn, te, tn, tl, go_sem, ↓reduceIte, Nat.reduceEqDiff, Nat.reduceAdd, reduceCtorEq]
              | with_reducible refine LT_reg ?_
              | with_reducible refine LT_fin ?_
              | with_reducible exact LT_tt
              | with_reducible refine LT_alt ?_ ?_
              | ((with_reducible refine And.intro ?_ ?_); (focus first | assumption | omega | grind))
            all_goals exact Ref.gc [0, 1, 2, 3, 4, 8, 6] rfl (by simp only [tr, te, go_sem, ↓reduceIte, Nat.reduceEqDiff, Nat.reduceAdd, reduceCtorEq]) (by simp [sub, fget, go_sem, ↓reduceIte, Nat.reduceEqDiff, Nat.reduceAdd, reduceCtorEq])
          · (repeat first | simp only [go_sem, ↓reduceIte, Nat.reduceEqDiff, Nat.reduceAdd, reduceCtorEq] | with_reducible refine V_W ?_ | (with_reducible refine And.intro ?_ ?_; focus first | assumption | omega | decide | grind) | (with_reducible refine Br.mk ?_ ?_; focus (intros; omega)) | decide)
            refine ⟨j + 1, by omega, by omega, Ref.to ?_ (by simp [sub, fget])⟩
            rw [cvJ_yes hyes, ← hcur]
            simp [intsC]
        · have hno : ¬ Cv R.length B e j := fun h => by
            have h2 := hcv.1 h
            have h3 := hp.ord.lt hj2 h2.1
            rcases hc4 with (h4 | h4) | h4
            · omega
            · exact h4 h2.1
            · rw [h2.2] at h4; cases h4
          (repeat first | simp only [go_sem, ↓reduceIte, Nat.reduceEqDiff, Nat.reduceAdd, reduceCtorEq] | with_reducible refine V_W ?_ | (with_reducible refine And.intro ?_ ?_; focus first | assumption | omega | decide | grind) | (with_reducible refine Br.mk ?_ ?_; focus (intros; omega)) | decide)
          refine ⟨j + 1, by omega, by omega, Ref.to ?_ (by simp [sub, fget])⟩
          rw [cvJ_no hno, ← hcur]
      · obtain rfl : j = R.length := by omega
        have hrwe := hrow e
        (repeat first | simp only [go_sem, ↓reduceIte, Nat.reduceEqDiff, Nat.reduceAdd, reduceCtorEq] | with_reducible refine V_W ?_ | (with_reducible refine And.intro ?_ ?_; focus first | assumption | omega | decide | grind) | (with_reducible refine Br.mk ?_ ?_; focus (intros; omega)) | decide)
        refine ⟨fun hc4 => ?_, fun hc4 => ?_⟩
        · have hem : B.getD e [] = [] := List.eq_nil_of_length_eq_zero (by omega)
          refine V_altsB [(1, .ref 0 0), (2, .ref 1 0), (4, i64 R.length), (5, .ref 2 0), (6, .ref 4 0), (21, i64 R.length), (22, i64 (e : Int))] [some [i64 r, ints R, mat B], some [i64 0, nilS], some [i64 R.length, nilS], some (two Lv e R.length (.sl 5 1 0 (cur.length)) (.sl 6 1 0 (mns.length + 1))), some [.sl 3 1 0 (R.length + 1)], some (intsC cur), some (intsC mns ++ [i64 (e : Int)])] ?_ ?_
          · skip
            repeat' first
              | simp only [tge, tgn, te, tn, tl, go_sem, ↓reduceIte, Nat.reduceEqDiff, Nat.reduceAdd, reduceCtorEq]
              | with_reducible refine LT_reg ?_
              | with_reducible refine LT_fin ?_
              | with_reducible exact LT_tt
              | with_reducible refine LT_alt ?_ ?_
              | ((with_reducible refine And.intro ?_ ?_); (focus first | assumption | omega | grind))
            all_goals exact Ref.gc [0, 1, 2, 3, 4, 5, 8] rfl (by simp only [tr, tn, go_sem, ↓reduceIte, Nat.reduceEqDiff, Nat.reduceAdd, reduceCtorEq]) (by simp [sub, fget, go_sem, ↓reduceIte, Nat.reduceEqDiff, Nat.reduceAdd, reduceCtorEq])
          · (repeat first | simp only [go_sem, ↓reduceIte, Nat.reduceEqDiff, Nat.reduceAdd, reduceCtorEq] | with_reducible refine V_W ?_ | (with_reducible refine And.intro ?_ ?_; focus first | assumption | omega | decide | grind) | (with_reducible refine Br.mk ?_ ?_; focus (intros; omega)) | decide)
            refine ⟨e + 1, by omega, by omega, ?_⟩
            obtain ⟨mn2, hmn2⟩ : ∃ mn2, mn2 = mns ++ [(e : Int)] := ⟨_, rfl⟩
            have hmc : intsC mns ++ [i64 (e : Int)] = intsC mn2 := by rw [hmn2]; simp [intsC]
            have hml2 : mns.length + 1 = mn2.length := by rw [hmn2]; simp
            rw [hmc, hml2]
            have hfin : two Lv e R.length (oints cur) (oints mn2) = (ovT R.length B (e + 1)).map oints := by
              unfold two
              rw [hLv, ← List.map_set, ← List.map_set, ← ovT_step hen, hcur, hmn2, hmns, mnJ_yes hem]
            have hrn2 : ∀ τ, rnmL τ (two Lv e R.length (oints cur) (oints mn2)) = two Lv e R.length (oints cur) (oints mn2) := fun τ => by rw [hfin]; exact rnmL_orows τ _
            rw [← hfin]
            refine (Ref.close 3 e 5 (k := 1) (n := cur.length) (cs := two Lv e R.length (.sl 5 1 0 cur.length) (.sl 6 1 0 mn2.length)) (cs2 := intsC cur) rfl (two_ge' hen hLl _ _) rfl (by decide) (by simp [intsC])).trans ?_
            refine (Ref.close 3 R.length 6 (k := 1) (n := mn2.length) (cs := (two Lv e R.length (.sl 5 1 0 cur.length) (.sl 6 1 0 mn2.length)).set e (.osl 1 cur.length (intsC cur))) (cs2 := intsC mn2) rfl (by rw [te]; exact two_gn' hLl _ _) rfl (by decide) (by simp [intsC])).trans ?_
            refine Ref.gc [0, 1, 2, 3, 4] rfl ?_ (by simp [sub, fget, go_sem, ↓reduceIte, Nat.reduceEqDiff, Nat.reduceAdd, reduceCtorEq])
            simp only [te, tn, go_sem, ↓reduceIte, Nat.reduceEqDiff, Nat.reduceAdd, reduceCtorEq]
            rw [show AV.osl 1 cur.length (intsC cur) = oints cur from rfl, show AV.osl 1 mn2.length (intsC mn2) = oints mn2 from rfl]
            simp only [hrn2, go_sem, ↓reduceIte, Nat.reduceEqDiff, Nat.reduceAdd, reduceCtorEq]
        · have hem : ¬ B.getD e [] = [] := fun h => hc4 (by rw [h]; rfl)
          (repeat first | simp only [go_sem, ↓reduceIte, Nat.reduceEqDiff, Nat.reduceAdd, reduceCtorEq] | with_reducible refine V_W ?_ | (with_reducible refine And.intro ?_ ?_; focus first | assumption | omega | decide | grind) | (with_reducible refine Br.mk ?_ ?_; focus (intros; omega)) | decide)
          refine ⟨e + 1, by omega, by omega, ?_⟩
          have hfin : two Lv e R.length (oints cur) (oints mns) = (ovT R.length B (e + 1)).map oints := by
            unfold two
            rw [hLv, ← List.map_set, ← List.map_set, ← ovT_step hen, hcur, hmns, mnJ_no hem]
          have hrn2 : ∀ τ, rnmL τ (two Lv e R.length (oints cur) (oints mns)) = two Lv e R.length (oints cur) (oints mns) := fun τ => by rw [hfin]; exact rnmL_orows τ _
          rw [← hfin]
          refine (Ref.close 3 e 5 (k := 1) (n := cur.length) (cs := two Lv e R.length (.sl 5 1 0 cur.length) (.sl 6 1 0 mns.length)) (cs2 := intsC cur) rfl (two_ge' hen hLl _ _) rfl (by decide) (by simp [intsC])).trans ?_
          refine (Ref.close 3 R.length 6 (k := 1) (n := mns.length) (cs := (two Lv e R.length (.sl 5 1 0 cur.length) (.sl 6 1 0 mns.length)).set e (.osl 1 cur.length (intsC cur))) (cs2 := intsC mns) rfl (by rw [te]; exact two_gn' hLl _ _) rfl (by decide) (by simp [intsC])).trans ?_
          refine Ref.gc [0, 1, 2, 3, 4] rfl ?_ (by simp [sub, fget, go_sem, ↓reduceIte, Nat.reduceEqDiff, Nat.reduceAdd, reduceCtorEq])
          simp only [te, tn, go_sem, ↓reduceIte, Nat.reduceEqDiff, Nat.reduceAdd, reduceCtorEq]
          rw [show AV.osl 1 cur.length (intsC cur) = oints cur from rfl, show AV.osl 1 mns.length (intsC mns) = oints mns from rfl]
          simp only [hrn2, go_sem, ↓reduceIte, Nat.reduceEqDiff, Nat.reduceAdd, reduceCtorEq]
    · obtain rfl : e = R.length := by omega
      have hyn : R.length ≤ 60 := by omega
      obtain ⟨L', hL'⟩ : ∃ L', L' = (allC R B).take 401 := ⟨_, rfl⟩
      have hLl : L'.length = min 401 (allC R B).length := by rw [hL', List.length_take]
      have hgr := growS_t r R B (ovT R.length B R.length) R.length hp (ovT_len _) (fun y hy => by rw [ovT_at hy, if_pos hy]) (ovT_end _) [] rfl R.length rfl [] L' (by simp) (by rw [hL']; rfl)
      simp only [List.length_nil, List.map_nil] at hgr
      have htk : ∀ Hx : Heap, (List.take (R.length + 1) ((ovT R.length B R.length).map oints)).map (frz Hx 4) = (ovT R.length B R.length).map ints := fun Hx => by
        rw [List.take_of_length_le (by simp [ovT_len]), List.map_map]
        refine List.map_congr_left fun z _ => ?_
        simp [frz, intsC]
      refine V_ref ((Ref.nilC 2 1 1 (cs := [i64 R.length, nilS]) rfl rfl).trans (Ref.sel [2, 5, 1] (F' := [(2, .ref 2 0), (4, i64 R.length), (5, .ref 0 0), (6, .pto [mat (ovT R.length B R.length)] 0)]) (H' := [some [i64 R.length, .sl 1 1 0 0], some [], some [i64 0, nilS]]) rfl ?_ ?_)) ?_
      · simp only [go_sem, ↓reduceIte, Nat.reduceEqDiff, Nat.reduceAdd, reduceCtorEq]
      · simp only [go_sem, ↓reduceIte, Nat.reduceEqDiff, Nat.reduceAdd, reduceCtorEq]
        rw [htk]
        simp [sub, fget, ovT_len]
      (repeat first | simp only [go_sem, ↓reduceIte, Nat.reduceEqDiff, Nat.reduceAdd, reduceCtorEq] | with_reducible refine V_W ?_ | (with_reducible refine And.intro ?_ ?_; focus first | assumption | omega | decide | grind) | (with_reducible refine Br.mk ?_ ?_; focus (intros; omega)) | decide)
      refine ⟨rfl, by decide, ?_⟩
      refine wriCF (hgr) [0, 1, 3] (by first | rfl | simp) (by simp only [go_sem, ↓reduceIte, Nat.reduceEqDiff, Nat.reduceAdd, reduceCtorEq] <;> rfl) (by simp only [go_sem, ↓reduceIte, Nat.reduceEqDiff, Nat.reduceAdd, reduceCtorEq] <;> rfl) ?_
      (repeat first | simp only [go_sem, ↓reduceIte, Nat.reduceEqDiff, Nat.reduceAdd, reduceCtorEq] | with_reducible refine V_W ?_ | (with_reducible refine And.intro ?_ ?_; focus first | assumption | omega | decide | grind) | (with_reducible refine Br.mk ?_ ?_; focus (intros; omega)) | decide)
      refine ⟨fun hc3 => ?_, fun hc3 => ?_⟩
      · have hno : ¬ (R.length ≤ 60 ∧ (allC R B).length ≤ 400) := by omega
        have e1 : sdV r R B = 0 := if_neg fun h => hno h.2
        have e2 : sdF r R B = [] := if_neg fun h => hno h.2
        have e3 : sdK r R B = 3 := by unfold sdK; rw [if_pos hp, if_neg hno]
        rw [e1, e2, e3]
        (repeat first | simp only [go_sem, ↓reduceIte, Nat.reduceEqDiff, Nat.reduceAdd, reduceCtorEq] | with_reducible refine V_W ?_ | (with_reducible refine And.intro ?_ ?_; focus first | assumption | omega | decide | grind) | (with_reducible refine Br.mk ?_ ?_; focus (intros; omega)) | decide)
        exact err_end
      · have hyes : R.length ≤ 60 ∧ (allC R B).length ≤ 400 := by omega
        have e1 : sdV r R B = R.length := if_pos ⟨hp, hyes⟩
        have e2 : sdF r R B = allC R B := if_pos ⟨hp, hyes⟩
        have e3 : sdK r R B = 0 := by unfold sdK; rw [if_pos hp, if_pos hyes]
        obtain rfl : L' = allC R B := by rw [hL', List.take_of_length_le (by omega)]
        rw [e1, e2, e3]
        (repeat first | simp only [go_sem, ↓reduceIte, Nat.reduceEqDiff, Nat.reduceAdd, reduceCtorEq] | with_reducible refine V_W ?_ | (with_reducible refine And.intro ?_ ?_; focus first | assumption | omega | decide | grind) | (with_reducible refine Br.mk ?_ ?_; focus (intros; omega)) | decide)
        exact Ref.gc [4] rfl (by simp only [go_sem, ↓reduceIte, Nat.reduceEqDiff, Nat.reduceAdd, reduceCtorEq]) (by simp [sub, fget, go_sem, ↓reduceIte, Nat.reduceEqDiff, Nat.reduceAdd, reduceCtorEq])

theorem implSd_c (r : Int) (R : List Int) (B : List (List Int)) (h1 : R.length ≤ 1048576) (hl : B.length ≤ 1048576) (hr : ∀ xs ∈ B, xs.length ≤ 1048576) : Pure Try.prog 7 [posetA r R B] (.tup [.agg [i64 (sdV r R B), .sl 0 1 0 (sdF r R B).length], i64 (sdK r R B)]) [some ((sdF r R B).map oints)] := by
  by_cases hp : IsPos r R B
  · have hsd := subdivisionOf_i r R B hp h1
    generalize sdF r R B = F at hsd ⊢
    generalize sdV r R B = V at hsd ⊢
    generalize sdK r R B = K at hsd ⊢
    refine pureRV ok7 rfl ?_; unfold c7
    (repeat first | simp only [go_sem, ↓reduceIte, Nat.reduceEqDiff, Nat.reduceAdd, reduceCtorEq] | with_reducible refine V_W ?_ | (with_reducible refine And.intro ?_ ?_; focus first | assumption | omega | decide | grind) | (with_reducible refine Br.mk ?_ ?_; focus (intros; omega)) | decide)
    refine pureC (isPoset_c r R B (by omega) (by omega) (fun xs hx => Nat.le_trans (hr xs hx) (by omega))) (by simp only [go_sem, ↓reduceIte, Nat.reduceEqDiff, Nat.reduceAdd, reduceCtorEq] <;> rfl) (by first | rfl | simp only [go_sem, ↓reduceIte, Nat.reduceEqDiff, Nat.reduceAdd, reduceCtorEq]) ?_
    rw [decide_eq_true hp]
    (repeat first | simp only [go_sem, ↓reduceIte, Nat.reduceEqDiff, Nat.reduceAdd, reduceCtorEq] | with_reducible refine V_W ?_ | (with_reducible refine And.intro ?_ ?_; focus first | assumption | omega | decide | grind) | (with_reducible refine Br.mk ?_ ?_; focus (intros; omega)) | decide)
    refine pureC (hsd) (by simp only [go_sem, ↓reduceIte, Nat.reduceEqDiff, Nat.reduceAdd, reduceCtorEq] <;> rfl) (by first | rfl | simp only [go_sem, ↓reduceIte, Nat.reduceEqDiff, Nat.reduceAdd, reduceCtorEq]) ?_
    (repeat first | simp only [go_sem, ↓reduceIte, Nat.reduceEqDiff, Nat.reduceAdd, reduceCtorEq] | with_reducible refine V_W ?_ | (with_reducible refine And.intro ?_ ?_; focus first | assumption | omega | decide | grind) | (with_reducible refine Br.mk ?_ ?_; focus (intros; omega)) | decide)
    exact Ref.gc [2] rfl (by simp only [go_sem, ↓reduceIte, Nat.reduceEqDiff, Nat.reduceAdd, reduceCtorEq]) (by simp [sub, fget, go_sem, ↓reduceIte, Nat.reduceEqDiff, Nat.reduceAdd, reduceCtorEq])
  · have e1 : sdV r R B = 0 := if_neg fun h => hp h.1
    have e2 : sdF r R B = [] := if_neg fun h => hp h.1
    have e3 : sdK r R B = 1 := if_neg hp
    rw [e1, e2, e3]
    refine pureRV ok7 rfl ?_; unfold c7
    (repeat first | simp only [go_sem, ↓reduceIte, Nat.reduceEqDiff, Nat.reduceAdd, reduceCtorEq] | with_reducible refine V_W ?_ | (with_reducible refine And.intro ?_ ?_; focus first | assumption | omega | decide | grind) | (with_reducible refine Br.mk ?_ ?_; focus (intros; omega)) | decide)
    refine pureC (isPoset_c r R B (by omega) (by omega) (fun xs hx => Nat.le_trans (hr xs hx) (by omega))) (by simp only [go_sem, ↓reduceIte, Nat.reduceEqDiff, Nat.reduceAdd, reduceCtorEq] <;> rfl) (by first | rfl | simp only [go_sem, ↓reduceIte, Nat.reduceEqDiff, Nat.reduceAdd, reduceCtorEq]) ?_
    rw [decide_eq_false hp]
    (repeat first | simp only [go_sem, ↓reduceIte, Nat.reduceEqDiff, Nat.reduceAdd, reduceCtorEq] | with_reducible refine V_W ?_ | (with_reducible refine And.intro ?_ ?_; focus first | assumption | omega | decide | grind) | (with_reducible refine Br.mk ?_ ?_; focus (intros; omega)) | decide)
    exact err_end
end Go.Proofs.Ytdgcpjfffpkhkaa
set_option maxRecDepth 100000
namespace Go.Proofs.Ytdgcpjfffpkhkaa
open Go.Gov
open Classical

theorem tot_le5 : ∀ (F : List (List Int)), (∀ f ∈ F, f.length ≤ 5) → tot F ≤ 5 * F.length
  | [], _ => by simp [tot]
  | f :: F, h => by
    have h1 := tot_le5 F fun g hg => h g (List.mem_cons_of_mem _ hg)
    have h2 := h f (by simp)
    rw [tot_cons, List.length_cons]
    omega
theorem sdF_b (r : Int) (R : List Int) (B : List (List Int)) : (sdF r R B).length ≤ 400 ∧ tot (sdF r R B) ≤ 2000 ∧ ∀ xs ∈ sdF r R B, xs.length ≤ 5 := by
  by_cases h : SdOk r R B
  · have e : sdF r R B = allC R B := if_pos h
    have h5 : ∀ xs ∈ allC R B, xs.length ≤ 5 := fun xs hx => allC_len h.1 hx
    have := tot_le5 _ h5
    rw [e]
    exact ⟨h.2.2, by have := h.2.2; omega, h5⟩
  · have e : sdF r R B = [] := if_neg h
    rw [e]
    exact ⟨by simp, by simp [tot], fun xs hx => by simp at hx⟩
end Go.Proofs.Ytdgcpjfffpkhkaa
