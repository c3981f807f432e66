/- Texts that belong together. -/
import Derived.Test.YtghhlcioabdpfaaDoorZe
import Derived.Test.YtghhlcioabdpfaaDoorV1
import Derived.Test.YtghhlcioabdpfaaDoorZj
import Derived.Test.YtghhlcioabdpfaaDoorX5
set_option linter.unusedSimpArgs false
set_option linter.unusedVariables false
set_option maxRecDepth 100000
namespace Go.Proofs.YtghhlcioabdpfaaDoor
open Go.Gov

def swp (L : List Rw) (i j : Nat) : List Rw := (L.set i (L.getD j rw0)).set j (L.getD i rw0)
theorem swp_mid (X Y Z : List Rw) (u w : Rw) : swp (X ++ u :: (Y ++ w :: Z)) X.length (X.length + 1 + Y.length) = X ++ w :: (Y ++ u :: Z) := by
  have h1 : (X ++ u :: (Y ++ w :: Z)).getD (X.length + 1 + Y.length) rw0 = w := by
    rw [List.getD_eq_getElem?_getD, List.getElem?_append_right (by omega), show X.length + 1 + Y.length - X.length = Y.length + 1 by omega, List.getElem?_cons_succ, List.getElem?_append_right (Nat.le_refl _), Nat.sub_self]
    rfl
  have h2 : (X ++ u :: (Y ++ w :: Z)).getD X.length rw0 = u := by
    rw [List.getD_eq_getElem?_getD, List.getElem?_append_right (Nat.le_refl _), Nat.sub_self]
    rfl
  unfold swp
  rw [h1, h2, List.set_append_right _ _ (Nat.le_refl _), Nat.sub_self, List.set_cons_zero, List.set_append_right _ _ (by omega), show X.length + 1 + Y.length - X.length = Y.length + 1 by omega, List.set_cons_succ, List.set_append_right _ _ (Nat.le_refl _), Nat.sub_self, List.set_cons_zero]
def swR (pre U M W post : List Rw) (i : Nat) : List Rw := pre ++ (W.take i ++ (U.drop i ++ (M ++ (U.take i ++ (W.drop i ++ post)))))
theorem swR_zero (pre U M W post : List Rw) : swR pre U M W post 0 = pre ++ (U ++ (M ++ (W ++ post))) := by simp [swR]
theorem swR_end (pre U M W post : List Rw) (h : U.length = W.length) : swR pre U M W post U.length = pre ++ (W ++ (M ++ (U ++ post))) := by
  unfold swR
  rw [List.take_of_length_le (by omega : W.length ≤ U.length), List.drop_length, List.take_length, List.drop_eq_nil_of_le (by omega : W.length ≤ U.length), List.nil_append, List.nil_append]
theorem swR_len (pre U M W post : List Rw) (i : Nat) (h : U.length = W.length) (hi : i ≤ U.length) : (swR pre U M W post i).length = pre.length + U.length + M.length + W.length + post.length := by
  simp [swR]
  omega
theorem swR_step (pre U M W post : List Rw) (i : Nat) (h : U.length = W.length) (hi : i < U.length) : swp (swR pre U M W post i) (pre.length + i) (pre.length + U.length + M.length + i) = swR pre U M W post (i + 1) := by
  have hu : U.drop i = U[i] :: U.drop (i + 1) := List.drop_eq_getElem_cons hi
  have hw : W.drop i = W[i] :: W.drop (i + 1) := List.drop_eq_getElem_cons (by omega)
  have e1 : swR pre U M W post i = (pre ++ W.take i) ++ U[i] :: ((U.drop (i + 1) ++ M ++ U.take i) ++ W[i] :: (W.drop (i + 1) ++ post)) := by
    unfold swR
    rw [hu, hw]
    simp only [List.append_assoc, List.cons_append]
  have l1 : (pre ++ W.take i).length = pre.length + i := by simp; omega
  have l2 : (U.drop (i + 1) ++ M ++ U.take i).length = U.length - 1 + M.length := by simp; omega
  have := swp_mid (pre ++ W.take i) (U.drop (i + 1) ++ M ++ U.take i) (W.drop (i + 1) ++ post) U[i] W[i]
  rw [l1, l2, show pre.length + i + 1 + (U.length - 1 + M.length) = pre.length + U.length + M.length + i by omega] at this
  rw [e1, this]
  unfold swR
  rw [List.take_succ_eq_append_getElem (by omega : i < W.length), List.take_succ_eq_append_getElem hi]
  simp only [List.append_assoc, List.cons_append, List.nil_append]
def Desc (l : List Rw) : Prop := l.Pairwise fun a b => b.length ≤ a.length
theorem Desc.ins {A B : List Rw} {y : Rw} (h : Desc (A ++ B)) (hB : ∀ z ∈ B, z.length < y.length) (hA : ∀ z ∈ A, y.length ≤ z.length) : Desc (A ++ y :: B) := by
  unfold Desc at *
  rw [List.pairwise_append] at h ⊢
  refine ⟨h.1, List.pairwise_cons.2 ⟨fun z hz => Nat.le_of_lt (hB z hz), h.2.1⟩, fun a ha b hb => ?_⟩
  rcases List.mem_cons.1 hb with rfl | hb
  · exact hA a ha
  · exact h.2.2 a ha b hb
theorem Desc.last {A : List Rw} {z : Rw} {n : Nat} (h : Desc (A ++ [z])) (hz : n ≤ z.length) : ∀ x ∈ A ++ [z], n ≤ x.length := fun x hx => by
  rcases List.mem_append.1 hx with hx | hx
  · have := (List.pairwise_append.1 h).2.2 x hx z (List.mem_singleton.2 rfl)
    omega
  · obtain rfl := List.mem_singleton.1 hx
    exact hz
theorem adj_get1 (X Z : List Rw) (u w : Rw) : (X ++ u :: w :: Z).getD X.length rw0 = u := by
  rw [List.getD_eq_getElem?_getD, List.getElem?_append_right (Nat.le_refl _), Nat.sub_self]
  rfl
theorem adj_get2 (X Z : List Rw) (u w : Rw) : (X ++ u :: w :: Z).getD (X.length + 1) rw0 = w := by
  rw [List.getD_eq_getElem?_getD, List.getElem?_append_right (by omega), show X.length + 1 - X.length = 1 by omega]
  rfl
theorem adj_set (X Z : List Rw) (u w : Rw) : ((X ++ u :: w :: Z).set (X.length + 1) u).set X.length w = X ++ w :: u :: Z := by
  rw [List.set_append_right _ _ (by omega), show X.length + 1 - X.length = 1 by omega, List.set_append_right _ _ (Nat.le_refl _), Nat.sub_self]
  rfl
theorem adj_set2 (X Z : List Rw) (u w : Rw) : ((X ++ u :: w :: Z).set X.length w).set (X.length + 1) u = X ++ w :: u :: Z := by
  rw [List.set_append_right _ _ (Nat.le_refl _), Nat.sub_self, List.set_append_right _ _ (by omega), show X.length + 1 - X.length = 1 by omega]
  rfl
end Go.Proofs.YtghhlcioabdpfaaDoor
set_option maxRecDepth 100000
namespace Go.Proofs.YtghhlcioabdpfaaDoor
open Go.Gov
open Classical

set_option maxHeartbeats 2000000 in
theorem swapRange_w (cl : AV) (hcl : ∃ f, cl = .clo f [] []) (pre U M W post : List Rw) (h : U.length = W.length) (a b len : Nat) (ha : a = pre.length) (hb : b = pre.length + U.length + M.length) (hlen : len = pre.length + U.length + M.length + W.length + post.length) (hl : len ≤ 1048576) :
    Wri Tryd.prog 186 [.sl 0 1 0 len, i64 (a : Int), i64 (b : Int), i64 (U.length : Int), cl] [some ((pre ++ (U ++ (M ++ (W ++ post)))).map cI)] (.tup []) [some ((pre ++ (W ++ (M ++ (U ++ post)))).map cI)] := by
  obtain ⟨f, rfl⟩ := hcl
  refine wriRV ok186 rfl ?_; unfold c186
  (repeat first | simp only [go_sem, ↓reduceIte, Nat.reduceEqDiff, Nat.reduceAdd, reduceCtorEq] | with_reducible refine V_W ?_ | (with_reducible refine And.intro ?_ ?_; focus first | assumption | omega | decide | grind) | (with_reducible refine Br.mk ?_ ?_; focus (intros; omega)) | decide)
  refine V_loop (α := Nat) (S := fun i => ([(0, .sl 0 1 0 len), (1, i64 (a : Int)), (2, i64 (b : Int)), (3, i64 (U.length : Int)), (10, i64 (i : Int))], [some ((swR pre U M W post i).map cI)])) (C := fun i => i ≤ U.length) (μ := fun i => U.length - i) 0 (Nat.zero_le _) (Ref.to (by rw [swR_zero]) (by simp [sub, fget])) ?_
  intro i hi
  have hLl := swR_len pre U M W post i h hi
  obtain ⟨L, hL⟩ : ∃ L, L = swR pre U M W post i := ⟨_, rfl⟩
  rw [← hL] at hLl ⊢
  (repeat first | simp only [go_sem, ↓reduceIte, Nat.reduceEqDiff, Nat.reduceAdd, reduceCtorEq] | with_reducible refine V_W ?_ | (with_reducible refine And.intro ?_ ?_; focus first | assumption | omega | decide | grind) | (with_reducible refine Br.mk ?_ ?_; focus (intros; omega)) | decide)
  refine ⟨fun hc => ?_, fun hc => ?_⟩
  · have hi' : i < U.length := by omega
    have hst := swR_step pre U M W post i h hi'
    rw [← hL] at hst
    obtain ⟨x, hx⟩ : ∃ x, x = L.getD (pre.length + i) rw0 := ⟨_, rfl⟩
    obtain ⟨y, hy⟩ : ∃ y, y = L.getD (pre.length + U.length + M.length + i) rw0 := ⟨_, rfl⟩
    have hst2 : (L.set (pre.length + i) y).set (pre.length + U.length + M.length + i) x = swR pre U M W post (i + 1) := by rw [hx, hy]; exact hst
    have hst3 : (L.set (pre.length + U.length + M.length + i) x).set (pre.length + i) y = swR pre U M W post (i + 1) := by
      rw [← hst2]
      exact List.set_comm _ _ (by omega)
    have g1 : (L.map cI).getD (pre.length + i) (.slc 1 0 []) = cI x := by rw [hx]; exact getI L _ (by omega) _
    have g2 : (L.map cI).getD (pre.length + U.length + M.length + i) (.slc 1 0 []) = cI y := by rw [hy]; exact getI L _ (by omega) _
    have m1 : (((L.map cI).set (pre.length + i) (cI y)).set (pre.length + U.length + M.length + i) (cI x)) = (swR pre U M W post (i + 1)).map cI := by rw [← hst2, List.map_set, List.map_set]
    have m2 : (((L.map cI).set (pre.length + U.length + M.length + i) (cI x)).set (pre.length + i) (cI y)) = (swR pre U M W post (i + 1)).map cI := by rw [← hst3, List.map_set, List.map_set]
    subst ha hb
    have t1 : ((pre.length : Int) + (i : Int)).toNat = pre.length + i := by omega
    have t2 : (((pre.length + U.length + M.length : Nat) : Int) + (i : Int)).toNat = pre.length + U.length + M.length + i := by omega
    (repeat first | simp only [go_sem, ↓reduceIte, Nat.reduceEqDiff, Nat.reduceAdd, reduceCtorEq] | with_reducible refine V_W ?_ | (with_reducible refine And.intro ?_ ?_; focus first | assumption | omega | decide | grind) | (with_reducible refine Br.mk ?_ ?_; focus (intros; omega)) | decide)
    refine V_altsB [(0, .sl 0 1 0 len), (1, i64 (pre.length : Int)), (2, i64 ((pre.length + U.length + M.length : Nat) : Int)), (3, i64 (U.length : Int)), (10, i64 (i : Int))] [some ((swR pre U M W post (i + 1)).map cI)] ?_ ?_
    · (repeat' first | simp only [go_sem, ↓reduceIte, Nat.reduceEqDiff, Nat.reduceAdd, reduceCtorEq] | with_reducible refine LT_reg ?_ | with_reducible refine LT_regz (by simp only [zAd_load, zAd_loads, zPt_pto, go_sem, ↓reduceIte, Nat.reduceEqDiff, Nat.reduceAdd, reduceCtorEq]) ?_ | with_reducible refine LT_fin ?_ | with_reducible exact LT_tt | with_reducible refine LT_alt ?_ ?_ | (with_reducible refine And.intro ?_ ?_; focus first | assumption | omega | grind))
      all_goals simp only [t1, t2, g1, g2]
      all_goals exact Ref.to (by first | exact congrArg (fun z => [some z]) m1 | exact congrArg (fun z => [some z]) m2) (by simp [sub, fget])
    · (repeat first | simp only [go_sem, ↓reduceIte, Nat.reduceEqDiff, Nat.reduceAdd, reduceCtorEq] | with_reducible refine V_W ?_ | (with_reducible refine And.intro ?_ ?_; focus first | assumption | omega | decide | grind) | (with_reducible refine Br.mk ?_ ?_; focus (intros; omega)) | decide)
      exact ⟨i + 1, by omega, by omega, Ref.frame (by simp [sub, fget])⟩
  · obtain rfl : i = U.length := by omega
    rw [hL, swR_end pre U M W post h]
    exact Ref.to rfl (by simp [sub, fget])
end Go.Proofs.YtghhlcioabdpfaaDoor
set_option maxRecDepth 100000
namespace Go.Proofs.YtghhlcioabdpfaaDoor
open Go.Gov
open Classical
theorem cmpLen_c (a b : Rw) (ha : a.length ≤ 1048576) (hb : b.length ≤ 1048576) : Pure Tryd.prog 121 [ints a.2, ints b.2] (i64 ((b.length : Int) - a.length)) [] := by
  unfold Rw.length at *
  refine pureV0 ok121 rfl rfl ?_; unfold c121
  (repeat first | simp only [go_sem, ↓reduceIte, Nat.reduceEqDiff, Nat.reduceAdd, reduceCtorEq] | with_reducible refine V_W ?_ | (with_reducible refine And.intro ?_ ?_; focus first | assumption | omega | decide | grind) | (with_reducible refine Br.mk ?_ ?_; focus (intros; omega)) | decide)
set_option maxHeartbeats 2000000 in
theorem insSort_w (pre X post : List Rw) (a b len : Nat) (ha : a = pre.length) (hb : b = pre.length + X.length) (hlen : len = pre.length + X.length + post.length) (hl : len ≤ 1048576) (hr : ∀ x ∈ X, x.length ≤ 1048576) :
    WriE Tryd.prog 160 [.sl 0 1 0 len, i64 (a : Int), i64 (b : Int), .clo 121 [] []] [some ((pre ++ (X ++ post)).map cI)] (fun S : List Rw => S.Perm X ∧ Desc S) (fun _ => .tup []) (fun S => [some ((pre ++ (S ++ post)).map cI)]) := by
  refine wriREV ok160 rfl ?_; unfold c160
  (repeat first | simp only [go_sem, ↓reduceIte, Nat.reduceEqDiff, Nat.reduceAdd, reduceCtorEq] | with_reducible refine V_W ?_ | (with_reducible refine And.intro ?_ ?_; focus first | assumption | omega | decide | grind) | (with_reducible refine Br.mk ?_ ?_; focus (intros; omega)) | decide)
  refine V_loop (α := List Rw × Nat) (S := fun q => ([(0, .sl 0 1 0 len), (1, i64 (a : Int)), (2, i64 (b : Int)), (3, .clo 121 [] []), (8, i64 ((a + q.2 : Nat) : Int))], [some ((pre ++ (q.1 ++ (X.drop q.2 ++ post))).map cI)])) (C := fun q => 1 ≤ q.2 ∧ (q.2 ≤ X.length ∨ X = []) ∧ q.1.Perm (X.take q.2) ∧ Desc q.1) (μ := fun q => X.length + 1 - q.2) (X.take 1, 1) ?_ ?_ ?_
  · refine ⟨Nat.le_refl _, ?_, .refl _, ?_⟩
    · cases X <;> simp
    · cases X with
      | nil => exact List.Pairwise.nil
      | cons x X => exact List.pairwise_singleton _ _
  · exact Ref.to (by rw [← List.append_assoc (X.take 1), List.take_append_drop]) (by simp [sub, fget])
  rintro ⟨S, i⟩ ⟨h1, h2, h3, h4⟩
  dsimp only at h1 h2 h3 h4 ⊢
  (repeat first | simp only [go_sem, ↓reduceIte, Nat.reduceEqDiff, Nat.reduceAdd, reduceCtorEq] | with_reducible refine V_W ?_ | (with_reducible refine And.intro ?_ ?_; focus first | assumption | omega | decide | grind) | (with_reducible refine Br.mk ?_ ?_; focus (intros; omega)) | decide)
  refine ⟨fun hc => ?_, fun hc => ?_⟩
  · have hi : i < X.length := by omega
    (repeat first | simp only [go_sem, ↓reduceIte, Nat.reduceEqDiff, Nat.reduceAdd, reduceCtorEq] | with_reducible refine V_W ?_ | (with_reducible refine And.intro ?_ ?_; focus first | assumption | omega | decide | grind) | (with_reducible refine Br.mk ?_ ?_; focus (intros; omega)) | decide)
    obtain ⟨y, hy⟩ : ∃ y, y = X[i] := ⟨_, rfl⟩
    have hd : X.drop i = y :: X.drop (i + 1) := by rw [hy]; exact List.drop_eq_getElem_cons hi
    refine V_loop (α := List Rw × List Rw) (S := fun q => ([(0, .sl 0 1 0 len), (1, i64 (a : Int)), (2, i64 (b : Int)), (3, .clo 121 [] []), (8, i64 ((a + i : Nat) : Int)), (9, i64 ((a + q.1.length : Nat) : Int))], [some ((pre ++ (q.1 ++ (y :: (q.2 ++ (X.drop (i + 1) ++ post))))).map cI)])) (C := fun q => (q.1 ++ q.2).Perm (X.take i) ∧ Desc (q.1 ++ q.2) ∧ ∀ z ∈ q.2, z.length < y.length) (μ := fun q => q.1.length) (S, []) ?_ ?_ ?_
    · exact ⟨by rw [List.append_nil]; exact h3, by rw [List.append_nil]; exact h4, fun z hz => by cases hz⟩
    · have hSl : S.length = i := by rw [h3.length_eq, List.length_take]; omega
      exact Ref.to (by rw [hd]; rfl) (by simp [sub, fget, hSl])
    rintro ⟨A, B⟩ ⟨k1, k2, k3⟩
    dsimp only at k1 k2 k3 ⊢
    have htl : (X.take i).length = i := by rw [List.length_take]; omega
    have hAB := k1.length_eq
    rw [htl, List.length_append] at hAB
    have hdl : (X.drop (i + 1)).length = X.length - (i + 1) := List.length_drop
    have hfin : (∀ z ∈ A, y.length ≤ z.length) → (A ++ y :: B).Perm (X.take (i + 1)) ∧ Desc (A ++ y :: B) := fun hA => ⟨by
      rw [List.take_succ_eq_append_getElem hi, ← hy]
      exact List.perm_middle.trans ((List.Perm.cons y k1).trans (List.perm_append_comm (l₁ := [y]))), k2.ins k3 hA⟩
    obtain ⟨R, hR⟩ : ∃ R, R = B ++ (X.drop (i + 1) ++ post) := ⟨_, rfl⟩
    have hRl : R.length = B.length + (X.length - (i + 1) + post.length) := by rw [hR, List.length_append, List.length_append, hdl]
    rw [← hR]
    rcases List.eq_nil_or_concat A with rfl | ⟨A', z, rfl⟩
    · obtain ⟨L, hL⟩ : ∃ L, L = pre ++ ([] ++ (y :: R)) := ⟨_, rfl⟩
      have hLl : L.length = len := by rw [hL]; simp at hAB ⊢; omega
      rw [← hL]
      (repeat first | simp only [go_sem, ↓reduceIte, Nat.reduceEqDiff, Nat.reduceAdd, reduceCtorEq] | with_reducible refine V_W ?_ | (with_reducible refine And.intro ?_ ?_; focus first | assumption | omega | decide | grind) | (with_reducible refine Br.mk ?_ ?_; focus (intros; omega)) | decide)
      refine GCall.mk (i64 0) (fun hg => absurd hg (by simp)) ?_
      (repeat first | simp only [go_sem, ↓reduceIte, Nat.reduceEqDiff, Nat.reduceAdd, reduceCtorEq] | with_reducible refine V_W ?_ | (with_reducible refine And.intro ?_ ?_; focus first | assumption | omega | decide | grind) | (with_reducible refine Br.mk ?_ ?_; focus (intros; omega)) | decide)
      refine fun _ => ?_
      (repeat first | simp only [go_sem, ↓reduceIte, Nat.reduceEqDiff, Nat.reduceAdd, reduceCtorEq] | with_reducible refine V_W ?_ | (with_reducible refine And.intro ?_ ?_; focus first | assumption | omega | decide | grind) | (with_reducible refine Br.mk ?_ ?_; focus (intros; omega)) | decide)
      obtain ⟨c1, c2⟩ := hfin (fun z hz => by cases hz)
      refine ⟨(y :: B, i + 1), ⟨by omega, by omega, c1, c2⟩, by omega, ?_⟩
      rw [hL, hR]
      exact Ref.to rfl (by simp [sub, fget]; omega)
    · have hL : ∃ L, L = pre ++ (A' ++ [z] ++ (y :: R)) := ⟨_, rfl⟩
      obtain ⟨L, hL⟩ := hL
      have hLl : L.length = len := by rw [hL]; simp at hAB ⊢; omega
      have hL' : L = (pre ++ A') ++ z :: y :: R := by rw [hL]; simp
      have hpl : (pre ++ A').length = a + A'.length := by rw [List.length_append, ha]
      have g1 := adj_get1 (pre ++ A') R z y
      have g2 := adj_get2 (pre ++ A') R z y
      have s1 := adj_set (pre ++ A') R z y
      have s2 := adj_set2 (pre ++ A') R z y
      rw [← hL', hpl] at g1 g2 s1 s2
      rw [List.concat_eq_append] at *
      rw [← hL]
      have hAl : (A' ++ [z]).length = A'.length + 1 := by simp
      rw [hAl] at hAB ⊢
      obtain ⟨p, hp⟩ : ∃ p, p = a + A'.length := ⟨_, rfl⟩
      rw [← hp] at g1 g2 s1 s2
      rw [show a + (A'.length + 1) = p + 1 by omega]
      have t1 : ((p + 1 : Nat) : Int).toNat = p + 1 := by omega
      have t2 : (((p + 1 : Nat) : Int) - 1).toNat = p := by omega
      (repeat first | simp only [go_sem, ↓reduceIte, Nat.reduceEqDiff, Nat.reduceAdd, reduceCtorEq] | with_reducible refine V_W ?_ | (with_reducible refine And.intro ?_ ?_; focus first | assumption | omega | decide | grind) | (with_reducible refine Br.mk ?_ ?_; focus (intros; omega)) | decide)
      simp only [t2, g1, g2, go_sem, ↓reduceIte, Nat.reduceEqDiff, Nat.reduceAdd, reduceCtorEq]
      have hyl : y.length ≤ 1048576 := hr y (by rw [hy]; exact List.getElem_mem hi)
      have hzl : z.length ≤ 1048576 := hr z (List.mem_of_mem_take (k1.subset (by simp)))
      refine GCall.mk (i64 ((z.length : Int) - y.length)) (fun hg => ?_) ?_
      · refine ⟨by omega, by omega, rfl, ?_⟩
        simp only [Nat.add_sub_cancel, g1, go_sem, ↓reduceIte, Nat.reduceEqDiff, Nat.reduceAdd, reduceCtorEq]
        refine pureC (cmpLen_c y z hyl hzl) (by simp only [go_sem, ↓reduceIte, Nat.reduceEqDiff, Nat.reduceAdd, reduceCtorEq] <;> rfl) (by first | rfl | simp only [go_sem, ↓reduceIte, Nat.reduceEqDiff, Nat.reduceAdd, reduceCtorEq]) ?_
        exact ⟨rfl, rfl⟩
      (repeat first | simp only [go_sem, ↓reduceIte, Nat.reduceEqDiff, Nat.reduceAdd, reduceCtorEq] | with_reducible refine V_W ?_ | (with_reducible refine And.intro ?_ ?_; focus first | assumption | omega | decide | grind) | (with_reducible refine Br.mk ?_ ?_; focus (intros; omega)) | decide)
      refine ⟨fun hc2 => ?_, fun hc2 => ?_⟩
      · have hlt : z.length < y.length := by omega
        have v1 : (L.map cI).getD p (.slc 1 0 []) = cI z := by rw [getI L _ (by omega), g1]
        have v2 : (L.map cI).getD (p + 1) (.slc 1 0 []) = cI y := by rw [getI L _ (by omega), g2]
        have m1 : ((L.map cI).set (p + 1) (cI z)).set p (cI y) = (pre ++ A' ++ y :: z :: R).map cI := by rw [← s1, List.map_set, List.map_set]
        have m2 : ((L.map cI).set p (cI y)).set (p + 1) (cI z) = (pre ++ A' ++ y :: z :: R).map cI := by rw [← s2, List.map_set, List.map_set]
        (repeat first | simp only [go_sem, ↓reduceIte, Nat.reduceEqDiff, Nat.reduceAdd, reduceCtorEq] | with_reducible refine V_W ?_ | (with_reducible refine And.intro ?_ ?_; focus first | assumption | omega | decide | grind) | (with_reducible refine Br.mk ?_ ?_; focus (intros; omega)) | decide)
        refine V_altsB [(0, .sl 0 1 0 len), (1, i64 (a : Int)), (2, i64 (b : Int)), (3, .clo 121 [] []), (8, i64 ((a + i : Nat) : Int)), (9, i64 ((p + 1 : Nat) : Int))] [some ((pre ++ A' ++ y :: z :: R).map cI)] ?_ ?_
        · (repeat' first | simp only [go_sem, ↓reduceIte, Nat.reduceEqDiff, Nat.reduceAdd, reduceCtorEq] | with_reducible refine LT_reg ?_ | with_reducible refine LT_regz (by simp only [zAd_load, zAd_loads, zPt_pto, go_sem, ↓reduceIte, Nat.reduceEqDiff, Nat.reduceAdd, reduceCtorEq]) ?_ | with_reducible refine LT_fin ?_ | with_reducible exact LT_tt | with_reducible refine LT_alt ?_ ?_ | (with_reducible refine And.intro ?_ ?_; focus first | assumption | omega | grind))
          all_goals simp only [t1, t2, Nat.add_sub_cancel, v1, v2, go_sem, ↓reduceIte, Nat.reduceEqDiff, Nat.reduceAdd, reduceCtorEq]
          all_goals exact Ref.to (by first | exact congrArg (fun z => [some z]) m1 | exact congrArg (fun z => [some z]) m2) (by simp [sub, fget])
        · (repeat first | simp only [go_sem, ↓reduceIte, Nat.reduceEqDiff, Nat.reduceAdd, reduceCtorEq] | with_reducible refine V_W ?_ | (with_reducible refine And.intro ?_ ?_; focus first | assumption | omega | decide | grind) | (with_reducible refine Br.mk ?_ ?_; focus (intros; omega)) | decide)
          refine ⟨(A', z :: B), ⟨?_, ?_, ?_⟩, Nat.lt_succ_self _, ?_⟩
          · simpa using k1
          · simpa using k2
          · intro x hx
            rcases List.mem_cons.1 hx with rfl | hx
            · exact hlt
            · exact k3 x hx
          · subst hR
            exact Ref.to (by simp) (by simp [sub, fget, hp])
      · have hge : y.length ≤ z.length := by omega
        (repeat first | simp only [go_sem, ↓reduceIte, Nat.reduceEqDiff, Nat.reduceAdd, reduceCtorEq] | with_reducible refine V_W ?_ | (with_reducible refine And.intro ?_ ?_; focus first | assumption | omega | decide | grind) | (with_reducible refine Br.mk ?_ ?_; focus (intros; omega)) | decide)
        obtain ⟨c1, c2⟩ := hfin (Desc.last (List.pairwise_append.1 k2).1 hge)
        refine ⟨(A' ++ [z] ++ y :: B, i + 1), ⟨by omega, by omega, c1, c2⟩, by omega, ?_⟩
        rw [hL, hR]
        exact Ref.to (by simp) (by simp [sub, fget]; omega)
  · have hXi : X.drop i = [] := List.drop_eq_nil_of_le (by omega)
    refine ⟨S, ⟨?_, h4⟩, ?_⟩
    · rwa [List.take_of_length_le (by omega)] at h3
    · rw [hXi]
      exact Ref.to rfl (by simp [sub, fget])
end Go.Proofs.YtghhlcioabdpfaaDoor
set_option maxRecDepth 100000
namespace Go.Proofs.YtghhlcioabdpfaaDoor
open Go.Gov
open Classical
theorem swapRange_k (cl : AV) (hcl : ∃ f, cl = .clo f [] []) (pre U M W post : List Rw) (k a b len : Nat) (hU : U.length = k) (hW : W.length = k) (ha : a = pre.length) (hb : b = pre.length + k + M.length) (hlen : len = pre.length + k + M.length + k + post.length) (hl : len ≤ 1048576) {L L' : List Rw} (hL : L = pre ++ (U ++ (M ++ (W ++ post)))) (hL' : L' = pre ++ (W ++ (M ++ (U ++ post)))) :
    Wri Tryd.prog 186 [.sl 0 1 0 len, i64 (a : Int), i64 (b : Int), i64 (k : Int), cl] [some (L.map cI)] (.tup []) [some (L'.map cI)] := by
  subst hU hL hL'
  exact swapRange_w cl hcl pre U M W post hW.symm a b len ha hb (by omega) hl
set_option maxHeartbeats 2000000 in
theorem rotate_w (f : FuncId) (pre X Y post : List Rw) (a m b len : Nat) (hX : 1 ≤ X.length) (hY : 1 ≤ Y.length) (ha : a = pre.length) (hm : m = pre.length + X.length) (hb : b = m + Y.length) (hlen : len = b + post.length) (hl : len ≤ 1048576) :
    Wri Tryd.prog 174 [.sl 0 1 0 len, i64 (a : Int), i64 (m : Int), i64 (b : Int), .clo f [] []] [some ((pre ++ (X ++ (Y ++ post))).map cI)] (.tup []) [some ((pre ++ (Y ++ (X ++ post))).map cI)] := by
  have e1 : (m : Int) - a = (X.length : Nat) := by omega
  have e2 : (b : Int) - m = (Y.length : Nat) := by omega
  obtain ⟨T, hT⟩ : ∃ T, T = pre ++ (Y ++ (X ++ post)) := ⟨_, rfl⟩
  have hTl : T.length = len := by rw [hT]; simp; omega
  rw [← hT]
  refine wriRV ok174 rfl ?_; unfold c174
  (repeat first | simp only [go_sem, ↓reduceIte, Nat.reduceEqDiff, Nat.reduceAdd, reduceCtorEq] | with_reducible refine V_W ?_ | (with_reducible refine And.intro ?_ ?_; focus first | assumption | omega | decide | grind) | (with_reducible refine Br.mk ?_ ?_; focus (intros; omega)) | decide)
  refine V_loop (α := List Rw × List Rw × List Rw × List Rw) (S := fun q => ([(0, .sl 0 1 0 len), (2, i64 (m : Int)), (4, .clo f [] []), (10, i64 (q.2.1.length : Int)), (11, i64 (q.2.2.1.length : Int))], [some ((q.1 ++ (q.2.1 ++ (q.2.2.1 ++ q.2.2.2))).map cI)])) (C := fun q => q.1.length + q.2.1.length = m ∧ 1 ≤ q.2.1.length ∧ 1 ≤ q.2.2.1.length ∧ q.1 ++ (q.2.2.1 ++ (q.2.1 ++ q.2.2.2)) = T) (μ := fun q => q.2.1.length + q.2.2.1.length) (pre, X, Y, post) ?_ ?_ ?_
  · exact ⟨hm.symm, hX, hY, hT.symm⟩
  · exact Ref.to rfl (by simp [sub, fget, e1, e2])
  rintro ⟨P, A, B, Q⟩ ⟨h1, h2, h3, h4⟩
  dsimp only at h1 h2 h3 h4 ⊢
  have hql : P.length + (B.length + (A.length + Q.length)) = len := by rw [← hTl, ← h4]; simp
  have e3 : (m : Int) - (A.length : Int) = (P.length : Nat) := by omega
  obtain ⟨L, hL⟩ : ∃ L, L = P ++ (A ++ (B ++ Q)) := ⟨_, rfl⟩
  rw [← hL]
  (repeat first | simp only [go_sem, ↓reduceIte, Nat.reduceEqDiff, Nat.reduceAdd, reduceCtorEq] | with_reducible refine V_W ?_ | (with_reducible refine And.intro ?_ ?_; focus first | assumption | omega | decide | grind) | (with_reducible refine Br.mk ?_ ?_; focus (intros; omega)) | decide)
  refine ⟨fun hc => ?_, fun hc => ?_⟩
  · (repeat first | simp only [go_sem, ↓reduceIte, Nat.reduceEqDiff, Nat.reduceAdd, reduceCtorEq] | with_reducible refine V_W ?_ | (with_reducible refine And.intro ?_ ?_; focus first | assumption | omega | decide | grind) | (with_reducible refine Br.mk ?_ ?_; focus (intros; omega)) | decide)
    refine ⟨fun hc2 => ?_, fun hc2 => ?_⟩
    · have ht : (A.take B.length).length = B.length := by rw [List.length_take]; omega
      have hd : (A.drop B.length).length = A.length - B.length := List.length_drop
      have hsw := swapRange_k (.clo f [] []) ⟨f, rfl⟩ P (A.take B.length) (A.drop B.length) B Q B.length P.length m len ht rfl rfl (by omega) (by omega) hl (L := L) (by rw [hL, ← List.append_assoc (A.take _), List.take_append_drop]) rfl
      generalize hL2 : P ++ (B ++ (A.drop B.length ++ (A.take B.length ++ Q))) = L2 at hsw
      (repeat first | simp only [go_sem, ↓reduceIte, Nat.reduceEqDiff, Nat.reduceAdd, reduceCtorEq] | with_reducible refine V_W ?_ | (with_reducible refine And.intro ?_ ?_; focus first | assumption | omega | decide | grind) | (with_reducible refine Br.mk ?_ ?_; focus (intros; omega)) | decide)
      simp only [e3, go_sem, ↓reduceIte, Nat.reduceEqDiff, Nat.reduceAdd, reduceCtorEq]
      refine wriCF (hsw) [0] (by first | rfl | simp) (by simp only [go_sem, ↓reduceIte, Nat.reduceEqDiff, Nat.reduceAdd, reduceCtorEq] <;> rfl) (by simp only [go_sem, ↓reduceIte, Nat.reduceEqDiff, Nat.reduceAdd, reduceCtorEq] <;> rfl) ?_
      (repeat first | simp only [go_sem, ↓reduceIte, Nat.reduceEqDiff, Nat.reduceAdd, reduceCtorEq] | with_reducible refine V_W ?_ | (with_reducible refine And.intro ?_ ?_; focus first | assumption | omega | decide | grind) | (with_reducible refine Br.mk ?_ ?_; focus (intros; omega)) | decide)
      refine ⟨(P ++ B, A.drop B.length, A.take B.length, Q), ⟨?_, ?_, ?_, ?_⟩, ?_, ?_⟩
      · simp only [List.length_append]; omega
      · show 1 ≤ (A.drop B.length).length; omega
      · show 1 ≤ (A.take B.length).length; omega
      · rw [← h4, ← List.append_assoc (A.take _), List.take_append_drop, List.append_assoc]
      · show (A.drop B.length).length + (A.take B.length).length < _; omega
      · exact Ref.to (by rw [← hL2, List.append_assoc]) (by simp [sub, fget, hd, ht]; omega)
    · have hlt : A.length < B.length := by omega
      have ht : (B.drop (B.length - A.length)).length = A.length := by rw [List.length_drop]; omega
      have hd : (B.take (B.length - A.length)).length = B.length - A.length := by rw [List.length_take]; omega
      have e4 : (m : Int) + (B.length : Int) - (A.length : Int) = (m + (B.length - A.length) : Nat) := by omega
      have hsw := swapRange_k (.clo f [] []) ⟨f, rfl⟩ P A (B.take (B.length - A.length)) (B.drop (B.length - A.length)) Q A.length P.length (m + (B.length - A.length)) len rfl ht rfl (by omega) (by omega) hl (L := L) (by rw [hL, ← List.append_assoc (B.take _), List.take_append_drop]) rfl
      generalize hL2 : P ++ (B.drop (B.length - A.length) ++ (B.take (B.length - A.length) ++ (A ++ Q))) = L2 at hsw
      (repeat first | simp only [go_sem, ↓reduceIte, Nat.reduceEqDiff, Nat.reduceAdd, reduceCtorEq] | with_reducible refine V_W ?_ | (with_reducible refine And.intro ?_ ?_; focus first | assumption | omega | decide | grind) | (with_reducible refine Br.mk ?_ ?_; focus (intros; omega)) | decide)
      simp only [e3, e4, go_sem, ↓reduceIte, Nat.reduceEqDiff, Nat.reduceAdd, reduceCtorEq]
      refine wriCF (hsw) [0] (by first | rfl | simp) (by simp only [go_sem, ↓reduceIte, Nat.reduceEqDiff, Nat.reduceAdd, reduceCtorEq] <;> rfl) (by simp only [go_sem, ↓reduceIte, Nat.reduceEqDiff, Nat.reduceAdd, reduceCtorEq] <;> rfl) ?_
      (repeat first | simp only [go_sem, ↓reduceIte, Nat.reduceEqDiff, Nat.reduceAdd, reduceCtorEq] | with_reducible refine V_W ?_ | (with_reducible refine And.intro ?_ ?_; focus first | assumption | omega | decide | grind) | (with_reducible refine Br.mk ?_ ?_; focus (intros; omega)) | decide)
      refine ⟨(P, B.drop (B.length - A.length), B.take (B.length - A.length), A ++ Q), ⟨?_, ?_, ?_, ?_⟩, ?_, ?_⟩
      · show P.length + (B.drop (B.length - A.length)).length = m; omega
      · show 1 ≤ (B.drop (B.length - A.length)).length; omega
      · show 1 ≤ (B.take (B.length - A.length)).length; omega
      · rw [← h4, ← List.append_assoc (B.take _), List.take_append_drop]
      · show (B.drop (B.length - A.length)).length + (B.take (B.length - A.length)).length < _; omega
      · exact Ref.to (by rw [← hL2]) (by simp only [sub, fget, hd, ht]; simp; omega)
  · have hAB : A.length = B.length := by omega
    have hsw := swapRange_k (.clo f [] []) ⟨f, rfl⟩ P A [] B Q A.length P.length m len rfl hAB.symm rfl (by simp; omega) (by simp; omega) hl (L := L) (by rw [hL]; rfl) h4.symm
    (repeat first | simp only [go_sem, ↓reduceIte, Nat.reduceEqDiff, Nat.reduceAdd, reduceCtorEq] | with_reducible refine V_W ?_ | (with_reducible refine And.intro ?_ ?_; focus first | assumption | omega | decide | grind) | (with_reducible refine Br.mk ?_ ?_; focus (intros; omega)) | decide)
    simp only [e3, go_sem, ↓reduceIte, Nat.reduceEqDiff, Nat.reduceAdd, reduceCtorEq]
    refine wriCF (hsw) [0] (by first | rfl | simp) (by simp only [go_sem, ↓reduceIte, Nat.reduceEqDiff, Nat.reduceAdd, reduceCtorEq] <;> rfl) (by simp only [go_sem, ↓reduceIte, Nat.reduceEqDiff, Nat.reduceAdd, reduceCtorEq] <;> rfl) ?_
    (repeat first | simp only [go_sem, ↓reduceIte, Nat.reduceEqDiff, Nat.reduceAdd, reduceCtorEq] | with_reducible refine V_W ?_ | (with_reducible refine And.intro ?_ ?_; focus first | assumption | omega | decide | grind) | (with_reducible refine Br.mk ?_ ?_; focus (intros; omega)) | decide)
    exact Ref.to rfl (by simp [sub, fget])
end Go.Proofs.YtghhlcioabdpfaaDoor
set_option maxRecDepth 100000
namespace Go.Proofs.YtghhlcioabdpfaaDoor
open Go.Gov
theorem Desc.le {l : List Rw} (h : Desc l) {i j : Nat} (hij : i ≤ j) (hj : j < l.length) : (l.getD j rw0).length ≤ (l.getD i rw0).length := by
  rcases Nat.eq_or_lt_of_le hij with rfl | hlt
  · exact Nat.le_refl _
  · have := (List.pairwise_iff_getElem.1 h) i j (by omega) hj hlt
    rw [List.getD_eq_getElem?_getD, List.getD_eq_getElem?_getD, List.getElem?_eq_getElem hj, List.getElem?_eq_getElem (show i < l.length by omega)]
    exact this
theorem mem_takeD {l : List Rw} {u : Nat} {x : Rw} (h : x ∈ l.take u) : ∃ i, i < u ∧ i < l.length ∧ x = l.getD i rw0 := by
  obtain ⟨i, hi, rfl⟩ := List.mem_iff_getElem.1 h
  rw [List.length_take] at hi
  refine ⟨i, by omega, by omega, ?_⟩
  rw [List.getElem_take, List.getD_eq_getElem?_getD, List.getElem?_eq_getElem (by omega)]
  rfl
theorem mem_dropD {l : List Rw} {u : Nat} {x : Rw} (h : x ∈ l.drop u) : ∃ i, u ≤ i ∧ i < l.length ∧ x = l.getD i rw0 := by
  obtain ⟨i, hi, rfl⟩ := List.mem_iff_getElem.1 h
  rw [List.length_drop] at hi
  refine ⟨u + i, by omega, by omega, ?_⟩
  rw [List.getElem_drop, List.getD_eq_getElem?_getD, List.getElem?_eq_getElem (by omega)]
  rfl
theorem Desc.take {l : List Rw} (h : Desc l) (u : Nat) : Desc (l.take u) := List.Pairwise.sublist (List.take_sublist u l) h
theorem Desc.drop {l : List Rw} (h : Desc l) (u : Nat) : Desc (l.drop u) := List.Pairwise.sublist (List.drop_sublist u l) h
theorem sm_glue {A B S1 S2 : List Rw} (hA : Desc A) (hB : Desc B) {u w : Nat}
    (h1 : u = 0 ∨ B.length ≤ w ∨ (B.getD w rw0).length ≤ (A.getD (u - 1) rw0).length) (h2 : w = 0 ∨ A.length ≤ u ∨ (A.getD u rw0).length ≤ (B.getD (w - 1) rw0).length)
    (hu : u ≤ A.length) (hw : w ≤ B.length) (p1 : S1.Perm (A.take u ++ B.take w)) (p2 : S2.Perm (A.drop u ++ B.drop w)) (d1 : Desc S1) (d2 : Desc S2) : (S1 ++ S2).Perm (A ++ B) ∧ Desc (S1 ++ S2) := by
  refine ⟨?_, ?_⟩
  · refine (List.Perm.append p1 p2).trans ?_
    have e : A ++ B = (A.take u ++ A.drop u) ++ (B.take w ++ B.drop w) := by rw [List.take_append_drop, List.take_append_drop]
    rw [e, List.append_assoc, List.append_assoc]
    refine List.Perm.append_left _ ?_
    rw [← List.append_assoc, ← List.append_assoc]
    exact List.Perm.append_right _ List.perm_append_comm
  · refine List.pairwise_append.2 ⟨d1, d2, fun x hx y hy => ?_⟩
    rcases List.mem_append.1 (p1.subset hx) with hx | hx <;> rcases List.mem_append.1 (p2.subset hy) with hy | hy
    · obtain ⟨i, i1, i2, rfl⟩ := mem_takeD hx
      obtain ⟨j, j1, j2, rfl⟩ := mem_dropD hy
      exact hA.le (by omega) j2
    · obtain ⟨i, i1, i2, rfl⟩ := mem_takeD hx
      obtain ⟨j, j1, j2, rfl⟩ := mem_dropD hy
      rcases h1 with h | h | h
      · omega
      · omega
      · have k1 := hA.le (i := i) (j := u - 1) (by omega) (by omega)
        have k2 := hB.le (i := w) (j := j) j1 j2
        omega
    · obtain ⟨i, i1, i2, rfl⟩ := mem_takeD hx
      obtain ⟨j, j1, j2, rfl⟩ := mem_dropD hy
      rcases h2 with h | h | h
      · omega
      · omega
      · have k1 := hB.le (i := i) (j := w - 1) (by omega) (by omega)
        have k2 := hA.le (i := u) (j := j) j1 j2
        omega
    · obtain ⟨i, i1, i2, rfl⟩ := mem_takeD hx
      obtain ⟨j, j1, j2, rfl⟩ := mem_dropD hy
      exact hB.le (by omega) j2
theorem sm_one {B : List Rw} (hB : Desc B) (x : Rw) {p : Nat} (hp : p ≤ B.length) (h1 : p = 0 ∨ x.length ≤ (B.getD (p - 1) rw0).length) (h2 : B.length ≤ p ∨ (B.getD p rw0).length ≤ x.length) : (B.take p ++ x :: B.drop p).Perm (x :: B) ∧ Desc (B.take p ++ x :: B.drop p) := by
  refine ⟨?_, ?_⟩
  · exact List.perm_middle.trans (by rw [List.take_append_drop])
  · refine List.pairwise_append.2 ⟨hB.take p, List.pairwise_cons.2 ⟨fun y hy => ?_, hB.drop p⟩, fun y hy z hz => ?_⟩
    · obtain ⟨j, j1, j2, rfl⟩ := mem_dropD hy
      rcases h2 with h | h
      · omega
      · have := hB.le j1 j2
        omega
    · obtain ⟨i, i1, i2, rfl⟩ := mem_takeD hy
      have k1 : ∀ z ∈ B.drop p, z.length ≤ (B.getD i rw0).length := fun z hz => by
        obtain ⟨j, j1, j2, rfl⟩ := mem_dropD hz
        exact hB.le (by omega) j2
      rcases List.mem_cons.1 hz with rfl | hz
      · rcases h1 with h | h
        · omega
        · have := hB.le (i := i) (j := p - 1) (by omega) (by omega)
          omega
      · exact k1 z hz
theorem getD_mid (X Y Z : List Rw) (i : Nat) (h : i < Y.length) : (X ++ (Y ++ Z)).getD (X.length + i) rw0 = Y.getD i rw0 := by
  rw [List.getD_eq_getElem?_getD, List.getElem?_append_right (by omega), show X.length + i - X.length = i by omega, List.getElem?_append_left h, ← List.getD_eq_getElem?_getD]
theorem Desc.app {A B : List Rw} (hA : Desc A) (hB : Desc B) (h : A = [] ∨ B = []) : Desc (A ++ B) := by
  rcases h with rfl | rfl
  · exact hB
  · rw [List.append_nil]; exact hA
end Go.Proofs.YtghhlcioabdpfaaDoor
set_option maxRecDepth 100000
namespace Go.Proofs.YtghhlcioabdpfaaDoor
open Go.Gov
open Classical
theorem half_u (n : Nat) (h : n ≤ 2097152) : IntKind.u64.wrap (n : Int) = n := by
  show (if (false && decide ((n : Int) % 2 ^ 64 ≥ 2 ^ (64 - 1))) = true then (n : Int) % 2 ^ 64 - 2 ^ 64 else (n : Int) % 2 ^ 64) = (n : Int)
  rw [Bool.false_and, if_neg (by decide)]
  omega
theorem half_sh (x y : Nat) (h : x + y ≤ 2097152) : shV .shr .u64 (IntKind.u64.wrap ((x : Int) + (y : Int))) 1 = (((x + y) / 2 : Nat) : Int) := by
  have := half_u (x + y) h
  rw [Int.natCast_add] at this
  rw [this]
  show Int.fdiv ((x : Int) + y) (2 ^ (min (1 : Int).toNat IntKind.u64.bits)) = _
  rw [show (2 : Int) ^ (min (1 : Int).toNat IntKind.u64.bits) = 2 by decide, Int.fdiv_eq_ediv_of_nonneg _ (by decide)]
  omega
set_option maxHeartbeats 8000000 in
theorem symMerge_w (n : Nat) : ∀ (pre A B post : List Rw) (a m b len : Nat), 1 ≤ A.length → 1 ≤ B.length → A.length + B.length ≤ n → Desc A → Desc B → a = pre.length → m = pre.length + A.length → b = m + B.length → len = b + post.length → len ≤ 1048576 → (∀ x ∈ A ++ B, x.length ≤ 1048576) →
    WriE Tryd.prog 161 [.sl 0 1 0 len, i64 (a : Int), i64 (m : Int), i64 (b : Int), .clo 121 [] []] [some ((pre ++ (A ++ (B ++ post))).map cI)] (fun S : List Rw => S.Perm (A ++ B) ∧ Desc S) (fun _ => .tup []) (fun S => [some ((pre ++ (S ++ post)).map cI)]) := by
  induction n with
  | zero => intro pre A B post a m b len h1 h2 h3; omega
  | succ n ih =>
  intro pre A B post a m b len hA1 hB1 hn hA hB ha hm hb hlen hl hr
  have e1 : (m : Int) - a = (A.length : Nat) := by omega
  have e2 : (b : Int) - m = (B.length : Nat) := by omega
  refine wriREV ok161 rfl ?_; unfold c161
  (repeat first | simp only [go_sem, ↓reduceIte, Nat.reduceEqDiff, Nat.reduceAdd, reduceCtorEq] | with_reducible refine V_W ?_ | (with_reducible refine And.intro ?_ ?_; focus first | assumption | omega | decide | grind) | (with_reducible refine Br.mk ?_ ?_; focus (intros; omega)) | decide)
  simp only [e1, go_sem, ↓reduceIte, Nat.reduceEqDiff, Nat.reduceAdd, reduceCtorEq]
  refine ⟨fun hc => ?_, fun hc => ?_⟩
  · obtain ⟨x, rfl⟩ : ∃ x, A = [x] := by
      match A, hA1 with
      | [x], _ => exact ⟨x, rfl⟩
      | x :: y :: A, _ => simp at hc; omega
    obtain ⟨L, hL⟩ : ∃ L, L = pre ++ ([x] ++ (B ++ post)) := ⟨_, rfl⟩
    have hm1 : m = a + 1 := by rw [hm, ha]; rfl
    have hLl : L.length = len := by rw [hL]; simp; omega
    have ga : L.getD a rw0 = x := by
      rw [hL, ha]
      exact getD_mid pre [x] (B ++ post) 0 (by simp)
    have gB : ∀ k, k < B.length → L.getD (m + k) rw0 = B.getD k rw0 := fun k hk => by
      rw [hL, show pre ++ ([x] ++ (B ++ post)) = (pre ++ [x]) ++ (B ++ post) by simp, show m = (pre ++ [x]).length by rw [hm]; simp]
      exact getD_mid _ B post k hk
    rw [← hL]
    have hrx : x.length ≤ 1048576 := hr x (by simp)
    have hrB : ∀ k, k < B.length → (B.getD k rw0).length ≤ 1048576 := fun k hk => hr _ (by
      rw [List.getD_eq_getElem?_getD, List.getElem?_eq_getElem hk]
      exact List.mem_append_right _ (List.getElem_mem hk))
    (repeat first | simp only [go_sem, ↓reduceIte, Nat.reduceEqDiff, Nat.reduceAdd, reduceCtorEq] | with_reducible refine V_W ?_ | (with_reducible refine And.intro ?_ ?_; focus first | assumption | omega | decide | grind) | (with_reducible refine Br.mk ?_ ?_; focus (intros; omega)) | decide)
    refine V_loop (α := Nat × Nat) (S := fun q => ([(0, .sl 0 1 0 len), (1, i64 (a : Int)), (4, .clo 121 [] []), (10, i64 ((m + q.1 : Nat) : Int)), (11, i64 ((m + q.2 : Nat) : Int))], [some (L.map cI)])) (C := fun q => q.1 ≤ q.2 ∧ q.2 ≤ B.length ∧ (q.1 = 0 ∨ x.length ≤ (B.getD (q.1 - 1) rw0).length) ∧ (B.length ≤ q.2 ∨ (B.getD q.2 rw0).length ≤ x.length)) (μ := fun q => q.2 - q.1) (0, B.length) ?_ ?_ ?_
    · exact ⟨Nat.zero_le _, Nat.le_refl _, .inl rfl, .inl (Nat.le_refl _)⟩
    · exact Ref.to rfl (by simp [sub, fget, hb])
    rintro ⟨p, q⟩ ⟨h1, h2, h3, h4⟩
    dsimp only at h1 h2 h3 h4 ⊢
    (repeat first | simp only [go_sem, ↓reduceIte, Nat.reduceEqDiff, Nat.reduceAdd, reduceCtorEq] | with_reducible refine V_W ?_ | (with_reducible refine And.intro ?_ ?_; focus first | assumption | omega | decide | grind) | (with_reducible refine Br.mk ?_ ?_; focus (intros; omega)) | decide)
    refine ⟨fun hc3 => ?_, fun hc3 => ?_⟩
    · have hpq : p < q := by omega
      obtain ⟨z, hz⟩ : ∃ z, z = (p + q) / 2 := ⟨_, rfl⟩
      have hsh := half_sh (m + p) (m + q) (by omega)
      rw [show (m + p + (m + q)) / 2 = m + z by omega] at hsh
      have hzt : ((m + z : Nat) : Int).toNat = m + z := by omega
      have hcm := cmpLen_c (B.getD z rw0) x (hrB z (by omega)) hrx
      (repeat first | simp only [go_sem, ↓reduceIte, Nat.reduceEqDiff, Nat.reduceAdd, reduceCtorEq] | with_reducible refine V_W ?_ | (with_reducible refine And.intro ?_ ?_; focus first | assumption | omega | decide | grind) | (with_reducible refine Br.mk ?_ ?_; focus (intros; omega)) | decide)
      simp only [hsh, hzt, gB z (by omega), ga, go_sem, ↓reduceIte, Nat.reduceEqDiff, Nat.reduceAdd, reduceCtorEq]
      refine pureC (hcm) (by simp only [go_sem, ↓reduceIte, Nat.reduceEqDiff, Nat.reduceAdd, reduceCtorEq] <;> rfl) (by first | rfl | simp only [go_sem, ↓reduceIte, Nat.reduceEqDiff, Nat.reduceAdd, reduceCtorEq]) ?_
      (repeat first | simp only [go_sem, ↓reduceIte, Nat.reduceEqDiff, Nat.reduceAdd, reduceCtorEq] | with_reducible refine V_W ?_ | (with_reducible refine And.intro ?_ ?_; focus first | assumption | omega | decide | grind) | (with_reducible refine Br.mk ?_ ?_; focus (intros; omega)) | decide)
      refine ⟨fun hc4 => ?_, fun hc4 => ?_⟩
      · (repeat first | simp only [go_sem, ↓reduceIte, Nat.reduceEqDiff, Nat.reduceAdd, reduceCtorEq] | with_reducible refine V_W ?_ | (with_reducible refine And.intro ?_ ?_; focus first | assumption | omega | decide | grind) | (with_reducible refine Br.mk ?_ ?_; focus (intros; omega)) | decide)
        refine ⟨(z + 1, q), ⟨by simp only; omega, h2, .inr (by show x.length ≤ (B.getD (z + 1 - 1) rw0).length; rw [Nat.add_sub_cancel]; omega), h4⟩, by simp only; omega, ?_⟩
        exact Ref.to rfl (by simp [sub, fget]; omega)
      · (repeat first | simp only [go_sem, ↓reduceIte, Nat.reduceEqDiff, Nat.reduceAdd, reduceCtorEq] | with_reducible refine V_W ?_ | (with_reducible refine And.intro ?_ ?_; focus first | assumption | omega | decide | grind) | (with_reducible refine Br.mk ?_ ?_; focus (intros; omega)) | decide)
        refine ⟨(p, z), ⟨by simp only; omega, by simp only; omega, h3, .inr (by simp only; omega)⟩, by simp only; omega, ?_⟩
        exact Ref.to rfl (by simp [sub, fget])
    · obtain rfl : p = q := by omega
      (repeat first | simp only [go_sem, ↓reduceIte, Nat.reduceEqDiff, Nat.reduceAdd, reduceCtorEq] | with_reducible refine V_W ?_ | (with_reducible refine And.intro ?_ ?_; focus first | assumption | omega | decide | grind) | (with_reducible refine Br.mk ?_ ?_; focus (intros; omega)) | decide)
      refine V_loop (α := Nat) (S := fun t => ([(0, .sl 0 1 0 len), (10, i64 ((m + p : Nat) : Int)), (13, i64 ((a + t : Nat) : Int))], [some ((pre ++ (B.take t ++ (x :: (B.drop t ++ post)))).map cI)])) (C := fun t => t ≤ p) (μ := fun t => p - t) 0 (Nat.zero_le _) ?_ ?_
      · exact Ref.to (by rw [hL]; rfl) (by simp [sub, fget])
      intro t ht
      (repeat first | simp only [go_sem, ↓reduceIte, Nat.reduceEqDiff, Nat.reduceAdd, reduceCtorEq] | with_reducible refine V_W ?_ | (with_reducible refine And.intro ?_ ?_; focus first | assumption | omega | decide | grind) | (with_reducible refine Br.mk ?_ ?_; focus (intros; omega)) | decide)
      refine ⟨fun hc4 => ?_, fun hc4 => ?_⟩
      · have htB : t < B.length := by omega
        have hX : (pre ++ B.take t).length = a + t := by rw [List.length_append, List.length_take, ha]; omega
        have hdr : B.drop t = B[t] :: B.drop (t + 1) := List.drop_eq_getElem_cons htB
        obtain ⟨L2, hL2⟩ : ∃ L2, L2 = pre ++ (B.take t ++ (x :: (B.drop t ++ post))) := ⟨_, rfl⟩
        have hL2' : L2 = (pre ++ B.take t) ++ x :: B[t] :: (B.drop (t + 1) ++ post) := by rw [hL2, hdr]; simp only [List.append_assoc, List.cons_append]
        have hL3 : (pre ++ B.take t) ++ B[t] :: x :: (B.drop (t + 1) ++ post) = pre ++ (B.take (t + 1) ++ (x :: (B.drop (t + 1) ++ post))) := by rw [List.take_succ_eq_append_getElem htB]; simp only [List.append_assoc, List.cons_append, List.nil_append]
        have hL2l : L2.length = len := by rw [hL2']; simp; omega
        have g1 := adj_get1 (pre ++ B.take t) (B.drop (t + 1) ++ post) x B[t]
        have g2 := adj_get2 (pre ++ B.take t) (B.drop (t + 1) ++ post) x B[t]
        have s1 := adj_set (pre ++ B.take t) (B.drop (t + 1) ++ post) x B[t]
        have s2 := adj_set2 (pre ++ B.take t) (B.drop (t + 1) ++ post) x B[t]
        rw [← hL2', hX] at g1 g2 s1 s2
        rw [hL3] at s1 s2
        rw [← hL2]
        have v1 : (L2.map cI).getD (a + t) (.slc 1 0 []) = cI x := by rw [getI L2 _ (by omega), g1]
        have v2 : (L2.map cI).getD (a + t + 1) (.slc 1 0 []) = cI B[t] := by rw [getI L2 _ (by omega), g2]
        have m1 : ((L2.map cI).set (a + t + 1) (cI x)).set (a + t) (cI B[t]) = (pre ++ (B.take (t + 1) ++ (x :: (B.drop (t + 1) ++ post)))).map cI := by rw [← s1, List.map_set, List.map_set]
        have m2 : ((L2.map cI).set (a + t) (cI B[t])).set (a + t + 1) (cI x) = (pre ++ (B.take (t + 1) ++ (x :: (B.drop (t + 1) ++ post)))).map cI := by rw [← s2, List.map_set, List.map_set]
        have t1 : (((a + t : Nat) : Int) + 1).toNat = a + t + 1 := by omega
        (repeat first | simp only [go_sem, ↓reduceIte, Nat.reduceEqDiff, Nat.reduceAdd, reduceCtorEq] | with_reducible refine V_W ?_ | (with_reducible refine And.intro ?_ ?_; focus first | assumption | omega | decide | grind) | (with_reducible refine Br.mk ?_ ?_; focus (intros; omega)) | decide)
        refine V_altsB [(0, .sl 0 1 0 len), (10, i64 ((m + p : Nat) : Int)), (13, i64 ((a + t : Nat) : Int))] [some ((pre ++ (B.take (t + 1) ++ (x :: (B.drop (t + 1) ++ post)))).map cI)] ?_ ?_
        · (repeat' first | simp only [go_sem, ↓reduceIte, Nat.reduceEqDiff, Nat.reduceAdd, reduceCtorEq] | with_reducible refine LT_reg ?_ | with_reducible refine LT_regz (by simp only [zAd_load, zAd_loads, zPt_pto, go_sem, ↓reduceIte, Nat.reduceEqDiff, Nat.reduceAdd, reduceCtorEq]) ?_ | with_reducible refine LT_fin ?_ | with_reducible exact LT_tt | with_reducible refine LT_alt ?_ ?_ | (with_reducible refine And.intro ?_ ?_; focus first | assumption | omega | grind))
          all_goals simp only [t1, v1, v2, go_sem, ↓reduceIte, Nat.reduceEqDiff, Nat.reduceAdd, reduceCtorEq]
          all_goals exact Ref.to (by first | exact congrArg (fun z => [some z]) m1 | exact congrArg (fun z => [some z]) m2) (by simp [sub, fget])
        · (repeat first | simp only [go_sem, ↓reduceIte, Nat.reduceEqDiff, Nat.reduceAdd, reduceCtorEq] | with_reducible refine V_W ?_ | (with_reducible refine And.intro ?_ ?_; focus first | assumption | omega | decide | grind) | (with_reducible refine Br.mk ?_ ?_; focus (intros; omega)) | decide)
          exact ⟨t + 1, by omega, by omega, Ref.frame (by simp [sub, fget]; omega)⟩
      · obtain rfl : t = p := by omega
        (repeat first | simp only [go_sem, ↓reduceIte, Nat.reduceEqDiff, Nat.reduceAdd, reduceCtorEq] | with_reducible refine V_W ?_ | (with_reducible refine And.intro ?_ ?_; focus first | assumption | omega | decide | grind) | (with_reducible refine Br.mk ?_ ?_; focus (intros; omega)) | decide)
        obtain ⟨c1, c2⟩ := sm_one hB x h2 h3 h4
        exact ⟨_, ⟨c1, c2⟩, Ref.to (by simp) (by simp [sub, fget])⟩
  · (repeat first | simp only [go_sem, ↓reduceIte, Nat.reduceEqDiff, Nat.reduceAdd, reduceCtorEq] | with_reducible refine V_W ?_ | (with_reducible refine And.intro ?_ ?_; focus first | assumption | omega | decide | grind) | (with_reducible refine Br.mk ?_ ?_; focus (intros; omega)) | decide)
    simp only [e2, go_sem, ↓reduceIte, Nat.reduceEqDiff, Nat.reduceAdd, reduceCtorEq]
    refine ⟨fun hc2 => ?_, fun hc2 => ?_⟩
    · obtain ⟨y, rfl⟩ : ∃ y, B = [y] := by
        match B, hB1 with
        | [y], _ => exact ⟨y, rfl⟩
        | x :: y :: B, _ => simp at hc2; omega
      obtain ⟨L, hL⟩ : ∃ L, L = pre ++ (A ++ ([y] ++ post)) := ⟨_, rfl⟩
      have hb1 : b = m + 1 := by rw [hb]; rfl
      have hLl : L.length = len := by rw [hL]; simp; omega
      have gm : L.getD m rw0 = y := by
        rw [hL, show pre ++ (A ++ ([y] ++ post)) = (pre ++ A) ++ ([y] ++ post) by simp, show m = (pre ++ A).length + 0 by rw [hm]; simp]
        exact getD_mid (pre ++ A) [y] post 0 (by simp)
      have gA : ∀ k, k < A.length → L.getD (a + k) rw0 = A.getD k rw0 := fun k hk => by
        rw [hL, ha]
        exact getD_mid pre A ([y] ++ post) k hk
      rw [← hL]
      have hry : y.length ≤ 1048576 := hr y (by simp)
      have hrA : ∀ k, k < A.length → (A.getD k rw0).length ≤ 1048576 := fun k hk => hr _ (by
        rw [List.getD_eq_getElem?_getD, List.getElem?_eq_getElem hk]
        exact List.mem_append_left _ (List.getElem_mem hk))
      (repeat first | simp only [go_sem, ↓reduceIte, Nat.reduceEqDiff, Nat.reduceAdd, reduceCtorEq] | with_reducible refine V_W ?_ | (with_reducible refine And.intro ?_ ?_; focus first | assumption | omega | decide | grind) | (with_reducible refine Br.mk ?_ ?_; focus (intros; omega)) | decide)
      refine V_loop (α := Nat × Nat) (S := fun q => ([(0, .sl 0 1 0 len), (2, i64 (m : Int)), (4, .clo 121 [] []), (14, i64 ((a + q.1 : Nat) : Int)), (15, i64 ((a + q.2 : Nat) : Int))], [some (L.map cI)])) (C := fun q => q.1 ≤ q.2 ∧ q.2 ≤ A.length ∧ (q.1 = 0 ∨ y.length ≤ (A.getD (q.1 - 1) rw0).length) ∧ (A.length ≤ q.2 ∨ (A.getD q.2 rw0).length ≤ y.length)) (μ := fun q => q.2 - q.1) (0, A.length) ?_ ?_ ?_
      · exact ⟨Nat.zero_le _, Nat.le_refl _, .inl rfl, .inl (Nat.le_refl _)⟩
      · exact Ref.to rfl (by simp [sub, fget, hm, ha])
      rintro ⟨p, q⟩ ⟨h1, h2, h3, h4⟩
      dsimp only at h1 h2 h3 h4 ⊢
      (repeat first | simp only [go_sem, ↓reduceIte, Nat.reduceEqDiff, Nat.reduceAdd, reduceCtorEq] | with_reducible refine V_W ?_ | (with_reducible refine And.intro ?_ ?_; focus first | assumption | omega | decide | grind) | (with_reducible refine Br.mk ?_ ?_; focus (intros; omega)) | decide)
      refine ⟨fun hc3 => ?_, fun hc3 => ?_⟩
      · have hpq : p < q := by omega
        obtain ⟨z, hz⟩ : ∃ z, z = (p + q) / 2 := ⟨_, rfl⟩
        have hsh := half_sh (a + p) (a + q) (by omega)
        rw [show (a + p + (a + q)) / 2 = a + z by omega] at hsh
        have hzt : ((a + z : Nat) : Int).toNat = a + z := by omega
        have hcm := cmpLen_c y (A.getD z rw0) hry (hrA z (by omega))
        (repeat first | simp only [go_sem, ↓reduceIte, Nat.reduceEqDiff, Nat.reduceAdd, reduceCtorEq] | with_reducible refine V_W ?_ | (with_reducible refine And.intro ?_ ?_; focus first | assumption | omega | decide | grind) | (with_reducible refine Br.mk ?_ ?_; focus (intros; omega)) | decide)
        simp only [hsh, hzt, gA z (by omega), gm, go_sem, ↓reduceIte, Nat.reduceEqDiff, Nat.reduceAdd, reduceCtorEq]
        refine pureC (hcm) (by simp only [go_sem, ↓reduceIte, Nat.reduceEqDiff, Nat.reduceAdd, reduceCtorEq] <;> rfl) (by first | rfl | simp only [go_sem, ↓reduceIte, Nat.reduceEqDiff, Nat.reduceAdd, reduceCtorEq]) ?_
        (repeat first | simp only [go_sem, ↓reduceIte, Nat.reduceEqDiff, Nat.reduceAdd, reduceCtorEq] | with_reducible refine V_W ?_ | (with_reducible refine And.intro ?_ ?_; focus first | assumption | omega | decide | grind) | (with_reducible refine Br.mk ?_ ?_; focus (intros; omega)) | decide)
        refine ⟨fun hc4 => ?_, fun hc4 => ?_⟩
        · (repeat first | simp only [go_sem, ↓reduceIte, Nat.reduceEqDiff, Nat.reduceAdd, reduceCtorEq] | with_reducible refine V_W ?_ | (with_reducible refine And.intro ?_ ?_; focus first | assumption | omega | decide | grind) | (with_reducible refine Br.mk ?_ ?_; focus (intros; omega)) | decide)
          refine ⟨(z + 1, q), ⟨by simp only; omega, h2, .inr (by show y.length ≤ (A.getD (z + 1 - 1) rw0).length; rw [Nat.add_sub_cancel]; omega), h4⟩, by simp only; omega, ?_⟩
          exact Ref.to rfl (by simp [sub, fget]; omega)
        · (repeat first | simp only [go_sem, ↓reduceIte, Nat.reduceEqDiff, Nat.reduceAdd, reduceCtorEq] | with_reducible refine V_W ?_ | (with_reducible refine And.intro ?_ ?_; focus first | assumption | omega | decide | grind) | (with_reducible refine Br.mk ?_ ?_; focus (intros; omega)) | decide)
          refine ⟨(p, z), ⟨by simp only; omega, by simp only; omega, h3, .inr (by simp only; omega)⟩, by simp only; omega, ?_⟩
          exact Ref.to rfl (by simp [sub, fget])
      · obtain rfl : p = q := by omega
        (repeat first | simp only [go_sem, ↓reduceIte, Nat.reduceEqDiff, Nat.reduceAdd, reduceCtorEq] | with_reducible refine V_W ?_ | (with_reducible refine And.intro ?_ ?_; focus first | assumption | omega | decide | grind) | (with_reducible refine Br.mk ?_ ?_; focus (intros; omega)) | decide)
        refine V_loop (α := Nat) (S := fun t => ([(0, .sl 0 1 0 len), (14, i64 ((a + p : Nat) : Int)), (17, i64 ((a + t : Nat) : Int))], [some ((pre ++ (A.take t ++ (y :: (A.drop t ++ post)))).map cI)])) (C := fun t => p ≤ t ∧ t ≤ A.length) (μ := fun t => t) A.length ⟨h2, Nat.le_refl _⟩ ?_ ?_
        · exact Ref.to (by rw [hL, List.take_length, List.drop_length]; rfl) (by simp [sub, fget, hm, ha])
        rintro t ⟨ht1, ht2⟩
        (repeat first | simp only [go_sem, ↓reduceIte, Nat.reduceEqDiff, Nat.reduceAdd, reduceCtorEq] | with_reducible refine V_W ?_ | (with_reducible refine And.intro ?_ ?_; focus first | assumption | omega | decide | grind) | (with_reducible refine Br.mk ?_ ?_; focus (intros; omega)) | decide)
        refine ⟨fun hc4 => ?_, fun hc4 => ?_⟩
        · obtain ⟨t, rfl⟩ : ∃ t', t = t' + 1 := ⟨t - 1, by omega⟩
          have htA : t < A.length := by omega
          have hX : (pre ++ A.take t).length = a + t := by rw [List.length_append, List.length_take, ha]; omega
          have hdr : A.drop t = A[t] :: A.drop (t + 1) := List.drop_eq_getElem_cons htA
          obtain ⟨L2, hL2⟩ : ∃ L2, L2 = pre ++ (A.take (t + 1) ++ (y :: (A.drop (t + 1) ++ post))) := ⟨_, rfl⟩
          have hL2' : L2 = (pre ++ A.take t) ++ A[t] :: y :: (A.drop (t + 1) ++ post) := by rw [hL2, List.take_succ_eq_append_getElem htA]; simp only [List.append_assoc, List.cons_append, List.nil_append]
          have hL3 : (pre ++ A.take t) ++ y :: A[t] :: (A.drop (t + 1) ++ post) = pre ++ (A.take t ++ (y :: (A.drop t ++ post))) := by rw [hdr]; simp only [List.append_assoc, List.cons_append]
          have hL2l : L2.length = len := by rw [hL2']; simp; omega
          have g1 := adj_get1 (pre ++ A.take t) (A.drop (t + 1) ++ post) A[t] y
          have g2 := adj_get2 (pre ++ A.take t) (A.drop (t + 1) ++ post) A[t] y
          have s1 := adj_set (pre ++ A.take t) (A.drop (t + 1) ++ post) A[t] y
          have s2 := adj_set2 (pre ++ A.take t) (A.drop (t + 1) ++ post) A[t] y
          rw [← hL2', hX] at g1 g2 s1 s2
          rw [hL3] at s1 s2
          rw [← hL2]
          have v1 : (L2.map cI).getD (a + t) (.slc 1 0 []) = cI A[t] := by rw [getI L2 _ (by omega), g1]
          have v2 : (L2.map cI).getD (a + t + 1) (.slc 1 0 []) = cI y := by rw [getI L2 _ (by omega), g2]
          have m1 : ((L2.map cI).set (a + t + 1) (cI A[t])).set (a + t) (cI y) = (pre ++ (A.take t ++ (y :: (A.drop t ++ post)))).map cI := by rw [← s1, List.map_set, List.map_set]
          have m2 : ((L2.map cI).set (a + t) (cI y)).set (a + t + 1) (cI A[t]) = (pre ++ (A.take t ++ (y :: (A.drop t ++ post)))).map cI := by rw [← s2, List.map_set, List.map_set]
          have t1 : ((a + t + 1 : Nat) : Int).toNat = a + t + 1 := by omega
          have t2 : (((a + t + 1 : Nat) : Int) - 1).toNat = a + t := by omega
          rw [← Nat.add_assoc]
          (repeat first | simp only [go_sem, ↓reduceIte, Nat.reduceEqDiff, Nat.reduceAdd, reduceCtorEq] | with_reducible refine V_W ?_ | (with_reducible refine And.intro ?_ ?_; focus first | assumption | omega | decide | grind) | (with_reducible refine Br.mk ?_ ?_; focus (intros; omega)) | decide)
          refine V_altsB [(0, .sl 0 1 0 len), (14, i64 ((a + p : Nat) : Int)), (17, i64 ((a + t + 1 : Nat) : Int))] [some ((pre ++ (A.take t ++ (y :: (A.drop t ++ post)))).map cI)] ?_ ?_
          · (repeat' first | simp only [go_sem, ↓reduceIte, Nat.reduceEqDiff, Nat.reduceAdd, reduceCtorEq] | with_reducible refine LT_reg ?_ | with_reducible refine LT_regz (by simp only [zAd_load, zAd_loads, zPt_pto, go_sem, ↓reduceIte, Nat.reduceEqDiff, Nat.reduceAdd, reduceCtorEq]) ?_ | with_reducible refine LT_fin ?_ | with_reducible exact LT_tt | with_reducible refine LT_alt ?_ ?_ | (with_reducible refine And.intro ?_ ?_; focus first | assumption | omega | grind))
            all_goals simp only [t1, t2, Nat.add_sub_cancel, v1, v2, go_sem, ↓reduceIte, Nat.reduceEqDiff, Nat.reduceAdd, reduceCtorEq]
            all_goals exact Ref.to (by first | exact congrArg (fun z => [some z]) m1 | exact congrArg (fun z => [some z]) m2) (by simp [sub, fget])
          · (repeat first | simp only [go_sem, ↓reduceIte, Nat.reduceEqDiff, Nat.reduceAdd, reduceCtorEq] | with_reducible refine V_W ?_ | (with_reducible refine And.intro ?_ ?_; focus first | assumption | omega | decide | grind) | (with_reducible refine Br.mk ?_ ?_; focus (intros; omega)) | decide)
            exact ⟨t, ⟨by omega, by omega⟩, by omega, Ref.frame (by simp [sub, fget])⟩
        · obtain rfl : t = p := by omega
          (repeat first | simp only [go_sem, ↓reduceIte, Nat.reduceEqDiff, Nat.reduceAdd, reduceCtorEq] | with_reducible refine V_W ?_ | (with_reducible refine And.intro ?_ ?_; focus first | assumption | omega | decide | grind) | (with_reducible refine Br.mk ?_ ?_; focus (intros; omega)) | decide)
          obtain ⟨c1, c2⟩ := sm_one hA y h2 h3 h4
          exact ⟨_, ⟨c1.trans (List.perm_append_comm (l₁ := [y])), c2⟩, Ref.to (by simp) (by simp [sub, fget])⟩
    · obtain ⟨d, hd⟩ : ∃ d, d = (a + b) / 2 := ⟨_, rfl⟩
      have hsh := half_sh a b (by omega)
      rw [← hd] at hsh
      obtain ⟨L, hL⟩ : ∃ L, L = pre ++ (A ++ (B ++ post)) := ⟨_, rfl⟩
      have hLl : L.length = len := by rw [hL]; simp; omega
      have gA : ∀ k, k < A.length → L.getD (a + k) rw0 = A.getD k rw0 := fun k hk => by
        rw [hL, ha]
        exact getD_mid pre A (B ++ post) k hk
      have gB : ∀ k, k < B.length → L.getD (m + k) rw0 = B.getD k rw0 := fun k hk => by
        rw [hL, show pre ++ (A ++ (B ++ post)) = (pre ++ A) ++ (B ++ post) by simp, show m = (pre ++ A).length by rw [hm]; simp]
        exact getD_mid _ B post k hk
      have hrL : ∀ k, a ≤ k → k < b → (L.getD k rw0).length ≤ 1048576 := fun k h1 h2 => by
        by_cases h : k < m
        · rw [show k = a + (k - a) by omega, gA (k - a) (by omega)]
          exact hr _ (by rw [List.getD_eq_getElem?_getD, List.getElem?_eq_getElem (show k - a < A.length by omega)]; exact List.mem_append_left _ (List.getElem_mem _))
        · rw [show k = m + (k - m) by omega, gB (k - m) (by omega)]
          exact hr _ (by rw [List.getD_eq_getElem?_getD, List.getElem?_eq_getElem (show k - m < B.length by omega)]; exact List.mem_append_right _ (List.getElem_mem _))
      rw [← hL]
      (repeat first | simp only [go_sem, ↓reduceIte, Nat.reduceEqDiff, Nat.reduceAdd, reduceCtorEq] | with_reducible refine V_W ?_ | (with_reducible refine And.intro ?_ ?_; focus first | assumption | omega | decide | grind) | (with_reducible refine Br.mk ?_ ?_; focus (intros; omega)) | decide)
      rw [hsh]
      apply Br_join (fun q : Nat × Nat => a ≤ q.1 ∧ q.1 ≤ q.2 ∧ q.2 ≤ m ∧ q.2 ≤ d ∧ (q.1 = a ∨ q.1 + b = d + m) ∧ (q.2 = m ∨ q.2 = d) ∧ d + m ≤ b + q.1)
      · intro hc3 hj
        refine ⟨by omega, W_join _ (fun q : Nat × Nat => [(0, .sl 0 1 0 len), (1, i64 (a : Int)), (2, i64 (m : Int)), (3, i64 (b : Int)), (4, .clo 121 [] []), (18, i64 (d : Int)), (19, i64 ((d + m : Nat) : Int)), (20, i64 (q.1 : Int)), (21, i64 (q.2 : Int))]) (fun _ : Nat × Nat => [some (L.map cI)]) ?_ hj⟩
        (repeat first | simp only [go_sem, ↓reduceIte, Nat.reduceEqDiff, Nat.reduceAdd, reduceCtorEq] | with_reducible refine V_W ?_ | (with_reducible refine And.intro ?_ ?_; focus first | assumption | omega | decide | grind) | (with_reducible refine Br.mk ?_ ?_; focus (intros; omega)) | decide)
        refine ⟨(d + m - b, d), ⟨by simp only; omega, by simp only; omega, by simp only; omega, Nat.le_refl _, by simp only; omega, .inr rfl, by simp only; omega⟩, Ref.to rfl (by simp [sub, fget]; omega)⟩
      · intro hc3 hj
        refine W_join _ (fun q : Nat × Nat => [(0, .sl 0 1 0 len), (1, i64 (a : Int)), (2, i64 (m : Int)), (3, i64 (b : Int)), (4, .clo 121 [] []), (18, i64 (d : Int)), (19, i64 ((d + m : Nat) : Int)), (20, i64 (q.1 : Int)), (21, i64 (q.2 : Int))]) (fun _ : Nat × Nat => [some (L.map cI)]) ?_ hj
        (repeat first | simp only [go_sem, ↓reduceIte, Nat.reduceEqDiff, Nat.reduceAdd, reduceCtorEq] | with_reducible refine V_W ?_ | (with_reducible refine And.intro ?_ ?_; focus first | assumption | omega | decide | grind) | (with_reducible refine Br.mk ?_ ?_; focus (intros; omega)) | decide)
        refine ⟨(a, m), ⟨Nat.le_refl _, by simp only; omega, Nat.le_refl _, by simp only; omega, .inl rfl, .inl rfl, by simp only; omega⟩, Ref.to rfl (by simp [sub, fget])⟩
      · rintro ⟨lo, hi⟩ ⟨h1, h2, h3, h4, h5, h6, h7⟩
        dsimp only at h1 h2 h3 h4 h5 h6 h7 ⊢
        (repeat first | simp only [go_sem, ↓reduceIte, Nat.reduceEqDiff, Nat.reduceAdd, reduceCtorEq] | with_reducible refine V_W ?_ | (with_reducible refine And.intro ?_ ?_; focus first | assumption | omega | decide | grind) | (with_reducible refine Br.mk ?_ ?_; focus (intros; omega)) | decide)
        refine V_loop (α := Nat × Nat) (S := fun q => ([(0, .sl 0 1 0 len), (1, i64 (a : Int)), (2, i64 (m : Int)), (3, i64 (b : Int)), (4, .clo 121 [] []), (18, i64 (d : Int)), (19, i64 ((d + m : Nat) : Int)), (20, i64 (q.1 : Int)), (21, i64 (q.2 : Int)), (22, i64 (((d + m - 1 : Nat)) : Int))], [some (L.map cI)])) (C := fun q => lo ≤ q.1 ∧ q.1 ≤ q.2 ∧ q.2 ≤ hi ∧ (q.1 = lo ∨ (L.getD (d + m - q.1) rw0).length ≤ (L.getD (q.1 - 1) rw0).length) ∧ (q.2 = hi ∨ (L.getD q.2 rw0).length ≤ (L.getD (d + m - 1 - q.2) rw0).length)) (μ := fun q => q.2 - q.1) (lo, hi) ?_ ?_ ?_
        · exact ⟨Nat.le_refl _, h2, Nat.le_refl _, .inl rfl, .inl rfl⟩
        · exact Ref.to rfl (by simp [sub, fget]; omega)
        rintro ⟨s, r⟩ ⟨k1, k2, k3, k4, k5⟩
        dsimp only at k1 k2 k3 k4 k5 ⊢
        (repeat first | simp only [go_sem, ↓reduceIte, Nat.reduceEqDiff, Nat.reduceAdd, reduceCtorEq] | with_reducible refine V_W ?_ | (with_reducible refine And.intro ?_ ?_; focus first | assumption | omega | decide | grind) | (with_reducible refine Br.mk ?_ ?_; focus (intros; omega)) | decide)
        refine ⟨fun hc3 => ?_, fun hc3 => ?_⟩
        · have hsr : s < r := by omega
          obtain ⟨c, hcd⟩ : ∃ c, c = (s + r) / 2 := ⟨_, rfl⟩
          have hsh2 := half_sh s r (by omega)
          rw [← hcd] at hsh2
          have t1 : ((c : Nat) : Int).toNat = c := by omega
          have t2 : (((d + m - 1 : Nat) : Int) - (c : Int)).toNat = d + m - 1 - c := by omega
          have hcm := cmpLen_c (L.getD (d + m - 1 - c) rw0) (L.getD c rw0) (hrL _ (by omega) (by omega)) (hrL _ (by omega) (by omega))
          (repeat first | simp only [go_sem, ↓reduceIte, Nat.reduceEqDiff, Nat.reduceAdd, reduceCtorEq] | with_reducible refine V_W ?_ | (with_reducible refine And.intro ?_ ?_; focus first | assumption | omega | decide | grind) | (with_reducible refine Br.mk ?_ ?_; focus (intros; omega)) | decide)
          simp only [hsh2, t1, t2, go_sem, ↓reduceIte, Nat.reduceEqDiff, Nat.reduceAdd, reduceCtorEq]
          refine pureC (hcm) (by simp only [go_sem, ↓reduceIte, Nat.reduceEqDiff, Nat.reduceAdd, reduceCtorEq] <;> rfl) (by first | rfl | simp only [go_sem, ↓reduceIte, Nat.reduceEqDiff, Nat.reduceAdd, reduceCtorEq]) ?_
          (repeat first | simp only [go_sem, ↓reduceIte, Nat.reduceEqDiff, Nat.reduceAdd, reduceCtorEq] | with_reducible refine V_W ?_ | (with_reducible refine And.intro ?_ ?_; focus first | assumption | omega | decide | grind) | (with_reducible refine Br.mk ?_ ?_; focus (intros; omega)) | decide)
          refine ⟨fun hc4 => ?_, fun hc4 => ?_⟩
          · (repeat first | simp only [go_sem, ↓reduceIte, Nat.reduceEqDiff, Nat.reduceAdd, reduceCtorEq] | with_reducible refine V_W ?_ | (with_reducible refine And.intro ?_ ?_; focus first | assumption | omega | decide | grind) | (with_reducible refine Br.mk ?_ ?_; focus (intros; omega)) | decide)
            refine ⟨(c + 1, r), ⟨by simp only; omega, by simp only; omega, k3, .inr (by show (L.getD (d + m - (c + 1)) rw0).length ≤ (L.getD (c + 1 - 1) rw0).length; rw [Nat.add_sub_cancel, show d + m - (c + 1) = d + m - 1 - c by omega]; omega), k5⟩, by simp only; omega, ?_⟩
            exact Ref.to rfl (by simp [sub, fget])
          · (repeat first | simp only [go_sem, ↓reduceIte, Nat.reduceEqDiff, Nat.reduceAdd, reduceCtorEq] | with_reducible refine V_W ?_ | (with_reducible refine And.intro ?_ ?_; focus first | assumption | omega | decide | grind) | (with_reducible refine Br.mk ?_ ?_; focus (intros; omega)) | decide)
            refine ⟨(s, c), ⟨k1, by simp only; omega, by simp only; omega, k4, .inr (by simp only; omega)⟩, by simp only; omega, ?_⟩
            exact Ref.to rfl (by simp [sub, fget])
        · obtain rfl : s = r := by omega
          obtain ⟨u, hu⟩ : ∃ u, u = s - a := ⟨_, rfl⟩
          obtain ⟨w, hw⟩ : ∃ w, w = d - s := ⟨_, rfl⟩
          obtain ⟨e, he⟩ : ∃ e, e = d + m - s := ⟨_, rfl⟩
          have q1 : u = 0 ∨ B.length ≤ w ∨ (B.getD w rw0).length ≤ (A.getD (u - 1) rw0).length := by
            by_cases hs : s = lo
            · omega
            · by_cases hw2 : B.length ≤ w
              · exact .inr (.inl hw2)
              · have := k4.resolve_left hs
                rw [show d + m - s = m + w by omega, gB w (by omega), show s - 1 = a + (u - 1) by omega, gA (u - 1) (by omega)] at this
                exact .inr (.inr this)
          have q2 : w = 0 ∨ A.length ≤ u ∨ (A.getD u rw0).length ≤ (B.getD (w - 1) rw0).length := by
            by_cases hs : s = hi
            · omega
            · by_cases hu2 : A.length ≤ u
              · exact .inr (.inl hu2)
              · by_cases hw0 : w = 0
                · exact .inl hw0
                · have := k5.resolve_left hs
                  rw [show d + m - 1 - s = m + (w - 1) by omega, gB (w - 1) (by omega), show s = a + u by omega, gA u (by omega)] at this
                  exact .inr (.inr this)
          have lA1 : (A.take u).length = s - a := by rw [List.length_take]; omega
          have lA2 : (A.drop u).length = m - s := by rw [List.length_drop]; omega
          have lB1 : (B.take w).length = d - s := by rw [List.length_take]; omega
          have lB2 : (B.drop w).length = b - e := by rw [List.length_drop]; omega
          have e3 : ((d + m : Nat) : Int) - (s : Int) = (e : Nat) := by omega
          have hL0 : L = (pre ++ A.take u) ++ (A.drop u ++ (B.take w ++ (B.drop w ++ post))) := by
            rw [hL, List.append_assoc, ← List.append_assoc (A.take u), List.take_append_drop, ← List.append_assoc (B.take w), List.take_append_drop]
          obtain ⟨L2, hL2⟩ : ∃ L2, L2 = pre ++ (A.take u ++ (B.take w ++ (A.drop u ++ (B.drop w ++ post)))) := ⟨_, rfl⟩
          have hrot : s < m → m < e → Wri Tryd.prog 174 [.sl 0 1 0 len, i64 (s : Int), i64 (m : Int), i64 (e : Int), .clo 121 [] []] [some (L.map cI)] (.tup []) [some (L2.map cI)] := fun r1 r2 => by
            have := rotate_w 121 (pre ++ A.take u) (A.drop u) (B.take w) (B.drop w ++ post) s m e len (by omega) (by omega) (by rw [List.length_append, lA1]; omega) (by rw [List.length_append, lA1, lA2]; omega) (by omega) (by rw [List.length_append, lB2]; omega) hl
            rw [← hL0] at this
            rw [hL2]
            rwa [List.append_assoc] at this
          (repeat first | simp only [go_sem, ↓reduceIte, Nat.reduceEqDiff, Nat.reduceAdd, reduceCtorEq] | with_reducible refine V_W ?_ | (with_reducible refine And.intro ?_ ?_; focus first | assumption | omega | decide | grind) | (with_reducible refine Br.mk ?_ ?_; focus (intros; omega)) | decide)
          simp only [e3, go_sem, ↓reduceIte, Nat.reduceEqDiff, Nat.reduceAdd, reduceCtorEq]
          apply Br_join (fun _ : Unit => True)
          · intro hc5 hj
            refine wriCF (hrot (by omega) (by omega)) [0] (by first | rfl | simp) (by simp only [go_sem, ↓reduceIte, Nat.reduceEqDiff, Nat.reduceAdd, reduceCtorEq] <;> rfl) (by simp only [go_sem, ↓reduceIte, Nat.reduceEqDiff, Nat.reduceAdd, reduceCtorEq] <;> rfl) ?_
            simp only [go_sem, ↓reduceIte, Nat.reduceEqDiff, Nat.reduceAdd, reduceCtorEq]
            refine W_to _ (fun _ : Unit => [(0, .sl 0 1 0 len), (1, i64 (a : Int)), (3, i64 (b : Int)), (4, .clo 121 [] []), (18, i64 (d : Int)), (20, i64 (s : Int)), (24, i64 (e : Int))]) (fun _ : Unit => [some (L2.map cI)]) hj () trivial ?_
            exact Ref.to rfl (by simp [sub, fget])
          · intro hc5 hj
            have hLL : L = L2 := by
              have : A.drop u = [] ∨ B.take w = [] := by
                rcases Nat.lt_or_ge s m with h | h
                · exact .inr (List.length_eq_zero_iff.1 (by omega))
                · exact .inl (List.length_eq_zero_iff.1 (by omega))
              rcases this with h | h
              · rw [hL2, hL0, h]; simp only [List.append_assoc, List.nil_append]
              · rw [hL2, hL0, h]; simp only [List.append_assoc, List.nil_append]
            rw [hLL]
            refine W_to _ (fun _ : Unit => [(0, .sl 0 1 0 len), (1, i64 (a : Int)), (3, i64 (b : Int)), (4, .clo 121 [] []), (18, i64 (d : Int)), (20, i64 (s : Int)), (24, i64 (e : Int))]) (fun _ : Unit => [some (L2.map cI)]) hj () trivial ?_
            exact Ref.to rfl (by simp [sub, fget])
          · intro _ _
            have hrt : ∀ x ∈ A.take u ++ B.take w, x.length ≤ 1048576 := fun x hx => hr x (by
              rcases List.mem_append.1 hx with h | h
              · exact List.mem_append_left _ (List.mem_of_mem_take h)
              · exact List.mem_append_right _ (List.mem_of_mem_take h))
            have hrd : ∀ x ∈ A.drop u ++ B.drop w, x.length ≤ 1048576 := fun x hx => hr x (by
              rcases List.mem_append.1 hx with h | h
              · exact List.mem_append_left _ (List.mem_of_mem_drop h)
              · exact List.mem_append_right _ (List.mem_of_mem_drop h))
            have hm1 : a < s → s < d → _ := fun r1 r2 => ih pre (A.take u) (B.take w) (A.drop u ++ (B.drop w ++ post)) a s d len (by omega) (by omega) (by omega) (hA.take u) (hB.take w) ha (by omega) (by omega) (by simp only [List.length_append, lA2, lB2]; omega) hl hrt
            rw [← hL2] at hm1
            (repeat first | simp only [go_sem, ↓reduceIte, Nat.reduceEqDiff, Nat.reduceAdd, reduceCtorEq] | with_reducible refine V_W ?_ | (with_reducible refine And.intro ?_ ?_; focus first | assumption | omega | decide | grind) | (with_reducible refine Br.mk ?_ ?_; focus (intros; omega)) | decide)
            apply Br_join (fun S1 : List Rw => S1.Perm (A.take u ++ B.take w) ∧ Desc S1)
            · intro hc5 hj
              refine wriEF (hm1 (by omega) (by omega)) [0] (by first | rfl | simp) (by simp only [go_sem, ↓reduceIte, Nat.reduceEqDiff, Nat.reduceAdd, reduceCtorEq] <;> rfl) (by simp only [go_sem, ↓reduceIte, Nat.reduceEqDiff, Nat.reduceAdd, reduceCtorEq] <;> rfl) fun o ho => ?_
              simp only [go_sem, ↓reduceIte, Nat.reduceEqDiff, Nat.reduceAdd, reduceCtorEq]
              refine W_to _ (fun _ : List Rw => [(0, .sl 0 1 0 len), (3, i64 (b : Int)), (4, .clo 121 [] []), (18, i64 (d : Int)), (24, i64 (e : Int))]) (fun S1 : List Rw => [some ((pre ++ (S1 ++ (A.drop u ++ (B.drop w ++ post)))).map cI)]) hj o ho ?_
              exact Ref.to rfl (by simp [sub, fget])
            · intro hc5 hj
              refine W_to _ (fun _ : List Rw => [(0, .sl 0 1 0 len), (3, i64 (b : Int)), (4, .clo 121 [] []), (18, i64 (d : Int)), (24, i64 (e : Int))]) (fun S1 : List Rw => [some ((pre ++ (S1 ++ (A.drop u ++ (B.drop w ++ post)))).map cI)]) hj (A.take u ++ B.take w) ⟨.refl _, ?_⟩ ?_
              · refine (hA.take u).app (hB.take w) ?_
                rcases Nat.lt_or_ge a s with h | h
                · exact .inr (List.length_eq_zero_iff.1 (by omega))
                · exact .inl (List.length_eq_zero_iff.1 (by omega))
              · exact Ref.to (by rw [hL2, List.append_assoc]) (by simp [sub, fget])
            · rintro S1 ⟨p1, d1⟩
              have hS1 : S1.length = d - a := by rw [p1.length_eq, List.length_append, lA1, lB1]; omega
              have hm2 : d < e → e < b → _ := fun r1 r2 => ih (pre ++ S1) (A.drop u) (B.drop w) post d e b len (by omega) (by omega) (by omega) (hA.drop u) (hB.drop w) (by rw [List.length_append, hS1]; omega) (by rw [List.length_append, hS1]; omega) (by omega) hlen hl hrd
              rw [List.append_assoc] at hm2
              simp only [List.append_assoc] at hm2
              generalize hL3 : pre ++ (S1 ++ (A.drop u ++ (B.drop w ++ post))) = L3 at hm2
              have hLl3 : L3.length = len := by rw [← hL3]; simp only [List.length_append, hS1, lA2, lB2]; omega
              (repeat first | simp only [go_sem, ↓reduceIte, Nat.reduceEqDiff, Nat.reduceAdd, reduceCtorEq] | with_reducible refine V_W ?_ | (with_reducible refine And.intro ?_ ?_; focus first | assumption | omega | decide | grind) | (with_reducible refine Br.mk ?_ ?_; focus (intros; omega)) | decide)
              refine ⟨fun hc5 => ?_, fun hc5 => ?_⟩
              · refine wriEF (hm2 (by omega) (by omega)) [0] (by first | rfl | simp) (by simp only [go_sem, ↓reduceIte, Nat.reduceEqDiff, Nat.reduceAdd, reduceCtorEq] <;> rfl) (by simp only [go_sem, ↓reduceIte, Nat.reduceEqDiff, Nat.reduceAdd, reduceCtorEq] <;> rfl) fun o ho => ?_
                obtain ⟨p2, d2⟩ := ho
                (repeat first | simp only [go_sem, ↓reduceIte, Nat.reduceEqDiff, Nat.reduceAdd, reduceCtorEq] | with_reducible refine V_W ?_ | (with_reducible refine And.intro ?_ ?_; focus first | assumption | omega | decide | grind) | (with_reducible refine Br.mk ?_ ?_; focus (intros; omega)) | decide)
                obtain ⟨c1, c2⟩ := sm_glue hA hB q1 q2 (by omega) (by omega) p1 p2 d1 d2
                exact ⟨_, ⟨c1, c2⟩, Ref.to (by simp) (by simp [sub, fget])⟩
              · have d2 : Desc (A.drop u ++ B.drop w) := by
                  refine (hA.drop u).app (hB.drop w) ?_
                  rcases Nat.lt_or_ge d e with h | h
                  · exact .inr (List.length_eq_zero_iff.1 (by omega))
                  · exact .inl (List.length_eq_zero_iff.1 (by omega))
                (repeat first | simp only [go_sem, ↓reduceIte, Nat.reduceEqDiff, Nat.reduceAdd, reduceCtorEq] | with_reducible refine V_W ?_ | (with_reducible refine And.intro ?_ ?_; focus first | assumption | omega | decide | grind) | (with_reducible refine Br.mk ?_ ?_; focus (intros; omega)) | decide)
                obtain ⟨c1, c2⟩ := sm_glue hA hB q1 q2 (by omega) (by omega) p1 (.refl _) d1 d2
                exact ⟨_, ⟨c1, c2⟩, Ref.to (by rw [← hL3]; simp) (by simp [sub, fget])⟩
end Go.Proofs.YtghhlcioabdpfaaDoor
set_option maxRecDepth 100000
namespace Go.Proofs.YtghhlcioabdpfaaDoor
open Go.Gov
open Classical
inductive Fl (n : Nat) : List Rw → Prop
  | nil : Fl n []
  | snoc (D S : List Rw) : Fl n D → Desc S → S.length = n → Fl n (D ++ S)
inductive Bk (n : Nat) : List Rw → Prop
  | last (A : List Rw) : Desc A → A.length ≤ n → Bk n A
  | cons (A R : List Rw) : Desc A → A.length = n → Bk n R → Bk n (A ++ R)
theorem Fl.bk {n : Nat} {D : List Rw} (h : Fl n D) : ∀ {T : List Rw}, Bk n T → Bk n (D ++ T) := by
  induction h with
  | nil => exact fun h => h
  | snoc D S _ hd hl ih => exact fun {T} hT => by rw [List.append_assoc]; exact ih (.cons S T hd hl hT)
theorem Bk.desc {n : Nat} {R : List Rw} (h : Bk n R) (hR : R.length ≤ n) : Desc R := by
  cases h with
  | last _ h _ => exact h
  | cons A R hA hl hB =>
    have : R = [] := List.length_eq_zero_iff.1 (by rw [List.length_append] at hR; omega)
    rw [this, List.append_nil]
    exact hA
theorem Bk.un {n : Nat} {R : List Rw} (h : Bk n R) (hR : n < R.length) : ∃ A R', R = A ++ R' ∧ A.length = n ∧ Desc A ∧ Bk n R' := by
  cases h with
  | last _ _ h => omega
  | cons A R hA hl hB => exact ⟨A, R, rfl, hl, hA, hB⟩
theorem Bk.at {n : Nat} {R : List Rw} (h : Bk n R) (hR : n ≤ R.length) : ∃ A R', R = A ++ R' ∧ A.length = n ∧ Desc A ∧ Bk n R' := by
  rcases Nat.eq_or_lt_of_le hR with e | e
  · exact ⟨R, [], (List.append_nil R).symm, e.symm, h.desc (by omega), .last [] .nil (Nat.zero_le _)⟩
  · exact h.un e
set_option maxHeartbeats 4000000 in
theorem stable_w (X : List Rw) (len : Nat) (hlen : X.length = len) (hl : len ≤ 1048576) (hr : ∀ x ∈ X, x.length ≤ 1048576) :
    WriE Tryd.prog 147 [.sl 0 1 0 len, i64 (len : Int), .clo 121 [] []] [some (X.map cI)] (fun S : List Rw => S.Perm X ∧ Desc S) (fun _ => .tup []) (fun S => [some (S.map cI)]) := by
  refine wriREV ok147 rfl ?_; unfold c147
  (repeat first | simp only [go_sem, ↓reduceIte, Nat.reduceEqDiff, Nat.reduceAdd, reduceCtorEq] | with_reducible refine V_W ?_ | (with_reducible refine And.intro ?_ ?_; focus first | assumption | omega | decide | grind) | (with_reducible refine Br.mk ?_ ?_; focus (intros; omega)) | decide)
  refine V_loop (α := List Rw × List Rw) (S := fun q => ([(0, .sl 0 1 0 len), (1, i64 (len : Int)), (2, .clo 121 [] []), (6, i64 20), (7, i64 (q.1.length : Int)), (8, i64 ((q.1.length + 20 : Nat) : Int))], [some ((q.1 ++ q.2).map cI)])) (C := fun q => (q.1 ++ q.2).Perm X ∧ Fl 20 q.1) (μ := fun q => q.2.length) ([], X) ?_ ?_ ?_
  · exact ⟨.refl _, .nil⟩
  · exact Ref.to rfl (by simp [sub, fget])
  rintro ⟨D, R⟩ ⟨h1, h2⟩
  dsimp only at h1 h2 ⊢
  have hDR := h1.length_eq
  rw [List.length_append] at hDR
  have hrD : ∀ x ∈ R, x.length ≤ 1048576 := fun x hx => hr x (h1.subset (List.mem_append_right _ hx))
  (repeat first | simp only [go_sem, ↓reduceIte, Nat.reduceEqDiff, Nat.reduceAdd, reduceCtorEq] | with_reducible refine V_W ?_ | (with_reducible refine And.intro ?_ ?_; focus first | assumption | omega | decide | grind) | (with_reducible refine Br.mk ?_ ?_; focus (intros; omega)) | decide)
  refine ⟨fun hc => ?_, fun hc => ?_⟩
  · have hlt : (R.take 20).length = 20 := by rw [List.length_take]; omega
    have hld : (R.drop 20).length = R.length - 20 := List.length_drop
    have hi := insSort_w D (R.take 20) (R.drop 20) D.length (D.length + 20) len rfl (by omega) (by omega) (by omega) (fun x hx => hrD x (List.mem_of_mem_take hx))
    rw [List.take_append_drop] at hi
    (repeat first | simp only [go_sem, ↓reduceIte, Nat.reduceEqDiff, Nat.reduceAdd, reduceCtorEq] | with_reducible refine V_W ?_ | (with_reducible refine And.intro ?_ ?_; focus first | assumption | omega | decide | grind) | (with_reducible refine Br.mk ?_ ?_; focus (intros; omega)) | decide)
    refine wriEF (hi) [0] (by first | rfl | simp) (by simp only [go_sem, ↓reduceIte, Nat.reduceEqDiff, Nat.reduceAdd, reduceCtorEq] <;> rfl) (by simp only [go_sem, ↓reduceIte, Nat.reduceEqDiff, Nat.reduceAdd, reduceCtorEq] <;> rfl) fun o ho => ?_
    (repeat first | simp only [go_sem, ↓reduceIte, Nat.reduceEqDiff, Nat.reduceAdd, reduceCtorEq] | with_reducible refine V_W ?_ | (with_reducible refine And.intro ?_ ?_; focus first | assumption | omega | decide | grind) | (with_reducible refine Br.mk ?_ ?_; focus (intros; omega)) | decide)
    obtain ⟨p1, d1⟩ := ho
    have hol : o.length = 20 := by rw [p1.length_eq, hlt]
    refine ⟨(D ++ o, R.drop 20), ⟨?_, h2.snoc D o d1 hol⟩, by simp only; omega, ?_⟩
    · refine List.Perm.trans ?_ h1
      rw [List.append_assoc]
      refine List.Perm.append_left D ?_
      refine (List.Perm.append_right _ p1).trans ?_
      rw [List.take_append_drop]
    · exact Ref.to (by simp) (by simp [sub, fget, hol])
  · have hi := insSort_w D R [] D.length len len rfl (by omega) (by simp; omega) (by omega) hrD
    simp only [List.append_nil] at hi
    (repeat first | simp only [go_sem, ↓reduceIte, Nat.reduceEqDiff, Nat.reduceAdd, reduceCtorEq] | with_reducible refine V_W ?_ | (with_reducible refine And.intro ?_ ?_; focus first | assumption | omega | decide | grind) | (with_reducible refine Br.mk ?_ ?_; focus (intros; omega)) | decide)
    refine wriEF (hi) [0] (by first | rfl | simp) (by simp only [go_sem, ↓reduceIte, Nat.reduceEqDiff, Nat.reduceAdd, reduceCtorEq] <;> rfl) (by simp only [go_sem, ↓reduceIte, Nat.reduceEqDiff, Nat.reduceAdd, reduceCtorEq] <;> rfl) fun o ho => ?_
    (repeat first | simp only [go_sem, ↓reduceIte, Nat.reduceEqDiff, Nat.reduceAdd, reduceCtorEq] | with_reducible refine V_W ?_ | (with_reducible refine And.intro ?_ ?_; focus first | assumption | omega | decide | grind) | (with_reducible refine Br.mk ?_ ?_; focus (intros; omega)) | decide)
    obtain ⟨p1, d1⟩ := ho
    have hol := p1.length_eq
    have hb0 : Bk 20 (D ++ o) := h2.bk (.last o d1 (by omega))
    have hp0 : (D ++ o).Perm X := (List.Perm.append_left D p1).trans h1
    refine V_loop (α := List Rw × Nat) (S := fun q => ([(0, .sl 0 1 0 len), (1, i64 (len : Int)), (2, .clo 121 [] []), (6, i64 (q.2 : Int))], [some (q.1.map cI)])) (C := fun q => q.1.Perm X ∧ Bk q.2 q.1 ∧ 1 ≤ q.2 ∧ q.2 ≤ 2 * len + 20) (μ := fun q => len - q.2) (D ++ o, 20) ⟨hp0, hb0, by simp only; omega, by simp only; omega⟩ ?_ ?_
    · exact Ref.to rfl (by simp [sub, fget])
    rintro ⟨L, bs⟩ ⟨k1, k2, k3, k4⟩
    dsimp only at k1 k2 k3 k4 ⊢
    have hLl := k1.length_eq
    (repeat first | simp only [go_sem, ↓reduceIte, Nat.reduceEqDiff, Nat.reduceAdd, reduceCtorEq] | with_reducible refine V_W ?_ | (with_reducible refine And.intro ?_ ?_; focus first | assumption | omega | decide | grind) | (with_reducible refine Br.mk ?_ ?_; focus (intros; omega)) | decide)
    refine ⟨fun hc2 => ?_, fun hc2 => ?_⟩
    · (repeat first | simp only [go_sem, ↓reduceIte, Nat.reduceEqDiff, Nat.reduceAdd, reduceCtorEq] | with_reducible refine V_W ?_ | (with_reducible refine And.intro ?_ ?_; focus first | assumption | omega | decide | grind) | (with_reducible refine Br.mk ?_ ?_; focus (intros; omega)) | decide)
      refine V_loop (α := List Rw × List Rw) (S := fun q => ([(0, .sl 0 1 0 len), (1, i64 (len : Int)), (2, .clo 121 [] []), (6, i64 (bs : Int)), (7, i64 (q.1.length : Int)), (8, i64 ((q.1.length + 2 * bs : Nat) : Int))], [some ((q.1 ++ q.2).map cI)])) (C := fun q => (q.1 ++ q.2).Perm X ∧ Fl (2 * bs) q.1 ∧ Bk bs q.2) (μ := fun q => q.2.length) ([], L) ⟨k1, .nil, k2⟩ ?_ ?_
      · exact Ref.to rfl (by simp [sub, fget])
      rintro ⟨D, R⟩ ⟨j1, j2, j3⟩
      dsimp only at j1 j2 j3 ⊢
      have hDR2 := j1.length_eq
      rw [List.length_append] at hDR2
      (repeat first | simp only [go_sem, ↓reduceIte, Nat.reduceEqDiff, Nat.reduceAdd, reduceCtorEq] | with_reducible refine V_W ?_ | (with_reducible refine And.intro ?_ ?_; focus first | assumption | omega | decide | grind) | (with_reducible refine Br.mk ?_ ?_; focus (intros; omega)) | decide)
      refine ⟨fun hc3 => ?_, fun hc3 => ?_⟩
      · obtain ⟨A, R1, rfl, hA1, hA2, hB1⟩ := j3.at (by omega)
        rw [List.length_append] at hDR2
        obtain ⟨B, R2, rfl, hB2, hB3, hB4⟩ := hB1.at (by omega)
        rw [List.length_append] at hDR2
        have hm := symMerge_w (A.length + B.length) D A B R2 D.length (D.length + bs) (D.length + 2 * bs) len (by omega) (by omega) (Nat.le_refl _) hA2 hB3 rfl (by omega) (by omega) (by omega) (by omega) (fun x hx => hr x (j1.subset (List.mem_append_right _ (by
          rcases List.mem_append.1 hx with h | h
          · exact List.mem_append_left _ h
          · exact List.mem_append_right _ (List.mem_append_left _ h)))))
        obtain ⟨L3, hL3⟩ : ∃ L3, L3 = D ++ (A ++ (B ++ R2)) := ⟨_, rfl⟩
        rw [← hL3] at hm ⊢
        have e3 : (D.length : Int) + (bs : Int) = ((D.length + bs : Nat) : Int) := by omega
        (repeat first | simp only [go_sem, ↓reduceIte, Nat.reduceEqDiff, Nat.reduceAdd, reduceCtorEq] | with_reducible refine V_W ?_ | (with_reducible refine And.intro ?_ ?_; focus first | assumption | omega | decide | grind) | (with_reducible refine Br.mk ?_ ?_; focus (intros; omega)) | decide)
        simp only [e3, go_sem, ↓reduceIte, Nat.reduceEqDiff, Nat.reduceAdd, reduceCtorEq]
        refine wriEF (hm) [0] (by first | rfl | simp) (by simp only [go_sem, ↓reduceIte, Nat.reduceEqDiff, Nat.reduceAdd, reduceCtorEq] <;> rfl) (by simp only [go_sem, ↓reduceIte, Nat.reduceEqDiff, Nat.reduceAdd, reduceCtorEq] <;> rfl) fun o ho => ?_
        (repeat first | simp only [go_sem, ↓reduceIte, Nat.reduceEqDiff, Nat.reduceAdd, reduceCtorEq] | with_reducible refine V_W ?_ | (with_reducible refine And.intro ?_ ?_; focus first | assumption | omega | decide | grind) | (with_reducible refine Br.mk ?_ ?_; focus (intros; omega)) | decide)
        obtain ⟨p2, d2⟩ := ho
        have hol2 : o.length = 2 * bs := by rw [p2.length_eq, List.length_append]; omega
        refine ⟨(D ++ o, R2), ⟨?_, j2.snoc D o d2 hol2, hB4⟩, by simp only [List.length_append]; omega, ?_⟩
        · refine List.Perm.trans ?_ j1
          rw [List.append_assoc]
          refine List.Perm.append_left D ?_
          refine (List.Perm.append_right _ p2).trans ?_
          rw [List.append_assoc]
        · exact Ref.to (by simp) (by simp [sub, fget, hol2]; try omega)
      · (repeat first | simp only [go_sem, ↓reduceIte, Nat.reduceEqDiff, Nat.reduceAdd, reduceCtorEq] | with_reducible refine V_W ?_ | (with_reducible refine And.intro ?_ ?_; focus first | assumption | omega | decide | grind) | (with_reducible refine Br.mk ?_ ?_; focus (intros; omega)) | decide)
        refine ⟨fun hc4 => ?_, fun hc4 => ?_⟩
        · obtain ⟨A, B, rfl, hA1, hA2, hB1⟩ := j3.un (by omega)
          rw [List.length_append] at hDR2
          have hB2 := hB1.desc (by omega)
          have hm := symMerge_w (A.length + B.length) D A B [] D.length (D.length + bs) len len (by omega) (by omega) (Nat.le_refl _) hA2 hB2 rfl (by omega) (by omega) (by simp) (by omega) (fun x hx => hr x (j1.subset (List.mem_append_right _ hx)))
          simp only [List.append_nil] at hm
          obtain ⟨L3, hL3⟩ : ∃ L3, L3 = D ++ (A ++ B) := ⟨_, rfl⟩
          rw [← hL3] at hm ⊢
          have e3 : (D.length : Int) + (bs : Int) = ((D.length + bs : Nat) : Int) := by omega
          simp only [e3, go_sem, ↓reduceIte, Nat.reduceEqDiff, Nat.reduceAdd, reduceCtorEq]
          refine wriEF (hm) [0] (by first | rfl | simp) (by simp only [go_sem, ↓reduceIte, Nat.reduceEqDiff, Nat.reduceAdd, reduceCtorEq] <;> rfl) (by simp only [go_sem, ↓reduceIte, Nat.reduceEqDiff, Nat.reduceAdd, reduceCtorEq] <;> rfl) fun o ho => ?_
          (repeat first | simp only [go_sem, ↓reduceIte, Nat.reduceEqDiff, Nat.reduceAdd, reduceCtorEq] | with_reducible refine V_W ?_ | (with_reducible refine And.intro ?_ ?_; focus first | assumption | omega | decide | grind) | (with_reducible refine Br.mk ?_ ?_; focus (intros; omega)) | decide)
          obtain ⟨p2, d2⟩ := ho
          have hol2 : o.length ≤ 2 * bs := by rw [p2.length_eq, List.length_append]; omega
          refine ⟨(D ++ o, bs * 2), ⟨(List.Perm.append_left D p2).trans j1, ?_, by simp only; omega, by simp only; omega⟩, by simp only; omega, ?_⟩
          · show Bk (bs * 2) (D ++ o)
            rw [Nat.mul_comm]
            exact j2.bk (.last o d2 hol2)
          · exact Ref.to (by simp) (by simp [sub, fget])
        · have hd := j3.desc (by omega)
          (repeat first | simp only [go_sem, ↓reduceIte, Nat.reduceEqDiff, Nat.reduceAdd, reduceCtorEq] | with_reducible refine V_W ?_ | (with_reducible refine And.intro ?_ ?_; focus first | assumption | omega | decide | grind) | (with_reducible refine Br.mk ?_ ?_; focus (intros; omega)) | decide)
          refine ⟨(D ++ R, bs * 2), ⟨j1, ?_, by simp only; omega, by simp only; omega⟩, by simp only; omega, ?_⟩
          · show Bk (bs * 2) (D ++ R)
            rw [Nat.mul_comm]
            exact j2.bk (.last R hd (by omega))
          · exact Ref.to (by simp) (by simp [sub, fget])
    · (repeat first | simp only [go_sem, ↓reduceIte, Nat.reduceEqDiff, Nat.reduceAdd, reduceCtorEq] | with_reducible refine V_W ?_ | (with_reducible refine And.intro ?_ ?_; focus first | assumption | omega | decide | grind) | (with_reducible refine Br.mk ?_ ?_; focus (intros; omega)) | decide)
      exact ⟨L, ⟨k1, k2.desc (by omega)⟩, Ref.to rfl (by simp [sub, fget])⟩
theorem sortStable_i (X : List Rw) (hl : X.length ≤ 1048576) (hr : ∀ x ∈ X, x.length ≤ 1048576) :
    WriE Tryd.prog 120 [.sl 0 1 0 X.length, .clo 121 [] []] [some (X.map cI)] (fun S : List Rw => S.Perm X ∧ Desc S) (fun _ => .tup []) (fun S => [some (S.map cI)]) := by
  have h := stable_w X X.length rfl hl hr
  refine wriREV ok120 rfl ?_; unfold c120
  (repeat first | simp only [go_sem, ↓reduceIte, Nat.reduceEqDiff, Nat.reduceAdd, reduceCtorEq] | with_reducible refine V_W ?_ | (with_reducible refine And.intro ?_ ?_; focus first | assumption | omega | decide | grind) | (with_reducible refine Br.mk ?_ ?_; focus (intros; omega)) | decide)
  refine wriEF (h) [0] (by first | rfl | simp) (by simp only [go_sem, ↓reduceIte, Nat.reduceEqDiff, Nat.reduceAdd, reduceCtorEq] <;> rfl) (by simp only [go_sem, ↓reduceIte, Nat.reduceEqDiff, Nat.reduceAdd, reduceCtorEq] <;> rfl) fun o ho => ?_
  (repeat first | simp only [go_sem, ↓reduceIte, Nat.reduceEqDiff, Nat.reduceAdd, reduceCtorEq] | with_reducible refine V_W ?_ | (with_reducible refine And.intro ?_ ?_; focus first | assumption | omega | decide | grind) | (with_reducible refine Br.mk ?_ ?_; focus (intros; omega)) | decide)
  exact ⟨o, ho, Ref.to rfl (by simp [sub, fget])⟩
end Go.Proofs.YtghhlcioabdpfaaDoor
