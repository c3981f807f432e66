/- The numbers of the orbits: the rule's walk. -/
import Derived.Test.YtkolabjcmephaaaOl
set_option linter.unusedSimpArgs false
set_option linter.unusedVariables false
set_option maxRecDepth 100000
namespace Go.Proofs.Ytkolabjcmephaaa
open Go.Gov
open Classical

theorem OrbI.popH {L : List (List Int)} {n i : Nat} {V O : List Nat} {x : Nat} (h : OrbI L n i V (x :: O) none) : OrbI L n i V O (some (x, 0)) :=
  ⟨h.nd, h.start, h.reach, fun y hy => h.wait y (by simp [hy]), fun y hy hno hx => h.done y hy (by simp [hno, hx (x, 0) rfl]) (fun q hq => by cases hq), fun q hq => by
    cases hq
    exact ⟨h.wait x (by simp), fun j hj => absurd hj (by omega)⟩, by have := h.short; simp at this; omega⟩

noncomputable def seenV (m : Nat) (V : List Nat) : List Bool := (List.range m).map fun (x : Nat) => decide (x ∈ V)
theorem seenV_len (m : Nat) (V : List Nat) : (seenV m V).length = m := by simp [seenV]
theorem seenV_nil (m : Nat) : List.replicate m false = seenV m [] := List.ext_getElem (by simp [seenV]) fun j h1 h2 => by simp [seenV]
theorem seenV_at {m : Nat} {V : List Nat} {x : Nat} (h : x < m) : (seenV m V).getD x false = decide (x ∈ V) := by simp [seenV, h]
theorem seenV_set {m : Nat} {V : List Nat} {x : Nat} : (seenV m V).set x true = seenV m (V ++ [x]) := by
  refine List.ext_getElem (by simp [seenV]) fun j h1 h2 => ?_
  by_cases e : x = j
  · subst e; simp [seenV]
  · rw [List.getElem_set_ne e]
    simp [seenV, show ¬ j = x from fun h => e h.symm]

set_option maxHeartbeats 4000000 in
theorem l01Orbit_c (n : Nat) (L : List (List Int)) (pt : Nat) (hL : MvOk n L) (hp : pt < n) (hn : n ≤ 1048576) (hl : L.length ≤ 1048576) : PureE Try.prog 97 [mat L, i64 pt] (fun V : List Nat => V.Nodup ∧ ∀ j, j ∈ V ↔ Rch L pt j) (fun V => .sl 0 1 0 V.length) (fun V => [some (intsC (nz V))]) := by
  refine pureEV [0] ok97 rfl ?_; unfold c97
  (repeat first | simp only [go_sem, ↓reduceIte, Nat.reduceEqDiff, Nat.reduceAdd, reduceCtorEq] | (with_reducible refine And.intro ?_ ?_; focus first | omega | decide | grind) | (with_reducible refine Br.mk ?_ ?_; focus (intros; omega)) | decide)
  have hI0 : OrbI L n pt [pt] [pt] none := ⟨by simp, by simp, fun y hy => by simp at hy; subst hy; exact ⟨hp, .refl⟩, fun y hy => hy, fun y hy hno => absurd hy hno, fun q hq => (by cases hq), by simp⟩
  refine ⟨fun hcl => ?_, fun hcl => ?_⟩
  · have hl0 : (L.getD (Int.toNat 0) []).length = n := (hL _ (row_mem (k := 0) (by omega))).1
    have hLne : L ≠ [] := by intro h; subst h; simp at hcl
    have hm : (((n : Nat) : Int) + (pt : Int) + 1).toNat = n + pt + 1 := by omega
    · (repeat first | simp only [go_sem, ↓reduceIte, Nat.reduceEqDiff, Nat.reduceAdd, reduceCtorEq] | (with_reducible refine And.intro ?_ ?_; focus first | omega | decide | grind) | (with_reducible refine Br.mk ?_ ?_; focus (intros; omega)) | decide)
      simp only [hl0, hm, go_sem, ↓reduceIte, Nat.reduceEqDiff, Nat.reduceAdd, reduceCtorEq]
      (repeat first | simp only [go_sem, ↓reduceIte, Nat.reduceEqDiff, Nat.reduceAdd, reduceCtorEq] | (with_reducible refine And.intro ?_ ?_; focus first | omega | decide | grind) | (with_reducible refine Br.mk ?_ ?_; focus (intros; omega)) | decide)
      rw [seenV_nil, seenV_set]
      simp only [List.nil_append]
      refine V_loop (α := Nat × List Nat) (S := fun p => ([(0, mat L), (5, .sl 0 1 0 p.2.length), (7, .sl 1 1 0 (n + pt + 1)), (8, i64 p.1)], [some (intsC (nz p.2)), some (boolsC (seenV (n + pt + 1) p.2))])) (C := fun p => p.1 ≤ p.2.length ∧ OrbI L n pt p.2 (p.2.drop p.1) none ∧ (L = [] → p.2 = [pt])) (μ := fun p => n + 1 - p.1) (0, [pt]) ⟨Nat.zero_le _, hI0, fun _ => rfl⟩ (Ref.to (by simp [nz, intsC]) (by simp [sub, fget])) ?_
      rintro ⟨q, V⟩ ⟨hq, hI, hLe⟩
      dsimp only at hq hI hLe
      have hnzl := nz_len V
      have hVn := nodup_len hI.nd fun y hy => (hI.reach y hy).1
      (repeat first | simp only [go_sem, ↓reduceIte, Nat.reduceEqDiff, Nat.reduceAdd, reduceCtorEq] | (with_reducible refine And.intro ?_ ?_; focus first | omega | decide | grind) | (with_reducible refine Br.mk ?_ ?_; focus (intros; omega)) | decide)
      refine ⟨fun hc2 => ?_, fun hc2 => ?_⟩
      · have hq' : q < V.length := by omega
        have hdr : V.drop q = V[q] :: V.drop (q + 1) := List.drop_eq_getElem_cons hq'
        rw [hdr] at hI
        have hpop := hI.popH
        have hxV : V[q] ∈ V := List.getElem_mem _
        obtain ⟨hxn, hxr⟩ := hI.reach _ hxV
        generalize hx : V[q] = x at hpop hxV hxn hxr
        have hxat : ∀ W : List Nat, (nz (V ++ W)).getD q 0 = (x : Int) := fun W => by simp [nz, hq', List.getElem?_append_left, hx]
        (repeat first | simp only [go_sem, ↓reduceIte, Nat.reduceEqDiff, Nat.reduceAdd, reduceCtorEq] | (with_reducible refine And.intro ?_ ?_; focus first | omega | decide | grind) | (with_reducible refine Br.mk ?_ ?_; focus (intros; omega)) | decide)
        refine V_loop (α := Nat × List Nat) (S := fun p => ([(0, mat L), (5, .sl 0 1 0 (V ++ p.2).length), (7, .sl 1 1 0 (n + pt + 1)), (8, i64 q), (9, i64 p.1)], [some (intsC (nz (V ++ p.2))), some (boolsC (seenV (n + pt + 1) (V ++ p.2)))])) (C := fun p => p.1 ≤ L.length ∧ OrbI L n pt (V ++ p.2) (V.drop (q + 1) ++ p.2) (some (x, p.1)) ∧ (L = [] → p.2 = [])) (μ := fun p => L.length - p.1) (0, []) ⟨Nat.zero_le _, by simpa using hpop, fun _ => rfl⟩ (Ref.to (by simp) (by simp [sub, fget])) ?_
        rintro ⟨k, W⟩ ⟨hk, hI2, hLe2⟩
        dsimp only at hk hI2 hLe2
        have hnzl2 := nz_len (V ++ W)
        have hat1 := hxat W
        have hVn2 := nodup_len hI2.nd fun y hy => (hI2.reach y hy).1
        have hsl := seenV_len (n + pt + 1) (V ++ W)
        have hVW : (V ++ W).length = V.length + W.length := List.length_append
        (repeat first | simp only [go_sem, ↓reduceIte, Nat.reduceEqDiff, Nat.reduceAdd, reduceCtorEq] | (with_reducible refine And.intro ?_ ?_; focus first | omega | decide | grind) | (with_reducible refine Br.mk ?_ ?_; focus (intros; omega)) | decide)
        refine ⟨fun hc3 => ?_, fun hc3 => ?_⟩
        · have hrm := row_mem (L := L) (k := k) (by omega)
          obtain ⟨hrl, hrb⟩ := hL _ hrm
          obtain ⟨y1, y2, _⟩ := hrb x hxn
          have hyr := hxr.step hrm
          have hym : ((L.getD k []).getD x 0).toNat < n + pt + 1 := by omega
          have hat3 := seenV_at (m := n + pt + 1) (V := V ++ W) hym
          generalize hZ : V ++ W = Z at hnzl2 hat1 hVn2 hsl hI2 hat3 hVW ⊢
          have hxi : (((x : Nat) : Int)).toNat = x := by omega
          (repeat first | simp only [go_sem, ↓reduceIte, Nat.reduceEqDiff, Nat.reduceAdd, reduceCtorEq] | (with_reducible refine And.intro ?_ ?_; focus first | omega | decide | grind) | (with_reducible refine Br.mk ?_ ?_; focus (intros; omega)) | decide)
          simp only [hat1, hxi, go_sem, ↓reduceIte, Nat.reduceEqDiff, Nat.reduceAdd, reduceCtorEq]
          (repeat first | simp only [go_sem, ↓reduceIte, Nat.reduceEqDiff, Nat.reduceAdd, reduceCtorEq] | (with_reducible refine And.intro ?_ ?_; focus first | omega | decide | grind) | (with_reducible refine Br.mk ?_ ?_; focus (intros; omega)) | decide)
          refine ⟨fun hc4 => ?_, fun hc4 => ?_⟩
          · have hno : ((L.getD k []).getD x 0).toNat ∉ Z := by
              intro hm'
              rw [hat3, decide_eq_true hm'] at hc4
              cases hc4
            have hadd := hI2.add hno (by omega) hyr
            have hst := seenV_set (m := n + pt + 1) (V := Z) (x := ((L.getD k []).getD x 0).toNat)
            have hy3 : ((((L.getD k []).getD x 0).toNat : Nat) : Int) = (L.getD k []).getD x 0 := by omega
            (repeat first | simp only [go_sem, ↓reduceIte, Nat.reduceEqDiff, Nat.reduceAdd, reduceCtorEq] | (with_reducible refine And.intro ?_ ?_; focus first | omega | decide | grind) | (with_reducible refine Br.mk ?_ ?_; focus (intros; omega)) | decide)
            refine ⟨(k + 1, W ++ [((L.getD k []).getD x 0).toNat]), ⟨by dsimp only; omega, ?_, fun h => absurd h (by intro h; subst h; simp at hc3; omega)⟩, by dsimp only; omega, ?_⟩
            · dsimp only
              rw [← List.append_assoc, ← List.append_assoc, hZ]
              exact hadd
            · dsimp only
              rw [← List.append_assoc, hZ, ← hst, nz_snoc, hy3]
              refine Ref.gc [3, 1] rfl ?_ (by simp [sub, fget, go_sem, ↓reduceIte, Nat.reduceEqDiff, Nat.reduceAdd, reduceCtorEq, Nat.add_assoc])
              have hVW' : V.length + W.length = (nz Z).length := by omega
              (try simp only [go_sem, ↓reduceIte, Nat.reduceEqDiff, Nat.reduceAdd, reduceCtorEq, hVW', take_lenI, one_intsC, app_intsC])
          · have hin : ((L.getD k []).getD x 0).toNat ∈ Z := by
              rcases Classical.em (((L.getD k []).getD x 0).toNat ∈ Z) with h | h
              · exact h
              · rw [hat3, decide_eq_false h] at hc4; cases hc4
            (repeat first | simp only [go_sem, ↓reduceIte, Nat.reduceEqDiff, Nat.reduceAdd, reduceCtorEq] | (with_reducible refine And.intro ?_ ?_; focus first | omega | decide | grind) | (with_reducible refine Br.mk ?_ ?_; focus (intros; omega)) | decide)
            refine ⟨(k + 1, W), ⟨by dsimp only; omega, ?_, hLe2⟩, by dsimp only; omega, ?_⟩
            · dsimp only
              rw [hZ]
              exact hI2.skip hin
            · dsimp only
              rw [hZ]
              exact Ref.frame (by simp [sub, fget])
        · obtain rfl : k = L.length := by omega
          (repeat first | simp only [go_sem, ↓reduceIte, Nat.reduceEqDiff, Nat.reduceAdd, reduceCtorEq] | (with_reducible refine And.intro ?_ ?_; focus first | omega | decide | grind) | (with_reducible refine Br.mk ?_ ?_; focus (intros; omega)) | decide)
          refine ⟨(q + 1, V ++ W), ⟨by dsimp only; omega, ?_, fun h => by rw [hLe h, hLe2 h]; rfl⟩, by dsimp only; omega, by exact Ref.frame (by simp [sub, fget])⟩
          dsimp only
          rw [List.drop_append_of_le_length (by omega)]
          exact hI2.fin
      · obtain rfl : q = V.length := by omega
        rw [List.drop_length] at hI
        (repeat first | simp only [go_sem, ↓reduceIte, Nat.reduceEqDiff, Nat.reduceAdd, reduceCtorEq] | (with_reducible refine And.intro ?_ ?_; focus first | omega | decide | grind) | (with_reducible refine Br.mk ?_ ?_; focus (intros; omega)) | decide)
        refine ⟨V, ⟨hI.nd, fun j => ⟨fun h => (hI.reach j h).2, closed_all hI.start (fun y hy => hI.done y hy (by simp) (fun q hq => by cases hq)) j⟩⟩, ?_, ?_⟩
        · simp only [go_sem, ↓reduceIte, Nat.reduceEqDiff, Nat.reduceAdd, reduceCtorEq]
        · simp only [go_sem, ↓reduceIte, Nat.reduceEqDiff, Nat.reduceAdd, reduceCtorEq]
  · have hLe : L = [] := by cases L with | nil => rfl | cons a b => exact absurd hcl (by simp; try omega)
    have hL0 : L.length = 0 := by rw [hLe]; rfl
    have hm : ((0 : Int) + (pt : Int) + 1).toNat = pt + 1 := by omega
    · (repeat first | simp only [go_sem, ↓reduceIte, Nat.reduceEqDiff, Nat.reduceAdd, reduceCtorEq] | (with_reducible refine And.intro ?_ ?_; focus first | omega | decide | grind) | (with_reducible refine Br.mk ?_ ?_; focus (intros; omega)) | decide)
      simp only [hm, go_sem, ↓reduceIte, Nat.reduceEqDiff, Nat.reduceAdd, reduceCtorEq]
      (repeat first | simp only [go_sem, ↓reduceIte, Nat.reduceEqDiff, Nat.reduceAdd, reduceCtorEq] | (with_reducible refine And.intro ?_ ?_; focus first | omega | decide | grind) | (with_reducible refine Br.mk ?_ ?_; focus (intros; omega)) | decide)
      rw [seenV_nil, seenV_set]
      simp only [List.nil_append]
      refine V_loop (α := Nat × List Nat) (S := fun p => ([(0, mat L), (5, .sl 0 1 0 p.2.length), (7, .sl 1 1 0 (pt + 1)), (8, i64 p.1)], [some (intsC (nz p.2)), some (boolsC (seenV (pt + 1) p.2))])) (C := fun p => p.1 ≤ p.2.length ∧ OrbI L n pt p.2 (p.2.drop p.1) none ∧ (L = [] → p.2 = [pt])) (μ := fun p => n + 1 - p.1) (0, [pt]) ⟨Nat.zero_le _, hI0, fun _ => rfl⟩ (Ref.to (by simp [nz, intsC]) (by simp [sub, fget])) ?_
      rintro ⟨q, V⟩ ⟨hq, hI, hLe1⟩
      dsimp only at hq hI hLe1
      have hnzl := nz_len V
      have hVn := nodup_len hI.nd fun y hy => (hI.reach y hy).1
      (repeat first | simp only [go_sem, ↓reduceIte, Nat.reduceEqDiff, Nat.reduceAdd, reduceCtorEq] | (with_reducible refine And.intro ?_ ?_; focus first | omega | decide | grind) | (with_reducible refine Br.mk ?_ ?_; focus (intros; omega)) | decide)
      refine ⟨fun hc2 => ?_, fun hc2 => ?_⟩
      · have hq' : q < V.length := by omega
        have hdr : V.drop q = V[q] :: V.drop (q + 1) := List.drop_eq_getElem_cons hq'
        rw [hdr] at hI
        have hpop := hI.popH
        have hxV : V[q] ∈ V := List.getElem_mem _
        obtain ⟨hxn, hxr⟩ := hI.reach _ hxV
        generalize hx : V[q] = x at hpop hxV hxn hxr
        have hxat : ∀ W : List Nat, (nz (V ++ W)).getD q 0 = (x : Int) := fun W => by simp [nz, hq', List.getElem?_append_left, hx]
        (repeat first | simp only [go_sem, ↓reduceIte, Nat.reduceEqDiff, Nat.reduceAdd, reduceCtorEq] | (with_reducible refine And.intro ?_ ?_; focus first | omega | decide | grind) | (with_reducible refine Br.mk ?_ ?_; focus (intros; omega)) | decide)
        refine V_loop (α := Nat × List Nat) (S := fun p => ([(0, mat L), (5, .sl 0 1 0 (V ++ p.2).length), (7, .sl 1 1 0 (pt + 1)), (8, i64 q), (9, i64 p.1)], [some (intsC (nz (V ++ p.2))), some (boolsC (seenV (pt + 1) (V ++ p.2)))])) (C := fun p => p.1 ≤ L.length ∧ OrbI L n pt (V ++ p.2) (V.drop (q + 1) ++ p.2) (some (x, p.1)) ∧ (L = [] → p.2 = [])) (μ := fun p => L.length - p.1) (0, []) ⟨Nat.zero_le _, by simpa using hpop, fun _ => rfl⟩ (Ref.to (by simp) (by simp [sub, fget])) ?_
        rintro ⟨k, W⟩ ⟨hk, hI2, hLe2⟩
        dsimp only at hk hI2 hLe2
        have hnzl2 := nz_len (V ++ W)
        have hat1 := hxat W
        have hVn2 := nodup_len hI2.nd fun y hy => (hI2.reach y hy).1
        have hsl := seenV_len (pt + 1) (V ++ W)
        have hVW : (V ++ W).length = V.length + W.length := List.length_append
        (repeat first | simp only [go_sem, ↓reduceIte, Nat.reduceEqDiff, Nat.reduceAdd, reduceCtorEq] | (with_reducible refine And.intro ?_ ?_; focus first | omega | decide | grind) | (with_reducible refine Br.mk ?_ ?_; focus (intros; omega)) | decide)
        intro hc3
        · obtain rfl : k = L.length := by omega
          (repeat first | simp only [go_sem, ↓reduceIte, Nat.reduceEqDiff, Nat.reduceAdd, reduceCtorEq] | (with_reducible refine And.intro ?_ ?_; focus first | omega | decide | grind) | (with_reducible refine Br.mk ?_ ?_; focus (intros; omega)) | decide)
          refine ⟨(q + 1, V ++ W), ⟨by dsimp only; omega, ?_, fun h => by rw [hLe1 h, hLe2 h]; rfl⟩, by dsimp only; omega, by exact Ref.frame (by simp [sub, fget])⟩
          dsimp only
          rw [List.drop_append_of_le_length (by omega)]
          exact hI2.fin
      · obtain rfl : q = V.length := by omega
        rw [List.drop_length] at hI
        (repeat first | simp only [go_sem, ↓reduceIte, Nat.reduceEqDiff, Nat.reduceAdd, reduceCtorEq] | (with_reducible refine And.intro ?_ ?_; focus first | omega | decide | grind) | (with_reducible refine Br.mk ?_ ?_; focus (intros; omega)) | decide)
        refine ⟨V, ⟨hI.nd, fun j => ⟨fun h => (hI.reach j h).2, closed_all hI.start (fun y hy => hI.done y hy (by simp) (fun q hq => by cases hq)) j⟩⟩, ?_, ?_⟩
        · simp only [go_sem, ↓reduceIte, Nat.reduceEqDiff, Nat.reduceAdd, reduceCtorEq]
        · simp only [go_sem, ↓reduceIte, Nat.reduceEqDiff, Nat.reduceAdd, reduceCtorEq]

end Go.Proofs.Ytkolabjcmephaaa
