/- Texts that belong together. -/
import Derived.Test.YtcmahhfjpgoceaaGreatR7
import Derived.Test.YtcmahhfjpgoceaaGreatRg
set_option linter.unusedSimpArgs false
set_option linter.unusedVariables false
set_option maxRecDepth 100000
namespace Go.Proofs.YtcmahhfjpgoceaaGreat
open Go.Gov
open Classical

theorem getD_ext {α : Type} {a b : List α} {d : α} (hl : a.length = b.length) (h : ∀ m, m < a.length → a.getD m d = b.getD m d) : a = b := List.ext_getElem hl fun m h1 h2 => by
  have := h m h1
  simpa [h1, h2] using this
def Td (T : List (List Tg)) : Prop := T.length ≤ 6 ∧ ∀ xs ∈ T, xs.length = 3
theorem Td.of {T : List (List Tg)} (h : IsTpl T) (h6 : T.length ≤ 6) : Td T := ⟨h6, fun xs hx => by
  obtain ⟨k, hk, rfl⟩ := List.mem_iff_getElem.1 hx
  have := h.len k hk
  rwa [show T.getD k [] = T[k] by simp [hk]] at this⟩
theorem spl_row {R : List Tg} (h : R.length = 3) {i : Nat} (hi : i < 3) (p m : Int) : splice (intsC (flt R)) (i * 2) [i64 p, i64 m] = intsC (flt (R.set i (p, m))) := by
  match R, h with
  | [a, b, c], _ =>
    match i, hi with
    | 0, _ => rfl
    | 1, _ => rfl
    | 2, _ => rfl
theorem names_op : ∀ k, k < 12 → (((([100, 97, 116, 99, 98, 101, 106, 107, 109, 110, 111, 122] : List UInt8).getD k 0).toNat : Nat) : Int) ∈ opL := by decide
set_option maxHeartbeats 4000000 in
theorem l14DrawTemplate_w (bs : List Int) (hb : Byt bs) (a : Nat) (h : Int) (hs : a ≤ bs.length) :
    WriE Tryz.prog 69 [.ref 0 0] [some (srcC bs a h)] (fun o : Nat × Int × List (List Tg) => o.1 ≤ bs.length ∧ Td o.2.2) (fun o => tplA o.2.2) (fun o => [some (srcC bs o.1 o.2.1)]) := by
  refine wriREV ok69 rfl ?_; unfold c69
  refine RN ?_
  refine wriEF (l01Next_w bs hb a h hs 12) [0] (by first | rfl | simp) (by simp only [go_sem, ↓reduceIte, Nat.reduceEqDiff, Nat.reduceAdd, reduceCtorEq] <;> rfl) (by simp only [go_sem, ↓reduceIte, Nat.reduceEqDiff, Nat.reduceAdd, reduceCtorEq] <;> rfl) fun o ho => ?_
  obtain ⟨a1, b1, k⟩ := o
  obtain ⟨h1, h2, h3⟩ := ho
  dsimp only at h1 h2 h3
  obtain ⟨k, rfl⟩ := Int.eq_ofNat_of_zero_le h2
  have hk12 : k < 12 := by omega
  have hop := names_op k hk12
  generalize hnm : ([100, 97, 116, 99, 98, 101, 106, 107, 109, 110, 111, 122] : List UInt8) = nm at *
  have hnl : nm.length = 12 := by rw [← hnm]; rfl
  have hn := l14Named_c _ hop
  obtain ⟨t1, t2, _⟩ := wd_ok _ hop
  generalize wT (wdI ((nm.getD k 0).toNat : Int)) = T at hn t1 t2
  have hTd := Td.of t1 t2
  have hT1 := t1.p1
  refine RN ?_
  refine pureC1 (hn) ?_
  refine RN ?_
  refine wriEF (l01Next_w bs hb a1 b1 h1 12) [0] (by first | rfl | simp) (by simp only [go_sem, ↓reduceIte, Nat.reduceEqDiff, Nat.reduceAdd, reduceCtorEq] <;> rfl) (by simp only [go_sem, ↓reduceIte, Nat.reduceEqDiff, Nat.reduceAdd, reduceCtorEq] <;> rfl) fun o ho => ?_
  obtain ⟨a2, b2, c⟩ := o
  obtain ⟨q1, q2, q3⟩ := ho
  dsimp only at q1 q2 q3
  simp only [go_sem, ↓reduceIte, Nat.reduceEqDiff, Nat.reduceAdd, reduceCtorEq]
  refine W_joinQ (fun o : Nat × Int × List (List Tg) => o.1 ≤ bs.length ∧ Td o.2.2 ∧ 1 ≤ o.2.2.length) (fun o => [(0, .ref 0 0), (2, .ref 1 0), (4, .ref 3 0)]) (fun o => [some (srcC bs o.1 o.2.1), some [nilS], some (o.2.2.map otgs), some [.sl 2 1 0 o.2.2.length]]) ?_ ?_
  · (refine RN ?_; try with_reducible exact trivial)
    refine ⟨fun c0 => ?_, fun c0 => ?_⟩
    · (refine RN ?_; try with_reducible exact trivial)
      refine wriEF (l01Next_w bs hb a2 b2 q1 (T.length : Int)) [0] (by first | rfl | simp) (by simp only [go_sem, ↓reduceIte, Nat.reduceEqDiff, Nat.reduceAdd, reduceCtorEq] <;> rfl) (by simp only [go_sem, ↓reduceIte, Nat.reduceEqDiff, Nat.reduceAdd, reduceCtorEq] <;> rfl) fun o ho => ?_
      obtain ⟨a3, b3, j⟩ := o
      obtain ⟨r1, r2, r3⟩ := ho
      dsimp only at r1 r2 r3
      obtain ⟨j, rfl⟩ := Int.eq_ofNat_of_zero_le r2
      have hjT : j < T.length := by omega
      refine RN ?_
      refine wriEF (l01Next_w bs hb a3 b3 r1 3) [0] (by first | rfl | simp) (by simp only [go_sem, ↓reduceIte, Nat.reduceEqDiff, Nat.reduceAdd, reduceCtorEq] <;> rfl) (by simp only [go_sem, ↓reduceIte, Nat.reduceEqDiff, Nat.reduceAdd, reduceCtorEq] <;> rfl) fun o ho => ?_
      obtain ⟨a4, b4, i⟩ := o
      obtain ⟨u1, u2, u3⟩ := ho
      dsimp only at u1 u2 u3
      obtain ⟨i, rfl⟩ := Int.eq_ofNat_of_zero_le u2
      have hi3 : i < 3 := by omega
      simp only [go_sem, ↓reduceIte, Nat.reduceEqDiff, Nat.reduceAdd, reduceCtorEq]
      have hRl : (T.getD j []).length = 3 := t1.len j hjT
      have hRe : T[j] = T.getD j [] := by simp [hjT]
      generalize hR : T.getD j [] = R at *
      refine W_ref (Ref.open 2 j (cs := T.map otgs) (k := 2) (n := 3) (cs2 := intsC (flt R)) rfl (by simp [hjT, hRe, otgs, hRl])) ?_
      have hCl : ((T.map otgs).set j (.sl 4 2 0 3)).length = T.length := by simp
      have hC : ∀ d : AV, ((T.map otgs).set j (.sl 4 2 0 3)).getD j d = .sl 4 2 0 3 := fun d => by simp [hjT]
      have hback : ∀ y : AV, ((T.map otgs).set j (.sl 4 2 0 3)).set j y = (T.map otgs).set j y := fun y => by simp
      have hrb : ∀ (τ : Nat → Option Nat) (y : AV), (rnmL τ ((T.map otgs).set j (.sl 4 2 0 3))).set j y = (T.map otgs).set j y := fun τ y => by
        rw [rnmL_map, List.map_set, ← rnmL_map, rnmL_otr, List.set_set]
      have hjC : ((T.map otgs).set j (.sl 4 2 0 3))[j]? = some (.sl 4 2 0 3) := by simp [hjT]
      show W _ _ _ _ _ _ _ [some (srcC bs a4 b4), some [nilS], some ((T.map otgs).set j (.sl 4 2 0 3)), some [.sl 2 1 0 T.length], some (intsC (flt R))]
      generalize (T.map otgs).set j (.sl 4 2 0 3) = CS at hCl hC hback hrb hjC ⊢
      have hl6 : (flt R).length = 6 := by rw [flt_len, hRl]
      have hfin : ∀ (a6 : Nat) (b6 p m : Int), a6 ≤ bs.length → ∃ o : Nat × Int × List (List Tg), (o.1 ≤ bs.length ∧ Td o.2.2 ∧ 1 ≤ o.2.2.length) ∧ Ref 1 [(0, .ref 0 0), (2, .ref 1 0), (4, .ref 3 0)] [some (srcC bs a6 b6), some [nilS], some CS, some [.sl 2 1 0 T.length], some (splice (intsC (flt R)) (i * 2) [i64 p, i64 m])] [(0, .ref 0 0), (2, .ref 1 0), (4, .ref 3 0)] [some (srcC bs o.1 o.2.1), some [nilS], some (o.2.2.map otgs), some [.sl 2 1 0 o.2.2.length]] := by
        intro a6 b6 p m h6
        have hR3 : (R.set i (p, m)).length = 3 := by simp [hRl]
        refine ⟨(a6, b6, T.set j (R.set i (p, m))), ⟨h6, ⟨by simp; exact t2, fun xs hx => ?_⟩, by simp; omega⟩, ?_⟩
        · rcases List.mem_or_eq_of_mem_set hx with hx | rfl
          · exact hTd.2 xs hx
          · exact hR3
        rw [spl_row hRl hi3]
        refine (Ref.close 2 j 4 (k := 2) (n := 3) (cs2 := intsC (flt (R.set i (p, m)))) rfl hjC rfl (by decide) (by rw [len_intsC, flt_len, hR3])).trans (Ref.gc [0, 1, 2, 3] rfl ?_ (by simp [sub, fget, go_sem, ↓reduceIte, Nat.reduceEqDiff, Nat.reduceAdd, reduceCtorEq]))
        have e1 : (T.map otgs).set j (.osl 2 3 (intsC (flt (R.set i (p, m))))) = (T.set j (R.set i (p, m))).map otgs := by rw [List.map_set, otgs, hR3]
        simp only [go_sem, ↓reduceIte, Nat.reduceEqDiff, Nat.reduceAdd, reduceCtorEq, hrb, e1]
      refine V_W ?_
      refine V_alts (show LT _ _ _ _ _ _ from ?_)
      repeat' first
        | simp only [go_sem, ↓reduceIte, Nat.reduceEqDiff, Nat.reduceAdd, reduceCtorEq, hC]
        | with_reducible refine LT_reg ?_
        | with_reducible refine LT_fin ?_
        | with_reducible exact LT_tt
        | with_reducible refine LT_alt ?_ ?_
        | (with_reducible refine And.intro ?_ ?_; focus first | assumption | omega | grind)
        | ((refine wriEF (l01Next_w bs hb a4 b4 u1 ((T.length : Int) + 1)) [0] ?_ ?_ ?_ ?_; (focus first | rfl | simp); (focus (simp only [go_sem, ↓reduceIte, Nat.reduceEqDiff, Nat.reduceAdd, reduceCtorEq] <;> rfl)); (focus (simp only [go_sem, ↓reduceIte, Nat.reduceEqDiff, Nat.reduceAdd, reduceCtorEq] <;> rfl)); intro o ho); obtain ⟨a5, b5, p⟩ := o; obtain ⟨p1, p2, p3⟩ := ho; dsimp only at p1 p2 p3)
        | ((refine wriEF (l01Next_w bs hb a5 b5 p1 5) [0] ?_ ?_ ?_ ?_; (focus first | rfl | simp); (focus (simp only [go_sem, ↓reduceIte, Nat.reduceEqDiff, Nat.reduceAdd, reduceCtorEq] <;> rfl)); (focus (simp only [go_sem, ↓reduceIte, Nat.reduceEqDiff, Nat.reduceAdd, reduceCtorEq] <;> rfl)); intro o ho); obtain ⟨a6, b6, m⟩ := o; obtain ⟨m1, m2, m3⟩ := ho; dsimp only at m1 m2 m3)
      all_goals exact (hfin a6 b6 p (m - 1) m1).imp fun o ho => ⟨ho.1, (Ref.to rfl (by simp [sub, fget])).trans ho.2⟩
    · (refine RN ?_; try with_reducible exact trivial)
      exact ⟨(a2, b2, T), ⟨q1, hTd, hT1⟩, Ref.to rfl (by simp [sub, fget])⟩
  · rintro ⟨a3, b3, X⟩ ⟨g1, g2, g3⟩
    dsimp only at g1 g2 g3 ⊢
    refine RN ?_
    refine wriEF (l01Next_w bs hb a3 b3 g1 24) [0] (by first | rfl | simp) (by simp only [go_sem, ↓reduceIte, Nat.reduceEqDiff, Nat.reduceAdd, reduceCtorEq] <;> rfl) (by simp only [go_sem, ↓reduceIte, Nat.reduceEqDiff, Nat.reduceAdd, reduceCtorEq] <;> rfl) fun o ho => ?_
    obtain ⟨a4, b4, v⟩ := o
    obtain ⟨r1, r2, r3⟩ := ho
    dsimp only at r1 r2 r3
    refine RN ?_
    refine ⟨fun c0 => ?_, fun c0 => ?_⟩
    · (refine RN ?_; try with_reducible exact trivial)
      refine ⟨(a4, b4, X.drop 1), ⟨r1, by have := g2.1; simp; omega, fun xs hx => g2.2 xs (List.mem_of_mem_drop hx)⟩, Ref.sel [0] rfl (by simp only [go_sem, ↓reduceIte, Nat.reduceEqDiff, Nat.reduceAdd, reduceCtorEq]) ?_⟩
      have tk : ((X.map otgs).drop 1).take (X.length - 1) = (X.drop 1).map otgs := by rw [← List.map_drop]; exact List.take_of_length_le (by simp)
      have hx1 : (X.drop 1).length = X.length - 1 := by simp
      simp only [sub, List.all_cons, List.all_nil, go_sem, ↓reduceIte, Nat.reduceEqDiff, Nat.reduceAdd, reduceCtorEq, tk]
      rw [tplA, tmt, hx1]
    · (refine RN ?_; try with_reducible exact trivial)
      refine ⟨(a4, b4, X), ⟨r1, g2⟩, Ref.sel [0] rfl (by simp only [go_sem, ↓reduceIte, Nat.reduceEqDiff, Nat.reduceAdd, reduceCtorEq]) ?_⟩
      simp [sub, fget, go_sem, ↓reduceIte, Nat.reduceEqDiff, Nat.reduceAdd, reduceCtorEq, tmt]
set_option maxHeartbeats 2000000 in
theorem drawApplyTemplate_e (bs : List Int) (hb : Byt bs) : PureE Tryz.prog 31 [bytA' bs] (fun o : List (List Int) × List (List Tg) => Gd 401 o.1 ∧ Td o.2) (fun o => .tup [maniA o.1, tplA o.2]) (fun _ => []) := by
  have hl := l01From_p bs hb
  unfold bytA' at *
  refine pureREV ok31 rfl ?_; unfold c31
  refine RN ?_
  refine pureEG hl (by simp only [bytA', go_sem, ↓reduceIte, Nat.reduceEqDiff, Nat.reduceAdd, reduceCtorEq]) fun o ho => ?_
  refine RN ?_
  have hd := l14Draw_w bs hb 0 o (Nat.zero_le _) 48 (by decide) (by decide)
  simp only [Int.cast_ofNat_Int] at hd
  refine wriEF (hd) [2] (by first | rfl | simp) (by simp only [go_sem, ↓reduceIte, Nat.reduceEqDiff, Nat.reduceAdd, reduceCtorEq] <;> rfl) (by simp only [go_sem, ↓reduceIte, Nat.reduceEqDiff, Nat.reduceAdd, reduceCtorEq] <;> rfl) fun o ho => ?_
  obtain ⟨a2, b2, M⟩ := o
  obtain ⟨g1, g2⟩ := ho
  dsimp only at g1 g2
  refine RN ?_
  refine V_alts (show LT _ _ _ _ _ _ from ?_)
  repeat' first
    | simp only [go_sem, ↓reduceIte, Nat.reduceEqDiff, Nat.reduceAdd, reduceCtorEq]
    | with_reducible refine LT_reg ?_
    | with_reducible refine LT_fin ?_
    | with_reducible exact LT_tt
    | with_reducible refine LT_alt ?_ ?_
    | (with_reducible refine And.intro ?_ ?_; focus first | assumption | omega | grind)
    | ((refine wriEF (l14DrawTemplate_w bs hb a2 b2 g1) [2] ?_ ?_ ?_ ?_; (focus first | rfl | simp); (focus (simp only [go_sem, ↓reduceIte, Nat.reduceEqDiff, Nat.reduceAdd, reduceCtorEq] <;> rfl)); (focus (simp only [go_sem, ↓reduceIte, Nat.reduceEqDiff, Nat.reduceAdd, reduceCtorEq] <;> rfl)); intro o ho); obtain ⟨a5, b5, T⟩ := o; obtain ⟨p1, p2⟩ := ho; dsimp only at p1 p2)
  all_goals (refine RN ?_; try with_reducible exact trivial)
  all_goals exact ⟨(M, T), ⟨g2, p2⟩, Ref.gc [] rfl (by simp only [go_sem, ↓reduceIte, Nat.reduceEqDiff, Nat.reduceAdd, reduceCtorEq] <;> rfl) (by simp [sub, fget, go_sem, ↓reduceIte, Nat.reduceEqDiff, Nat.reduceAdd, reduceCtorEq])⟩
theorem drawComposeTemplates_e (bs : List Int) (hb : Byt bs) : PureE Tryz.prog 36 [bytA' bs] (fun o : List (List Tg) × List (List Tg) => Td o.1 ∧ Td o.2) (fun o => .tup [tplA o.1, tplA o.2]) (fun _ => []) := by
  have hl := l01From_p bs hb
  unfold bytA' at *
  refine pureREV ok36 rfl ?_; unfold c36
  refine RN ?_
  refine pureEG hl (by simp only [bytA', go_sem, ↓reduceIte, Nat.reduceEqDiff, Nat.reduceAdd, reduceCtorEq]) fun o ho => ?_
  refine RN ?_
  refine wriEF (l14DrawTemplate_w bs hb 0 o (Nat.zero_le _)) [2] (by first | rfl | simp) (by simp only [go_sem, ↓reduceIte, Nat.reduceEqDiff, Nat.reduceAdd, reduceCtorEq] <;> rfl) (by simp only [go_sem, ↓reduceIte, Nat.reduceEqDiff, Nat.reduceAdd, reduceCtorEq] <;> rfl) fun o ho => ?_
  obtain ⟨a2, b2, T⟩ := o
  obtain ⟨g1, g2⟩ := ho
  dsimp only at g1 g2
  refine RN ?_
  refine wriEF (l14DrawTemplate_w bs hb a2 b2 g1) [2] (by first | rfl | simp) (by simp only [go_sem, ↓reduceIte, Nat.reduceEqDiff, Nat.reduceAdd, reduceCtorEq] <;> rfl) (by simp only [go_sem, ↓reduceIte, Nat.reduceEqDiff, Nat.reduceAdd, reduceCtorEq] <;> rfl) fun o ho => ?_
  obtain ⟨a3, b3, U⟩ := o
  obtain ⟨r1, r2⟩ := ho
  dsimp only at r1 r2
  refine RN ?_
  exact ⟨(T, U), ⟨g2, r2⟩, Ref.gc [] rfl (by simp only [go_sem, ↓reduceIte, Nat.reduceEqDiff, Nat.reduceAdd, reduceCtorEq] <;> rfl) (by simp [sub, fget, go_sem, ↓reduceIte, Nat.reduceEqDiff, Nat.reduceAdd, reduceCtorEq])⟩
set_option maxHeartbeats 2000000 in
theorem likeTemplate9_c (T U : List (List Tg)) (hl : T.length ≤ 1048576) (hr : ∀ xs ∈ T, xs.length ≤ 1048576) (hl2 : U.length ≤ 1048576) (hr2 : ∀ xs ∈ U, xs.length ≤ 1048576) : Pure Tryz.prog 40 [tplA T, tplA U] (bl (decide (T = U))) [] := by
  refine pureRV ok40 rfl ?_; unfold c40
  refine RN ?_
  refine ⟨fun hc => ?_, fun hc => ?_⟩
  · (refine RN ?_; try with_reducible exact trivial)
    rw [decide_eq_false (fun h => hc (by rw [h]))]
    exact Ref.gc [] rfl (by simp only [go_sem, ↓reduceIte, Nat.reduceEqDiff, Nat.reduceAdd, reduceCtorEq] <;> rfl) (by simp [sub, fget, go_sem, ↓reduceIte, Nat.reduceEqDiff, Nat.reduceAdd, reduceCtorEq])
  · have hlen : T.length = U.length := by omega
    refine RN ?_
    refine V_loop (α := Nat) (S := fun j => ([(2, .ref 0 0), (3, .ref 1 0), (5, i64 (j : Int))], [some [tmt T], some [tmt U]])) (C := fun j => j ≤ T.length ∧ ∀ k, k < j → T.getD k [] = U.getD k []) (μ := fun j => T.length - j) 0 ⟨Nat.zero_le _, fun k hk => absurd hk (by omega)⟩ (Ref.to rfl (by simp [sub, fget])) ?_
    rintro j ⟨hj, hall⟩
    refine RN ?_
    refine ⟨fun hc1 => ?_, fun hc1 => ?_⟩
    · have hjl : j < T.length := by omega
      have g1 := tmt_at T j hjl
      have g2 := tmt_any T j hjl
      have g3 := tmt_at U j (by omega)
      have g4 := tmt_any U j (by omega)
      (refine RN ?_; try with_reducible exact trivial)
      (try simp only [g1, g2, g3, g4, go_sem, ↓reduceIte, Nat.reduceEqDiff, Nat.reduceAdd, reduceCtorEq])
      refine RN ?_
      have a1 := hr (T.getD j []) (by simp [hjl])
      have a2 := hr2 (U.getD j []) (by simp [show j < U.length by omega])
      refine ⟨fun hc2 => ?_, fun hc2 => ?_⟩
      · (refine RN ?_; try with_reducible exact trivial)
        rw [decide_eq_false (fun h => hc2 (by rw [h]))]
        exact Ref.gc [] rfl (by simp only [go_sem, ↓reduceIte, Nat.reduceEqDiff, Nat.reduceAdd, reduceCtorEq] <;> rfl) (by simp [sub, fget, go_sem, ↓reduceIte, Nat.reduceEqDiff, Nat.reduceAdd, reduceCtorEq])
      · have hll : (T.getD j []).length = (U.getD j []).length := by omega
        refine RN ?_
        refine V_loop (α := Nat) (S := fun i => ([(2, .ref 0 0), (3, .ref 1 0), (5, i64 (j : Int)), (6, i64 (i : Int))], [some [tmt T], some [tmt U]])) (C := fun i => i ≤ (T.getD j []).length ∧ ∀ k, k < i → (T.getD j []).getD k T0 = (U.getD j []).getD k T0) (μ := fun i => (T.getD j []).length - i) 0 ⟨Nat.zero_le _, fun k hk => absurd hk (by omega)⟩ (Ref.to rfl (by simp [sub, fget])) ?_
        rintro i ⟨hi, hal⟩
        (refine RN ?_; try with_reducible exact trivial)
        (try simp only [g1, g2, g3, g4, go_sem, ↓reduceIte, Nat.reduceEqDiff, Nat.reduceAdd, reduceCtorEq])
        refine RN ?_
        refine ⟨fun hc3 => ?_, fun hc3 => ?_⟩
        · have hil : i < (T.getD j []).length := by omega
          have f1 := flt_two (T.getD j []) i hil
          have f2 := flt_two (U.getD j []) i (by omega)
          have l1 := flt_len (T.getD j [])
          have l2 := flt_len (U.getD j [])
          (refine RN ?_; try with_reducible exact trivial)
          (try simp only [g1, g2, g3, g4, go_sem, ↓reduceIte, Nat.reduceEqDiff, Nat.reduceAdd, reduceCtorEq])
          refine RN ?_
          refine And.intro ⟨by omega, by rw [f1]; rfl⟩ ?_
          simp only [f1, go_sem, ↓reduceIte, Nat.reduceEqDiff, Nat.reduceAdd, reduceCtorEq]
          (refine RN ?_; try with_reducible exact trivial)
          (try simp only [g1, g2, g3, g4, go_sem, ↓reduceIte, Nat.reduceEqDiff, Nat.reduceAdd, reduceCtorEq])
          refine RN ?_
          refine And.intro ⟨by omega, by rw [f2]; rfl⟩ ?_
          simp only [f2, go_sem, ↓reduceIte, Nat.reduceEqDiff, Nat.reduceAdd, reduceCtorEq]
          refine RN ?_
          refine ⟨fun hc4 => ?_, fun hc4 => ?_⟩
          · (refine RN ?_; try with_reducible exact trivial)
            rw [decide_eq_false (fun h => by rw [h] at hc4; simp at hc4)]
            exact Ref.gc [] rfl (by simp only [go_sem, ↓reduceIte, Nat.reduceEqDiff, Nat.reduceAdd, reduceCtorEq] <;> rfl) (by simp [sub, fget, go_sem, ↓reduceIte, Nat.reduceEqDiff, Nat.reduceAdd, reduceCtorEq])
          · (refine RN ?_; try with_reducible exact trivial)
            refine ⟨i + 1, ⟨by omega, fun k hk => ?_⟩, by omega, Ref.to rfl (by simp [sub, fget])⟩
            rcases Nat.lt_or_ge k i with h | h
            · exact hal k h
            · obtain rfl : k = i := by omega
              exact Prod.ext hc4.1 hc4.2
        · (refine RN ?_; try with_reducible exact trivial)
          refine ⟨j + 1, ⟨by omega, fun k hk => ?_⟩, by omega, Ref.to rfl (by simp [sub, fget])⟩
          rcases Nat.lt_or_ge k j with h | h
          · exact hall k h
          · obtain rfl : k = j := by omega
            exact getD_ext hll fun m hm => hal m (by omega)
    · (refine RN ?_; try with_reducible exact trivial)
      rw [decide_eq_true]
      · exact Ref.gc [] rfl (by simp only [go_sem, ↓reduceIte, Nat.reduceEqDiff, Nat.reduceAdd, reduceCtorEq] <;> rfl) (by simp [sub, fget, go_sem, ↓reduceIte, Nat.reduceEqDiff, Nat.reduceAdd, reduceCtorEq])
      · refine List.ext_getElem hlen fun k h1 h2 => ?_
        have := hall k (by omega)
        simpa [h1, h2] using this
end Go.Proofs.YtcmahhfjpgoceaaGreat
