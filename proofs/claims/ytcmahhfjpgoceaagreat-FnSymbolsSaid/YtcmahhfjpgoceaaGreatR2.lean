/- Texts that belong together. -/
import Derived.Test.YtcmahhfjpgoceaaGreatZe
import Derived.Test.YtcmahhfjpgoceaaGreatV1
import Derived.Test.YtcmahhfjpgoceaaGreatZl
import Derived.Test.YtcmahhfjpgoceaaGreatWg
import Derived.Test.YtcmahhfjpgoceaaGreatR8
import Derived.Test.YtcmahhfjpgoceaaGreatR1
set_option linter.unusedSimpArgs false
set_option linter.unusedVariables false
set_option maxRecDepth 100000
namespace Go.Proofs.YtcmahhfjpgoceaaGreat
open Go.Gov Go.Ce
open Classical

abbrev stA (I : List (List Int)) (l : List Int) (b : Bool) : AV := .agg [mat I, ints l, bl b]
theorem frz_im (H : Heap) (d : Nat) (I : List (List Int)) (n : Nat) (h : I.length = n) : ((I.map oints).take n).map (frz H (d + 2)) = I.map ints := by
  rw [List.take_of_length_le (by simp [h]), List.map_map]
  refine List.map_congr_left fun z _ => ?_
  simp [frz, intsC]
theorem frz_li (H : Heap) (d : Nat) (l : List Int) (n : Nat) (h : l.length = n) : ((intsC l).take n).map (frz H (d + 1)) = intsC l := by
  rw [List.take_of_length_le (by rw [len_intsC]; omega), map_frz_ints]
theorem orow_at {I : List (List Int)} {c : Nat} (h : c < I.length) : (I.map oints)[c]? = some (.osl 1 (I.getD c []).length (intsC (I.getD c []))) := by simp [h, oints]
theorem two_open {I : List (List Int)} {c d : Nat} (hc : c < I.length) (hd : d < I.length) (hne : c ≠ d) (x y : AV) : (((I.map oints).set c x).set d y).length = I.length ∧ (((I.map oints).set c x).set d y)[c]? = some x ∧ (((I.map oints).set c x).set d y)[d]? = some y ∧
    ∀ a b : List Int, ((((I.map oints).set c x).set d y).set c (oints a)).set d (oints b) = ((I.set c a).set d b).map oints := by
  refine ⟨by simp, ?_, ?_, fun a b => ?_⟩
  · rw [List.getElem?_set_ne (fun h => hne h.symm), List.getElem?_set_self (by simpa using hc)]
  · rw [List.getElem?_set_self (by simpa using hd)]
  · rw [List.set_comm _ _ (fun h => hne h.symm), List.set_set, List.set_set, List.map_set, List.map_set]
theorem one_open {I : List (List Int)} {c : Nat} (hc : c < I.length) (x : AV) : ((I.map oints).set c x).length = I.length ∧ ((I.map oints).set c x)[c]? = some x ∧ ∀ a : List Int, ((I.map oints).set c x).set c (oints a) = (I.set c a).map oints := by
  refine ⟨by simp, by rw [List.getElem?_set_self (by simpa using hc)], fun a => by rw [List.set_set, List.map_set]⟩
theorem getD_of {l : List AV} {i : Nat} {x d : AV} (h : l[i]? = some x) : l.getD i d = x := by rw [List.getD_eq_getElem?_getD, h]; rfl
theorem l11Find_c (I : List (List Int)) (l : List Int) (b : Bool) (h : Low l) (hl : l.length ≤ 2000) (c : Nat) (hc : c < l.length) : Pure Tryz.prog 160 [stA I l b, i64 (c : Int)] (i64 (find l c : Nat)) [] := by
  refine pureV0 ok160 rfl rfl ?_; unfold c160
  refine RN ?_
  refine V_loop (α := Nat) (S := fun d => ([(1, i64 (d : Int)), (2, .ref 0 0)], [some [mat I, ints l, bl b]])) (C := fun d => d < l.length ∧ find l d = find l c) (μ := fun d => d) c ⟨hc, rfl⟩ (Ref.to rfl (by simp [sub, fget])) ?_
  rintro d ⟨h1, h2⟩
  have hlo := h d h1
  refine RN ?_
  refine ⟨fun hc1 => ?_, fun hc1 => ?_⟩
  · have hst := find_step h h1 hc1
    refine RN ?_
    refine ⟨(l.getD d 0).toNat, ⟨by omega, by rw [← hst]; exact h2⟩, by omega, ?_⟩
    rw [show (((l.getD d 0).toNat : Nat) : Int) = l.getD d 0 by omega]
    exact Ref.to rfl (by simp [sub, fget])
  · have hs := find_self (l := l) (c := d) (by omega)
    rw [← h2, hs]
    (refine RN ?_; try with_reducible exact trivial)
theorem l11Image_c (G : Nat) (I : List (List Int)) (l : List Int) (b : Bool) (h : Ok G I l) (hl : l.length ≤ 2000) (c g : Nat) (hc : c < l.length) (hg : g < G) (hG : G ≤ 5) : Pure Tryz.prog 155 [stA I l b, i64 (c : Int), i64 (g : Int)] (i64 (img I l c g)) [] := by
  have hcl : c < I.length := by rw [h.len]; exact hc
  have hil : I.length ≤ 2000 := by rw [h.len]; exact hl
  have hrow := h.row c hcl
  have hent := h.ent c g hcl hg
  have hdef : at2 I c g = (I.getD c []).getD g 0 := rfl
  rw [hdef] at hent
  refine pureV0 ok155 rfl rfl ?_; unfold c155
  refine RN ?_
  refine ⟨fun hc1 => ?_, fun hc1 => ?_⟩
  · have e : img I l c g = -1 := by unfold img; rw [if_pos (by rw [hdef]; exact hc1)]
    rw [e]
    (refine RN ?_; try with_reducible exact trivial)
  · have e : img I l c g = (find l ((I.getD c []).getD g 0).toNat : Nat) := by unfold img; rw [if_neg (by rw [hdef]; omega), hdef]
    have hf := l11Find_c I l b h.low hl ((I.getD c []).getD g 0).toNat (by omega)
    rw [show (((I.getD c []).getD g 0).toNat : Int) = (I.getD c []).getD g 0 by omega] at hf
    rw [e]
    refine RN ?_
    refine pureC1 (hf) ?_
    (refine RN ?_; try with_reducible exact trivial)
end Go.Proofs.YtcmahhfjpgoceaaGreat
set_option maxRecDepth 100000
namespace Go.Proofs.YtcmahhfjpgoceaaGreat
open Go.Gov Go.Ce
open Classical

theorem l11Define_w (G : Nat) (hG : G ≤ 5) (r0 : List Int) (J : List (List Int)) (l : List Int) (b : Bool) (hl : l.length = J.length + 1) (hn : l.length < 2000) :
    Wri Tryz.prog 157 [.agg [.sl 0 1 0 l.length, .sl 1 1 0 l.length, bl b], i64 (G : Int)] [some (.sl 2 1 0 r0.length :: J.map oints), some (intsC l), some (intsC r0)]
      (.tup [.agg [.sl 3 1 0 (l.length + 1), .sl 4 1 0 (l.length + 1), bl b], i64 (l.length : Int)]) [none, none, some (intsC r0), some (.sl 2 1 0 r0.length :: (J ++ [List.replicate G (-1)]).map oints), some (intsC (l ++ [(l.length : Int)]))] := by
  refine wriRV ok157 rfl ?_; unfold c157
  refine RN ?_
  intro _
  refine RN ?_
  refine V_loop (α := Nat) (S := fun k => ([(1, i64 (G : Int)), (2, .ref 3 0), (4, .ref 4 0), (5, i64 0), (6, i64 (l.length : Int)), (7, .sl 5 1 0 k), (8, i64 (k : Int))], [some (.sl 2 1 0 r0.length :: J.map oints), some (intsC l), some (intsC r0), some [.sl 0 1 0 l.length, .sl 1 1 0 l.length, bl b], some [nilS, nilS, bl false], some (intsC (List.replicate k (-1)))])) (C := fun k => k ≤ G) (μ := fun k => G - k) 0 (Nat.zero_le _) (Ref.to rfl (by simp [sub, fget])) ?_
  intro k hk
  refine RN ?_
  refine ⟨fun hc => ?_, fun hc => ?_⟩
  · (refine RN ?_; try with_reducible exact trivial)
    refine ⟨k + 1, by omega, by omega, ?_⟩
    refine Ref.gc [0, 1, 2, 3, 4, 7] rfl ?_ (by simp [sub, fget, go_sem, ↓reduceIte, Nat.reduceEqDiff, Nat.reduceAdd, reduceCtorEq])
    simp only [go_sem, ↓reduceIte, Nat.reduceEqDiff, Nat.reduceAdd, reduceCtorEq]
    rw [List.take_of_length_le (l := intsC (List.replicate k (-1))) (by simp [intsC]), rnmL_ints, List.replicate_succ']
    simp [intsC]
  · obtain rfl : k = G := by omega
    refine RN ?_
    have htk : (AV.sl 2 1 0 r0.length :: J.map oints).take l.length = .sl 2 1 0 r0.length :: J.map oints := List.take_of_length_le (by simp [hl])
    rw [htk]
    refine (Ref.close 7 l.length 5 (k := 1) (n := k) (cs2 := intsC (List.replicate k (-1))) rfl (by rw [List.getElem?_append_right (by simp [hl])]; simp [hl]) rfl (by decide) (by simp [intsC])).trans (Ref.gc [0, 1, 2, 7, 9] rfl ?_ (by simp [sub, fget, go_sem, ↓reduceIte, Nat.reduceEqDiff, Nat.reduceAdd, reduceCtorEq]))
    have hset : ∀ x y : AV, ((AV.sl 2 1 0 r0.length :: J.map oints) ++ [x]).set l.length y = (AV.sl 2 1 0 r0.length :: J.map oints) ++ [y] := fun x y => by
      rw [List.set_append_right _ _ (by simp [hl])]; simp [hl]
    simp only [hset, go_sem, ↓reduceIte, Nat.reduceEqDiff, Nat.reduceAdd, reduceCtorEq]
    have hs2 : ∀ x y : AV, (AV.sl 2 1 0 r0.length :: (J.map oints ++ [x])).set l.length y = AV.sl 2 1 0 r0.length :: (J.map oints ++ [y]) := fun x y => hset x y
    simp [oints, List.map_append, hs2, intsC]
theorem l11Define_bad (G : Nat) (r0 : List Int) (J : List (List Int)) (l : List Int) (b : Bool) (hn : l.length = 2000) :
    Wri Tryz.prog 157 [.agg [.sl 0 1 0 l.length, .sl 1 1 0 l.length, bl b], i64 (G : Int)] [some (.sl 2 1 0 r0.length :: J.map oints), some (intsC l), some (intsC r0)]
      (.tup [.agg [.sl 0 1 0 l.length, .sl 1 1 0 l.length, bl true], i64 0]) [some (.sl 2 1 0 r0.length :: J.map oints), some (intsC l), some (intsC r0)] := by
  refine wriRV ok157 rfl ?_; unfold c157
  refine RN ?_
  refine ⟨fun _ => ?_, fun hc => absurd (by omega) hc⟩
  refine RN ?_
  exact Ref.gc [0, 1, 2] rfl (by simp only [go_sem, ↓reduceIte, Nat.reduceEqDiff, Nat.reduceAdd, reduceCtorEq] <;> rfl) (by simp [sub, fget, go_sem, ↓reduceIte, Nat.reduceEqDiff, Nat.reduceAdd, reduceCtorEq])
end Go.Proofs.YtcmahhfjpgoceaaGreat
set_option maxRecDepth 100000
namespace Go.Proofs.YtcmahhfjpgoceaaGreat
open Go.Gov Go.Ce
open Classical

theorem l11Define_0 (G : Nat) (hG : G ≤ 5) : Pure Tryz.prog 157 [.agg [nilS, nilS, bl false], i64 (G : Int)] (.tup [.agg [.sl 0 1 0 1, .sl 1 1 0 1, bl false], i64 0]) [some [oints (List.replicate G (-1))], some (intsC [0])] := by
  refine pureRV ok157 rfl ?_; unfold c157
  refine RN ?_
  intro _
  refine RN ?_
  refine V_loop (α := Nat) (S := fun k => ([(1, i64 (G : Int)), (2, .ref 0 0), (4, .ref 1 0), (5, i64 0), (6, i64 0), (7, .sl 2 1 0 k), (8, i64 (k : Int))], [some [nilS, nilS, bl false], some [nilS, nilS, bl false], some (intsC (List.replicate k (-1)))])) (C := fun k => k ≤ G) (μ := fun k => G - k) 0 (Nat.zero_le _) (Ref.to rfl (by simp [sub, fget])) ?_
  intro k hk
  refine RN ?_
  refine ⟨fun hc => ?_, fun hc => ?_⟩
  · (refine RN ?_; try with_reducible exact trivial)
    refine ⟨k + 1, by omega, by omega, ?_⟩
    refine Ref.gc [0, 1, 4] rfl ?_ (by simp [sub, fget, go_sem, ↓reduceIte, Nat.reduceEqDiff, Nat.reduceAdd, reduceCtorEq])
    simp only [go_sem, ↓reduceIte, Nat.reduceEqDiff, Nat.reduceAdd, reduceCtorEq]
    rw [List.take_of_length_le (l := intsC (List.replicate k (-1))) (by simp [intsC]), rnmL_ints, List.replicate_succ']
    simp [intsC]
  · obtain rfl : k = G := by omega
    refine RN ?_
    refine (Ref.close 4 0 2 (k := 1) (n := k) (cs2 := intsC (List.replicate k (-1))) rfl rfl rfl (by decide) (by simp [intsC])).trans (Ref.gc [4, 6] rfl ?_ (by simp [sub, fget, go_sem, ↓reduceIte, Nat.reduceEqDiff, Nat.reduceAdd, reduceCtorEq]))
    simp only [go_sem, ↓reduceIte, Nat.reduceEqDiff, Nat.reduceAdd, reduceCtorEq]
    simp [oints, intsC]
abbrev stO (o p : Nat) (S : St) : AV := .agg [.sl o 1 0 S.im.length, .sl p 1 0 S.le.length, bl S.bad]
theorem mv2a (n0 : Nat) (I : List (List Int)) (l : List Int) (n m : Nat) (b : Bool) (h0 : n0 ≤ 2) : Ref n0 [(0, .agg [.sl 0 1 0 n, .sl 1 1 0 m, bl b])] [some (I.map oints), some (intsC l)] [(0, .agg [.sl 2 1 0 n, .sl 3 1 0 m, bl b])] [none, none, some (I.map oints), some (intsC l)] :=
  (Ref.mv 0 (cs := I.map oints) (F' := [(0, .agg [.sl 2 1 0 n, .sl 1 1 0 m, bl b])]) (H' := [none, some (intsC l), some (I.map oints)]) rfl (by simp only [go_sem, ↓reduceIte, Nat.reduceEqDiff, Nat.reduceAdd, reduceCtorEq]) (by simp [sub, fget, go_sem, ↓reduceIte, Nat.reduceEqDiff, Nat.reduceAdd, reduceCtorEq])).trans
    (Ref.mv 1 (cs := intsC l) rfl (by simp only [go_sem, ↓reduceIte, Nat.reduceEqDiff, Nat.reduceAdd, reduceCtorEq]) (by simp [sub, fget, go_sem, ↓reduceIte, Nat.reduceEqDiff, Nat.reduceAdd, reduceCtorEq]))
theorem mv2t (n0 : Nat) (I : List (List Int)) (l : List Int) (n m : Nat) (b : Bool) (z : Int) (h0 : n0 ≤ 2) : Ref n0 [(0, .tup [.agg [.sl 0 1 0 n, .sl 1 1 0 m, bl b], i64 z])] [some (I.map oints), some (intsC l)] [(0, .tup [.agg [.sl 2 1 0 n, .sl 3 1 0 m, bl b], i64 z])] [none, none, some (I.map oints), some (intsC l)] :=
  (Ref.mv 0 (cs := I.map oints) (F' := [(0, .tup [.agg [.sl 2 1 0 n, .sl 1 1 0 m, bl b], i64 z])]) (H' := [none, some (intsC l), some (I.map oints)]) rfl (by simp only [go_sem, ↓reduceIte, Nat.reduceEqDiff, Nat.reduceAdd, reduceCtorEq]) (by simp [sub, fget, go_sem, ↓reduceIte, Nat.reduceEqDiff, Nat.reduceAdd, reduceCtorEq])).trans
    (Ref.mv 1 (cs := intsC l) rfl (by simp only [go_sem, ↓reduceIte, Nat.reduceEqDiff, Nat.reduceAdd, reduceCtorEq]) (by simp [sub, fget, go_sem, ↓reduceIte, Nat.reduceEqDiff, Nat.reduceAdd, reduceCtorEq]))
set_option maxHeartbeats 2000000 in
theorem l11Next_w (G : Nat) (hG : G ≤ 5) (S : St) (h : Ss G S) (hb : S.bad = false) (c g : Nat) (hc : c < S.le.length) (hg : g < G) :
    Wri Tryz.prog 159 [stO 0 1 S, i64 (c : Int), i64 (g : Int)] [some (S.im.map oints), some (intsC S.le)]
      (.tup [stO 2 3 (nx G S c g).1, i64 ((nx G S c g).2 : Int)]) [none, none, some ((nx G S c g).1.im.map oints), some (intsC (nx G S c g).1.le)] := by
  obtain ⟨I, l, b⟩ := S
  dsimp only at hb hc ⊢
  subst hb
  have hl := h.ok.len
  have hfew := h.few
  dsimp only at hl hfew
  have hIm := l11Image_c G I l false h.ok hfew c g hc hg hG
  have hib := h.ok.img (c := c) (g := g) (by dsimp only; omega) hg
  dsimp only at hib
  unfold nx
  dsimp only
  simp only [stO, hl]
  refine wriRV ok159 rfl ?_; unfold c159
  refine RN ?_
  refine pureC hIm (by simp only [go_sem, ↓reduceIte, Nat.reduceEqDiff, Nat.reduceAdd, reduceCtorEq, frz_im _ _ I l.length hl]; simp only [stA, mat, ints, hl]) (by first | rfl | simp only [go_sem, ↓reduceIte, Nat.reduceEqDiff, Nat.reduceAdd, reduceCtorEq]) ?_
  refine RN ?_
  refine ⟨fun hc1 => ?_, fun hc1 => ?_⟩
  · rw [if_pos (by omega)]
    have e : (((img I l c g).toNat : Nat) : Int) = img I l c g := by omega
    refine RN ?_
    simp only [e]
    refine Ref.trans (Ref.gc [0, 1] rfl ?_ ?_) (mv2t 2 I l I.length l.length false (img I l c g) (by omega))
    · simp only [go_sem, ↓reduceIte, Nat.reduceEqDiff, Nat.reduceAdd, reduceCtorEq]
    · simp [sub, fget, go_sem, ↓reduceIte, Nat.reduceEqDiff, Nat.reduceAdd, reduceCtorEq, hl]
  · rw [if_neg (by omega)]
    obtain ⟨r0, J, rfl⟩ : ∃ r0 J, I = r0 :: J := by
      cases I with
      | nil => simp at hl; omega
      | cons a J => exact ⟨a, J, rfl⟩
    have hJ : l.length = J.length + 1 := by rw [← hl]; rfl
    refine V_ref ((Ref.open 0 0 (cs := (r0 :: J).map oints) (cs2 := intsC r0) (k := 1) (n := r0.length) rfl rfl).trans (Ref.to (F' := [(1, i64 (c : Int)), (2, i64 (g : Int)), (3, .ref 2 0), (6, .ref 3 0), (7, i64 0)]) (H' := [some (.sl 4 1 0 r0.length :: J.map oints), some (intsC l), some [.sl 0 1 0 l.length, .sl 1 1 0 l.length, bl false], some [nilS, nilS, bl false], some (intsC r0)]) rfl (by simp [sub, fget]))) ?_
    by_cases h2 : l.length = 2000
    · rw [if_pos h2]
      have hD := l11Define_bad r0.length r0 J l false h2
      refine V_altsS [(1, i64 (c : Int)), (2, i64 (g : Int)), (3, .ref 2 0), (6, .ref 3 0), (7, i64 0), (9, i64 0)] [some ((r0 :: J).map oints), some (intsC l), some [.sl 0 1 0 l.length, .sl 1 1 0 l.length, bl true], some [nilS, nilS, bl false], none] ?_ ?_
      · repeat' first
          | simp only [go_sem, ↓reduceIte, Nat.reduceEqDiff, Nat.reduceAdd, reduceCtorEq]
          | with_reducible refine LT_reg ?_
          | with_reducible refine LT_fin ?_
          | with_reducible exact LT_tt
          | with_reducible refine LT_alt ?_ ?_
          | (with_reducible refine And.intro ?_ ?_; focus first | assumption | omega | grind)
          | (refine wriC (hD) [0, 1, 4] ?_ ?_ ?_ ?_ ?_; (focus first | rfl | simp); (focus (simp only [go_sem, ↓reduceIte, Nat.reduceEqDiff, Nat.reduceAdd, reduceCtorEq] <;> rfl)); (focus (simp only [go_sem, ↓reduceIte, Nat.reduceEqDiff, Nat.reduceAdd, reduceCtorEq] <;> rfl)); (focus first | rfl | simp only [go_sem, ↓reduceIte, Nat.reduceEqDiff, Nat.reduceAdd, reduceCtorEq]))
        all_goals exact (Ref.close 0 0 4 (k := 1) (n := r0.length) (cs2 := intsC r0) rfl rfl rfl (by decide) (by simp [intsC])).trans (Ref.to rfl (by simp [sub, fget]))
      · simp only [hl]
        refine RN ?_
        refine Ref.trans (Ref.gc [0, 1] rfl ?_ ?_) (mv2t 2 (r0 :: J) l l.length l.length true 0 (by omega))
        · simp only [go_sem, ↓reduceIte, Nat.reduceEqDiff, Nat.reduceAdd, reduceCtorEq]
        · simp [sub, fget, go_sem, ↓reduceIte, Nat.reduceEqDiff, Nat.reduceAdd, reduceCtorEq]
    · rw [if_neg h2]
      have hD := l11Define_w r0.length (by have := h.ok.row 0 (by simp); simp at this; omega) r0 J l false hJ (by omega)
      refine V_altsS [(1, i64 (c : Int)), (2, i64 (g : Int)), (3, .ref 2 0), (6, .ref 3 0), (7, i64 0), (9, i64 (l.length : Int))] [none, none, some [.sl 4 1 0 (l.length + 1), .sl 5 1 0 (l.length + 1), bl false], some [nilS, nilS, bl false], some ((r0 :: J ++ [List.replicate r0.length (-1)]).map oints), some (intsC (l ++ [(l.length : Int)]))] ?_ ?_
      · repeat' first
          | simp only [go_sem, ↓reduceIte, Nat.reduceEqDiff, Nat.reduceAdd, reduceCtorEq]
          | with_reducible refine LT_reg ?_
          | with_reducible refine LT_fin ?_
          | with_reducible exact LT_tt
          | with_reducible refine LT_alt ?_ ?_
          | (with_reducible refine And.intro ?_ ?_; focus first | assumption | omega | grind)
          | (refine wriC (hD) [0, 1, 4] ?_ ?_ ?_ ?_ ?_; (focus first | rfl | simp); (focus (simp only [go_sem, ↓reduceIte, Nat.reduceEqDiff, Nat.reduceAdd, reduceCtorEq] <;> rfl)); (focus (simp only [go_sem, ↓reduceIte, Nat.reduceEqDiff, Nat.reduceAdd, reduceCtorEq] <;> rfl)); (focus first | rfl | simp only [go_sem, ↓reduceIte, Nat.reduceEqDiff, Nat.reduceAdd, reduceCtorEq]))
        all_goals exact (Ref.close 5 0 4 (k := 1) (n := r0.length) (cs2 := intsC r0) rfl rfl rfl (by decide) (by simp [intsC])).trans (Ref.gc [0, 1, 2, 3, 5, 6] rfl (by simp only [go_sem, ↓reduceIte, Nat.reduceEqDiff, Nat.reduceAdd, reduceCtorEq] <;> rfl) (by simp [sub, fget, go_sem, ↓reduceIte, Nat.reduceEqDiff, Nat.reduceAdd, reduceCtorEq]))
      · have hro : ∀ d, d < (r0 :: J).length → ((r0 :: J).getD d []).length = G := fun d hd => h.ok.row d hd
        have hr0 : r0.length = G := by have := hro 0 (by simp); simpa using this
        rw [hr0]
        have hgl : ∀ d, d < (r0 :: J).length + 1 → ((r0 :: J ++ [List.replicate G (-1)]).getD d []).length = G := fun d hd => by
          rcases Nat.lt_or_ge d (r0 :: J).length with h3 | h3
          · rw [List.getD_eq_getElem?_getD, List.getElem?_append_left h3, ← List.getD_eq_getElem?_getD]; exact hro d h3
          · obtain rfl : d = (r0 :: J).length := by omega
            simp
        have hnew : newI G (r0 :: J) c g = (((r0 :: J ++ [List.replicate G (-1)]).set c (((r0 :: J ++ [List.replicate G (-1)]).getD c []).set g (l.length : Int))).set l.length (((r0 :: J ++ [List.replicate G (-1)]).getD l.length []).set g (c : Int))) := by
          unfold newI put2
          rw [hl, List.getD_eq_getElem?_getD (l := List.set _ _ _), List.getElem?_set_ne (by omega), ← List.getD_eq_getElem?_getD]
        have hnl : (newI G (r0 :: J) c g).length = l.length + 1 := by unfold newI; rw [put2_len, put2_len, List.length_append, hl]; rfl
        rw [hnl]
        rw [hnew]
        have hIl : (r0 :: J ++ [List.replicate G (-1 : Int)]).length = l.length + 1 := by rw [List.length_append, hl]; rfl
        rw [hl] at hgl
        generalize r0 :: J ++ [List.replicate G (-1 : Int)] = I2 at *
        have hgc := hgl c (by omega)
        have hgn := hgl l.length (by omega)
        obtain ⟨t1, t2, t3, t4⟩ := two_open (I := I2) (c := c) (d := l.length) (by omega) (by omega) (by omega) (.sl 6 1 0 (I2.getD c []).length) (.sl 7 1 0 (I2.getD l.length []).length)
        have o2 : ((I2.map oints).set c (.sl 6 1 0 (I2.getD c []).length))[l.length]? = some (.osl 1 (I2.getD l.length []).length (intsC (I2.getD l.length []))) := by
          rw [List.getElem?_set_ne (by omega)]; exact orow_at (by omega)
        have t5 := t4 ((I2.getD c []).set g (l.length : Int)) ((I2.getD l.length []).set g (c : Int))
        refine V_ref ((Ref.open 4 c (cs := I2.map oints) rfl (orow_at (by omega))).trans ((Ref.open 4 l.length (cs := (I2.map oints).set c (.sl 6 1 0 (I2.getD c []).length)) rfl o2).trans (Ref.to (F' := [(1, i64 (c : Int)), (2, i64 (g : Int)), (3, .ref 2 0), (6, .ref 3 0), (7, i64 0), (9, i64 (l.length : Int))])
          (H' := [none, none, some [.sl 4 1 0 (l.length + 1), .sl 5 1 0 (l.length + 1), bl false], some [nilS, nilS, bl false], some (((I2.map oints).set c (.sl 6 1 0 (I2.getD c []).length)).set l.length (.sl 7 1 0 (I2.getD l.length []).length)), some (intsC (l ++ [(l.length : Int)])), some (intsC (I2.getD c [])), some (intsC (I2.getD l.length []))]) rfl (by simp [sub, fget])))) ?_
        generalize ((I2.map oints).set c (AV.sl 6 1 0 (I2.getD c []).length)).set l.length (AV.sl 7 1 0 (I2.getD l.length []).length) = D at *
        have g1 : ∀ d, D.getD c d = .sl 6 1 0 (I2.getD c []).length := fun d => getD_of t2
        have g2 : ∀ d, D.getD l.length d = .sl 7 1 0 (I2.getD l.length []).length := fun d => getD_of t3
        generalize I2.getD c [] = A at *
        generalize I2.getD l.length [] = B at *
        (repeat first | simp only [g1, g2, t1, hIl, Int.toNat_natCast, go_sem, ↓reduceIte, Nat.reduceEqDiff, Nat.reduceAdd, reduceCtorEq] | with_reducible refine V_W ?_ | (with_reducible refine And.intro ?_ ?_; focus first | assumption | omega | decide | grind) | (with_reducible refine Br.mk ?_ ?_; focus (intros; omega)))
        have e1 : ∀ v : Int, AV.osl 1 A.length (intsC (A.set g v)) = oints (A.set g v) := fun v => by simp [oints]
        have e2 : ∀ v : Int, AV.osl 1 B.length (intsC (B.set g v)) = oints (B.set g v) := fun v => by simp [oints]
        have t6 : (D.set c (oints (A.set g (l.length : Int))))[l.length]? = some (.sl 7 1 0 B.length) := by rw [List.getElem?_set_ne (by omega)]; exact t3
        refine (Ref.close 4 c 6 (cs := D) (cs2 := intsC (A.set g (l.length : Int))) rfl t2 rfl (by decide) (by simp [intsC])).trans ?_
        rw [e1]
        refine (Ref.close 4 l.length 7 (cs := D.set c (oints (A.set g (l.length : Int)))) (cs2 := intsC (B.set g (c : Int))) rfl t6 rfl (by decide) (by simp [intsC])).trans ?_
        rw [e2, t5]
        exact Ref.gc1 [0, 1, 4, 5]
end Go.Proofs.YtcmahhfjpgoceaaGreat
set_option maxRecDepth 100000
namespace Go.Ce
open Classical
theorem mI_set {I : List (List Int)} {lo hi : Nat} (h1 : lo < I.length) (hne : lo ≠ hi) : ∀ k : Nat, mI I lo hi k = I.set lo ((mI I lo hi k).getD lo []) ∧ (mI I lo hi k).getD hi [] = I.getD hi []
  | 0 => by
    unfold mI
    refine ⟨?_, rfl⟩
    refine List.ext_getElem (by simp) fun j a b => ?_
    rw [List.getElem_set]
    split
    · rename_i e; subst e; simp [a]
    · rfl
  | k + 1 => by
    obtain ⟨e1, e2⟩ := mI_set h1 hne k
    unfold mI
    split
    · exact ⟨e1, e2⟩
    · generalize mI I lo hi k = M at *
      have hl : M.length = I.length := by rw [e1]; simp
      unfold put2
      refine ⟨?_, ?_⟩
      · have e3 : (M.set lo ((M.getD lo []).set k (at2 M hi k))).getD lo [] = (M.getD lo []).set k (at2 M hi k) := by
          rw [List.getD_eq_getElem?_getD, List.getElem?_set_self (by omega)]; rfl
        rw [e3]
        generalize (M.getD lo []).set k (at2 M hi k) = r at *
        rw [e1, List.set_set]
      · rw [List.getD_eq_getElem?_getD, List.getElem?_set_ne hne, ← List.getD_eq_getElem?_getD]
        exact e2
theorem mI_len (I : List (List Int)) (lo hi : Nat) : ∀ k : Nat, (mI I lo hi k).length = I.length
  | 0 => rfl
  | k + 1 => by
    unfold mI
    split
    · exact mI_len I lo hi k
    · rw [put2_len]; exact mI_len I lo hi k
def mR (I : List (List Int)) (lo hi k : Nat) : List Int := (mI I lo hi k).getD lo []
theorem mR_step {I : List (List Int)} {lo hi : Nat} (h1 : lo < I.length) (hne : lo ≠ hi) (k : Nat) :
    mR I lo hi (k + 1) = (if (I.getD hi []).getD k 0 < 0 ∨ 0 ≤ (mR I lo hi k).getD k 0 then mR I lo hi k else (mR I lo hi k).set k ((I.getD hi []).getD k 0)) ∧
    mQ I lo hi (k + 1) = (if 0 ≤ (I.getD hi []).getD k 0 ∧ 0 ≤ (mR I lo hi k).getD k 0 then mQ I lo hi k ++ [(((I.getD hi []).getD k 0).toNat, ((mR I lo hi k).getD k 0).toNat)] else mQ I lo hi k) := by
  obtain ⟨e1, e2⟩ := mI_set h1 hne k
  have a1 : at2 (mI I lo hi k) hi k = (I.getD hi []).getD k 0 := by unfold at2; rw [e2]
  have a2 : at2 (mI I lo hi k) lo k = (mR I lo hi k).getD k 0 := rfl
  refine ⟨?_, ?_⟩
  · unfold mR
    rw [mI, a1, a2]
    unfold mR
    split
    · rfl
    · unfold put2
      rw [List.getD_eq_getElem?_getD, List.getElem?_set_self (by rw [mI_len]; exact h1)]
      rfl
  · rw [mQ, a1, a2]
theorem mR_len {I : List (List Int)} {lo hi : Nat} (h1 : lo < I.length) (hne : lo ≠ hi) : ∀ k : Nat, (mR I lo hi k).length = (I.getD lo []).length
  | 0 => rfl
  | k + 1 => by
    rw [(mR_step h1 hne k).1]
    split
    · exact mR_len h1 hne k
    · rw [List.length_set]; exact mR_len h1 hne k
end Go.Ce
namespace Go.Proofs.YtcmahhfjpgoceaaGreat
open Go.Gov Go.Ce
open Classical

def fsN (q : List (Nat × Nat)) : List Int := q.map fun p => (p.1 : Int)
def snN (q : List (Nat × Nat)) : List Int := q.map fun p => (p.2 : Int)
theorem fsN_len (q : List (Nat × Nat)) : (fsN q).length = q.length := by simp [fsN]
theorem snN_len (q : List (Nat × Nat)) : (snN q).length = q.length := by simp [snN]
theorem fsN_app (q : List (Nat × Nat)) (a b : Nat) : fsN (q ++ [(a, b)]) = fsN q ++ [(a : Int)] := by simp [fsN]
theorem snN_app (q : List (Nat × Nat)) (a b : Nat) : snN (q ++ [(a, b)]) = snN q ++ [(b : Int)] := by simp [snN]
theorem fsN_at {q : List (Nat × Nat)} {i : Nat} {p : Nat × Nat} (h : q[i]? = some p) : (fsN q).getD i 0 = (p.1 : Int) := by simp [fsN, h]
theorem snN_at {q : List (Nat × Nat)} {i : Nat} {p : Nat × Nat} (h : q[i]? = some p) : (snN q).getD i 0 = (p.2 : Int) := by simp [snN, h]
set_option maxHeartbeats 8000000 in
theorem l11Identify_w (G : Nat) (hG : G ≤ 5) (I0 : List (List Int)) (l0 : List Int) (b : Bool) (h : Ok G I0 l0) (hfew : l0.length ≤ 2000) (c d : Nat) (hc : c < l0.length) (hd : d < l0.length) :
    Wri Tryz.prog 161 [stO 0 1 ⟨I0, l0, b⟩, i64 (c : Int), i64 (d : Int)] [some (I0.map oints), some (intsC l0)]
      (stO 2 3 ⟨(ident G I0 l0 c d).1, (ident G I0 l0 c d).2, b⟩) [none, none, some ((ident G I0 l0 c d).1.map oints), some (intsC (ident G I0 l0 c d).2)] := by
  have hl := h.len
  dsimp only [stO]
  refine wriRV ok161 rfl ?_; unfold c161
  refine RN ?_
  refine V_loop (α := List (List Int) × List Int × List (Nat × Nat) × Nat) (S := fun p => ([(3, .ref 2 0), (6, .ref 3 0), (7, .sl 4 1 0 p.2.2.1.length), (8, .sl 5 1 0 p.2.2.1.length), (9, i64 (p.2.2.2 : Int))],
      [some (p.1.map oints), some (intsC p.2.1), some [.sl 0 1 0 l0.length, .sl 1 1 0 l0.length, bl b], some [nilS, nilS, bl false], some (intsC (fsN p.2.2.1)), some (intsC (snN p.2.2.1))]))
    (C := fun p => p.2.2.2 ≤ p.2.2.1.length ∧ IdI G I0 l0 (ident G I0 l0 c d) p.1 p.2.1 (p.2.2.1.drop p.2.2.2) ∧ p.2.2.2 + meas p.2.1 (p.2.2.1.drop p.2.2.2) ≤ 12001) (μ := fun p => meas p.2.1 (p.2.2.1.drop p.2.2.2)) (I0, l0, [(c, d)], 0) ?_ ?_ ?_
  · have hr := roots_le l0
    refine ⟨Nat.zero_le _, IdI.start h hc hd, ?_⟩
    unfold meas
    simp only [List.drop_zero, List.length_cons, List.length_nil]
    omega
  · exact Ref.to (by simp [fsN, snN, hl, intsC]) (by simp [sub, fget])
  rintro ⟨I, l, Qs, i⟩ ⟨hi, hI, hm⟩
  dsimp only at hi hI hm ⊢
  have hIl : I.length = l0.length := by rw [hI.ok.len, hI.len]
  have hll := hI.len
  have hQ : Qs.length ≤ 12001 := by
    have : (Qs.drop i).length ≤ meas l (Qs.drop i) := by unfold meas; omega
    rw [List.length_drop] at this
    omega
  have hf1 := fsN_len Qs
  have hf2 := snN_len Qs
  refine RN ?_
  refine ⟨fun hc1 => ?_, fun hc1 => ?_⟩
  · have hiQ : i < Qs.length := by omega
    obtain ⟨⟨a, e⟩, hp⟩ : ∃ p, Qs[i]? = some p := ⟨_, List.getElem?_eq_getElem hiQ⟩
    have hdr : Qs.drop i = (a, e) :: Qs.drop (i + 1) := by rw [List.drop_eq_getElem_cons hiQ, (List.getElem?_eq_some_iff.1 hp).2]
    rw [hdr] at hI hm
    have hab := hI.qb (a, e) (by simp)
    dsimp only at hab
    have e1 := fsN_at hp
    have e2 := snN_at hp
    dsimp only at e1 e2
    have hF1 := l11Find_c I l b hI.ok.low (by omega) a hab.1
    have hF2 := l11Find_c I l b hI.ok.low (by omega) e hab.2
    have f1 := find_ok hI.ok.low a hab.1
    have f2 := find_ok hI.ok.low e hab.2
    have hsame := fun h => hI.same h
    have hstep := fun h => hI.step hG rfl rfl h
    generalize find l a = x at *
    generalize find l e = y at *
    refine RN ?_
    simp only [e1, e2]
    refine pureC hF1 (by simp only [go_sem, ↓reduceIte, Nat.reduceEqDiff, Nat.reduceAdd, reduceCtorEq, frz_im _ _ I l0.length hIl, frz_li _ _ l l0.length hll]; simp only [stA, mat, ints, hIl, hll]) (by first | rfl | simp only [go_sem, ↓reduceIte, Nat.reduceEqDiff, Nat.reduceAdd, reduceCtorEq]) ?_
    simp only [go_sem, ↓reduceIte, Nat.reduceEqDiff, Nat.reduceAdd, reduceCtorEq]
    refine pureC hF2 (by simp only [go_sem, ↓reduceIte, Nat.reduceEqDiff, Nat.reduceAdd, reduceCtorEq, frz_im _ _ I l0.length hIl, frz_li _ _ l l0.length hll]; simp only [stA, mat, ints, hIl, hll]) (by first | rfl | simp only [go_sem, ↓reduceIte, Nat.reduceEqDiff, Nat.reduceAdd, reduceCtorEq]) ?_
    refine RN ?_
    refine ⟨fun hxy => ?_, fun hxy => ?_⟩
    · have hI2 := hsame (by omega)
      have hm2 : meas l (Qs.drop (i + 1)) + 1 = meas l ((a, e) :: Qs.drop (i + 1)) := by unfold meas; simp; omega
      refine RN ?_
      refine ⟨(I, l, Qs, i + 1), ⟨by dsimp only; omega, hI2, by dsimp only; omega⟩, by rw [hdr]; dsimp only; omega, ?_⟩
      exact Ref.to rfl (by simp [sub, fget])
    · obtain ⟨hI2, hm2⟩ := hstep (by omega)
      refine RN ?_
      apply Br_join (fun o : Nat × Nat => o.1 = min x y ∧ o.2 = max x y)
      · rintro hc2 hj
        refine W_to _ (fun o : Nat × Nat => [(3, .ref 2 0), (6, .ref 3 0), (7, .sl 4 1 0 Qs.length), (8, .sl 5 1 0 Qs.length), (9, i64 (i : Int)), (10, i64 (o.1 : Int)), (11, i64 (o.2 : Int))]) (fun _ => [some (I.map oints), some (intsC l), some [.sl 0 1 0 l0.length, .sl 1 1 0 l0.length, bl b], some [nilS, nilS, bl false], some (intsC (fsN Qs)), some (intsC (snN Qs))]) hj (y, x) ⟨by dsimp only; omega, by dsimp only; omega⟩ ?_
        exact Ref.to rfl (by simp [sub, fget])
      · rintro hc2 hj
        refine W_to _ (fun o : Nat × Nat => [(3, .ref 2 0), (6, .ref 3 0), (7, .sl 4 1 0 Qs.length), (8, .sl 5 1 0 Qs.length), (9, i64 (i : Int)), (10, i64 (o.1 : Int)), (11, i64 (o.2 : Int))]) (fun _ => [some (I.map oints), some (intsC l), some [.sl 0 1 0 l0.length, .sl 1 1 0 l0.length, bl b], some [nilS, nilS, bl false], some (intsC (fsN Qs)), some (intsC (snN Qs))]) hj (x, y) ⟨by dsimp only; omega, by dsimp only; omega⟩ ?_
        exact Ref.to rfl (by simp [sub, fget])
      · rintro ⟨lo, hi⟩ ⟨h1, h2⟩
        dsimp only at h1 h2
        rw [← h1, ← h2] at hI2 hm2
        have hlh : lo < hi := by omega
        have hhl : hi < l.length := by omega
        have hloI : lo < I.length := by omega
        have hhiI : hi < I.length := by omega
        have hra := hI.ok.row hi hhiI
        have hrb := hI.ok.row lo hloI
        have hAe : ∀ k, k < G → -1 ≤ (I.getD hi []).getD k 0 ∧ (I.getD hi []).getD k 0 < (l.length : Int) := fun k hk => hI.ok.ent hi k hhiI hk
        have hst := mR_step hloI (show lo ≠ hi by omega)
        have hln := mR_len hloI (show lo ≠ hi by omega)
        have hse := (mI_set hloI (show lo ≠ hi by omega) G).1
        have hmo := fun k hk => (mI_ok hI.ok (by omega) hhl k hk : Ok G (mI I lo hi k) l ∧ _)
        have hBe : ∀ k, k ≤ G → ∀ j, j < G → -1 ≤ (mR I lo hi k).getD j 0 ∧ (mR I lo hi k).getD j 0 < (l.length : Int) := fun k hk j hj => (hmo k hk).1.ent lo j (by rw [mI_len]; exact hloI) hj
        have hR0 : mR I lo hi 0 = I.getD lo [] := rfl
        have hQl := mQ_len I lo hi
        have hse2 : mI I lo hi G = I.set lo (mR I lo hi G) := hse
        obtain ⟨t1, t2, t3, t4⟩ := two_open (I := I) (c := hi) (d := lo) hhiI hloI (by omega) (.sl 6 1 0 (I.getD hi []).length) (.sl 7 1 0 (I.getD lo []).length)
        have o2 : ((I.map oints).set hi (.sl 6 1 0 (I.getD hi []).length))[lo]? = some (.osl 1 (I.getD lo []).length (intsC (I.getD lo []))) := by
          rw [List.getElem?_set_ne (by omega)]; exact orow_at hloI
        have t5 := t4 (I.getD hi []) (mR I lo hi G)
        have t7 : ((I.set hi (I.getD hi [])).set lo (mR I lo hi G)) = mI I lo hi G := by
          rw [hse2]
          congr 1
          refine List.ext_getElem (by simp) fun j a b => ?_
          rw [List.getElem_set]
          split
          · rename_i e; subst e; simp [b]
          · rfl
        rw [t7] at t5
        have hop := fun n0 F' H' => (Ref.open (n0 := n0) (F := F') (H := some (I.map oints) :: H') 0 hi (cs := I.map oints) rfl (orow_at hhiI))
        obtain ⟨D, hD⟩ : ∃ D, D = ((I.map oints).set hi (.sl 6 1 0 (I.getD hi []).length)).set lo (.sl 7 1 0 (I.getD lo []).length) := ⟨_, rfl⟩
        have hDr : ∀ τ, τ 6 = some 6 → τ 7 = some 7 → rnmL τ D = D := fun τ h6 h7 => by
          rw [hD, rnmL_set, rnmL_set, rnmL_orows]
          simp [rnm, h6, h7]
        rw [← hD] at t1 t2 t3 t5
        refine RN ?_
        refine V_loop (α := Nat) (S := fun k => ([(3, .ref 2 0), (6, .ref 3 0), (7, .sl 4 1 0 (Qs ++ mQ I lo hi k).length), (8, .sl 5 1 0 (Qs ++ mQ I lo hi k).length), (9, i64 (i : Int)), (10, i64 (lo : Int)), (11, i64 (hi : Int)), (12, i64 (k : Int))],
          [some D, some (intsC (l.set hi (lo : Int))), some [.sl 0 1 0 l0.length, .sl 1 1 0 l0.length, bl b], some [nilS, nilS, bl false], some (intsC (fsN (Qs ++ mQ I lo hi k))), some (intsC (snN (Qs ++ mQ I lo hi k))), some (intsC (I.getD hi [])), some (intsC (mR I lo hi k))])) (C := fun k => k ≤ G) (μ := fun k => G - k) 0 (Nat.zero_le _) ?_ ?_
        · refine (Ref.open 0 hi (cs := I.map oints) rfl (orow_at hhiI)).trans ((Ref.open 0 lo (cs := (I.map oints).set hi (.sl 6 1 0 (I.getD hi []).length)) rfl o2).trans (Ref.to ?_ ?_))
          · dsimp only
            rw [show mQ I lo hi 0 = [] from rfl, List.append_nil, hD]
            rfl
          · dsimp only
            rw [show mQ I lo hi 0 = [] from rfl, List.append_nil]
            simp [sub, fget]
        intro k hk
        have g1 : ∀ d, D.getD hi d = .sl 6 1 0 (I.getD hi []).length := fun d => getD_of t2
        have g2 : ∀ d, D.getD lo d = .sl 7 1 0 (I.getD lo []).length := fun d => getD_of t3
        have hQk := hQl k
        obtain ⟨hs1, hs2⟩ := hst k
        have hlk := hln k
        have hBk := hBe k hk
        obtain ⟨B, hB⟩ : ∃ B, B = mR I lo hi k := ⟨_, rfl⟩
        obtain ⟨W, hW⟩ : ∃ W, W = mQ I lo hi k := ⟨_, rfl⟩
        rw [← hB] at hs1 hs2 hlk hBk ⊢
        rw [← hW] at hs2 hQk ⊢
        have hfl := fsN_len (Qs ++ W)
        have hsl := snN_len (Qs ++ W)
        rw [List.length_append] at hfl hsl
        (repeat first | simp only [g1, g2, t1, hIl, Int.toNat_natCast, go_sem, ↓reduceIte, Nat.reduceEqDiff, Nat.reduceAdd, reduceCtorEq] | with_reducible refine V_W ?_ | (with_reducible refine And.intro ?_ ?_; focus first | assumption | omega | decide | grind))
        refine ⟨fun hc4 => ?_, fun hc4 => ?_⟩
        · have hkG : k < G := by omega
          have hAk := hAe k hkG
          have hBg := hBk k hkG
          (repeat first | simp only [g1, g2, t1, hIl, Int.toNat_natCast, go_sem, ↓reduceIte, Nat.reduceEqDiff, Nat.reduceAdd, reduceCtorEq] | with_reducible refine V_W ?_ | (with_reducible refine And.intro ?_ ?_; focus first | assumption | omega | decide | grind))
          refine ⟨fun hc5 => ?_, fun hc5 => ?_⟩
          · rw [if_pos (.inl hc5)] at hs1
            rw [if_neg (by omega)] at hs2
            refine RN ?_
            refine ⟨k + 1, by omega, by omega, ?_⟩
            rw [hs1, hs2]
            exact Ref.to rfl (by simp [sub, fget])
          · (repeat first | simp only [g1, g2, t1, hIl, Int.toNat_natCast, go_sem, ↓reduceIte, Nat.reduceEqDiff, Nat.reduceAdd, reduceCtorEq] | with_reducible refine V_W ?_ | (with_reducible refine And.intro ?_ ?_; focus first | assumption | omega | decide | grind))
            refine ⟨fun hc6 => ?_, fun hc6 => ?_⟩
            · rw [if_pos (.inr (by omega))] at hs1
              rw [if_pos ⟨by omega, by omega⟩] at hs2
              (repeat first | simp only [g1, g2, t1, hIl, Int.toNat_natCast, go_sem, ↓reduceIte, Nat.reduceEqDiff, Nat.reduceAdd, reduceCtorEq] | with_reducible refine V_W ?_ | (with_reducible refine And.intro ?_ ?_; focus first | assumption | omega | decide | grind))
              refine ⟨k + 1, by omega, by omega, ?_⟩
              rw [hs1, hs2, ← List.append_assoc, fsN_app, snN_app]
              have ea : (((I.getD hi []).getD k 0).toNat : Int) = (I.getD hi []).getD k 0 := by omega
              have eb : ((B.getD k 0).toNat : Int) = B.getD k 0 := by omega
              rw [ea, eb]
              refine Ref.gc [0, 1, 2, 3, 9, 11, 6, 7] rfl ?_ (by simp [sub, fget, go_sem, ↓reduceIte, Nat.reduceEqDiff, Nat.reduceAdd, reduceCtorEq, Nat.add_assoc])
              simp only [go_sem, ↓reduceIte, Nat.reduceEqDiff, Nat.reduceAdd, reduceCtorEq]
              have tk1 : (intsC (fsN (Qs ++ W))).take (Qs.length + W.length) = intsC (fsN (Qs ++ W)) := List.take_of_length_le (by rw [len_intsC, hfl]; exact Nat.le_refl _)
              have tk2 : (intsC (snN (Qs ++ W))).take (Qs.length + W.length) = intsC (snN (Qs ++ W)) := List.take_of_length_le (by rw [len_intsC, hsl]; exact Nat.le_refl _)
              rw [tk1, tk2, rnmL_ints, rnmL_ints, hDr]
              · simp [intsC]
              · rfl
              · rfl
            · rw [if_neg (by omega)] at hs1
              rw [if_neg (by omega)] at hs2
              (repeat first | simp only [g1, g2, t1, hIl, Int.toNat_natCast, go_sem, ↓reduceIte, Nat.reduceEqDiff, Nat.reduceAdd, reduceCtorEq] | with_reducible refine V_W ?_ | (with_reducible refine And.intro ?_ ?_; focus first | assumption | omega | decide | grind))
              refine ⟨k + 1, by omega, by omega, ?_⟩
              rw [hs1, hs2]
              exact Ref.to rfl (by simp [sub, fget])
        · obtain rfl : k = G := by omega
          refine RN ?_
          refine ⟨(mI I lo hi k, l.set hi (lo : Int), Qs ++ W, i + 1), ⟨by dsimp only; simp; omega, ?_, ?_⟩, ?_, ?_⟩
          · dsimp only
            rw [List.drop_append_of_le_length (by omega), hW]
            exact hI2
          · dsimp only
            rw [List.drop_append_of_le_length (by omega), hW]
            omega
          · rw [hdr]
            dsimp only
            rw [List.drop_append_of_le_length (by omega), hW]
            exact hm2
          · have ea : AV.osl 1 (I.getD hi []).length (intsC (I.getD hi [])) = oints (I.getD hi []) := rfl
            have eb : AV.osl 1 (I.getD lo []).length (intsC B) = oints B := by simp [oints, hlk]
            have t6 : (D.set hi (oints (I.getD hi [])))[lo]? = some (.sl 7 1 0 (I.getD lo []).length) := by rw [List.getElem?_set_ne (by omega)]; exact t3
            refine (Ref.close 0 hi 6 (cs := D) (cs2 := intsC (I.getD hi [])) rfl t2 rfl (by decide) (by simp [intsC])).trans ?_
            rw [ea]
            refine (Ref.close 0 lo 7 (cs := D.set hi (oints (I.getD hi []))) (cs2 := intsC B) rfl t6 rfl (by decide) (by simp [intsC, hlk])).trans ?_
            rw [eb, hB, t5]
            exact Ref.gc1 [0, 1, 2, 3, 4, 5]
  · obtain rfl : i = Qs.length := by omega
    rw [List.drop_length] at hI
    have hdone := hI.done
    rw [hdone]
    refine RN ?_
    refine Ref.trans (Ref.gc [0, 1] rfl ?_ ?_) (mv2a 2 I l I.length l.length b (by omega))
    · simp only [go_sem, ↓reduceIte, Nat.reduceEqDiff, Nat.reduceAdd, reduceCtorEq]
    · simp [sub, fget, go_sem, ↓reduceIte, Nat.reduceEqDiff, Nat.reduceAdd, reduceCtorEq, hIl, hll]
end Go.Proofs.YtcmahhfjpgoceaaGreat
