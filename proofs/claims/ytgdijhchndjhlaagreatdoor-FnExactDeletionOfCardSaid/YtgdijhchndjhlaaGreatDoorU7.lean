/- Texts that belong together. -/
import Derived.Test.YtgdijhchndjhlaaGreatDoorZc
import Derived.Test.YtgdijhchndjhlaaGreatDoorU1
import Derived.Test.YtgdijhchndjhlaaGreatDoorU5
set_option linter.unusedSimpArgs false
set_option linter.unusedVariables false
set_option maxRecDepth 100000
namespace Go.Proofs.YtgdijhchndjhlaaGreatDoor
open Go.Gov
set_option maxRecDepth 100000 in
def c62 : ACode := (.seq (os [gp 4 (.mov (.c (.bool false)))]) (.seq (os [gm 5 0, gm 6 1, gp 7 (.call 80 [(.s 5), (.s 6)]), gp 8 (.bin 0 .geq (.s 7) (kk 0)), gm 4 8]) .ret))
set_option maxRecDepth 100000 in
theorem ok62 : compileFn Tryz.prog M2 62 = some (9, c62, [(.mov (.s 4))]) := by kernel_rfl
set_option maxRecDepth 100000 in
def c80 : ACode := (.seq (os [gz 4 0]) (.seq (.seq (os [gm 6 0, gp 7 (.len (.s 6)), gz 8 0]) (.block 0 (.loop (.seq (os [gp 9 (.bin 0 .lss (.s 8) (.s 7))]) (.seq (.cond (.s 9) .skip (.exit 0)) (.seq (.block 1 (.seq (os [gm 10 8, gm 5 10]) (.seq (os [gm 11 1, gm 12 0, gm 13 5, gp 14 (.idx 1 (.s 12) (.s 13)), gp 15 (ldi 14), gp 16 (.bin 0 .eql (.s 11) (.s 15))]) (.cond (.s 16) (.seq (os [gm 17 5, gm 4 17]) .ret) .skip)))) (os [gp 18 (.bin 0 .add (.s 8) (kk 1)), gm 8 18]))))))) (.seq (os [gz 4 (-1)]) .ret)))
set_option maxRecDepth 100000 in
theorem ok80 : compileFn Tryz.prog M2 80 = some (19, c80, [(.mov (.s 4))]) := by kernel_rfl
set_option maxRecDepth 100000 in
def c63 : ACode := (.seq (os [gn 2]) (.seq (os [gp 5 (.bsl 0 []), gm 3 5]) (.seq (.seq (os [gz 4 0]) (.block 0 (.loop (.seq (.seq (os [gm 6 4, gm 7 0, gp 8 (.len (.s 7)), gp 9 (.bin 0 .lss (.s 6) (.s 8))]) (.cond (.s 9) .skip (.exit 0))) (.seq (.block 1 (os [gm 12 3, gm 13 0, gm 14 4, gp 15 (.idx 1 (.s 13) (.s 14)), gp 16 (.load (.slc 1 0 []) (.s 15)), gp 17 (.call 44 [(.s 16)]), ⟨(some 18), none, (.bsl 1 [⟨0, (.s 17)⟩])⟩, gp 19 (.app 1 24 (.s 12) (.s 18)), gm 3 19])) (os [gm 10 4, gp 11 (.bin 0 .add (.s 10) (kk 1)), gm 4 11])))))) (.seq (os [gm 20 3, gm 2 20]) .ret))))
set_option maxRecDepth 100000 in
theorem ok63 : compileFn Tryz.prog M2 63 = some (21, c63, [(.mov (.s 2))]) := by kernel_rfl
end Go.Proofs.YtgdijhchndjhlaaGreatDoor
set_option maxRecDepth 100000
namespace Go.Proofs.YtgdijhchndjhlaaGreatDoor
open Go.Gov
open Classical

theorem indexZ_c (Y : List Int) (z : Int) (hl : Y.length ≤ 1099511627776) : Pure Tryz.prog 80 [ints Y, i64 z] (i64 (idx Y z)) [] := by
  refine pureV0 ok80 rfl rfl ?_; unfold c80
  (repeat first | simp only [go_sem, ↓reduceIte, Nat.reduceEqDiff, Nat.reduceAdd, reduceCtorEq] | with_reducible refine V_W ?_ | (with_reducible refine And.intro ?_ ?_; focus first | assumption | omega | decide | grind) | (with_reducible refine Br.mk ?_ ?_; focus (intros; omega)) | decide)
  refine V_loop (α := Nat) (S := fun i => ([(0, ints Y), (1, i64 z), (6, ints Y), (7, i64 Y.length), (8, i64 i)], [])) (C := fun i => i ≤ Y.length ∧ ∀ j, j < i → Y.getD j 0 ≠ z) (μ := fun i => Y.length - i) 0 ⟨Nat.zero_le _, fun j hj => by omega⟩ (by exact Ref.frame (by simp [sub, fget])) ?_
  rintro i ⟨hi, hall⟩
  (repeat first | simp only [go_sem, ↓reduceIte, Nat.reduceEqDiff, Nat.reduceAdd, reduceCtorEq] | with_reducible refine V_W ?_ | (with_reducible refine And.intro ?_ ?_; focus first | assumption | omega | decide | grind) | (with_reducible refine Br.mk ?_ ?_; focus (intros; omega)) | decide)
  refine ⟨fun hc => ?_, fun hc => ?_⟩
  · (repeat first | simp only [go_sem, ↓reduceIte, Nat.reduceEqDiff, Nat.reduceAdd, reduceCtorEq] | with_reducible refine V_W ?_ | (with_reducible refine And.intro ?_ ?_; focus first | assumption | omega | decide | grind) | (with_reducible refine Br.mk ?_ ?_; focus (intros; omega)) | decide)
    refine ⟨fun hc2 => ?_, fun hc2 => ?_⟩
    · (repeat first | simp only [go_sem, ↓reduceIte, Nat.reduceEqDiff, Nat.reduceAdd, reduceCtorEq] | with_reducible refine V_W ?_ | (with_reducible refine And.intro ?_ ?_; focus first | assumption | omega | decide | grind) | (with_reducible refine Br.mk ?_ ?_; focus (intros; omega)) | decide)
      rw [idx_at hall (by omega) (by omega)]
    · (repeat first | simp only [go_sem, ↓reduceIte, Nat.reduceEqDiff, Nat.reduceAdd, reduceCtorEq] | with_reducible refine V_W ?_ | (with_reducible refine And.intro ?_ ?_; focus first | assumption | omega | decide | grind) | (with_reducible refine Br.mk ?_ ?_; focus (intros; omega)) | decide)
      refine ⟨i + 1, ⟨by omega, fun j hj => ?_⟩, by omega, by exact Ref.frame (by simp [sub, fget])⟩
      rcases Nat.lt_or_ge j i with h | h
      · exact hall j h
      · obtain rfl : j = i := by omega
        omega
  · (repeat first | simp only [go_sem, ↓reduceIte, Nat.reduceEqDiff, Nat.reduceAdd, reduceCtorEq] | with_reducible refine V_W ?_ | (with_reducible refine And.intro ?_ ?_; focus first | assumption | omega | decide | grind) | (with_reducible refine Br.mk ?_ ?_; focus (intros; omega)) | decide)
    rw [idx_no fun j hj => hall j (by omega)]
theorem contains_c (Y : List Int) (z : Int) (hl : Y.length ≤ 1099511627776) : Pure Tryz.prog 62 [ints Y, i64 z] (bl (decide (z ∈ Y))) [] := by
  refine pureV0 ok62 rfl rfl ?_; unfold c62
  (repeat first | simp only [go_sem, ↓reduceIte, Nat.reduceEqDiff, Nat.reduceAdd, reduceCtorEq] | with_reducible refine V_W ?_ | (with_reducible refine And.intro ?_ ?_; focus first | assumption | omega | decide | grind) | (with_reducible refine Br.mk ?_ ?_; focus (intros; omega)) | decide)
  refine pureC (indexZ_c Y z hl) (by simp only [go_sem, ↓reduceIte, Nat.reduceEqDiff, Nat.reduceAdd, reduceCtorEq] <;> rfl) (by first | rfl | simp only [go_sem, ↓reduceIte, Nat.reduceEqDiff, Nat.reduceAdd, reduceCtorEq]) ?_
  (repeat first | simp only [go_sem, ↓reduceIte, Nat.reduceEqDiff, Nat.reduceAdd, reduceCtorEq] | with_reducible refine V_W ?_ | (with_reducible refine And.intro ?_ ?_; focus first | assumption | omega | decide | grind) | (with_reducible refine Br.mk ?_ ?_; focus (intros; omega)) | decide)
  rw [idx_ge]
theorem lessC_c (n : Int) (b : List Int) (hb : b.length ≤ 1048576) : Pure Tryz.prog 61 [i64 n, .pto [ints b] 0] (bl (decide (n ∈ b))) [] := by
  refine pureV0 ok61 rfl rfl ?_; unfold c61
  (repeat first | simp only [go_sem, ↓reduceIte, Nat.reduceEqDiff, Nat.reduceAdd, reduceCtorEq] | with_reducible refine V_W ?_ | (with_reducible refine And.intro ?_ ?_; focus first | assumption | omega | decide | grind) | (with_reducible refine Br.mk ?_ ?_; focus (intros; omega)) | decide)
  refine pureC (contains_c b n (by omega)) (by simp only [go_sem, ↓reduceIte, Nat.reduceEqDiff, Nat.reduceAdd, reduceCtorEq] <;> rfl) (by first | rfl | simp only [go_sem, ↓reduceIte, Nat.reduceEqDiff, Nat.reduceAdd, reduceCtorEq]) ?_
  (repeat first | simp only [go_sem, ↓reduceIte, Nat.reduceEqDiff, Nat.reduceAdd, reduceCtorEq] | with_reducible refine V_W ?_ | (with_reducible refine And.intro ?_ ?_; focus first | assumption | omega | decide | grind) | (with_reducible refine Br.mk ?_ ?_; focus (intros; omega)) | decide)
theorem fidx_none {p : Int → Bool} {xs : List Int} (h : fidx p xs < 0) : ∀ y ∈ xs, p y = false := fun y hy => by
  have h1 := fidx_ge p xs
  rw [decide_eq_false (by omega)] at h1
  have := h1.symm
  exact List.any_eq_false.1 this y hy |> fun h => by simpa using h
theorem fidx_some {p : Int → Bool} {xs : List Int} (h : 0 ≤ fidx p xs) : ∃ i : Nat, fidx p xs = i ∧ i < xs.length ∧ (∀ j, j < i → p (xs.getD j 0) = false) ∧ p (xs.getD i 0) = true := by
  have h1 := fidx_ge p xs
  rw [decide_eq_true h] at h1
  refine ⟨xs.findIdx p, if_pos h1.symm, ?_, fun j hj => ?_, ?_⟩
  · obtain ⟨x, hx, hp⟩ := List.any_eq_true.1 h1.symm
    exact List.findIdx_lt_length_of_exists ⟨x, hx, hp⟩
  · have := List.not_of_lt_findIdx hj
    have hl : j < xs.length := Nat.lt_of_lt_of_le hj List.findIdx_le_length
    simpa [hl] using this
  · have hl : xs.findIdx p < xs.length := by
      obtain ⟨x, hx, hp⟩ := List.any_eq_true.1 h1.symm
      exact List.findIdx_lt_length_of_exists ⟨x, hx, hp⟩
    have := List.findIdx_getElem (w := hl)
    simpa [hl] using this
theorem filter_pre {x : List Int} {p : Int → Bool} : ∀ {i : Nat}, i ≤ x.length → (∀ j, j < i → p (x.getD j 0) = true) → (x.take i).filter p = x.take i
  | 0, _, _ => by simp
  | i + 1, hi, h => by
    rw [filter_take (by omega), filter_pre (by omega) (fun j hj => h j (by omega)), if_pos (h i (by omega)), List.take_succ_eq_append_getElem (by omega)]
    simp [show i < x.length by omega]
set_option maxHeartbeats 4000000 in
theorem deleteF_w (S : List Int) (f : FuncId) (fs cs : List AV) (p : Int → Bool) (hl : S.length ≤ 1048576) (hf : ∀ n, Pure Tryz.prog f (fs ++ [i64 n] ++ cs) (bl (p n)) []) (hk : callable Tryz.prog f = true) (hz : ∀ H : Heap, (fs.map (frz H 6) = fs ∧ cs.map (frz H 6) = cs) ∧ fs.map (frz H 5) = fs ∧ cs.map (frz H 5) = cs) :
    Wri Tryz.prog 60 [.sl 0 1 0 S.length, .clo f fs cs] [some (intsC S)] (.sl 0 1 0 (S.filter fun e => !p e).length) [some (intsC ((S.filter fun e => !p e) ++ List.replicate (S.length - (S.filter fun e => !p e).length) 0))] := by
  have hix := indexFunc_c S f fs cs p (by omega) hf hk (hz []).1.1 (hz []).1.2
  have h3 := fun H => (hz H).2.1
  have h4 := fun H => (hz H).2.2
  have h1 := fun H => (hz H).1.1
  have h2 := fun H => (hz H).1.2
  refine wriRV ok60 rfl ?_; unfold c60
  (repeat first | simp only [go_sem, ↓reduceIte, Nat.reduceEqDiff, Nat.reduceAdd, reduceCtorEq] | with_reducible refine V_W ?_ | (with_reducible refine And.intro ?_ ?_; focus first | assumption | omega | decide | grind) | (with_reducible refine Br.mk ?_ ?_; focus (intros; omega)) | decide)
  have htk : ∀ Hx : Heap, (List.take S.length (intsC S)).map (frz Hx 5) = intsC S := fun Hx => by
    rw [List.take_of_length_le (by simp [intsC]), map_frz_ints]
  refine pureC hix (by simp only [htk, List.map_cons, List.map_nil, frz, h3, h4, go_sem, ↓reduceIte, Nat.reduceEqDiff, Nat.reduceAdd, reduceCtorEq]) (by first | rfl | simp only [go_sem, ↓reduceIte, Nat.reduceEqDiff, Nat.reduceAdd, reduceCtorEq]) ?_
  (repeat first | simp only [go_sem, ↓reduceIte, Nat.reduceEqDiff, Nat.reduceAdd, reduceCtorEq] | with_reducible refine V_W ?_ | (with_reducible refine And.intro ?_ ?_; focus first | assumption | omega | decide | grind) | (with_reducible refine Br.mk ?_ ?_; focus (intros; omega)) | decide)
  obtain ⟨O, hO⟩ : ∃ O, O = S.filter fun e => !p e := ⟨_, rfl⟩
  have hOl : O.length ≤ S.length := hO ▸ List.length_filter_le _ _
  rw [← hO]
  refine ⟨fun hc => ?_, fun hc => ?_⟩
  · have hOS : O = S := by
      rw [hO]
      exact List.filter_eq_self.2 fun y hy => by rw [fidx_none (p := p) (by omega) y hy]; rfl
    rw [hOS, Nat.sub_self]
    (repeat first | simp only [go_sem, ↓reduceIte, Nat.reduceEqDiff, Nat.reduceAdd, reduceCtorEq] | with_reducible refine V_W ?_ | (with_reducible refine And.intro ?_ ?_; focus first | assumption | omega | decide | grind) | (with_reducible refine Br.mk ?_ ?_; focus (intros; omega)) | decide)
    exact Ref.to (by simp) (by simp [sub, fget])
  · have hge : 0 ≤ fidx p S := by
      unfold fidx at hc ⊢
      split
      · omega
      · rename_i h; rw [if_neg h] at hc; exact absurd rfl hc
    obtain ⟨i, hi, hiS, hpre, hpi⟩ := fidx_some hge
    rw [hi]
    clear hc hge hix
    have hfi : (S.take (i + 1)).filter (fun e => !p e) = S.take i := by
      rw [filter_take hiS, filter_pre (by omega) (fun j hj => by rw [hpre j hj]; rfl), hpi]
      simp
    (repeat first | simp only [go_sem, ↓reduceIte, Nat.reduceEqDiff, Nat.reduceAdd, reduceCtorEq] | with_reducible refine V_W ?_ | (with_reducible refine And.intro ?_ ?_; focus first | assumption | omega | decide | grind) | (with_reducible refine Br.mk ?_ ?_; focus (intros; omega)) | decide)
    refine V_loop (α := Nat) (S := fun j => ([(0, .sl 0 1 0 S.length), (1, .clo f fs cs), (5, i64 (((S.take j).filter fun e => !p e).length : Int)), (6, i64 (j : Int))], [some (intsC (((S.take j).filter fun e => !p e) ++ S.drop ((S.take j).filter fun e => !p e).length))])) (C := fun j => i + 1 ≤ j ∧ j ≤ S.length ∧ ((S.take j).filter fun e => !p e).length < j) (μ := fun j => S.length - j) (i + 1) ⟨Nat.le_refl _, by omega, by rw [hfi, List.length_take]; omega⟩ ?_ ?_
    · have h5 : (S.take i).length = i := by rw [List.length_take]; omega
      rw [hfi, h5, List.take_append_drop]
      exact Ref.to rfl (by simp [sub, fget])
    rintro j ⟨j1, j2, j3⟩
    obtain ⟨W, hW⟩ : ∃ W, W = (S.take j).filter fun e => !p e := ⟨_, rfl⟩
    rw [← hW] at j3 ⊢
    obtain ⟨T, hT⟩ : ∃ T, T = W ++ S.drop W.length := ⟨_, rfl⟩
    have hTl : T.length = S.length := by rw [hT]; simp; omega
    have gT : ∀ i, W.length ≤ i → T.getD i 0 = S.getD i 0 := fun i hi => by
      rw [hT, List.getD_eq_getElem?_getD, List.getElem?_append_right hi, List.getElem?_drop, show W.length + (i - W.length) = i by omega, ← List.getD_eq_getElem?_getD]
    rw [← hT]
    (repeat first | simp only [go_sem, ↓reduceIte, Nat.reduceEqDiff, Nat.reduceAdd, reduceCtorEq] | with_reducible refine V_W ?_ | (with_reducible refine And.intro ?_ ?_; focus first | assumption | omega | decide | grind) | (with_reducible refine Br.mk ?_ ?_; focus (intros; omega)) | decide)
    refine ⟨fun hc4 => ?_, fun hc4 => ?_⟩
    · have hft := filter_take (x := S) (p := fun e => !p e) (i := j) (by omega)
      have t1 := gT j (by omega)
      rw [← hW] at hft
      obtain ⟨y, hy⟩ : ∃ y, y = S.getD j 0 := ⟨_, rfl⟩
      rw [← hy] at t1 hft
      have hfy := hf y
      (repeat first | simp only [go_sem, ↓reduceIte, Nat.reduceEqDiff, Nat.reduceAdd, reduceCtorEq] | with_reducible refine V_W ?_ | (with_reducible refine And.intro ?_ ?_; focus first | assumption | omega | decide | grind) | (with_reducible refine Br.mk ?_ ?_; focus (intros; omega)) | decide)
      simp only [t1, go_sem, ↓reduceIte, Nat.reduceEqDiff, Nat.reduceAdd, reduceCtorEq]
      refine call_pure (args := fs ++ [i64 y] ++ cs) hfy (by simp only [List.map_append, List.map_cons, List.map_nil, h1, h2, frz]) rfl rfl ?_
      simp only [go_sem, ↓reduceIte, Nat.reduceEqDiff, Nat.reduceAdd, reduceCtorEq]
      (repeat first | simp only [go_sem, ↓reduceIte, Nat.reduceEqDiff, Nat.reduceAdd, reduceCtorEq] | with_reducible refine V_W ?_ | (with_reducible refine And.intro ?_ ?_; focus first | assumption | omega | decide | grind) | (with_reducible refine Br.mk ?_ ?_; focus (intros; omega)) | decide)
      refine ⟨fun hc5 => ?_, fun hc5 => ?_⟩
      · rw [if_pos (by simpa using hc5)] at hft
        have hset : T.set W.length y = (W ++ [y]) ++ S.drop (W ++ [y]).length := by
          rw [hT, List.set_append_right _ _ (Nat.le_refl _), Nat.sub_self, List.length_append, List.length_singleton, List.append_assoc]
          rw [List.drop_eq_getElem_cons (by omega : W.length < S.length)]
          rfl
        (repeat first | simp only [go_sem, ↓reduceIte, Nat.reduceEqDiff, Nat.reduceAdd, reduceCtorEq] | with_reducible refine V_W ?_ | (with_reducible refine And.intro ?_ ?_; focus first | assumption | omega | decide | grind) | (with_reducible refine Br.mk ?_ ?_; focus (intros; omega)) | decide)
        (try simp only [t1, go_sem, ↓reduceIte, Nat.reduceEqDiff, Nat.reduceAdd, reduceCtorEq])
        (repeat first | simp only [go_sem, ↓reduceIte, Nat.reduceEqDiff, Nat.reduceAdd, reduceCtorEq] | with_reducible refine V_W ?_ | (with_reducible refine And.intro ?_ ?_; focus first | assumption | omega | decide | grind) | (with_reducible refine Br.mk ?_ ?_; focus (intros; omega)) | decide)
        refine ⟨j + 1, ⟨by omega, by omega, by rw [hft]; simp; omega⟩, by omega, Ref.to ?_ (by simp [sub, fget, hft])⟩
        rw [hft, ← hset]
      · rw [if_neg (by simpa using hc5), List.append_nil] at hft
        (repeat first | simp only [go_sem, ↓reduceIte, Nat.reduceEqDiff, Nat.reduceAdd, reduceCtorEq] | with_reducible refine V_W ?_ | (with_reducible refine And.intro ?_ ?_; focus first | assumption | omega | decide | grind) | (with_reducible refine Br.mk ?_ ?_; focus (intros; omega)) | decide)
        exact ⟨j + 1, ⟨by omega, by omega, by rw [hft]; omega⟩, by omega, Ref.to (by rw [hft, hT]) (by simp [sub, fget, hft])⟩
    · obtain rfl : j = S.length := by omega
      rw [List.take_length] at hW
      obtain rfl : W = O := hW.trans hO.symm
      (repeat first | simp only [go_sem, ↓reduceIte, Nat.reduceEqDiff, Nat.reduceAdd, reduceCtorEq] | with_reducible refine V_W ?_ | (with_reducible refine And.intro ?_ ?_; focus first | assumption | omega | decide | grind) | (with_reducible refine Br.mk ?_ ?_; focus (intros; omega)) | decide)
      have e1 : ((S.length : Int) - (W.length : Int)).toNat = S.length - W.length := by omega
      have e2 : (intsC T).take W.length = intsC W := by rw [hT]; simp [intsC]
      refine Ref.to ?_ (by simp [sub, fget])
      rw [e1, e2, List.drop_eq_nil_of_le (by simp [intsC]; omega), List.append_nil]
      simp [intsC]
def mns (a b : List Int) : List Int := a.filter fun e => !decide (e ∈ b)
theorem mns_len (a b : List Int) : (mns a b).length ≤ a.length := List.length_filter_le _ _
set_option maxHeartbeats 2000000 in
theorem lessOf_p (a b : List Int) (ha : a.length ≤ 1048576) (hb : b.length ≤ 1048576) : Pure Tryz.prog 36 [ints a, ints b] (.sl 0 1 0 (mns a b).length) [some (intsC (mns a b))] := by
  have hcl := cloneZ_c a (by omega)
  have hdf := deleteF_w a 61 [] [.pto [ints b] 0] (fun n => decide (n ∈ b)) ha (fun n => lessC_c n b hb) (by kernel_rfl) fun H => by simp [frz, intsC]
  have hml := mns_len a b
  change Wri Tryz.prog 60 _ _ (.sl 0 1 0 (mns a b).length) [some (intsC (mns a b ++ List.replicate (a.length - (mns a b).length) 0))] at hdf
  generalize mns a b = O at hdf hml ⊢
  refine pureRV ok36 rfl ?_; unfold c36
  (repeat first | simp only [go_sem, ↓reduceIte, Nat.reduceEqDiff, Nat.reduceAdd, reduceCtorEq] | with_reducible refine V_W ?_ | (with_reducible refine And.intro ?_ ?_; focus first | assumption | omega | decide | grind) | (with_reducible refine Br.mk ?_ ?_; focus (intros; omega)) | decide)
  refine pureC (hcl) (by simp only [go_sem, ↓reduceIte, Nat.reduceEqDiff, Nat.reduceAdd, reduceCtorEq] <;> rfl) (by first | rfl | simp only [go_sem, ↓reduceIte, Nat.reduceEqDiff, Nat.reduceAdd, reduceCtorEq]) ?_
  (repeat first | simp only [go_sem, ↓reduceIte, Nat.reduceEqDiff, Nat.reduceAdd, reduceCtorEq] | with_reducible refine V_W ?_ | (with_reducible refine And.intro ?_ ?_; focus first | assumption | omega | decide | grind) | (with_reducible refine Br.mk ?_ ?_; focus (intros; omega)) | decide)
  refine wriC (hdf) [1] (by first | rfl | simp) (by simp only [go_sem, ↓reduceIte, Nat.reduceEqDiff, Nat.reduceAdd, reduceCtorEq] <;> rfl) (by simp only [go_sem, ↓reduceIte, Nat.reduceEqDiff, Nat.reduceAdd, reduceCtorEq] <;> rfl) (by first | rfl | simp only [go_sem, ↓reduceIte, Nat.reduceEqDiff, Nat.reduceAdd, reduceCtorEq]) ?_
  (repeat first | simp only [go_sem, ↓reduceIte, Nat.reduceEqDiff, Nat.reduceAdd, reduceCtorEq] | with_reducible refine V_W ?_ | (with_reducible refine And.intro ?_ ?_; focus first | assumption | omega | decide | grind) | (with_reducible refine Br.mk ?_ ?_; focus (intros; omega)) | decide)
  refine (Ref.cut 1 O.length 0 (k := 1) (off := 0) (len := O.length) (cs := intsC (O ++ List.replicate (a.length - O.length) 0)) rfl (by simp [intsC]) rfl (by omega)).trans (Ref.gc [2] rfl ?_ (by simp [sub, fget, go_sem, ↓reduceIte, Nat.reduceEqDiff, Nat.reduceAdd, reduceCtorEq]))
  simp only [go_sem, ↓reduceIte, Nat.reduceEqDiff, Nat.reduceAdd, reduceCtorEq] <;> simp [intsC, rnmL_ints]
def dlL (F : List (List Int)) (n : Int) : List (List Int) := F.map fun x => mns x [n]
theorem dlL_succ {F : List (List Int)} {n : Int} {i : Nat} (hi : i < F.length) : (dlL (F.take (i + 1)) n).map oints = (dlL (F.take i) n).map oints ++ [oints (mns (F.getD i []) [n])] := by
  unfold dlL
  rw [take_one hi, List.map_append, List.map_append]
  rfl
theorem dlL_len (F : List (List Int)) (n : Int) : (dlL F n).length = F.length := by simp [dlL]
theorem dlL_SR {F : List (List Int)} (hF : SR F) (n : Int) : SR (dlL F n) := fun p hp => by
  obtain ⟨x, hx, rfl⟩ := List.mem_map.1 hp
  exact List.Pairwise.filter _ (hF x hx)
theorem dlL_row {F : List (List Int)} (h : ∀ x ∈ F, x.length ≤ 6) (n : Int) : ∀ p ∈ dlL F n, p.length ≤ 6 := fun p hp => by
  obtain ⟨x, hx, rfl⟩ := List.mem_map.1 hp
  exact Nat.le_trans (mns_len _ _) (h x hx)
def VOk (v n : Int) : Prop := 0 ≤ n ∧ n ≤ v - 1
noncomputable def dlV (v : Int) (F : List (List Int)) (k : Int) : Int := if CxOk v F ∧ VOk v k then ckV (dlL F k) else 0
noncomputable def dlF (v : Int) (F : List (List Int)) (k : Int) : List (List Int) := if CxOk v F ∧ VOk v k then ckF (dlL F k) else []
noncomputable def dlK (v : Int) (F : List (List Int)) (k : Int) : Int := if CxOk v F then if VOk v k then ckK (dlL F k) else 2 else 1
theorem dlF_b (v : Int) (F : List (List Int)) (k : Int) : (dlF v F k).length ≤ 400 ∧ ∀ x ∈ dlF v F k, x.length ≤ 6 := by
  unfold dlF
  split
  · rename_i h
    exact ckF_b (dlL_SR h.1.sst _)
  · simp
theorem dl_no1 {v : Int} {F : List (List Int)} {k : Int} (h : ¬ CxOk v F) : dlV v F k = 0 ∧ dlF v F k = [] ∧ dlK v F k = 1 := ⟨if_neg fun h2 => h h2.1, if_neg fun h2 => h h2.1, if_neg h⟩
theorem dl_no2 {v : Int} {F : List (List Int)} {k : Int} (h : CxOk v F) (h2 : ¬ VOk v k) : dlV v F k = 0 ∧ dlF v F k = [] ∧ dlK v F k = 2 := ⟨if_neg fun h3 => h2 h3.2, if_neg fun h3 => h2 h3.2, by unfold dlK; rw [if_pos h, if_neg h2]⟩
theorem dl_yes {v : Int} {F : List (List Int)} {k : Int} (h : CxOk v F) (h2 : VOk v k) : dlV v F k = ckV (dlL F k) ∧ dlF v F k = ckF (dlL F k) ∧ dlK v F k = ckK (dlL F k) := ⟨if_pos ⟨h, h2⟩, if_pos ⟨h, h2⟩, by unfold dlK; rw [if_pos h, if_pos h2]⟩

set_option maxHeartbeats 4000000 in
theorem implDl_c (v : Int) (F : List (List Int)) (k : Int) (hl : F.length ≤ 1099511627776) (hr : ∀ x ∈ F, x.length ≤ 1099511627776) : Pure Tryz.prog 15 [cpxA v F, i64 k] (.tup [.agg [i64 (dlV v F k), .sl 0 1 0 (dlF v F k).length], i64 (dlK v F k)]) [some ((dlF v F k).map oints)] := by
  have hic := isComplex_c v F hl hr
  by_cases h : CxOk v F
  · rw [decide_eq_true h] at hic
    have hv60 := h.1.1
    by_cases hk : VOk v k
    · obtain ⟨n1, n2, n3⟩ := dl_yes h hk
      obtain ⟨hl4, hr6⟩ := h.six
      have hSR := dlL_SR h.sst k
      have hZl := dlL_len F k
      obtain ⟨Z, hZ⟩ : ∃ Z, Z = dlL F k := ⟨_, rfl⟩
      have hZr : ∀ x ∈ Z, x.length ≤ 6 := hZ ▸ dlL_row hr6 k
      rw [← hZ] at hSR hZl n1 n2 n3
      have hco := complexOf_p Z (by omega) (fun x hx => by have := hZr x hx; omega) (by
        rw [tot_flat]
        have h1 := tot_6 hZr
        omega)
      rw [nrm_ids hSR] at hco
      rw [n1, n2, n3]
      generalize ckV Z = cv at hco ⊢
      generalize ckF Z = cf at hco ⊢
      generalize ckK Z = ck at hco ⊢
      have hrow : ∀ i : Nat, (F.getD i []).length ≤ 6 := fun i => by
        by_cases h : i < F.length
        · exact hr6 _ (getD_mem h)
        · simp [h]
      refine pureRV ok15 rfl ?_; unfold c15
      (repeat first | simp only [go_sem, ↓reduceIte, Nat.reduceEqDiff, Nat.reduceAdd, reduceCtorEq] | with_reducible refine V_W ?_ | (with_reducible refine And.intro ?_ ?_; focus first | assumption | omega | decide | grind) | (with_reducible refine Br.mk ?_ ?_; focus (intros; omega)) | decide)
      refine pureC (hic) (by simp only [go_sem, ↓reduceIte, Nat.reduceEqDiff, Nat.reduceAdd, reduceCtorEq] <;> rfl) (by first | rfl | simp only [go_sem, ↓reduceIte, Nat.reduceEqDiff, Nat.reduceAdd, reduceCtorEq]) ?_
      (repeat first | simp only [go_sem, ↓reduceIte, Nat.reduceEqDiff, Nat.reduceAdd, reduceCtorEq] | with_reducible refine V_W ?_ | (with_reducible refine And.intro ?_ ?_; focus first | assumption | omega | decide | grind) | (with_reducible refine Br.mk ?_ ?_; focus (intros; omega)) | decide)
      refine pureC (within_c k 0 (v - 1)) (by simp only [go_sem, ↓reduceIte, Nat.reduceEqDiff, Nat.reduceAdd, reduceCtorEq] <;> rfl) (by first | rfl | simp only [go_sem, ↓reduceIte, Nat.reduceEqDiff, Nat.reduceAdd, reduceCtorEq]) ?_
      (repeat first | simp only [go_sem, ↓reduceIte, Nat.reduceEqDiff, Nat.reduceAdd, reduceCtorEq] | with_reducible refine V_W ?_ | (with_reducible refine And.intro ?_ ?_; focus first | assumption | omega | decide | grind) | (with_reducible refine Br.mk ?_ ?_; focus (intros; omega)) | decide)
      refine ⟨fun hc => absurd hk (by unfold VOk; omega), fun _ => ?_⟩
      (repeat first | simp only [go_sem, ↓reduceIte, Nat.reduceEqDiff, Nat.reduceAdd, reduceCtorEq] | with_reducible refine V_W ?_ | (with_reducible refine And.intro ?_ ?_; focus first | assumption | omega | decide | grind) | (with_reducible refine Br.mk ?_ ?_; focus (intros; omega)) | decide)
      refine V_loop (α := Nat) (S := fun i => ([(1, i64 k), (2, .ref 0 0), (4, .ref 1 0), (6, .sl 2 1 0 i), (23, mat F), (24, i64 (F.length : Int)), (25, i64 (i : Int))], [some [i64 v, mat F], some [i64 0, nilS], some ((dlL (F.take i) k).map oints)])) (C := fun i => i ≤ F.length) (μ := fun i => F.length - i) 0 (Nat.zero_le _) ((Ref.nil 6 1 rfl).trans (Ref.to (by simp [dlL]) (by simp [sub, fget]))) ?_
      intro i hi
      obtain ⟨Ri, hRi⟩ : ∃ Ri, Ri = (dlL (F.take i) k).map oints := ⟨_, rfl⟩
      have hRl : Ri.length = i := by rw [hRi, List.length_map, dlL_len, List.length_take]; omega
      have hrn : ∀ τ, rnmL τ Ri = Ri := fun τ => by rw [hRi]; exact rnmL_orows τ _
      have hrn2 : ∀ τ, Ri.map (rnm τ) = Ri := fun τ => by have := hrn τ; rwa [rnmL_map] at this
      rw [← hRi]
      (repeat first | simp only [go_sem, ↓reduceIte, Nat.reduceEqDiff, Nat.reduceAdd, reduceCtorEq] | with_reducible refine V_W ?_ | (with_reducible refine And.intro ?_ ?_; focus first | assumption | omega | decide | grind) | (with_reducible refine Br.mk ?_ ?_; focus (intros; omega)) | decide)
      refine ⟨fun hc => ?_, fun hc => ?_⟩
      · have hri := hrow i
        have hrt := dlL_succ (F := F) (n := k) (i := i) (by omega)
        have hle := lessOf_p (F.getD i []) [k] (by omega) (by simp)
        have hml := mns_len (F.getD i []) [k]
        rw [← hRi] at hrt
        generalize mns (F.getD i []) [k] = y at hle hml hrt
        (repeat first | simp only [go_sem, ↓reduceIte, Nat.reduceEqDiff, Nat.reduceAdd, reduceCtorEq] | with_reducible refine V_W ?_ | (with_reducible refine And.intro ?_ ?_; focus first | assumption | omega | decide | grind) | (with_reducible refine Br.mk ?_ ?_; focus (intros; omega)) | decide)
        have htk1 : ∀ Hx : Heap, (List.take 1 [i64 k]).map (frz Hx 5) = intsC [k] := fun Hx => by simp [frz, intsC]
        refine pureC hle (by simp only [go_sem, ↓reduceIte, Nat.reduceEqDiff, Nat.reduceAdd, reduceCtorEq]; rfl) (by first | rfl | simp only [go_sem, ↓reduceIte, Nat.reduceEqDiff, Nat.reduceAdd, reduceCtorEq]) ?_
        (repeat first | simp only [go_sem, ↓reduceIte, Nat.reduceEqDiff, Nat.reduceAdd, reduceCtorEq] | with_reducible refine V_W ?_ | (with_reducible refine And.intro ?_ ?_; focus first | assumption | omega | decide | grind) | (with_reducible refine Br.mk ?_ ?_; focus (intros; omega)) | decide)
        rw [List.take_of_length_le (by omega : Ri.length ≤ i)]
        refine ⟨i + 1, by omega, by omega, (Ref.close 6 i 4 (k := 1) (n := y.length) (cs := Ri ++ [.sl 4 1 0 y.length]) (cs2 := intsC y) rfl (by rw [List.getElem?_append_right (by omega), hRl, Nat.sub_self]; rfl) rfl (by decide) (by simp [intsC])).trans (Ref.gc [0, 1, 6] rfl ?_ (by simp [sub, fget, go_sem, ↓reduceIte, Nat.reduceEqDiff, Nat.reduceAdd, reduceCtorEq]))⟩
        have hse : (Ri ++ [AV.sl 4 1 0 y.length]).set i (.osl 1 y.length (intsC y)) = Ri ++ [oints y] := by
          rw [List.set_append_right _ _ (by omega), hRl, Nat.sub_self]
          rfl
        simp only [hse, go_sem, ↓reduceIte, Nat.reduceEqDiff, Nat.reduceAdd, reduceCtorEq]
        rw [hrt]
        simp [rnmL_map, rnm, hrn2, intsC, rnmL_ints]
      · obtain rfl : i = F.length := by omega
        rw [List.take_length, ← hZ] at hRi
        have htk : ∀ Hx : Heap, (List.take F.length Ri).map (frz Hx 5) = Z.map ints := fun Hx => by
          rw [List.take_of_length_le (by omega), hRi, List.map_map]
          refine List.map_congr_left fun z _ => ?_
          simp [frz, intsC]
        rw [show mat Z = .slc 1 F.length (Z.map ints) by rw [mat, hZl]] at hco
        (repeat first | simp only [go_sem, ↓reduceIte, Nat.reduceEqDiff, Nat.reduceAdd, reduceCtorEq] | with_reducible refine V_W ?_ | (with_reducible refine And.intro ?_ ?_; focus first | assumption | omega | decide | grind) | (with_reducible refine Br.mk ?_ ?_; focus (intros; omega)) | decide)
        refine pureC hco (by simp only [htk, go_sem, ↓reduceIte, Nat.reduceEqDiff, Nat.reduceAdd, reduceCtorEq]) (by first | rfl | simp only [go_sem, ↓reduceIte, Nat.reduceEqDiff, Nat.reduceAdd, reduceCtorEq]) ?_
        (repeat first | simp only [go_sem, ↓reduceIte, Nat.reduceEqDiff, Nat.reduceAdd, reduceCtorEq] | with_reducible refine V_W ?_ | (with_reducible refine And.intro ?_ ?_; focus first | assumption | omega | decide | grind) | (with_reducible refine Br.mk ?_ ?_; focus (intros; omega)) | decide)
        exact Ref.gc [3] rfl (by simp only [go_sem, ↓reduceIte, Nat.reduceEqDiff, Nat.reduceAdd, reduceCtorEq]) (by simp [sub, fget, go_sem, ↓reduceIte, Nat.reduceEqDiff, Nat.reduceAdd, reduceCtorEq])
    · obtain ⟨n1, n2, n3⟩ := dl_no2 h hk
      rw [n1, n2, n3]
      refine pureRV ok15 rfl ?_; unfold c15
      (repeat first | simp only [go_sem, ↓reduceIte, Nat.reduceEqDiff, Nat.reduceAdd, reduceCtorEq] | with_reducible refine V_W ?_ | (with_reducible refine And.intro ?_ ?_; focus first | assumption | omega | decide | grind) | (with_reducible refine Br.mk ?_ ?_; focus (intros; omega)) | decide)
      refine pureC (hic) (by simp only [go_sem, ↓reduceIte, Nat.reduceEqDiff, Nat.reduceAdd, reduceCtorEq] <;> rfl) (by first | rfl | simp only [go_sem, ↓reduceIte, Nat.reduceEqDiff, Nat.reduceAdd, reduceCtorEq]) ?_
      (repeat first | simp only [go_sem, ↓reduceIte, Nat.reduceEqDiff, Nat.reduceAdd, reduceCtorEq] | with_reducible refine V_W ?_ | (with_reducible refine And.intro ?_ ?_; focus first | assumption | omega | decide | grind) | (with_reducible refine Br.mk ?_ ?_; focus (intros; omega)) | decide)
      refine pureC (within_c k 0 (v - 1)) (by simp only [go_sem, ↓reduceIte, Nat.reduceEqDiff, Nat.reduceAdd, reduceCtorEq] <;> rfl) (by first | rfl | simp only [go_sem, ↓reduceIte, Nat.reduceEqDiff, Nat.reduceAdd, reduceCtorEq]) ?_
      (repeat first | simp only [go_sem, ↓reduceIte, Nat.reduceEqDiff, Nat.reduceAdd, reduceCtorEq] | with_reducible refine V_W ?_ | (with_reducible refine And.intro ?_ ?_; focus first | assumption | omega | decide | grind) | (with_reducible refine Br.mk ?_ ?_; focus (intros; omega)) | decide)
      refine ⟨fun hc => ?_, fun hc => absurd hc hk⟩
      (repeat first | simp only [go_sem, ↓reduceIte, Nat.reduceEqDiff, Nat.reduceAdd, reduceCtorEq] | with_reducible refine V_W ?_ | (with_reducible refine And.intro ?_ ?_; focus first | assumption | omega | decide | grind) | (with_reducible refine Br.mk ?_ ?_; focus (intros; omega)) | decide)
      exact err_end
  · rw [decide_eq_false h] at hic
    obtain ⟨n1, n2, n3⟩ := dl_no1 (k := k) h
    rw [n1, n2, n3]
    refine pureRV ok15 rfl ?_; unfold c15
    (repeat first | simp only [go_sem, ↓reduceIte, Nat.reduceEqDiff, Nat.reduceAdd, reduceCtorEq] | with_reducible refine V_W ?_ | (with_reducible refine And.intro ?_ ?_; focus first | assumption | omega | decide | grind) | (with_reducible refine Br.mk ?_ ?_; focus (intros; omega)) | decide)
    refine pureC (hic) (by simp only [go_sem, ↓reduceIte, Nat.reduceEqDiff, Nat.reduceAdd, reduceCtorEq] <;> rfl) (by first | rfl | simp only [go_sem, ↓reduceIte, Nat.reduceEqDiff, Nat.reduceAdd, reduceCtorEq]) ?_
    (repeat first | simp only [go_sem, ↓reduceIte, Nat.reduceEqDiff, Nat.reduceAdd, reduceCtorEq] | with_reducible refine V_W ?_ | (with_reducible refine And.intro ?_ ?_; focus first | assumption | omega | decide | grind) | (with_reducible refine Br.mk ?_ ?_; focus (intros; omega)) | decide)
    exact err_end

set_option maxHeartbeats 4000000 in
theorem specDl_c (v : Int) (F : List (List Int)) (k : Int) (hl : F.length ≤ 1099511627776) (hr : ∀ x ∈ F, x.length ≤ 1099511627776) : Pure Tryz.prog 14 [cpxA v F, i64 k] (.tup [.agg [i64 (dlV v F k), .sl 0 1 0 (dlF v F k).length], i64 (dlK v F k)]) [some ((dlF v F k).map oints)] := by
  have hic := l17Is_c v F hl hr
  by_cases h : CxOk v F
  · rw [decide_eq_true h] at hic
    have hv60 := h.1.1
    by_cases hk : VOk v k
    · obtain ⟨n1, n2, n3⟩ := dl_yes h hk
      obtain ⟨hl4, hr6⟩ := h.six
      have hSR := dlL_SR h.sst k
      have hZl := dlL_len F k
      obtain ⟨Z, hZ⟩ : ∃ Z, Z = dlL F k := ⟨_, rfl⟩
      have hZr : ∀ x ∈ Z, x.length ≤ 6 := hZ ▸ dlL_row hr6 k
      rw [← hZ] at hSR hZl n1 n2 n3
      have hco := l17Make_g Z (by omega) (fun i => by
        by_cases h : i < Z.length
        · have := hZr _ (getD_mem h); omega
        · simp [h]) hSR
      rw [n1, n2, n3]
      generalize ckV Z = cv at hco ⊢
      generalize ckF Z = cf at hco ⊢
      generalize ckK Z = ck at hco ⊢
      have hrow : ∀ i : Nat, (F.getD i []).length ≤ 6 := fun i => by
        by_cases h : i < F.length
        · exact hr6 _ (getD_mem h)
        · simp [h]
      refine pureRV ok14 rfl ?_; unfold c14
      (repeat first | simp only [go_sem, ↓reduceIte, Nat.reduceEqDiff, Nat.reduceAdd, reduceCtorEq] | with_reducible refine V_W ?_ | (with_reducible refine And.intro ?_ ?_; focus first | assumption | omega | decide | grind) | (with_reducible refine Br.mk ?_ ?_; focus (intros; omega)) | decide)
      refine pureC (hic) (by simp only [go_sem, ↓reduceIte, Nat.reduceEqDiff, Nat.reduceAdd, reduceCtorEq] <;> rfl) (by first | rfl | simp only [go_sem, ↓reduceIte, Nat.reduceEqDiff, Nat.reduceAdd, reduceCtorEq]) ?_
      (repeat first | simp only [go_sem, ↓reduceIte, Nat.reduceEqDiff, Nat.reduceAdd, reduceCtorEq] | with_reducible refine V_W ?_ | (with_reducible refine And.intro ?_ ?_; focus first | assumption | omega | decide | grind) | (with_reducible refine Br.mk ?_ ?_; focus (intros; omega)) | decide)
      refine pureC (l01In_c k 0 (v - 1)) (by simp only [go_sem, ↓reduceIte, Nat.reduceEqDiff, Nat.reduceAdd, reduceCtorEq] <;> rfl) (by first | rfl | simp only [go_sem, ↓reduceIte, Nat.reduceEqDiff, Nat.reduceAdd, reduceCtorEq]) ?_
      (repeat first | simp only [go_sem, ↓reduceIte, Nat.reduceEqDiff, Nat.reduceAdd, reduceCtorEq] | with_reducible refine V_W ?_ | (with_reducible refine And.intro ?_ ?_; focus first | assumption | omega | decide | grind) | (with_reducible refine Br.mk ?_ ?_; focus (intros; omega)) | decide)
      refine ⟨fun hc => absurd hk (by unfold VOk; omega), fun _ => ?_⟩
      (repeat first | simp only [go_sem, ↓reduceIte, Nat.reduceEqDiff, Nat.reduceAdd, reduceCtorEq] | with_reducible refine V_W ?_ | (with_reducible refine And.intro ?_ ?_; focus first | assumption | omega | decide | grind) | (with_reducible refine Br.mk ?_ ?_; focus (intros; omega)) | decide)
      refine V_loop (α := Nat) (S := fun i => ([(1, i64 k), (2, .ref 0 0), (4, .ref 1 0), (6, .sl 2 1 0 i), (7, i64 (i : Int))], [some [i64 v, mat F], some [i64 0, nilS], some ((dlL (F.take i) k).map oints)])) (C := fun i => i ≤ F.length) (μ := fun i => F.length - i) 0 (Nat.zero_le _) (Ref.to (by simp [dlL]) (by simp [sub, fget])) ?_
      intro i hi
      obtain ⟨Ri, hRi⟩ : ∃ Ri, Ri = (dlL (F.take i) k).map oints := ⟨_, rfl⟩
      have hRl : Ri.length = i := by rw [hRi, List.length_map, dlL_len, List.length_take]; omega
      have hrn : ∀ τ, rnmL τ Ri = Ri := fun τ => by rw [hRi]; exact rnmL_orows τ _
      have hrn2 : ∀ τ, Ri.map (rnm τ) = Ri := fun τ => by have := hrn τ; rwa [rnmL_map] at this
      rw [← hRi]
      (repeat first | simp only [go_sem, ↓reduceIte, Nat.reduceEqDiff, Nat.reduceAdd, reduceCtorEq] | with_reducible refine V_W ?_ | (with_reducible refine And.intro ?_ ?_; focus first | assumption | omega | decide | grind) | (with_reducible refine Br.mk ?_ ?_; focus (intros; omega)) | decide)
      refine ⟨fun hc => ?_, fun hc => ?_⟩
      · have hri := hrow i
        have hrt := dlL_succ (F := F) (n := k) (i := i) (by omega)
        have hle := l17Without_p (F.getD i []) [k] (by omega) (by simp)
        have hml := mns_len (F.getD i []) [k]
        rw [← hRi] at hrt
        change Pure Tryz.prog 35 _ (.sl 0 1 0 (mns (F.getD i []) [k]).length) [some (intsC (mns (F.getD i []) [k]))] at hle
        generalize mns (F.getD i []) [k] = y at hle hml hrt
        (repeat first | simp only [go_sem, ↓reduceIte, Nat.reduceEqDiff, Nat.reduceAdd, reduceCtorEq] | with_reducible refine V_W ?_ | (with_reducible refine And.intro ?_ ?_; focus first | assumption | omega | decide | grind) | (with_reducible refine Br.mk ?_ ?_; focus (intros; omega)) | decide)
        have htk1 : ∀ Hx : Heap, (List.take 1 [i64 k]).map (frz Hx 5) = intsC [k] := fun Hx => by simp [frz, intsC]
        refine pureC hle (by simp only [go_sem, ↓reduceIte, Nat.reduceEqDiff, Nat.reduceAdd, reduceCtorEq]; rfl) (by first | rfl | simp only [go_sem, ↓reduceIte, Nat.reduceEqDiff, Nat.reduceAdd, reduceCtorEq]) ?_
        (repeat first | simp only [go_sem, ↓reduceIte, Nat.reduceEqDiff, Nat.reduceAdd, reduceCtorEq] | with_reducible refine V_W ?_ | (with_reducible refine And.intro ?_ ?_; focus first | assumption | omega | decide | grind) | (with_reducible refine Br.mk ?_ ?_; focus (intros; omega)) | decide)
        rw [List.take_of_length_le (by omega : Ri.length ≤ i)]
        refine ⟨i + 1, by omega, by omega, (Ref.close 6 i 4 (k := 1) (n := y.length) (cs := Ri ++ [.sl 4 1 0 y.length]) (cs2 := intsC y) rfl (by rw [List.getElem?_append_right (by omega), hRl, Nat.sub_self]; rfl) rfl (by decide) (by simp [intsC])).trans (Ref.gc [0, 1, 6] rfl ?_ (by simp [sub, fget, go_sem, ↓reduceIte, Nat.reduceEqDiff, Nat.reduceAdd, reduceCtorEq]))⟩
        have hse : (Ri ++ [AV.sl 4 1 0 y.length]).set i (.osl 1 y.length (intsC y)) = Ri ++ [oints y] := by
          rw [List.set_append_right _ _ (by omega), hRl, Nat.sub_self]
          rfl
        simp only [hse, go_sem, ↓reduceIte, Nat.reduceEqDiff, Nat.reduceAdd, reduceCtorEq]
        rw [hrt]
        simp [rnmL_map, rnm, hrn2, intsC, rnmL_ints]
      · obtain rfl : i = F.length := by omega
        rw [List.take_length, ← hZ] at hRi
        have htk : ∀ Hx : Heap, (List.take F.length Ri).map (frz Hx 5) = Z.map ints := fun Hx => by
          rw [List.take_of_length_le (by omega), hRi, List.map_map]
          refine List.map_congr_left fun z _ => ?_
          simp [frz, intsC]
        rw [show mat Z = .slc 1 F.length (Z.map ints) by rw [mat, hZl]] at hco
        (repeat first | simp only [go_sem, ↓reduceIte, Nat.reduceEqDiff, Nat.reduceAdd, reduceCtorEq] | with_reducible refine V_W ?_ | (with_reducible refine And.intro ?_ ?_; focus first | assumption | omega | decide | grind) | (with_reducible refine Br.mk ?_ ?_; focus (intros; omega)) | decide)
        refine pureC hco (by simp only [htk, go_sem, ↓reduceIte, Nat.reduceEqDiff, Nat.reduceAdd, reduceCtorEq]) (by first | rfl | simp only [go_sem, ↓reduceIte, Nat.reduceEqDiff, Nat.reduceAdd, reduceCtorEq]) ?_
        (repeat first | simp only [go_sem, ↓reduceIte, Nat.reduceEqDiff, Nat.reduceAdd, reduceCtorEq] | with_reducible refine V_W ?_ | (with_reducible refine And.intro ?_ ?_; focus first | assumption | omega | decide | grind) | (with_reducible refine Br.mk ?_ ?_; focus (intros; omega)) | decide)
        exact Ref.gc [3] rfl (by simp only [go_sem, ↓reduceIte, Nat.reduceEqDiff, Nat.reduceAdd, reduceCtorEq]) (by simp [sub, fget, go_sem, ↓reduceIte, Nat.reduceEqDiff, Nat.reduceAdd, reduceCtorEq])
    · obtain ⟨n1, n2, n3⟩ := dl_no2 h hk
      rw [n1, n2, n3]
      refine pureRV ok14 rfl ?_; unfold c14
      (repeat first | simp only [go_sem, ↓reduceIte, Nat.reduceEqDiff, Nat.reduceAdd, reduceCtorEq] | with_reducible refine V_W ?_ | (with_reducible refine And.intro ?_ ?_; focus first | assumption | omega | decide | grind) | (with_reducible refine Br.mk ?_ ?_; focus (intros; omega)) | decide)
      refine pureC (hic) (by simp only [go_sem, ↓reduceIte, Nat.reduceEqDiff, Nat.reduceAdd, reduceCtorEq] <;> rfl) (by first | rfl | simp only [go_sem, ↓reduceIte, Nat.reduceEqDiff, Nat.reduceAdd, reduceCtorEq]) ?_
      (repeat first | simp only [go_sem, ↓reduceIte, Nat.reduceEqDiff, Nat.reduceAdd, reduceCtorEq] | with_reducible refine V_W ?_ | (with_reducible refine And.intro ?_ ?_; focus first | assumption | omega | decide | grind) | (with_reducible refine Br.mk ?_ ?_; focus (intros; omega)) | decide)
      refine pureC (l01In_c k 0 (v - 1)) (by simp only [go_sem, ↓reduceIte, Nat.reduceEqDiff, Nat.reduceAdd, reduceCtorEq] <;> rfl) (by first | rfl | simp only [go_sem, ↓reduceIte, Nat.reduceEqDiff, Nat.reduceAdd, reduceCtorEq]) ?_
      (repeat first | simp only [go_sem, ↓reduceIte, Nat.reduceEqDiff, Nat.reduceAdd, reduceCtorEq] | with_reducible refine V_W ?_ | (with_reducible refine And.intro ?_ ?_; focus first | assumption | omega | decide | grind) | (with_reducible refine Br.mk ?_ ?_; focus (intros; omega)) | decide)
      refine ⟨fun hc => ?_, fun hc => absurd hc hk⟩
      (repeat first | simp only [go_sem, ↓reduceIte, Nat.reduceEqDiff, Nat.reduceAdd, reduceCtorEq] | with_reducible refine V_W ?_ | (with_reducible refine And.intro ?_ ?_; focus first | assumption | omega | decide | grind) | (with_reducible refine Br.mk ?_ ?_; focus (intros; omega)) | decide)
      exact err_end
  · rw [decide_eq_false h] at hic
    obtain ⟨n1, n2, n3⟩ := dl_no1 (k := k) h
    rw [n1, n2, n3]
    refine pureRV ok14 rfl ?_; unfold c14
    (repeat first | simp only [go_sem, ↓reduceIte, Nat.reduceEqDiff, Nat.reduceAdd, reduceCtorEq] | with_reducible refine V_W ?_ | (with_reducible refine And.intro ?_ ?_; focus first | assumption | omega | decide | grind) | (with_reducible refine Br.mk ?_ ?_; focus (intros; omega)) | decide)
    refine pureC (hic) (by simp only [go_sem, ↓reduceIte, Nat.reduceEqDiff, Nat.reduceAdd, reduceCtorEq] <;> rfl) (by first | rfl | simp only [go_sem, ↓reduceIte, Nat.reduceEqDiff, Nat.reduceAdd, reduceCtorEq]) ?_
    (repeat first | simp only [go_sem, ↓reduceIte, Nat.reduceEqDiff, Nat.reduceAdd, reduceCtorEq] | with_reducible refine V_W ?_ | (with_reducible refine And.intro ?_ ?_; focus first | assumption | omega | decide | grind) | (with_reducible refine Br.mk ?_ ?_; focus (intros; omega)) | decide)
    exact err_end
end Go.Proofs.YtgdijhchndjhlaaGreatDoor
