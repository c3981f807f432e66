/- Texts that belong together. -/
import Derived.Test.YtghhlcioabdpfaaDoorV1
import Derived.Test.YtghhlcioabdpfaaDoorZn
import Derived.Test.YtghhlcioabdpfaaDoorX3
import Derived.Test.YtghhlcioabdpfaaDoorX8
import Derived.Test.YtghhlcioabdpfaaDoorX9
import Derived.Test.YtghhlcioabdpfaaDoorV2
import Derived.Test.YtghhlcioabdpfaaDoorV3
set_option linter.unusedSimpArgs false
set_option linter.unusedVariables false
set_option maxRecDepth 100000
namespace Go.Proofs.YtghhlcioabdpfaaDoor
open Go.Gov
open Classical

theorem getR (S : List (List Int)) (k : Nat) (h : k < S.length) (d : AV) : (S.map ints).getD k d = ints (S.getD k []) := by simp [h]
theorem dd_le (S : List (List Int)) : (dd S).length ≤ S.length := by
  have h : ∀ (S out : List (List Int)), (S.foldl psh out).length ≤ out.length + S.length := by
    intro S
    induction S with
    | nil => intro out; simp
    | cons x S ih =>
      intro out
      rw [List.foldl_cons]
      have h1 := ih (psh out x)
      have h2 : (psh out x).length ≤ out.length + 1 := by
        unfold psh
        split <;> simp
      rw [List.length_cons]
      omega
  have := h S []
  simp only [List.length_nil, Nat.zero_add] at this
  exact this
set_option maxHeartbeats 4000000 in
theorem compactF_w (S : List (List Int)) (hl : S.length ≤ 1099511627776) (hr : ∀ x ∈ S, x.length ≤ 1099511627776) :
    Wri Tryd.prog 125 [.sl 0 1 0 S.length, .clo 126 [] []] [some (S.map ints)] (.sl 0 1 0 (dd S).length) [some ((dd S).map ints ++ List.replicate (S.length - (dd S).length) nilS)] := by
  have hrow : ∀ i : Nat, (S.getD i []).length ≤ 1099511627776 := fun i => by
    by_cases h : i < S.length
    · refine hr _ ?_
      rw [List.getD_eq_getElem?_getD, List.getElem?_eq_getElem h]
      exact List.getElem_mem h
    · simp [h]
  have hk : callable Tryd.prog 126 = true := by kernel_rfl
  refine wriRV ok125 rfl ?_; unfold c125
  (repeat first | simp only [go_sem, ↓reduceIte, Nat.reduceEqDiff, Nat.reduceAdd, reduceCtorEq] | with_reducible refine V_W ?_ | (with_reducible refine And.intro ?_ ?_; focus first | assumption | omega | decide | grind) | (with_reducible refine Br.mk ?_ ?_; focus (intros; omega)) | decide)
  refine ⟨fun hc => ?_, fun hc => ?_⟩
  · rw [dd_short (by omega), Nat.sub_self]
    (repeat first | simp only [go_sem, ↓reduceIte, Nat.reduceEqDiff, Nat.reduceAdd, reduceCtorEq] | with_reducible refine V_W ?_ | (with_reducible refine And.intro ?_ ?_; focus first | assumption | omega | decide | grind) | (with_reducible refine Br.mk ?_ ?_; focus (intros; omega)) | decide)
    exact Ref.to (by simp) (by simp [sub, fget])
  · (repeat first | simp only [go_sem, ↓reduceIte, Nat.reduceEqDiff, Nat.reduceAdd, reduceCtorEq] | with_reducible refine V_W ?_ | (with_reducible refine And.intro ?_ ?_; focus first | assumption | omega | decide | grind) | (with_reducible refine Br.mk ?_ ?_; focus (intros; omega)) | decide)
    refine V_loop (α := Nat) (S := fun k => ([(0, .sl 0 1 0 S.length), (1, .clo 126 [] []), (5, i64 (k : Int))], [some (S.map ints)])) (C := fun k => 1 ≤ k ∧ k ≤ S.length ∧ dd (S.take k) = S.take k) (μ := fun k => S.length - k) 1 ⟨Nat.le_refl _, by omega, dd_one (by omega)⟩ (by exact Ref.frame (by simp [sub, fget])) ?_
    rintro k ⟨h1, h2, h3⟩
    (repeat first | simp only [go_sem, ↓reduceIte, Nat.reduceEqDiff, Nat.reduceAdd, reduceCtorEq] | with_reducible refine V_W ?_ | (with_reducible refine And.intro ?_ ?_; focus first | assumption | omega | decide | grind) | (with_reducible refine Br.mk ?_ ?_; focus (intros; omega)) | decide)
    refine ⟨fun hc2 => ?_, fun hc2 => ?_⟩
    · have hq := equal_c (S.getD k []) (S.getD (k - 1) []) (hrow _) (hrow _)
      have hkm : ((k : Int) - 1).toNat = k - 1 := by omega
      have g1 := getR S k (by omega)
      have g2 := getR S (k - 1) (by omega)
      (repeat first | simp only [go_sem, ↓reduceIte, Nat.reduceEqDiff, Nat.reduceAdd, reduceCtorEq] | with_reducible refine V_W ?_ | (with_reducible refine And.intro ?_ ?_; focus first | assumption | omega | decide | grind) | (with_reducible refine Br.mk ?_ ?_; focus (intros; omega)) | decide)
      (try simp only [g1, g2, go_sem, ↓reduceIte, Nat.reduceEqDiff, Nat.reduceAdd, reduceCtorEq])
      (repeat first | simp only [go_sem, ↓reduceIte, Nat.reduceEqDiff, Nat.reduceAdd, reduceCtorEq] | with_reducible refine V_W ?_ | (with_reducible refine And.intro ?_ ?_; focus first | assumption | omega | decide | grind) | (with_reducible refine Br.mk ?_ ?_; focus (intros; omega)) | decide)
      refine pureC (hq) (by simp only [go_sem, ↓reduceIte, Nat.reduceEqDiff, Nat.reduceAdd, reduceCtorEq] <;> rfl) (by first | rfl | simp only [go_sem, ↓reduceIte, Nat.reduceEqDiff, Nat.reduceAdd, reduceCtorEq]) ?_
      (repeat first | simp only [go_sem, ↓reduceIte, Nat.reduceEqDiff, Nat.reduceAdd, reduceCtorEq] | with_reducible refine V_W ?_ | (with_reducible refine And.intro ?_ ?_; focus first | assumption | omega | decide | grind) | (with_reducible refine Br.mk ?_ ?_; focus (intros; omega)) | decide)
      refine ⟨fun hc3 => ?_, fun hc3 => ?_⟩
      · have h4 : dd (S.take (k + 1)) = S.take k := (dd_same (by omega) h1 hc3).trans h3
        clear g1 g2 hq hkm
        (repeat first | simp only [go_sem, ↓reduceIte, Nat.reduceEqDiff, Nat.reduceAdd, reduceCtorEq] | with_reducible refine V_W ?_ | (with_reducible refine And.intro ?_ ?_; focus first | assumption | omega | decide | grind) | (with_reducible refine Br.mk ?_ ?_; focus (intros; omega)) | decide)
        refine V_loop (α := Nat) (S := fun j => ([(0, .sl 0 1 0 S.length), (1, .clo 126 [] []), (5, i64 ((dd (S.take (k + j))).length : Int)), (6, .sl 0 1 k (S.length - k)), (7, i64 (j : Int))], [some ((dd (S.take (k + j)) ++ S.drop (dd (S.take (k + j))).length).map ints)])) (C := fun j => 1 ≤ j ∧ k + j ≤ S.length ∧ (dd (S.take (k + j))).length < k + j) (μ := fun j => S.length - (k + j)) 1 ⟨Nat.le_refl _, by omega, by rw [h4, List.length_take]; omega⟩ ?_ ?_
        · have h5 : (S.take k).length = k := by rw [List.length_take]; omega
          rw [h4, h5, List.take_append_drop]
          exact Ref.to rfl (by simp [sub, fget])
        rintro j ⟨j1, j2, j3⟩
        obtain ⟨O, hO⟩ : ∃ O, O = dd (S.take (k + j)) := ⟨_, rfl⟩
        rw [← hO] at j3 ⊢
        have hml : ((O ++ S.drop O.length).map ints).length = S.length := by simp; omega
        (repeat first | simp only [go_sem, ↓reduceIte, Nat.reduceEqDiff, Nat.reduceAdd, reduceCtorEq] | with_reducible refine V_W ?_ | (with_reducible refine And.intro ?_ ?_; focus first | assumption | omega | decide | grind) | (with_reducible refine Br.mk ?_ ?_; focus (intros; omega)) | decide)
        obtain ⟨T, hT⟩ : ∃ T, T = O ++ S.drop O.length := ⟨_, rfl⟩
        have hTl : T.length = S.length := by rw [hT]; simp; omega
        have gT : ∀ i, O.length ≤ i → T.getD i [] = S.getD i [] := fun i hi => by
          rw [hT, List.getD_eq_getElem?_getD, List.getElem?_append_right hi, List.getElem?_drop, show O.length + (i - O.length) = i by omega, ← List.getD_eq_getElem?_getD]
        rw [← hT] at hml ⊢
        refine ⟨fun hc4 => ?_, fun hc4 => ?_⟩
        · have hq2 := equal_c (S.getD (k + j) []) (S.getD (k + j - 1) []) (hrow _) (hrow _)
          have hjm : ((j : Int) - 1).toNat = j - 1 := by omega
          have g1 := getR T (k + j) (by omega)
          have g2 := getR T (k + (j - 1)) (by omega)
          rw [gT _ (by omega)] at g1 g2
          rw [show k + j - 1 = k + (j - 1) by omega] at hq2
          obtain ⟨y, hy⟩ : ∃ y, y = S.getD (k + j) [] := ⟨_, rfl⟩
          rw [← hy] at g1 hq2
          have t1 : T.getD (k + j) [] = y := by rw [gT _ (by omega), hy]
          have t2 := gT (k + (j - 1)) (by omega)
          (repeat first | simp only [go_sem, ↓reduceIte, Nat.reduceEqDiff, Nat.reduceAdd, reduceCtorEq] | with_reducible refine V_W ?_ | (with_reducible refine And.intro ?_ ?_; focus first | assumption | omega | decide | grind) | (with_reducible refine Br.mk ?_ ?_; focus (intros; omega)) | decide)
          simp only [t1, t2, go_sem, ↓reduceIte, Nat.reduceEqDiff, Nat.reduceAdd, reduceCtorEq]
          (repeat first | simp only [go_sem, ↓reduceIte, Nat.reduceEqDiff, Nat.reduceAdd, reduceCtorEq] | with_reducible refine V_W ?_ | (with_reducible refine And.intro ?_ ?_; focus first | assumption | omega | decide | grind) | (with_reducible refine Br.mk ?_ ?_; focus (intros; omega)) | decide)
          refine pureC (hq2) (by simp only [go_sem, ↓reduceIte, Nat.reduceEqDiff, Nat.reduceAdd, reduceCtorEq] <;> rfl) (by first | rfl | simp only [go_sem, ↓reduceIte, Nat.reduceEqDiff, Nat.reduceAdd, reduceCtorEq]) ?_
          (repeat first | simp only [go_sem, ↓reduceIte, Nat.reduceEqDiff, Nat.reduceAdd, reduceCtorEq] | with_reducible refine V_W ?_ | (with_reducible refine And.intro ?_ ?_; focus first | assumption | omega | decide | grind) | (with_reducible refine Br.mk ?_ ?_; focus (intros; omega)) | decide)
          refine ⟨fun hc5 => ?_, fun hc5 => ?_⟩
          · have hO2 : dd (S.take (k + (j + 1))) = O ++ [y] := by
              rw [hy] at hc5 ⊢
              have hn := dd_new (S := S) (j := k + j) (by omega) (by omega) (by rw [show k + j - 1 = k + (j - 1) by omega]; exact hc5)
              rw [hO, ← hn]
              rfl
            have hset : (T.map ints).set O.length (ints y) = ((O ++ [y]) ++ S.drop (O ++ [y]).length).map ints := by
              rw [hT, ← List.map_set, List.set_append_right _ _ (Nat.le_refl _), Nat.sub_self, List.length_append, List.length_singleton, List.append_assoc]
              rw [List.drop_eq_getElem_cons (by omega : O.length < S.length)]
              rfl
            (repeat first | simp only [go_sem, ↓reduceIte, Nat.reduceEqDiff, Nat.reduceAdd, reduceCtorEq] | with_reducible refine V_W ?_ | (with_reducible refine And.intro ?_ ?_; focus first | assumption | omega | decide | grind) | (with_reducible refine Br.mk ?_ ?_; focus (intros; omega)) | decide)
            (try simp only [t1, go_sem, ↓reduceIte, Nat.reduceEqDiff, Nat.reduceAdd, reduceCtorEq])
            (repeat first | simp only [go_sem, ↓reduceIte, Nat.reduceEqDiff, Nat.reduceAdd, reduceCtorEq] | with_reducible refine V_W ?_ | (with_reducible refine And.intro ?_ ?_; focus first | assumption | omega | decide | grind) | (with_reducible refine Br.mk ?_ ?_; focus (intros; omega)) | decide)
            refine ⟨j + 1, ⟨by omega, by omega, by rw [hO2]; simp; omega⟩, by omega, Ref.to (by rw [hO2, ← hset]) (by simp [sub, fget, hO2])⟩
          · have hO2 : dd (S.take (k + (j + 1))) = O := by
              rw [hy] at hc5
              have hn := dd_same (S := S) (j := k + j) (by omega) (by omega) (by rw [show k + j - 1 = k + (j - 1) by omega]; exact hc5)
              rw [hO, ← hn]
              rfl
            (repeat first | simp only [go_sem, ↓reduceIte, Nat.reduceEqDiff, Nat.reduceAdd, reduceCtorEq] | with_reducible refine V_W ?_ | (with_reducible refine And.intro ?_ ?_; focus first | assumption | omega | decide | grind) | (with_reducible refine Br.mk ?_ ?_; focus (intros; omega)) | decide)
            exact ⟨j + 1, ⟨by omega, by omega, by rw [hO2]; omega⟩, by omega, Ref.to (by rw [hO2, hT]) (by simp [sub, fget, hO2])⟩
        · obtain rfl : j = S.length - k := by omega
          rw [show k + (S.length - k) = S.length by omega, List.take_length] at hO
          (repeat first | simp only [go_sem, ↓reduceIte, Nat.reduceEqDiff, Nat.reduceAdd, reduceCtorEq] | with_reducible refine V_W ?_ | (with_reducible refine And.intro ?_ ?_; focus first | assumption | omega | decide | grind) | (with_reducible refine Br.mk ?_ ?_; focus (intros; omega)) | decide)
          rw [← hO]
          have e1 : ((S.length : Int) - (O.length : Int)).toNat = S.length - O.length := by omega
          have e2 : (T.map ints).take O.length = O.map ints := by rw [hT]; simp
          refine Ref.to ?_ (by simp [sub, fget])
          rw [e1, e2, List.drop_eq_nil_of_le (by omega), List.append_nil]
      · (repeat first | simp only [go_sem, ↓reduceIte, Nat.reduceEqDiff, Nat.reduceAdd, reduceCtorEq] | with_reducible refine V_W ?_ | (with_reducible refine And.intro ?_ ?_; focus first | assumption | omega | decide | grind) | (with_reducible refine Br.mk ?_ ?_; focus (intros; omega)) | decide)
        exact ⟨k + 1, ⟨by omega, by omega, by rw [dd_new (by omega) h1 hc3, h3, take_one (by omega)]⟩, by omega, by exact Ref.frame (by simp [sub, fget])⟩
    · obtain rfl : k = S.length := by omega
      rw [List.take_length] at h3
      rw [h3, Nat.sub_self]
      (repeat first | simp only [go_sem, ↓reduceIte, Nat.reduceEqDiff, Nat.reduceAdd, reduceCtorEq] | with_reducible refine V_W ?_ | (with_reducible refine And.intro ?_ ?_; focus first | assumption | omega | decide | grind) | (with_reducible refine Br.mk ?_ ?_; focus (intros; omega)) | decide)
      exact Ref.to (by simp) (by simp [sub, fget])
end Go.Proofs.YtghhlcioabdpfaaDoor
set_option maxRecDepth 100000
namespace Go.Proofs.YtghhlcioabdpfaaDoor
open Go.Gov
open Classical

theorem partsOf_z (k : Nat) (xs : List Int) (hx : xs.length ≤ 6) (hk : k ≤ 100) : Pure Tryd.prog 88 [ints xs, i64 (k : Int)] (mat (prt k xs)) [] := by
  refine (partsOf_p k xs hx hk).froz ?_
  simp only [go_sem, ↓reduceIte, Nat.reduceEqDiff, Nat.reduceAdd, reduceCtorEq]
noncomputable def allT (F : List (List Int)) (k i : Nat) : List (List Int) := if k = 0 then [[]] else (F.take i).flatMap (prt k)
theorem allT_succ {F : List (List Int)} {k i : Nat} (hk : 0 < k) (hi : i < F.length) : allT F k (i + 1) = allT F k i ++ prt k (F.getD i []) := by
  unfold allT
  rw [if_neg (by omega), if_neg (by omega), flat_take hi]
theorem allT_zero {F : List (List Int)} {k : Nat} : allT F k 0 = if k = 0 then [[]] else [] := by
  unfold allT
  simp
theorem allT_len {F : List (List Int)} (h : ∀ x ∈ F, x.length ≤ 6) (k i : Nat) : (allT F k i).length ≤ 64 * F.length + 1 := by
  unfold allT
  split
  · simp
  · have h2 := flat_prt_len k (F.take i) fun x hx => h x (List.mem_of_mem_take hx)
    have h3 : (F.take i).length ≤ F.length := by rw [List.length_take]; omega
    omega
theorem allT_row {F : List (List Int)} (h : ∀ x ∈ F, x.length ≤ 6) (k i : Nat) : ∀ x ∈ allT F k i, x.length ≤ 6 := fun x hx => by
  unfold allT at hx
  split at hx
  · simp at hx; simp [hx]
  · obtain ⟨f, hf, hp⟩ := List.mem_flatMap.1 hx
    have h2 := ((prt_mem _ _ _).1 hp).1.length_le
    have h3 := h f (List.mem_of_mem_take hf)
    omega
set_option maxHeartbeats 4000000 in
theorem facesWith_z (v : Int) (F : List (List Int)) (k : Nat) (hk : k ≤ 6) (hl : F.length ≤ 400) (hr : ∀ x ∈ F, x.length ≤ 6) : Pure Tryd.prog 87 [.pto [i64 v, mat F] 0, i64 (k : Int)] (.sl 0 1 0 (fcs F k).length) [some ((fcs F k).map ints)] := by
  have hrow : ∀ i : Nat, (F.getD i []).length ≤ 6 := fun i => by
    by_cases h : i < F.length
    · exact hr _ (getD_mem h)
    · simp [h]
  refine pureRV ok87 rfl ?_; unfold c87
  (repeat first | simp only [go_sem, ↓reduceIte, Nat.reduceEqDiff, Nat.reduceAdd, reduceCtorEq] | with_reducible refine V_W ?_ | (with_reducible refine And.intro ?_ ?_; focus first | assumption | omega | decide | grind) | (with_reducible refine Br.mk ?_ ?_; focus (intros; omega)) | decide)
  apply Br_join (fun _ : Unit => True)
  · rintro hc hj
    have hk0 : k = 0 := by omega
    refine ⟨rfl, ?_⟩
    refine W_to _ (fun _ : Unit => [(0, .pto [i64 v, mat F] 0), (1, i64 (k : Int)), (5, .sl 0 1 0 (allT F k 0).length)]) (fun _ : Unit => [some ((allT F k 0).map ints)]) hj () trivial ?_
    rw [allT_zero, if_pos hk0]
    refine (Ref.gc [2] (F' := [(0, .pto [i64 v, mat F] 0), (1, i64 (k : Int)), (5, .sl 0 1 0 1)]) (H' := [some [nilS]]) rfl (by simp only [go_sem, ↓reduceIte, Nat.reduceEqDiff, Nat.reduceAdd, reduceCtorEq]) (by simp [sub, fget, go_sem, ↓reduceIte, Nat.reduceEqDiff, Nat.reduceAdd, reduceCtorEq])).trans ((Ref.tell 0 (fun _ => ints []) rfl fun x hx w tr G v bs h => ?_).trans (Ref.to rfl (by simp [sub, fget])))
    obtain rfl := List.mem_singleton.1 hx
    cases h
    exact .slc0 (by decide)
  · rintro hc hj
    refine W_to _ (fun _ : Unit => [(0, .pto [i64 v, mat F] 0), (1, i64 (k : Int)), (5, .sl 0 1 0 (allT F k 0).length)]) (fun _ : Unit => [some ((allT F k 0).map ints)]) hj () trivial ?_
    rw [allT_zero, if_neg (by omega)]
    exact Ref.to rfl (by simp [sub, fget])
  · rintro _ _
    (repeat first | simp only [go_sem, ↓reduceIte, Nat.reduceEqDiff, Nat.reduceAdd, reduceCtorEq] | with_reducible refine V_W ?_ | (with_reducible refine And.intro ?_ ?_; focus first | assumption | omega | decide | grind) | (with_reducible refine Br.mk ?_ ?_; focus (intros; omega)) | decide)
    refine V_loop (α := Nat) (S := fun i => ([(0, .pto [i64 v, mat F] 0), (1, i64 (k : Int)), (5, .sl 0 1 0 (allT F k i).length), (17, mat F), (18, i64 (F.length : Int)), (19, i64 (i : Int))], [some ((allT F k i).map ints)])) (C := fun i => i ≤ F.length) (μ := fun i => F.length - i) 0 (Nat.zero_le _) (by exact Ref.frame (by simp [sub, fget])) ?_
    intro i hi
    have hTl := allT_len hr k i
    (repeat first | simp only [go_sem, ↓reduceIte, Nat.reduceEqDiff, Nat.reduceAdd, reduceCtorEq] | with_reducible refine V_W ?_ | (with_reducible refine And.intro ?_ ?_; focus first | assumption | omega | decide | grind) | (with_reducible refine Br.mk ?_ ?_; focus (intros; omega)) | decide)
    refine ⟨fun hc2 => ?_, fun hc2 => ?_⟩
    · have hri := hrow i
      (repeat first | simp only [go_sem, ↓reduceIte, Nat.reduceEqDiff, Nat.reduceAdd, reduceCtorEq] | with_reducible refine V_W ?_ | (with_reducible refine And.intro ?_ ?_; focus first | assumption | omega | decide | grind) | (with_reducible refine Br.mk ?_ ?_; focus (intros; omega)) | decide)
      refine GCall.mk (i64 ((F.getD i []).length : Int) ) (fun hg => by first | exact pureC ( size_c (F.getD i []) (by omega)) (by simp only [go_sem, ↓reduceIte, Nat.reduceEqDiff, Nat.reduceAdd, reduceCtorEq] <;> rfl) (by first | rfl | simp only [go_sem, ↓reduceIte, Nat.reduceEqDiff, Nat.reduceAdd, reduceCtorEq]) (by first | exact ⟨rfl, rfl⟩ | simp only [go_sem, ↓reduceIte, Nat.reduceEqDiff, Nat.reduceAdd, reduceCtorEq]) | exact ⟨hg, pureC ( size_c (F.getD i []) (by omega)) (by simp only [go_sem, ↓reduceIte, Nat.reduceEqDiff, Nat.reduceAdd, reduceCtorEq] <;> rfl) (by first | rfl | simp only [go_sem, ↓reduceIte, Nat.reduceEqDiff, Nat.reduceAdd, reduceCtorEq]) (by first | exact ⟨rfl, rfl⟩ | simp only [go_sem, ↓reduceIte, Nat.reduceEqDiff, Nat.reduceAdd, reduceCtorEq])⟩ | exact ⟨by grind, pureC ( size_c (F.getD i []) (by omega)) (by simp only [go_sem, ↓reduceIte, Nat.reduceEqDiff, Nat.reduceAdd, reduceCtorEq] <;> rfl) (by first | rfl | simp only [go_sem, ↓reduceIte, Nat.reduceEqDiff, Nat.reduceAdd, reduceCtorEq]) (by first | exact ⟨rfl, rfl⟩ | simp only [go_sem, ↓reduceIte, Nat.reduceEqDiff, Nat.reduceAdd, reduceCtorEq])⟩) ?_
      (repeat first | simp only [go_sem, ↓reduceIte, Nat.reduceEqDiff, Nat.reduceAdd, reduceCtorEq] | with_reducible refine V_W ?_ | (with_reducible refine And.intro ?_ ?_; focus first | assumption | omega | decide | grind) | (with_reducible refine Br.mk ?_ ?_; focus (intros; omega)) | decide)
      refine ⟨fun hc3 => ?_, fun hc3 => ?_⟩
      · have hz := partsOf_z k (F.getD i []) hri (by omega)
        have hpl := prt_len (F.getD i []) k
        have hp6 : 2 ^ (F.getD i []).length ≤ 2 ^ 6 := Nat.pow_le_pow_right (by decide) hri
        have hsc := allT_succ (F := F) (k := k) (i := i) (by omega) (by omega)
        (repeat first | simp only [go_sem, ↓reduceIte, Nat.reduceEqDiff, Nat.reduceAdd, reduceCtorEq] | with_reducible refine V_W ?_ | (with_reducible refine And.intro ?_ ?_; focus first | assumption | omega | decide | grind) | (with_reducible refine Br.mk ?_ ?_; focus (intros; omega)) | decide)
        refine call_pureG (hz) (by simp only [go_sem, ↓reduceIte, Nat.reduceEqDiff, Nat.reduceAdd, reduceCtorEq] <;> rfl) ?_
        (repeat first | simp only [go_sem, ↓reduceIte, Nat.reduceEqDiff, Nat.reduceAdd, reduceCtorEq] | with_reducible refine V_W ?_ | (with_reducible refine And.intro ?_ ?_; focus first | assumption | omega | decide | grind) | (with_reducible refine Br.mk ?_ ?_; focus (intros; omega)) | decide)
        refine ⟨one_rows _, AppK_pl (plain_rows _) ?_⟩
        (repeat first | simp only [go_sem, ↓reduceIte, Nat.reduceEqDiff, Nat.reduceAdd, reduceCtorEq] | with_reducible refine V_W ?_ | (with_reducible refine And.intro ?_ ?_; focus first | assumption | omega | decide | grind) | (with_reducible refine Br.mk ?_ ?_; focus (intros; omega)) | decide)
        refine ⟨i + 1, by omega, by omega, Ref.gc [1] rfl ?_ (by simp [sub, fget, go_sem, ↓reduceIte, Nat.reduceEqDiff, Nat.reduceAdd, reduceCtorEq, hsc])⟩
        simp only [go_sem, ↓reduceIte, Nat.reduceEqDiff, Nat.reduceAdd, reduceCtorEq]
        rw [hsc]
        simp
      · have hsc : allT F k (i + 1) = allT F k i := by
          by_cases h0 : k = 0
          · simp [allT, h0]
          · rw [allT_succ (by omega) (by omega), prt_short _ _ (by rcases hc3 with h | h <;> omega), List.append_nil]
        (repeat first | simp only [go_sem, ↓reduceIte, Nat.reduceEqDiff, Nat.reduceAdd, reduceCtorEq] | with_reducible refine V_W ?_ | (with_reducible refine And.intro ?_ ?_; focus first | assumption | omega | decide | grind) | (with_reducible refine Br.mk ?_ ?_; focus (intros; omega)) | decide)
        exact ⟨i + 1, by omega, by omega, Ref.to (by rw [hsc]) (by simp [sub, fget, hsc])⟩
    · obtain rfl : i = F.length := by omega
      obtain ⟨X, hX⟩ : ∃ X, X = allT F k F.length := ⟨_, rfl⟩
      have hXr := allT_row hr k F.length
      rw [← hX] at hTl hXr ⊢
      have hsf := sortF_w X (by omega) (fun x hx => by have := hXr x hx; omega)
      (repeat first | simp only [go_sem, ↓reduceIte, Nat.reduceEqDiff, Nat.reduceAdd, reduceCtorEq] | with_reducible refine V_W ?_ | (with_reducible refine And.intro ?_ ?_; focus first | assumption | omega | decide | grind) | (with_reducible refine Br.mk ?_ ?_; focus (intros; omega)) | decide)
      refine wriEF (hsf) [0] (by first | rfl | simp) (by simp only [go_sem, ↓reduceIte, Nat.reduceEqDiff, Nat.reduceAdd, reduceCtorEq] <;> rfl) (by simp only [go_sem, ↓reduceIte, Nat.reduceEqDiff, Nat.reduceAdd, reduceCtorEq] <;> rfl) fun o ho => ?_
      (repeat first | simp only [go_sem, ↓reduceIte, Nat.reduceEqDiff, Nat.reduceAdd, reduceCtorEq] | with_reducible refine V_W ?_ | (with_reducible refine And.intro ?_ ?_; focus first | assumption | omega | decide | grind) | (with_reducible refine Br.mk ?_ ?_; focus (intros; omega)) | decide)
      have hol := ho.1.length_eq
      have hcm := compactF_w o (by omega) (fun x hx => by have := hXr x (ho.1.mem_iff.1 hx); omega)
      have hdd := fcs_dd (F := F) (k := k) (hX.trans (by unfold allT; rw [List.take_length])) ho.1 ho.2
      have hle := dd_le o
      rw [hol] at hcm
      refine wriCF (hcm) [0] (by first | rfl | simp) (by simp only [go_sem, ↓reduceIte, Nat.reduceEqDiff, Nat.reduceAdd, reduceCtorEq] <;> rfl) (by simp only [go_sem, ↓reduceIte, Nat.reduceEqDiff, Nat.reduceAdd, reduceCtorEq] <;> rfl) ?_
      (repeat first | simp only [go_sem, ↓reduceIte, Nat.reduceEqDiff, Nat.reduceAdd, reduceCtorEq] | with_reducible refine V_W ?_ | (with_reducible refine And.intro ?_ ?_; focus first | assumption | omega | decide | grind) | (with_reducible refine Br.mk ?_ ?_; focus (intros; omega)) | decide)
      rw [← hdd]
      refine (Ref.cut 0 (dd o).length 0 (k := 1) (off := 0) (len := (dd o).length) (cs := (dd o).map ints ++ List.replicate (X.length - (dd o).length) nilS) rfl (by simp) rfl (by omega)).trans (Ref.gc [1] rfl ?_ (by simp [sub, fget, go_sem, ↓reduceIte, Nat.reduceEqDiff, Nat.reduceAdd, reduceCtorEq]))
      simp only [go_sem, ↓reduceIte, Nat.reduceEqDiff, Nat.reduceAdd, reduceCtorEq]
      simp [rnmL_rows]
end Go.Proofs.YtghhlcioabdpfaaDoor
set_option maxRecDepth 100000
namespace Go.Proofs.YtghhlcioabdpfaaDoor
open Go.Gov
open Classical

theorem intsC_snoc (L : List Int) (x : Int) : intsC (L ++ [x]) = intsC L ++ [i64 x] := by simp [intsC]
theorem take_intsC (L : List Int) {n : Nat} (h : n = L.length) : (intsC L).take n = intsC L := List.take_of_length_le (by simp [intsC, h])
set_option maxHeartbeats 4000000 in
theorem l17F_p (v : Int) (F : List (List Int)) (hl : F.length ≤ 400) (hr : ∀ x ∈ F, x.length ≤ 6) : Pure Tryd.prog 41 [cpxA v F] (.sl 0 1 0 (fv F).length) [some (intsC (fv F))] := by
  have hd : dep F ≤ 6 := dep_le.2 hr
  have hsz := size17_c v F (by omega) (fun i => by
    by_cases h : i < F.length
    · have := hr _ (getD_mem h); omega
    · simp [h])
  refine pureRV ok41 rfl ?_; unfold c41
  (repeat first | simp only [go_sem, ↓reduceIte, Nat.reduceEqDiff, Nat.reduceAdd, reduceCtorEq] | with_reducible refine V_W ?_ | (with_reducible refine And.intro ?_ ?_; focus first | assumption | omega | decide | grind) | (with_reducible refine Br.mk ?_ ?_; focus (intros; omega)) | decide)
  refine V_loop (α := Nat) (S := fun k => ([(1, .ref 0 0), (3, .sl 1 1 0 k), (4, i64 (k : Int))], [some [i64 v, mat F], some (intsC (fvL F k))])) (C := fun k => k ≤ dep F + 1) (μ := fun k => dep F + 1 - k) 0 (Nat.zero_le _) (Ref.to rfl (by simp [sub, fget])) ?_
  intro k hk
  have htk := take_intsC (fvL F k) (n := k) (fvL_len F k).symm
  (repeat first | simp only [go_sem, ↓reduceIte, Nat.reduceEqDiff, Nat.reduceAdd, reduceCtorEq] | with_reducible refine V_W ?_ | (with_reducible refine And.intro ?_ ?_; focus first | assumption | omega | decide | grind) | (with_reducible refine Br.mk ?_ ?_; focus (intros; omega)) | decide)
  refine pureC (hsz) (by simp only [go_sem, ↓reduceIte, Nat.reduceEqDiff, Nat.reduceAdd, reduceCtorEq] <;> rfl) (by first | rfl | simp only [go_sem, ↓reduceIte, Nat.reduceEqDiff, Nat.reduceAdd, reduceCtorEq]) ?_
  (repeat first | simp only [go_sem, ↓reduceIte, Nat.reduceEqDiff, Nat.reduceAdd, reduceCtorEq] | with_reducible refine V_W ?_ | (with_reducible refine And.intro ?_ ?_; focus first | assumption | omega | decide | grind) | (with_reducible refine Br.mk ?_ ?_; focus (intros; omega)) | decide)
  refine ⟨fun hc => ?_, fun hc => ?_⟩
  · have hf := l17Faces_p v F k (by omega) hl hr
    have hfl := fcs_len hr k
    have hsn : intsC (fvL F (k + 1)) = intsC (fvL F k) ++ [i64 ((fcs F k).length : Int)] := by rw [fvL_succ, intsC_snoc]
    (repeat first | simp only [go_sem, ↓reduceIte, Nat.reduceEqDiff, Nat.reduceAdd, reduceCtorEq] | with_reducible refine V_W ?_ | (with_reducible refine And.intro ?_ ?_; focus first | assumption | omega | decide | grind) | (with_reducible refine Br.mk ?_ ?_; focus (intros; omega)) | decide)
    refine call_pureG (hf) (by simp only [go_sem, ↓reduceIte, Nat.reduceEqDiff, Nat.reduceAdd, reduceCtorEq] <;> rfl) ?_
    (repeat first | simp only [go_sem, ↓reduceIte, Nat.reduceEqDiff, Nat.reduceAdd, reduceCtorEq] | with_reducible refine V_W ?_ | (with_reducible refine And.intro ?_ ?_; focus first | assumption | omega | decide | grind) | (with_reducible refine Br.mk ?_ ?_; focus (intros; omega)) | decide)
    refine ⟨k + 1, by omega, by omega, Ref.gc [0, 4] rfl ?_ (by simp [sub, fget, go_sem, ↓reduceIte, Nat.reduceEqDiff, Nat.reduceAdd, reduceCtorEq])⟩
    simp only [htk, hsn, go_sem, ↓reduceIte, Nat.reduceEqDiff, Nat.reduceAdd, reduceCtorEq]
  · obtain rfl : k = dep F + 1 := by omega
    (repeat first | simp only [go_sem, ↓reduceIte, Nat.reduceEqDiff, Nat.reduceAdd, reduceCtorEq] | with_reducible refine V_W ?_ | (with_reducible refine And.intro ?_ ?_; focus first | assumption | omega | decide | grind) | (with_reducible refine Br.mk ?_ ?_; focus (intros; omega)) | decide)
    rw [show fvL F (dep F + 1) = fv F from rfl, show dep F + 1 = (fv F).length from (fvL_len F _).symm]
    exact Ref.gc [1] rfl (by simp only [go_sem, ↓reduceIte, Nat.reduceEqDiff, Nat.reduceAdd, reduceCtorEq]) (by simp [sub, fget, go_sem, ↓reduceIte, Nat.reduceEqDiff, Nat.reduceAdd, reduceCtorEq])
end Go.Proofs.YtghhlcioabdpfaaDoor
set_option maxRecDepth 100000
namespace Go.Proofs.YtghhlcioabdpfaaDoor
open Go.Gov
open Classical

theorem fv_len (F : List (List Int)) : (fv F).length = dep F + 1 := fvL_len F _
theorem fv_b {F : List (List Int)} (hl : F.length ≤ 400) (hr : ∀ x ∈ F, x.length ≤ 6) (i : Nat) : 0 ≤ (fv F).getD i 0 ∧ (fv F).getD i 0 ≤ 30000 := by
  by_cases h : i < dep F + 1
  · have := fcs_len hr i
    rw [fv, fvL_at h]
    omega
  · rw [List.getD_eq_getElem?_getD, List.getElem?_eq_none (by rw [fv_len]; omega)]
    simp
noncomputable def okC (v : Int) (F : List (List Int)) : Int := if CxOk v F then 0 else 1
theorem l17Euler_c (xs : List Int) (h0 : 0 < xs.length) (hl : xs.length ≤ 1048576) (hb : ∀ i, 0 ≤ xs.getD i 0 ∧ xs.getD i 0 ≤ 1048576) : Pure Tryd.prog 40 [ints xs] (i64 (altN (xs.drop 1) (xs.length - 1))) [] := by
  have hb2 : ∀ i, 0 ≤ (xs.drop 1).getD i 0 ∧ (xs.drop 1).getD i 0 ≤ 1048576 := fun i => by
    have := hb (1 + i)
    rwa [List.getD_eq_getElem?_getD, List.getElem?_drop, ← List.getD_eq_getElem?_getD]
  refine pureV0 ok40 rfl rfl ?_; unfold c40
  (repeat first | simp only [go_sem, ↓reduceIte, Nat.reduceEqDiff, Nat.reduceAdd, reduceCtorEq] | with_reducible refine V_W ?_ | (with_reducible refine And.intro ?_ ?_; focus first | assumption | omega | decide | grind) | (with_reducible refine Br.mk ?_ ?_; focus (intros; omega)) | decide)
  refine V_loop (α := Nat) (S := fun k => ([(0, ints xs), (3, i64 (altN (xs.drop 1) k)), (4, i64 (if k % 2 = 0 then 1 else -1)), (5, i64 ((k : Int) + 1))], [])) (C := fun k => k + 1 ≤ xs.length) (μ := fun k => xs.length - k) 0 (by omega) (by simp only [altN]; exact Ref.frame (by simp [sub, fget])) ?_
  intro k hk
  have h1 := altN_bound hb2 k
  have h2 := hb (k + 1)
  have h3 : (xs.drop 1).getD k 0 = xs.getD (k + 1) 0 := by rw [List.getD_eq_getElem?_getD, List.getElem?_drop, ← List.getD_eq_getElem?_getD, Nat.add_comm]
  have hs : (if k % 2 = 0 then (1 : Int) else -1) = 1 ∧ k % 2 = 0 ∨ (if k % 2 = 0 then (1 : Int) else -1) = -1 ∧ k % 2 = 1 := by
    by_cases e : k % 2 = 0
    · left; rw [if_pos e]; exact ⟨rfl, e⟩
    · right; rw [if_neg e]; exact ⟨rfl, by omega⟩
  obtain ⟨z, hz⟩ : ∃ z : Int, z = if k % 2 = 0 then (1 : Int) else -1 := ⟨_, rfl⟩
  rw [← hz] at hs ⊢
  (repeat first | simp only [go_sem, ↓reduceIte, Nat.reduceEqDiff, Nat.reduceAdd, reduceCtorEq] | with_reducible refine V_W ?_ | (with_reducible refine And.intro ?_ ?_; focus first | assumption | omega | decide | grind) | (with_reducible refine Br.mk ?_ ?_; focus (intros; omega)) | decide)
  refine ⟨fun hc => ?_, fun hc => ?_⟩
  · have hk1 : ((k : Int) + 1).toNat = k + 1 := by omega
    have h4 : z * xs.getD (k + 1) 0 = xs.getD (k + 1) 0 ∨ z * xs.getD (k + 1) 0 = - xs.getD (k + 1) 0 := by rcases hs with ⟨h, _⟩ | ⟨h, _⟩ <;> rw [h] <;> omega
    (repeat first | simp only [go_sem, ↓reduceIte, Nat.reduceEqDiff, Nat.reduceAdd, reduceCtorEq] | with_reducible refine V_W ?_ | (with_reducible refine And.intro ?_ ?_; focus first | assumption | omega | decide | grind) | (with_reducible refine Br.mk ?_ ?_; focus (intros; omega)) | decide)
    (try simp only [hk1, go_sem, ↓reduceIte, Nat.reduceEqDiff, Nat.reduceAdd, reduceCtorEq])
    (repeat first | simp only [go_sem, ↓reduceIte, Nat.reduceEqDiff, Nat.reduceAdd, reduceCtorEq] | with_reducible refine V_W ?_ | (with_reducible refine And.intro ?_ ?_; focus first | assumption | omega | decide | grind) | (with_reducible refine Br.mk ?_ ?_; focus (intros; omega)) | decide)
    refine ⟨k + 1, by omega, by omega, Ref.to rfl ?_⟩
    rcases hs with ⟨h5, h6⟩ | ⟨h5, h6⟩
    · have e1 : (k + 1) % 2 = 1 := by omega
      simp [sub, fget, altN, h6, e1, h3, h5]
    · have e1 : (k + 1) % 2 = 0 := by omega
      simp [sub, fget, altN, h6, e1, h3, h5]
      omega
  · (repeat first | simp only [go_sem, ↓reduceIte, Nat.reduceEqDiff, Nat.reduceAdd, reduceCtorEq] | with_reducible refine V_W ?_ | (with_reducible refine And.intro ?_ ?_; focus first | assumption | omega | decide | grind) | (with_reducible refine Br.mk ?_ ?_; focus (intros; omega)) | decide)
    rw [show xs.length - 1 = k by omega]
end Go.Proofs.YtghhlcioabdpfaaDoor
