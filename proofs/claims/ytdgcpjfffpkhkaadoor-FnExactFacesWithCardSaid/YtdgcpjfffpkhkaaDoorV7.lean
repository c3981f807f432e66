/- Texts that belong together. -/
import Derived.Test.YtdgcpjfffpkhkaaDoorX8
import Derived.Test.YtdgcpjfffpkhkaaDoorV2
import Derived.Test.YtdgcpjfffpkhkaaDoorV3
import Derived.Test.YtdgcpjfffpkhkaaDoorV5
set_option linter.unusedSimpArgs false
set_option linter.unusedVariables false
set_option maxRecDepth 100000
namespace Go.Proofs.YtdgcpjfffpkhkaaDoor
open Go.Gov
open Classical

noncomputable def pshI (out : List Rw) (p : Rw) : List Rw := if out.getLast?.map (·.2) = some p.2 then out else out ++ [p]
noncomputable def ddI (S : List Rw) : List Rw := S.foldl pshI []
theorem ddI_take {S : List Rw} {j : Nat} (hj : j < S.length) : ddI (S.take (j + 1)) = pshI (ddI (S.take j)) (S.getD j rw0) := by
  unfold ddI
  rw [takeI_one hj, List.foldl_append]
  rfl
theorem pshI_last (out : List Rw) (p : Rw) : (pshI out p).getLast?.map (·.2) = some p.2 := by
  unfold pshI
  split
  · assumption
  · simp
theorem ddI_last {S : List Rw} {j : Nat} (hj : j < S.length) : (ddI (S.take (j + 1))).getLast?.map (·.2) = some (S.getD j rw0).2 := by
  rw [ddI_take hj]
  exact pshI_last _ _
theorem ddI_same {S : List Rw} {j : Nat} (hj : j < S.length) (h0 : 0 < j) (h : (S.getD j rw0).2 = (S.getD (j - 1) rw0).2) : ddI (S.take (j + 1)) = ddI (S.take j) := by
  obtain ⟨i, rfl⟩ : ∃ i, j = i + 1 := ⟨j - 1, by omega⟩
  rw [ddI_take hj, pshI, if_pos]
  rw [ddI_last (by omega), h]
  rfl
theorem ddI_new {S : List Rw} {j : Nat} (hj : j < S.length) (h0 : 0 < j) (h : (S.getD j rw0).2 ≠ (S.getD (j - 1) rw0).2) : ddI (S.take (j + 1)) = ddI (S.take j) ++ [S.getD j rw0] := by
  obtain ⟨i, rfl⟩ : ∃ i, j = i + 1 := ⟨j - 1, by omega⟩
  rw [ddI_take hj, pshI, if_neg]
  rw [ddI_last (by omega)]
  exact fun e => h (Option.some.inj e).symm
theorem ddI_one {S : List Rw} (h : 0 < S.length) : ddI (S.take 1) = S.take 1 := by
  rw [takeI_one h]
  rfl
theorem ddI_short {S : List Rw} (h : S.length < 2) : ddI S = S := by
  match S, h with
  | [], _ => rfl
  | [x], _ => rfl
theorem ddI_map (S : List Rw) : (ddI S).map (·.2) = dd (S.map (·.2)) := by
  have h : ∀ (S out : List Rw), (S.foldl pshI out).map (·.2) = (S.map (·.2)).foldl psh (out.map (·.2)) := by
    intro S
    induction S with
    | nil => intro out; rfl
    | cons x S ih =>
      intro out
      rw [List.foldl_cons, ih, List.map_cons, List.foldl_cons]
      congr 1
      unfold pshI psh
      rw [List.getLast?_map]
      split <;> simp
  exact h S []
theorem ddI_sub (S : List Rw) : (ddI S).Sublist S := by
  have h : ∀ (S out : List Rw), (S.foldl pshI out).Sublist (out ++ S) := by
    intro S
    induction S with
    | nil => intro out; simp
    | cons x S ih =>
      intro out
      rw [List.foldl_cons]
      refine (ih _).trans ?_
      unfold pshI
      split
      · exact List.Sublist.append_left (List.sublist_cons_self x S) out
      · simp
  exact h S []
theorem ddI_le (S : List Rw) : (ddI S).length ≤ S.length := (ddI_sub S).length_le
set_option maxHeartbeats 4000000 in
theorem compactF_i (S : List Rw) (hl : S.length ≤ 1099511627776) (hr : ∀ x ∈ S, x.2.length ≤ 1099511627776) :
    Wri Tryd.prog 63 [.sl 0 1 0 S.length, .clo 64 [] []] [some (S.map cI)] (.sl 0 1 0 (ddI S).length) [some ((ddI S).map cI ++ List.replicate (S.length - (ddI S).length) nilS)] := by
  have hrow : ∀ i : Nat, (S.getD i rw0).2.length ≤ 1099511627776 := fun i => by
    by_cases h : i < S.length
    · refine hr _ ?_
      rw [List.getD_eq_getElem?_getD, List.getElem?_eq_getElem h]
      exact List.getElem_mem h
    · simp [h]
  have hk : callable Tryd.prog 64 = true := by kernel_rfl
  refine wriRV ok63 rfl ?_; unfold c63
  (repeat first | simp only [go_sem, ↓reduceIte, Nat.reduceEqDiff, Nat.reduceAdd, reduceCtorEq] | with_reducible refine V_W ?_ | (with_reducible refine And.intro ?_ ?_; focus first | assumption | omega | decide | grind) | (with_reducible refine Br.mk ?_ ?_; focus (intros; omega)) | decide)
  refine ⟨fun hc => ?_, fun hc => ?_⟩
  · rw [ddI_short (by omega), Nat.sub_self]
    (repeat first | simp only [go_sem, ↓reduceIte, Nat.reduceEqDiff, Nat.reduceAdd, reduceCtorEq] | with_reducible refine V_W ?_ | (with_reducible refine And.intro ?_ ?_; focus first | assumption | omega | decide | grind) | (with_reducible refine Br.mk ?_ ?_; focus (intros; omega)) | decide)
    exact Ref.to (by simp) (by simp [sub, fget])
  · (repeat first | simp only [go_sem, ↓reduceIte, Nat.reduceEqDiff, Nat.reduceAdd, reduceCtorEq] | with_reducible refine V_W ?_ | (with_reducible refine And.intro ?_ ?_; focus first | assumption | omega | decide | grind) | (with_reducible refine Br.mk ?_ ?_; focus (intros; omega)) | decide)
    refine V_loop (α := Nat) (S := fun k => ([(0, .sl 0 1 0 S.length), (1, .clo 64 [] []), (5, i64 (k : Int))], [some (S.map cI)])) (C := fun k => 1 ≤ k ∧ k ≤ S.length ∧ ddI (S.take k) = S.take k) (μ := fun k => S.length - k) 1 ⟨Nat.le_refl _, by omega, ddI_one (by omega)⟩ (by exact Ref.frame (by simp [sub, fget])) ?_
    rintro k ⟨h1, h2, h3⟩
    (repeat first | simp only [go_sem, ↓reduceIte, Nat.reduceEqDiff, Nat.reduceAdd, reduceCtorEq] | with_reducible refine V_W ?_ | (with_reducible refine And.intro ?_ ?_; focus first | assumption | omega | decide | grind) | (with_reducible refine Br.mk ?_ ?_; focus (intros; omega)) | decide)
    refine ⟨fun hc2 => ?_, fun hc2 => ?_⟩
    · have hq := equal_c (S.getD k rw0).2 (S.getD (k - 1) rw0).2 (hrow _) (hrow _)
      have hkm : ((k : Int) - 1).toNat = k - 1 := by omega
      have g1 := getI S k (by omega)
      have g2 := getI S (k - 1) (by omega)
      (repeat first | simp only [go_sem, ↓reduceIte, Nat.reduceEqDiff, Nat.reduceAdd, reduceCtorEq] | with_reducible refine V_W ?_ | (with_reducible refine And.intro ?_ ?_; focus first | assumption | omega | decide | grind) | (with_reducible refine Br.mk ?_ ?_; focus (intros; omega)) | decide)
      (try simp only [g1, g2, go_sem, ↓reduceIte, Nat.reduceEqDiff, Nat.reduceAdd, reduceCtorEq])
      (repeat first | simp only [go_sem, ↓reduceIte, Nat.reduceEqDiff, Nat.reduceAdd, reduceCtorEq] | with_reducible refine V_W ?_ | (with_reducible refine And.intro ?_ ?_; focus first | assumption | omega | decide | grind) | (with_reducible refine Br.mk ?_ ?_; focus (intros; omega)) | decide)
      refine pureC (hq) (by simp only [go_sem, ↓reduceIte, Nat.reduceEqDiff, Nat.reduceAdd, reduceCtorEq] <;> rfl) (by first | rfl | simp only [go_sem, ↓reduceIte, Nat.reduceEqDiff, Nat.reduceAdd, reduceCtorEq]) ?_
      (repeat first | simp only [go_sem, ↓reduceIte, Nat.reduceEqDiff, Nat.reduceAdd, reduceCtorEq] | with_reducible refine V_W ?_ | (with_reducible refine And.intro ?_ ?_; focus first | assumption | omega | decide | grind) | (with_reducible refine Br.mk ?_ ?_; focus (intros; omega)) | decide)
      refine ⟨fun hc3 => ?_, fun hc3 => ?_⟩
      · have h4 : ddI (S.take (k + 1)) = S.take k := (ddI_same (by omega) h1 hc3).trans h3
        clear g1 g2 hq hkm
        (repeat first | simp only [go_sem, ↓reduceIte, Nat.reduceEqDiff, Nat.reduceAdd, reduceCtorEq] | with_reducible refine V_W ?_ | (with_reducible refine And.intro ?_ ?_; focus first | assumption | omega | decide | grind) | (with_reducible refine Br.mk ?_ ?_; focus (intros; omega)) | decide)
        refine V_loop (α := Nat) (S := fun j => ([(0, .sl 0 1 0 S.length), (1, .clo 64 [] []), (5, i64 ((ddI (S.take (k + j))).length : Int)), (6, .sl 0 1 k (S.length - k)), (7, i64 (j : Int))], [some ((ddI (S.take (k + j)) ++ S.drop (ddI (S.take (k + j))).length).map cI)])) (C := fun j => 1 ≤ j ∧ k + j ≤ S.length ∧ (ddI (S.take (k + j))).length < k + j) (μ := fun j => S.length - (k + j)) 1 ⟨Nat.le_refl _, by omega, by rw [h4, List.length_take]; omega⟩ ?_ ?_
        · have h5 : (S.take k).length = k := by rw [List.length_take]; omega
          rw [h4, h5, List.take_append_drop]
          exact Ref.to rfl (by simp [sub, fget])
        rintro j ⟨j1, j2, j3⟩
        obtain ⟨O, hO⟩ : ∃ O, O = ddI (S.take (k + j)) := ⟨_, rfl⟩
        rw [← hO] at j3 ⊢
        have hml : ((O ++ S.drop O.length).map cI).length = S.length := by simp; omega
        (repeat first | simp only [go_sem, ↓reduceIte, Nat.reduceEqDiff, Nat.reduceAdd, reduceCtorEq] | with_reducible refine V_W ?_ | (with_reducible refine And.intro ?_ ?_; focus first | assumption | omega | decide | grind) | (with_reducible refine Br.mk ?_ ?_; focus (intros; omega)) | decide)
        obtain ⟨T, hT⟩ : ∃ T, T = O ++ S.drop O.length := ⟨_, rfl⟩
        have hTl : T.length = S.length := by rw [hT]; simp; omega
        have gT : ∀ i, O.length ≤ i → T.getD i rw0 = S.getD i rw0 := fun i hi => by
          rw [hT, List.getD_eq_getElem?_getD, List.getElem?_append_right hi, List.getElem?_drop, show O.length + (i - O.length) = i by omega, ← List.getD_eq_getElem?_getD]
        rw [← hT] at hml ⊢
        refine ⟨fun hc4 => ?_, fun hc4 => ?_⟩
        · have hq2 := equal_c (S.getD (k + j) rw0).2 (S.getD (k + j - 1) rw0).2 (hrow _) (hrow _)
          have hjm : ((j : Int) - 1).toNat = j - 1 := by omega
          have g1 := getI T (k + j) (by omega)
          have g2 := getI T (k + (j - 1)) (by omega)
          rw [gT _ (by omega)] at g1 g2
          rw [show k + j - 1 = k + (j - 1) by omega] at hq2
          obtain ⟨y, hy⟩ : ∃ y, y = S.getD (k + j) rw0 := ⟨_, rfl⟩
          rw [← hy] at g1 hq2
          have t1 : T.getD (k + j) rw0 = y := by rw [gT _ (by omega), hy]
          have t2 := gT (k + (j - 1)) (by omega)
          (repeat first | simp only [go_sem, ↓reduceIte, Nat.reduceEqDiff, Nat.reduceAdd, reduceCtorEq] | with_reducible refine V_W ?_ | (with_reducible refine And.intro ?_ ?_; focus first | assumption | omega | decide | grind) | (with_reducible refine Br.mk ?_ ?_; focus (intros; omega)) | decide)
          (try simp only [t1, t2, go_sem, ↓reduceIte, Nat.reduceEqDiff, Nat.reduceAdd, reduceCtorEq])
          (repeat first | simp only [go_sem, ↓reduceIte, Nat.reduceEqDiff, Nat.reduceAdd, reduceCtorEq] | with_reducible refine V_W ?_ | (with_reducible refine And.intro ?_ ?_; focus first | assumption | omega | decide | grind) | (with_reducible refine Br.mk ?_ ?_; focus (intros; omega)) | decide)
          refine pureC (hq2) (by simp only [go_sem, ↓reduceIte, Nat.reduceEqDiff, Nat.reduceAdd, reduceCtorEq] <;> rfl) (by first | rfl | simp only [go_sem, ↓reduceIte, Nat.reduceEqDiff, Nat.reduceAdd, reduceCtorEq]) ?_
          (repeat first | simp only [go_sem, ↓reduceIte, Nat.reduceEqDiff, Nat.reduceAdd, reduceCtorEq] | with_reducible refine V_W ?_ | (with_reducible refine And.intro ?_ ?_; focus first | assumption | omega | decide | grind) | (with_reducible refine Br.mk ?_ ?_; focus (intros; omega)) | decide)
          refine ⟨fun hc5 => ?_, fun hc5 => ?_⟩
          · have hO2 : ddI (S.take (k + (j + 1))) = O ++ [y] := by
              rw [hy] at hc5 ⊢
              have hn := ddI_new (S := S) (j := k + j) (by omega) (by omega) (by rw [show k + j - 1 = k + (j - 1) by omega]; exact hc5)
              rw [hO, ← hn]
              rfl
            have hset : (T.map cI).set O.length (cI y) = ((O ++ [y]) ++ S.drop (O ++ [y]).length).map cI := by
              rw [hT, ← List.map_set, List.set_append_right _ _ (Nat.le_refl _), Nat.sub_self, List.length_append, List.length_singleton, List.append_assoc]
              rw [List.drop_eq_getElem_cons (by omega : O.length < S.length)]
              rfl
            (repeat first | simp only [go_sem, ↓reduceIte, Nat.reduceEqDiff, Nat.reduceAdd, reduceCtorEq] | with_reducible refine V_W ?_ | (with_reducible refine And.intro ?_ ?_; focus first | assumption | omega | decide | grind) | (with_reducible refine Br.mk ?_ ?_; focus (intros; omega)) | decide)
            (try simp only [g1, go_sem, ↓reduceIte, Nat.reduceEqDiff, Nat.reduceAdd, reduceCtorEq])
            (repeat first | simp only [go_sem, ↓reduceIte, Nat.reduceEqDiff, Nat.reduceAdd, reduceCtorEq] | with_reducible refine V_W ?_ | (with_reducible refine And.intro ?_ ?_; focus first | assumption | omega | decide | grind) | (with_reducible refine Br.mk ?_ ?_; focus (intros; omega)) | decide)
            refine ⟨j + 1, ⟨by omega, by omega, by rw [hO2]; simp; omega⟩, by omega, Ref.to (by rw [hO2, ← hset]) (by simp [sub, fget, hO2])⟩
          · have hO2 : ddI (S.take (k + (j + 1))) = O := by
              rw [hy] at hc5
              have hn := ddI_same (S := S) (j := k + j) (by omega) (by omega) (by rw [show k + j - 1 = k + (j - 1) by omega]; exact hc5)
              rw [hO, ← hn]
              rfl
            (repeat first | simp only [go_sem, ↓reduceIte, Nat.reduceEqDiff, Nat.reduceAdd, reduceCtorEq] | with_reducible refine V_W ?_ | (with_reducible refine And.intro ?_ ?_; focus first | assumption | omega | decide | grind) | (with_reducible refine Br.mk ?_ ?_; focus (intros; omega)) | decide)
            exact ⟨j + 1, ⟨by omega, by omega, by rw [hO2]; omega⟩, by omega, Ref.to (by rw [hO2, hT]) (by simp [sub, fget, hO2])⟩
        · obtain rfl : j = S.length - k := by omega
          rw [show k + (S.length - k) = S.length by omega, List.take_length] at hO
          (repeat first | simp only [go_sem, ↓reduceIte, Nat.reduceEqDiff, Nat.reduceAdd, reduceCtorEq] | with_reducible refine V_W ?_ | (with_reducible refine And.intro ?_ ?_; focus first | assumption | omega | decide | grind) | (with_reducible refine Br.mk ?_ ?_; focus (intros; omega)) | decide)
          rw [← hO]
          have e1 : ((S.length : Int) - (O.length : Int)).toNat = S.length - O.length := by omega
          have e2 : (T.map cI).take O.length = O.map cI := by rw [hT]; simp
          refine Ref.to ?_ (by simp [sub, fget])
          rw [e1, e2, List.drop_eq_nil_of_le (by omega), List.append_nil]
      · (repeat first | simp only [go_sem, ↓reduceIte, Nat.reduceEqDiff, Nat.reduceAdd, reduceCtorEq] | with_reducible refine V_W ?_ | (with_reducible refine And.intro ?_ ?_; focus first | assumption | omega | decide | grind) | (with_reducible refine Br.mk ?_ ?_; focus (intros; omega)) | decide)
        exact ⟨k + 1, ⟨by omega, by omega, by rw [ddI_new (by omega) h1 hc3, h3, takeI_one (by omega)]⟩, by omega, by exact Ref.frame (by simp [sub, fget])⟩
    · obtain rfl : k = S.length := by omega
      rw [List.take_length] at h3
      rw [h3, Nat.sub_self]
      (repeat first | simp only [go_sem, ↓reduceIte, Nat.reduceEqDiff, Nat.reduceAdd, reduceCtorEq] | with_reducible refine V_W ?_ | (with_reducible refine And.intro ?_ ?_; focus first | assumption | omega | decide | grind) | (with_reducible refine Br.mk ?_ ?_; focus (intros; omega)) | decide)
      exact Ref.to (by simp) (by simp [sub, fget])
theorem sortF_o (X : List (List Int)) (hl : X.length ≤ 1099511627776) (hr : ∀ x ∈ X, x.length ≤ 1099511627776) :
    WriE Tryd.prog 62 [.sl 0 1 0 X.length, .clo 54 [] []] [some (X.map oints)] (fun S : List (List Int) => S.Perm X ∧ Asc S) (fun _ => .tup []) (fun S => [some (S.map oints)]) := by
  have h := WriE.thaw (P := Tryd.prog) (f := 62) (args := [.sl 0 1 0 X.length, .clo 54 [] []]) (X := X) (Q := fun o => (o.1.map (·.2)).Perm X ∧ Asc (o.1.map (·.2)) ∧ o.2 = 0) (x := fun _ => .tup []) (fun vs hv => ?_) (fun o => ⟨rfl, rfl⟩)
  · refine CallsX.mono h ?_
    rintro av H' ⟨⟨R, z⟩, ⟨h1, h2, rfl⟩, rfl, rfl⟩
    exact ⟨R.map (·.2), ⟨h1, h2⟩, rfl, by simp⟩
  · have hs := sortF_i (vs.zip X) (by simp; omega) (fun x hx => hr _ (List.of_mem_zip hx).2)
    rw [show (vs.zip X).length = X.length by simp [hv]] at hs
    refine CallsX.mono hs ?_
    rintro av H' ⟨S, ⟨h1, h2⟩, rfl, rfl⟩
    refine ⟨(S, 0), ⟨⟨?_, h2, rfl⟩, sub_zip hv (perm_idx rw0 h1)⟩, rfl, by simp⟩
    have := h1.map (·.2)
    rwa [zip_snd hv] at this
theorem compactF_o (X : List (List Int)) (hl : X.length ≤ 1099511627776) (hr : ∀ x ∈ X, x.length ≤ 1099511627776) :
    WriE Tryd.prog 63 [.sl 0 1 0 X.length, .clo 64 [] []] [some (X.map oints)] (fun z : Nat => (dd X).length + z = X.length) (fun _ => .sl 0 1 0 (dd X).length) (fun z => [some ((dd X).map oints ++ List.replicate z nilS)]) := by
  have h := WriE.thaw (P := Tryd.prog) (f := 63) (args := [.sl 0 1 0 X.length, .clo 64 [] []]) (X := X) (Q := fun o => o.1.map (·.2) = dd X ∧ (dd X).length + o.2 = X.length) (x := fun o => .sl 0 1 0 o.1.length) (fun vs hv => ?_) (fun o => ⟨rfl, rfl⟩)
  · refine CallsX.mono h ?_
    rintro av H' ⟨⟨R, z⟩, ⟨h1, h2⟩, rfl, rfl⟩
    have hl := congrArg List.length h1
    rw [List.length_map] at hl
    exact ⟨z, h2, congrArg (fun n => AV.sl 0 1 0 n) hl, congrArg (fun r : List (List Int) => [some (r.map oints ++ List.replicate z nilS)]) h1⟩
  · have hz : (vs.zip X).length = X.length := by simp [hv]
    have hs := compactF_i (vs.zip X) (by omega) (fun x hx => hr _ (List.of_mem_zip hx).2)
    rw [hz] at hs
    have hle := ddI_le (vs.zip X)
    have hm := ddI_map (vs.zip X)
    rw [zip_snd hv] at hm
    have hml := congrArg List.length hm
    rw [List.length_map] at hml
    refine CallsX.mono hs ?_
    rintro av H' ⟨rfl, rfl⟩
    exact ⟨(ddI (vs.zip X), X.length - (ddI (vs.zip X)).length), ⟨⟨hm, by dsimp only; omega⟩, sub_zip hv (sub_idx rw0 (ddI_sub _))⟩, rfl, rfl⟩
end Go.Proofs.YtdgcpjfffpkhkaaDoor
set_option maxRecDepth 100000
namespace Go.Proofs.YtdgcpjfffpkhkaaDoor
open Go.Gov
open Classical

theorem one_orows (L : List (List Int)) : (L.map oints).all oneA = true := List.all_eq_true.2 fun x hx => by
  obtain ⟨y, _, rfl⟩ := List.mem_map.1 hx
  rfl
theorem plain_no {L : List (List Int)} (h : L ≠ []) : (L.map oints).all plainC = false := by
  cases L with
  | nil => exact absurd rfl h
  | cons x L => rfl
set_option maxHeartbeats 4000000 in
theorem facesWith_o (v : Int) (F : List (List Int)) (k : Nat) (hk : k ≤ 6) (hl : F.length ≤ 400) (hr : ∀ x ∈ F, x.length ≤ 6) : Pure Tryd.prog 40 [.pto [i64 v, mat F] 0, i64 (k : Int)] (.sl 0 1 0 (fcs F k).length) [some ((fcs F k).map oints)] := by
  have hrow : ∀ i : Nat, (F.getD i []).length ≤ 6 := fun i => by
    by_cases h : i < F.length
    · exact hr _ (getD_mem h)
    · simp [h]
  refine pureRV ok40 rfl ?_; unfold c40
  (repeat first | simp only [go_sem, ↓reduceIte, Nat.reduceEqDiff, Nat.reduceAdd, reduceCtorEq] | with_reducible refine V_W ?_ | (with_reducible refine And.intro ?_ ?_; focus first | assumption | omega | decide | grind) | (with_reducible refine Br.mk ?_ ?_; focus (intros; omega)) | decide)
  apply Br_join (fun _ : Unit => True)
  · rintro hc hj
    have hk0 : k = 0 := by omega
    refine ⟨rfl, ?_⟩
    refine W_to _ (fun _ : Unit => [(0, .pto [i64 v, mat F] 0), (1, i64 (k : Int)), (5, .sl 0 1 0 (allT F k 0).length)]) (fun _ : Unit => [some ((allT F k 0).map oints)]) hj () trivial ?_
    rw [allT_zero, if_pos hk0]
    refine (Ref.gc [2] (F' := [(0, .pto [i64 v, mat F] 0), (1, i64 (k : Int)), (5, .sl 0 1 0 1)]) (H' := [some [nilS]]) rfl (by simp only [go_sem, ↓reduceIte, Nat.reduceEqDiff, Nat.reduceAdd, reduceCtorEq]) (by simp [sub, fget, go_sem, ↓reduceIte, Nat.reduceEqDiff, Nat.reduceAdd, reduceCtorEq])).trans ((Ref.nils 0 1 1 rfl).trans (Ref.to rfl (by simp [sub, fget])))
  · rintro hc hj
    refine W_to _ (fun _ : Unit => [(0, .pto [i64 v, mat F] 0), (1, i64 (k : Int)), (5, .sl 0 1 0 (allT F k 0).length)]) (fun _ : Unit => [some ((allT F k 0).map oints)]) hj () trivial ?_
    rw [allT_zero, if_neg (by omega)]
    exact Ref.to rfl (by simp [sub, fget])
  · rintro _ _
    (repeat first | simp only [go_sem, ↓reduceIte, Nat.reduceEqDiff, Nat.reduceAdd, reduceCtorEq] | with_reducible refine V_W ?_ | (with_reducible refine And.intro ?_ ?_; focus first | assumption | omega | decide | grind) | (with_reducible refine Br.mk ?_ ?_; focus (intros; omega)) | decide)
    refine V_loop (α := Nat) (S := fun i => ([(0, .pto [i64 v, mat F] 0), (1, i64 (k : Int)), (5, .sl 0 1 0 (allT F k i).length), (17, mat F), (18, i64 (F.length : Int)), (19, i64 (i : Int))], [some ((allT F k i).map oints)])) (C := fun i => i ≤ F.length) (μ := fun i => F.length - i) 0 (Nat.zero_le _) (by exact Ref.frame (by simp [sub, fget])) ?_
    intro i hi
    have hTl := allT_len hr k i
    (repeat first | simp only [go_sem, ↓reduceIte, Nat.reduceEqDiff, Nat.reduceAdd, reduceCtorEq] | with_reducible refine V_W ?_ | (with_reducible refine And.intro ?_ ?_; focus first | assumption | omega | decide | grind) | (with_reducible refine Br.mk ?_ ?_; focus (intros; omega)) | decide)
    refine ⟨fun hc2 => ?_, fun hc2 => ?_⟩
    · have hri := hrow i
      (repeat first | simp only [go_sem, ↓reduceIte, Nat.reduceEqDiff, Nat.reduceAdd, reduceCtorEq] | with_reducible refine V_W ?_ | (with_reducible refine And.intro ?_ ?_; focus first | assumption | omega | decide | grind) | (with_reducible refine Br.mk ?_ ?_; focus (intros; omega)) | decide)
      refine GCall.mk (i64 ((F.getD i []).length : Int) ) (fun hg => by first | exact pureC ( size_c (F.getD i []) (by omega)) (by simp only [go_sem, ↓reduceIte, Nat.reduceEqDiff, Nat.reduceAdd, reduceCtorEq] <;> rfl) (by first | rfl | simp only [go_sem, ↓reduceIte, Nat.reduceEqDiff, Nat.reduceAdd, reduceCtorEq]) (by first | exact ⟨rfl, rfl⟩ | simp only [go_sem, ↓reduceIte, Nat.reduceEqDiff, Nat.reduceAdd, reduceCtorEq]) | exact ⟨hg, pureC ( size_c (F.getD i []) (by omega)) (by simp only [go_sem, ↓reduceIte, Nat.reduceEqDiff, Nat.reduceAdd, reduceCtorEq] <;> rfl) (by first | rfl | simp only [go_sem, ↓reduceIte, Nat.reduceEqDiff, Nat.reduceAdd, reduceCtorEq]) (by first | exact ⟨rfl, rfl⟩ | simp only [go_sem, ↓reduceIte, Nat.reduceEqDiff, Nat.reduceAdd, reduceCtorEq])⟩ | exact ⟨by grind, pureC ( size_c (F.getD i []) (by omega)) (by simp only [go_sem, ↓reduceIte, Nat.reduceEqDiff, Nat.reduceAdd, reduceCtorEq] <;> rfl) (by first | rfl | simp only [go_sem, ↓reduceIte, Nat.reduceEqDiff, Nat.reduceAdd, reduceCtorEq]) (by first | exact ⟨rfl, rfl⟩ | simp only [go_sem, ↓reduceIte, Nat.reduceEqDiff, Nat.reduceAdd, reduceCtorEq])⟩) ?_
      (repeat first | simp only [go_sem, ↓reduceIte, Nat.reduceEqDiff, Nat.reduceAdd, reduceCtorEq] | with_reducible refine V_W ?_ | (with_reducible refine And.intro ?_ ?_; focus first | assumption | omega | decide | grind) | (with_reducible refine Br.mk ?_ ?_; focus (intros; omega)) | decide)
      refine ⟨fun hc3 => ?_, fun hc3 => ?_⟩
      · have hz := partsOf_p k (F.getD i []) hri (by omega)
        have hpl := prt_len (F.getD i []) k
        have hp6 : 2 ^ (F.getD i []).length ≤ 2 ^ 6 := Nat.pow_le_pow_right (by decide) hri
        have hsc := allT_succ (F := F) (k := k) (i := i) (by omega) (by omega)
        (repeat first | simp only [go_sem, ↓reduceIte, Nat.reduceEqDiff, Nat.reduceAdd, reduceCtorEq] | with_reducible refine V_W ?_ | (with_reducible refine And.intro ?_ ?_; focus first | assumption | omega | decide | grind) | (with_reducible refine Br.mk ?_ ?_; focus (intros; omega)) | decide)
        refine pureC (hz) (by simp only [go_sem, ↓reduceIte, Nat.reduceEqDiff, Nat.reduceAdd, reduceCtorEq] <;> rfl) (by first | rfl | simp only [go_sem, ↓reduceIte, Nat.reduceEqDiff, Nat.reduceAdd, reduceCtorEq]) ?_
        (repeat first | simp only [go_sem, ↓reduceIte, Nat.reduceEqDiff, Nat.reduceAdd, reduceCtorEq] | with_reducible refine V_W ?_ | (with_reducible refine And.intro ?_ ?_; focus first | assumption | omega | decide | grind) | (with_reducible refine Br.mk ?_ ?_; focus (intros; omega)) | decide)
        refine ⟨one_orows _, ?_⟩
        by_cases hn : prt k (F.getD i []) = []
        · rw [hn, List.append_nil] at hsc
          rw [hn]
          refine AppK_pl rfl ?_
          (repeat first | simp only [go_sem, ↓reduceIte, Nat.reduceEqDiff, Nat.reduceAdd, reduceCtorEq] | with_reducible refine V_W ?_ | (with_reducible refine And.intro ?_ ?_; focus first | assumption | omega | decide | grind) | (with_reducible refine Br.mk ?_ ?_; focus (intros; omega)) | decide)
          refine ⟨i + 1, by omega, by omega, Ref.gc [2] rfl ?_ (by simp [sub, fget, go_sem, ↓reduceIte, Nat.reduceEqDiff, Nat.reduceAdd, reduceCtorEq, hsc])⟩
          simp only [go_sem, ↓reduceIte, Nat.reduceEqDiff, Nat.reduceAdd, reduceCtorEq]
          first | (rw [hsc]; done) | (rw [hsc]; simp)
        · refine AppK_no (plain_no hn) ?_
          (repeat first | simp only [go_sem, ↓reduceIte, Nat.reduceEqDiff, Nat.reduceAdd, reduceCtorEq] | with_reducible refine V_W ?_ | (with_reducible refine And.intro ?_ ?_; focus first | assumption | omega | decide | grind) | (with_reducible refine Br.mk ?_ ?_; focus (intros; omega)) | decide)
          refine ⟨i + 1, by omega, by omega, Ref.gc [2] rfl ?_ (by simp [sub, fget, go_sem, ↓reduceIte, Nat.reduceEqDiff, Nat.reduceAdd, reduceCtorEq, hsc])⟩
          simp only [go_sem, ↓reduceIte, Nat.reduceEqDiff, Nat.reduceAdd, reduceCtorEq]
          first | (rw [hsc]; done) | (rw [hsc]; simp)
      · have hsc : allT F k (i + 1) = allT F k i := by
          by_cases h0 : k = 0
          · simp [allT, h0]
          · rw [allT_succ (by omega) (by omega), prt_short _ _ (by rcases hc3 with h | h <;> omega), List.append_nil]
        (repeat first | simp only [go_sem, ↓reduceIte, Nat.reduceEqDiff, Nat.reduceAdd, reduceCtorEq] | with_reducible refine V_W ?_ | (with_reducible refine And.intro ?_ ?_; focus first | assumption | omega | decide | grind) | (with_reducible refine Br.mk ?_ ?_; focus (intros; omega)) | decide)
        exact ⟨i + 1, by omega, by omega, Ref.to (by rw [hsc]) (by simp [sub, fget, hsc])⟩
    · obtain rfl : i = F.length := by omega
      obtain ⟨X, hX⟩ : ∃ X, X = allT F k F.length := ⟨_, rfl⟩
      have hXr := allT_row hr k F.length
      rw [← hX] at hTl hXr ⊢
      have hsf := sortF_o X (by omega) (fun x hx => by have := hXr x hx; omega)
      (repeat first | simp only [go_sem, ↓reduceIte, Nat.reduceEqDiff, Nat.reduceAdd, reduceCtorEq] | with_reducible refine V_W ?_ | (with_reducible refine And.intro ?_ ?_; focus first | assumption | omega | decide | grind) | (with_reducible refine Br.mk ?_ ?_; focus (intros; omega)) | decide)
      refine wriEF (hsf) [0] (by first | rfl | simp) (by simp only [go_sem, ↓reduceIte, Nat.reduceEqDiff, Nat.reduceAdd, reduceCtorEq] <;> rfl) (by simp only [go_sem, ↓reduceIte, Nat.reduceEqDiff, Nat.reduceAdd, reduceCtorEq] <;> rfl) fun o ho => ?_
      obtain ⟨S, hS, rfl⟩ : ∃ S, (S.Perm X ∧ Asc S) ∧ S = o := ⟨o, ho, rfl⟩
      clear ho
      (repeat first | simp only [go_sem, ↓reduceIte, Nat.reduceEqDiff, Nat.reduceAdd, reduceCtorEq] | with_reducible refine V_W ?_ | (with_reducible refine And.intro ?_ ?_; focus first | assumption | omega | decide | grind) | (with_reducible refine Br.mk ?_ ?_; focus (intros; omega)) | decide)
      have hol := hS.1.length_eq
      have hcm := compactF_o S (by omega) (fun x hx => by have := hXr x (hS.1.mem_iff.1 hx); omega)
      have hdd := fcs_dd (F := F) (k := k) (hX.trans (by unfold allT; rw [List.take_length])) hS.1 hS.2
      have hle := dd_le S
      rw [hol] at hcm
      refine wriEF (hcm) [0] (by first | rfl | simp) (by simp only [go_sem, ↓reduceIte, Nat.reduceEqDiff, Nat.reduceAdd, reduceCtorEq] <;> rfl) (by simp only [go_sem, ↓reduceIte, Nat.reduceEqDiff, Nat.reduceAdd, reduceCtorEq] <;> rfl) fun o ho => ?_
      (repeat first | simp only [go_sem, ↓reduceIte, Nat.reduceEqDiff, Nat.reduceAdd, reduceCtorEq] | with_reducible refine V_W ?_ | (with_reducible refine And.intro ?_ ?_; focus first | assumption | omega | decide | grind) | (with_reducible refine Br.mk ?_ ?_; focus (intros; omega)) | decide)
      rw [← hdd]
      refine (Ref.cut 0 (dd S).length 0 (k := 1) (off := 0) (len := (dd S).length) (cs := (dd S).map oints ++ List.replicate o nilS) rfl (by simp) rfl (by omega)).trans (Ref.gc [1] rfl ?_ (by simp [sub, fget, go_sem, ↓reduceIte, Nat.reduceEqDiff, Nat.reduceAdd, reduceCtorEq]))
      simp only [go_sem, ↓reduceIte, Nat.reduceEqDiff, Nat.reduceAdd, reduceCtorEq]
      simp [rnmL_orows]
end Go.Proofs.YtdgcpjfffpkhkaaDoor
