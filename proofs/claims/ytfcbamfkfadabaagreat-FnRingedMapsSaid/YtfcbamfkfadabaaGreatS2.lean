/- Texts that belong together. -/
import Derived.Test.YtfcbamfkfadabaaGreatZe
import Derived.Test.YtfcbamfkfadabaaGreatZt
import Derived.Test.YtfcbamfkfadabaaGreatRp
import Derived.Test.YtfcbamfkfadabaaGreatS1
set_option linter.unusedSimpArgs false
set_option linter.unusedVariables false
set_option maxRecDepth 100000
namespace Go.Proofs.YtfcbamfkfadabaaGreat
open Go.Gov
open Classical

abbrev Cmp := Int × List Int
def cp0 : Cmp := (0, [])
def cmpV (p : Cmp) : AV := .agg [i64 p.1, olF p.2]
theorem getD_memC {X : List Cmp} {i : Nat} (h : i < X.length) : X.getD i cp0 ∈ X := by
  rw [List.getD_eq_getElem?_getD, List.getElem?_eq_getElem h]
  exact List.getElem_mem h
theorem cmpF_at2 (X : List Cmp) (i : Nat) (h : i < X.length) : ((cmpF X).drop (i * 2)).take 2 = [i64 (X.getD i cp0).1, olF (X.getD i cp0).2] := by
  rw [cmpF_at X i h, List.getD_eq_getElem?_getD, List.getElem?_eq_getElem h]; rfl
def callC (p : Cmp → Bool) (X : List Cmp) : Int := if X.any p then X.findIdx p else -1
theorem callC_at {p : Cmp → Bool} {X : List Cmp} {i : Nat} (h : ∀ j, j < i → p (X.getD j cp0) = false) (hi : i < X.length) (he : p (X.getD i cp0) = true) : callC p X = i := by
  have he' : p X[i] = true := by simpa [hi] using he
  unfold callC
  rw [if_pos (List.any_eq_true.2 ⟨_, List.getElem_mem hi, he'⟩)]
  congr 1
  refine (List.findIdx_eq hi).2 ⟨he', fun j hj => ?_⟩
  have := h j hj
  simpa [show j < X.length by omega] using this
theorem callC_no {p : Cmp → Bool} {X : List Cmp} (h : ∀ j, j < X.length → p (X.getD j cp0) = false) : callC p X = -1 := by
  unfold callC
  rw [if_neg]
  intro ha
  obtain ⟨x, hx, hp⟩ := List.any_eq_true.1 ha
  obtain ⟨j, hj, rfl⟩ := List.mem_iff_getElem.1 hx
  have := h j hj
  simp [hj, hp] at this
theorem callC_ge (p : Cmp → Bool) (X : List Cmp) : decide (0 ≤ callC p X) = X.any p := by
  unfold callC
  by_cases h : X.any p = true <;> simp [h]
set_option maxHeartbeats 1000000 in
theorem indexFuncC_c (X : List Cmp) (f : FuncId) (fs cs : List AV) (p : Cmp → Bool) (hl : X.length ≤ 1099511627776) (hf : ∀ x ∈ X, Pure Tryz.prog f (fs ++ [cmpV x] ++ cs) (bl (p x)) []) (hk : callable Tryz.prog f = true) (h1 : fs.map (frz [] 6) = fs) (h2 : cs.map (frz [] 6) = cs) : Pure Tryz.prog 68 [.slc 2 X.length (cmpF X), .clo f fs cs] (i64 (callC p X)) [] := by
  refine pureV ok68 rfl ?_; unfold c68
  refine RN ?_
  refine V_loop (α := Nat) (S := fun i => ([(0, .slc 2 X.length (cmpF X)), (1, .clo f fs cs), (6, .slc 2 X.length (cmpF X)), (7, i64 X.length), (8, i64 i)], [])) (C := fun i => i ≤ X.length ∧ ∀ j, j < i → p (X.getD j cp0) = false) (μ := fun i => X.length - i) 0 ⟨by omega, by omega⟩ (by exact Ref.frame (by simp [sub, fget])) ?_
  rintro i ⟨hi, hall⟩
  refine RN ?_
  refine ⟨fun hc => ?_, fun hc => ?_⟩
  · have hil : i < X.length := by omega
    have c1 := cmpF_at2 X i hil
    have c2 : ((cmpF X).drop (i * 2)).length = 2 * X.length - i * 2 := by simp [cmpF_len]
    have c3 := cmpF_len X
    have c4 := olF_p (X.getD i cp0).2
    have c5 := olF_o (X.getD i cp0).2
    (repeat first | simp only [c1, c2, c3, c4, c5, go_sem, ↓reduceIte, Nat.reduceEqDiff, Nat.reduceAdd, reduceCtorEq] | with_reducible refine V_W ?_ | (with_reducible refine And.intro ?_ ?_; focus first | assumption | omega | decide | grind) | (with_reducible refine Br.mk ?_ ?_; focus (intros; omega)) | decide)
    refine call_pure (args := fs ++ [cmpV (X.getD i cp0)] ++ cs) (hf _ (getD_memC (by omega))) (by simp only [List.map_append, h1, h2, cmpV, frz_olF, go_sem, ↓reduceIte, Nat.reduceEqDiff, Nat.reduceAdd, reduceCtorEq, go_sem, ↓reduceIte, Nat.reduceEqDiff, Nat.reduceAdd, reduceCtorEq]) rfl rfl ?_
    (try simp only [go_sem, ↓reduceIte, Nat.reduceEqDiff, Nat.reduceAdd, reduceCtorEq, go_sem, ↓reduceIte, Nat.reduceEqDiff, Nat.reduceAdd, reduceCtorEq])
    refine RN ?_
    refine ⟨fun hc2 => ?_, fun hc2 => ?_⟩
    · (refine RN ?_; try with_reducible exact trivial)
      rw [callC_at hall (by omega) hc2]
    · (refine RN ?_; try with_reducible exact trivial)
      refine ⟨i + 1, ⟨by omega, fun j hj => ?_⟩, by omega, by exact Ref.frame (by simp [sub, fget])⟩
      rcases Nat.lt_or_ge j i with h | h
      · exact hall j h
      · obtain rfl : j = i := by omega
        exact hc2
  · (refine RN ?_; try with_reducible exact trivial)
    rw [callC_no (fun j hj => hall j (by omega))]
theorem containsFuncC_c (X : List Cmp) (f : FuncId) (fs cs : List AV) (p : Cmp → Bool) (hl : X.length ≤ 1099511627776) (hf : ∀ x ∈ X, Pure Tryz.prog f (fs ++ [cmpV x] ++ cs) (bl (p x)) []) (hk : callable Tryz.prog f = true) (h1 : fs.map (frz [] 6) = fs) (h2 : cs.map (frz [] 6) = cs) (h3 : fs.map (frz [] 5) = fs) (h4 : cs.map (frz [] 5) = cs)
    (hz : (cmpF X).map (frz [] 5) = cmpF X) : Pure Tryz.prog 40 [.slc 2 X.length (cmpF X), .clo f fs cs] (bl (X.any p)) [] := by
  refine pureV ok40 rfl ?_; unfold c40
  refine RN ?_
  refine call_pure (indexFuncC_c X f fs cs p hl hf hk h1 h2) (by simp only [h3, h4, hz, go_sem, ↓reduceIte, Nat.reduceEqDiff, Nat.reduceAdd, reduceCtorEq, go_sem, ↓reduceIte, Nat.reduceEqDiff, Nat.reduceAdd, reduceCtorEq]) rfl rfl ?_
  (try simp only [go_sem, ↓reduceIte, Nat.reduceEqDiff, Nat.reduceAdd, reduceCtorEq, go_sem, ↓reduceIte, Nat.reduceEqDiff, Nat.reduceAdd, reduceCtorEq])
  refine RN ?_
  rw [callC_ge]
theorem cmpF_frz (H : Heap) : ∀ l, (cmpF l).map (frz H 5) = cmpF l
  | [] => rfl
  | p :: l => by
    rw [cmpF, List.map_cons, List.map_cons, cmpF_frz H l, frz_olF]; rfl
theorem cmpA_sh (n : Nat) : ∀ l, (cmpA l).map (shf n 6) = cmpA l
  | [] => rfl
  | p :: l => by
    rw [cmpA, List.map_cons, List.map_cons, cmpA_sh n l]
    congr 1
    congr 1
    unfold olr
    split
    · rfl
    · exact shf_oints n 6 _
theorem cmpA_fr (H : Heap) : ∀ l, (cmpA l).map (frz H 5) = cmpF l
  | [] => rfl
  | p :: l => by
    rw [cmpA, cmpF, List.map_cons, List.map_cons, cmpA_fr H l]
    congr 1
    congr 1
    unfold olr olF
    split
    · rfl
    · exact frz_oints H 3 _
theorem cmpA_tk (l : List Cmp) : (cmpA l).take (l.length * 2) = cmpA l := List.take_of_length_le (by rw [cmpA_len]; omega)
def noRing (rings : Int) (p : Cmp) : Bool := bitsV .and .i64 p.1 rings == 0
theorem adm1_c (rings : Int) (p : Cmp) : Pure Tryz.prog 42 [cmpV p, .pto [i64 rings] 0] (bl (noRing rings p)) [] := by
  unfold cmpV
  refine pureV0 ok42 rfl rfl ?_; unfold c42
  refine RN ?_
  rfl
set_option maxHeartbeats 1000000 in
theorem isAdmissible_c (a b rings : Int) (mask : Nat) (hm : mask < 8) (ha : 2 ≤ a ∧ a ≤ 32) (hb : 2 ≤ b ∧ b ≤ 32) : Pure Tryz.prog 18 [ints [a, b], i64 rings, i64 (mask : Int)] (bl (!(cpS a b mask 3).1.any (noRing rings))) [] := by
  have hcp := components_p a b mask hm ha hb
  have hL3 := cpS_len a b mask 3
  generalize (cpS a b mask 3).1 = L at hcp hL3 ⊢
  have hk : callable Tryz.prog 42 = true := by kernel_rfl
  have hct := containsFuncC_c L 42 [] [.pto [i64 rings] 0] (noRing rings) (by omega) (fun x _ => adm1_c rings x) hk rfl rfl rfl rfl (cmpF_frz _ L)
  refine pureV0 ok18 rfl rfl ?_; unfold c18
  refine RN ?_
  refine pureC hcp (by simp only [go_sem, ↓reduceIte, Nat.reduceEqDiff, Nat.reduceAdd, reduceCtorEq] <;> rfl) (by simp only [go_sem, ↓reduceIte, Nat.reduceEqDiff, Nat.reduceAdd, reduceCtorEq, cmpA_nf]) ?_
  (repeat first | simp only [cmpA_sh, go_sem, ↓reduceIte, Nat.reduceEqDiff, Nat.reduceAdd, reduceCtorEq] | with_reducible refine V_W ?_ | (with_reducible refine And.intro ?_ ?_; focus first | assumption | omega | decide | grind) | (with_reducible refine Br.mk ?_ ?_; focus (intros; omega)) | decide)
  refine pureC hct (by simp only [go_sem, ↓reduceIte, Nat.reduceEqDiff, Nat.reduceAdd, reduceCtorEq, List.drop_zero, cmpA_tk, cmpA_fr] <;> rfl) (by simp only [go_sem, ↓reduceIte, Nat.reduceEqDiff, Nat.reduceAdd, reduceCtorEq]) ?_
  (refine RN ?_; try with_reducible exact trivial)
end Go.Proofs.YtfcbamfkfadabaaGreat
set_option maxRecDepth 100000
namespace Go.Proofs.YtfcbamfkfadabaaGreat
open Go.Gov

def onN (m : Nat) : Nat := m % 2 + m / 2 % 2 + m / 4 % 2
set_option maxHeartbeats 1000000 in
theorem ones0 : Pure Tryz.prog 34 [.val (.int .u64 0)] (i64 0) [] := by
  have f0 : shV .shr .u64 0 1 = 0 := by decide
  have f1 : bitsV .and .u64 0 6148914691236517205 = 0 := by decide
  have f2 : IntKind.u64.wrap (0 + 0) = 0 := by decide
  have f3 : IntKind.u64.wrap 0 = 0 := by decide
  have f4 : shV .shr .u64 0 2 = 0 := by decide
  have f5 : bitsV .and .u64 0 3689348814741910323 = 0 := by decide
  have f6 : shV .shr .u64 0 4 = 0 := by decide
  have f7 : bitsV .and .u64 0 1085102592571150095 = 0 := by decide
  have f8 : shV .shr .u64 0 8 = 0 := by decide
  have f9 : shV .shr .u64 0 16 = 0 := by decide
  have f10 : shV .shr .u64 0 32 = 0 := by decide
  have f11 : bitsV .and .i64 0 127 = 0 := by decide
  refine pureV0 ok34 rfl rfl ?_; unfold c34
  (repeat first | simp only [f0, f1, f2, f3, f4, f5, f6, f7, f8, f9, f10, f11, Int.reduceAdd, go_sem, ↓reduceIte, Nat.reduceEqDiff, Nat.reduceAdd, reduceCtorEq] | with_reducible refine V_W ?_ | (with_reducible refine And.intro ?_ ?_; focus first | assumption | omega | decide | grind) | (with_reducible refine Br.mk ?_ ?_; focus (intros; omega)) | decide)
  all_goals (first | done | rfl)
set_option maxHeartbeats 1000000 in
theorem ones1 : Pure Tryz.prog 34 [.val (.int .u64 1)] (i64 1) [] := by
  have f0 : shV .shr .u64 1 1 = 0 := by decide
  have f1 : bitsV .and .u64 0 6148914691236517205 = 0 := by decide
  have f2 : bitsV .and .u64 1 6148914691236517205 = 1 := by decide
  have f3 : IntKind.u64.wrap (0 + 1) = 1 := by decide
  have f4 : IntKind.u64.wrap 1 = 1 := by decide
  have f5 : shV .shr .u64 1 2 = 0 := by decide
  have f6 : bitsV .and .u64 0 3689348814741910323 = 0 := by decide
  have f7 : bitsV .and .u64 1 3689348814741910323 = 1 := by decide
  have f8 : shV .shr .u64 1 4 = 0 := by decide
  have f9 : bitsV .and .u64 1 1085102592571150095 = 1 := by decide
  have f10 : shV .shr .u64 1 8 = 0 := by decide
  have f11 : IntKind.u64.wrap (1 + 0) = 1 := by decide
  have f12 : shV .shr .u64 1 16 = 0 := by decide
  have f13 : shV .shr .u64 1 32 = 0 := by decide
  have f14 : bitsV .and .i64 1 127 = 1 := by decide
  refine pureV0 ok34 rfl rfl ?_; unfold c34
  (repeat first | simp only [f0, f1, f2, f3, f4, f5, f6, f7, f8, f9, f10, f11, f12, f13, f14, Int.reduceAdd, go_sem, ↓reduceIte, Nat.reduceEqDiff, Nat.reduceAdd, reduceCtorEq] | with_reducible refine V_W ?_ | (with_reducible refine And.intro ?_ ?_; focus first | assumption | omega | decide | grind) | (with_reducible refine Br.mk ?_ ?_; focus (intros; omega)) | decide)
  all_goals (first | done | rfl)
set_option maxHeartbeats 1000000 in
theorem ones2 : Pure Tryz.prog 34 [.val (.int .u64 2)] (i64 1) [] := by
  have f0 : shV .shr .u64 2 1 = 1 := by decide
  have f1 : bitsV .and .u64 1 6148914691236517205 = 1 := by decide
  have f2 : bitsV .and .u64 2 6148914691236517205 = 0 := by decide
  have f3 : IntKind.u64.wrap (1 + 0) = 1 := by decide
  have f4 : IntKind.u64.wrap 1 = 1 := by decide
  have f5 : shV .shr .u64 1 2 = 0 := by decide
  have f6 : bitsV .and .u64 0 3689348814741910323 = 0 := by decide
  have f7 : bitsV .and .u64 1 3689348814741910323 = 1 := by decide
  have f8 : IntKind.u64.wrap (0 + 1) = 1 := by decide
  have f9 : shV .shr .u64 1 4 = 0 := by decide
  have f10 : bitsV .and .u64 1 1085102592571150095 = 1 := by decide
  have f11 : shV .shr .u64 1 8 = 0 := by decide
  have f12 : shV .shr .u64 1 16 = 0 := by decide
  have f13 : shV .shr .u64 1 32 = 0 := by decide
  have f14 : bitsV .and .i64 1 127 = 1 := by decide
  refine pureV0 ok34 rfl rfl ?_; unfold c34
  (repeat first | simp only [f0, f1, f2, f3, f4, f5, f6, f7, f8, f9, f10, f11, f12, f13, f14, Int.reduceAdd, go_sem, ↓reduceIte, Nat.reduceEqDiff, Nat.reduceAdd, reduceCtorEq] | with_reducible refine V_W ?_ | (with_reducible refine And.intro ?_ ?_; focus first | assumption | omega | decide | grind) | (with_reducible refine Br.mk ?_ ?_; focus (intros; omega)) | decide)
  all_goals (first | done | rfl)
set_option maxHeartbeats 1000000 in
theorem ones3 : Pure Tryz.prog 34 [.val (.int .u64 3)] (i64 2) [] := by
  have f0 : shV .shr .u64 3 1 = 1 := by decide
  have f1 : bitsV .and .u64 1 6148914691236517205 = 1 := by decide
  have f2 : bitsV .and .u64 3 6148914691236517205 = 1 := by decide
  have f3 : IntKind.u64.wrap (1 + 1) = 2 := by decide
  have f4 : IntKind.u64.wrap 2 = 2 := by decide
  have f5 : shV .shr .u64 2 2 = 0 := by decide
  have f6 : bitsV .and .u64 0 3689348814741910323 = 0 := by decide
  have f7 : bitsV .and .u64 2 3689348814741910323 = 2 := by decide
  have f8 : IntKind.u64.wrap (0 + 2) = 2 := by decide
  have f9 : shV .shr .u64 2 4 = 0 := by decide
  have f10 : bitsV .and .u64 2 1085102592571150095 = 2 := by decide
  have f11 : shV .shr .u64 2 8 = 0 := by decide
  have f12 : IntKind.u64.wrap (2 + 0) = 2 := by decide
  have f13 : shV .shr .u64 2 16 = 0 := by decide
  have f14 : shV .shr .u64 2 32 = 0 := by decide
  have f15 : bitsV .and .i64 2 127 = 2 := by decide
  refine pureV0 ok34 rfl rfl ?_; unfold c34
  (repeat first | simp only [f0, f1, f2, f3, f4, f5, f6, f7, f8, f9, f10, f11, f12, f13, f14, f15, Int.reduceAdd, go_sem, ↓reduceIte, Nat.reduceEqDiff, Nat.reduceAdd, reduceCtorEq] | with_reducible refine V_W ?_ | (with_reducible refine And.intro ?_ ?_; focus first | assumption | omega | decide | grind) | (with_reducible refine Br.mk ?_ ?_; focus (intros; omega)) | decide)
  all_goals (first | done | rfl)
set_option maxHeartbeats 1000000 in
theorem ones4 : Pure Tryz.prog 34 [.val (.int .u64 4)] (i64 1) [] := by
  have f0 : shV .shr .u64 4 1 = 2 := by decide
  have f1 : bitsV .and .u64 2 6148914691236517205 = 0 := by decide
  have f2 : bitsV .and .u64 4 6148914691236517205 = 4 := by decide
  have f3 : IntKind.u64.wrap (0 + 4) = 4 := by decide
  have f4 : IntKind.u64.wrap 4 = 4 := by decide
  have f5 : shV .shr .u64 4 2 = 1 := by decide
  have f6 : bitsV .and .u64 1 3689348814741910323 = 1 := by decide
  have f7 : bitsV .and .u64 4 3689348814741910323 = 0 := by decide
  have f8 : IntKind.u64.wrap (1 + 0) = 1 := by decide
  have f9 : IntKind.u64.wrap 1 = 1 := by decide
  have f10 : shV .shr .u64 1 4 = 0 := by decide
  have f11 : IntKind.u64.wrap (0 + 1) = 1 := by decide
  have f12 : bitsV .and .u64 1 1085102592571150095 = 1 := by decide
  have f13 : shV .shr .u64 1 8 = 0 := by decide
  have f14 : shV .shr .u64 1 16 = 0 := by decide
  have f15 : shV .shr .u64 1 32 = 0 := by decide
  have f16 : bitsV .and .i64 1 127 = 1 := by decide
  refine pureV0 ok34 rfl rfl ?_; unfold c34
  (repeat first | simp only [f0, f1, f2, f3, f4, f5, f6, f7, f8, f9, f10, f11, f12, f13, f14, f15, f16, Int.reduceAdd, go_sem, ↓reduceIte, Nat.reduceEqDiff, Nat.reduceAdd, reduceCtorEq] | with_reducible refine V_W ?_ | (with_reducible refine And.intro ?_ ?_; focus first | assumption | omega | decide | grind) | (with_reducible refine Br.mk ?_ ?_; focus (intros; omega)) | decide)
  all_goals (first | done | rfl)
set_option maxHeartbeats 1000000 in
theorem ones5 : Pure Tryz.prog 34 [.val (.int .u64 5)] (i64 2) [] := by
  have f0 : shV .shr .u64 5 1 = 2 := by decide
  have f1 : bitsV .and .u64 2 6148914691236517205 = 0 := by decide
  have f2 : bitsV .and .u64 5 6148914691236517205 = 5 := by decide
  have f3 : IntKind.u64.wrap (0 + 5) = 5 := by decide
  have f4 : IntKind.u64.wrap 5 = 5 := by decide
  have f5 : shV .shr .u64 5 2 = 1 := by decide
  have f6 : bitsV .and .u64 1 3689348814741910323 = 1 := by decide
  have f7 : bitsV .and .u64 5 3689348814741910323 = 1 := by decide
  have f8 : IntKind.u64.wrap (1 + 1) = 2 := by decide
  have f9 : IntKind.u64.wrap 2 = 2 := by decide
  have f10 : shV .shr .u64 2 4 = 0 := by decide
  have f11 : IntKind.u64.wrap (0 + 2) = 2 := by decide
  have f12 : bitsV .and .u64 2 1085102592571150095 = 2 := by decide
  have f13 : shV .shr .u64 2 8 = 0 := by decide
  have f14 : IntKind.u64.wrap (2 + 0) = 2 := by decide
  have f15 : shV .shr .u64 2 16 = 0 := by decide
  have f16 : shV .shr .u64 2 32 = 0 := by decide
  have f17 : bitsV .and .i64 2 127 = 2 := by decide
  refine pureV0 ok34 rfl rfl ?_; unfold c34
  (repeat first | simp only [f0, f1, f2, f3, f4, f5, f6, f7, f8, f9, f10, f11, f12, f13, f14, f15, f16, f17, Int.reduceAdd, go_sem, ↓reduceIte, Nat.reduceEqDiff, Nat.reduceAdd, reduceCtorEq] | with_reducible refine V_W ?_ | (with_reducible refine And.intro ?_ ?_; focus first | assumption | omega | decide | grind) | (with_reducible refine Br.mk ?_ ?_; focus (intros; omega)) | decide)
  all_goals (first | done | rfl)
set_option maxHeartbeats 1000000 in
theorem ones6 : Pure Tryz.prog 34 [.val (.int .u64 6)] (i64 2) [] := by
  have f0 : shV .shr .u64 6 1 = 3 := by decide
  have f1 : bitsV .and .u64 3 6148914691236517205 = 1 := by decide
  have f2 : bitsV .and .u64 6 6148914691236517205 = 4 := by decide
  have f3 : IntKind.u64.wrap (1 + 4) = 5 := by decide
  have f4 : IntKind.u64.wrap 5 = 5 := by decide
  have f5 : shV .shr .u64 5 2 = 1 := by decide
  have f6 : bitsV .and .u64 1 3689348814741910323 = 1 := by decide
  have f7 : bitsV .and .u64 5 3689348814741910323 = 1 := by decide
  have f8 : IntKind.u64.wrap (1 + 1) = 2 := by decide
  have f9 : IntKind.u64.wrap 2 = 2 := by decide
  have f10 : shV .shr .u64 2 4 = 0 := by decide
  have f11 : IntKind.u64.wrap (0 + 2) = 2 := by decide
  have f12 : bitsV .and .u64 2 1085102592571150095 = 2 := by decide
  have f13 : shV .shr .u64 2 8 = 0 := by decide
  have f14 : IntKind.u64.wrap (2 + 0) = 2 := by decide
  have f15 : shV .shr .u64 2 16 = 0 := by decide
  have f16 : shV .shr .u64 2 32 = 0 := by decide
  have f17 : bitsV .and .i64 2 127 = 2 := by decide
  refine pureV0 ok34 rfl rfl ?_; unfold c34
  (repeat first | simp only [f0, f1, f2, f3, f4, f5, f6, f7, f8, f9, f10, f11, f12, f13, f14, f15, f16, f17, Int.reduceAdd, go_sem, ↓reduceIte, Nat.reduceEqDiff, Nat.reduceAdd, reduceCtorEq] | with_reducible refine V_W ?_ | (with_reducible refine And.intro ?_ ?_; focus first | assumption | omega | decide | grind) | (with_reducible refine Br.mk ?_ ?_; focus (intros; omega)) | decide)
  all_goals (first | done | rfl)
set_option maxHeartbeats 1000000 in
theorem ones7 : Pure Tryz.prog 34 [.val (.int .u64 7)] (i64 3) [] := by
  have f0 : shV .shr .u64 7 1 = 3 := by decide
  have f1 : bitsV .and .u64 3 6148914691236517205 = 1 := by decide
  have f2 : bitsV .and .u64 7 6148914691236517205 = 5 := by decide
  have f3 : IntKind.u64.wrap (1 + 5) = 6 := by decide
  have f4 : IntKind.u64.wrap 6 = 6 := by decide
  have f5 : shV .shr .u64 6 2 = 1 := by decide
  have f6 : bitsV .and .u64 1 3689348814741910323 = 1 := by decide
  have f7 : bitsV .and .u64 6 3689348814741910323 = 2 := by decide
  have f8 : IntKind.u64.wrap (1 + 2) = 3 := by decide
  have f9 : IntKind.u64.wrap 3 = 3 := by decide
  have f10 : shV .shr .u64 3 4 = 0 := by decide
  have f11 : IntKind.u64.wrap (0 + 3) = 3 := by decide
  have f12 : bitsV .and .u64 3 1085102592571150095 = 3 := by decide
  have f13 : shV .shr .u64 3 8 = 0 := by decide
  have f14 : IntKind.u64.wrap (3 + 0) = 3 := by decide
  have f15 : shV .shr .u64 3 16 = 0 := by decide
  have f16 : shV .shr .u64 3 32 = 0 := by decide
  have f17 : bitsV .and .i64 3 127 = 3 := by decide
  refine pureV0 ok34 rfl rfl ?_; unfold c34
  (repeat first | simp only [f0, f1, f2, f3, f4, f5, f6, f7, f8, f9, f10, f11, f12, f13, f14, f15, f16, f17, Int.reduceAdd, go_sem, ↓reduceIte, Nat.reduceEqDiff, Nat.reduceAdd, reduceCtorEq] | with_reducible refine V_W ?_ | (with_reducible refine And.intro ?_ ?_; focus first | assumption | omega | decide | grind) | (with_reducible refine Br.mk ?_ ?_; focus (intros; omega)) | decide)
  all_goals (first | done | rfl)
theorem onesCount_c (m : Nat) (hm : m < 8) : Pure Tryz.prog 34 [.val (.int .u64 (m : Int))] (i64 (onN m : Int)) [] := by
  have h8 : m = 0 ∨ m = 1 ∨ m = 2 ∨ m = 3 ∨ m = 4 ∨ m = 5 ∨ m = 6 ∨ m = 7 := by omega
  rcases h8 with rfl | rfl | rfl | rfl | rfl | rfl | rfl | rfl
  · exact ones0
  · exact ones1
  · exact ones2
  · exact ones3
  · exact ones4
  · exact ones5
  · exact ones6
  · exact ones7
set_option maxHeartbeats 1000000 in
theorem byOnes_c (a b : Nat) (ha : a < 8) (hb : b < 8) : Pure Tryz.prog 82 [i64 (a : Int), i64 (b : Int)] (i64 ((onN a : Int) - (onN b : Int))) [] := by
  have q1 := onesCount_c a ha
  have q2 := onesCount_c b hb
  have r1 : onN a ≤ 3 := by unfold onN; omega
  have r2 : onN b ≤ 3 := by unfold onN; omega
  have w1 : IntKind.u64.wrap (a : Int) = (a : Int) := by
    have : a = 0 ∨ a = 1 ∨ a = 2 ∨ a = 3 ∨ a = 4 ∨ a = 5 ∨ a = 6 ∨ a = 7 := by omega
    rcases this with rfl | rfl | rfl | rfl | rfl | rfl | rfl | rfl <;> decide
  have w2 : IntKind.u64.wrap (b : Int) = (b : Int) := by
    have : b = 0 ∨ b = 1 ∨ b = 2 ∨ b = 3 ∨ b = 4 ∨ b = 5 ∨ b = 6 ∨ b = 7 := by omega
    rcases this with rfl | rfl | rfl | rfl | rfl | rfl | rfl | rfl <;> decide
  refine pureV ok82 rfl ?_; unfold c82
  (repeat first | simp only [w1, w2, go_sem, ↓reduceIte, Nat.reduceEqDiff, Nat.reduceAdd, reduceCtorEq] | with_reducible refine V_W ?_ | (with_reducible refine And.intro ?_ ?_; focus first | assumption | omega | decide | grind) | (with_reducible refine Br.mk ?_ ?_; focus (intros; omega)) | decide)
  refine pureC1 (q1) ?_
  (repeat first | simp only [w1, w2, go_sem, ↓reduceIte, Nat.reduceEqDiff, Nat.reduceAdd, reduceCtorEq] | with_reducible refine V_W ?_ | (with_reducible refine And.intro ?_ ?_; focus first | assumption | omega | decide | grind) | (with_reducible refine Br.mk ?_ ?_; focus (intros; omega)) | decide)
  refine pureC1 (q2) ?_
  (refine RN ?_; try with_reducible exact trivial)
theorem isMask_c (a b m : Int) : Pure Tryz.prog 15 [ints [a, b], i64 m] (bl (decide (0 ≤ m) && decide (m ≤ 7))) [] := by
  have h1 := allNodes_c a b
  have h2 := within_c m 0 7
  refine pureV ok15 rfl ?_; unfold c15
  refine RN ?_
  refine pureC1 (h1) ?_
  refine RN ?_
  refine pureC1 (h2) ?_
  (refine RN ?_; try with_reducible exact trivial)
end Go.Proofs.YtfcbamfkfadabaaGreat
set_option maxRecDepth 100000
namespace Go.Proofs.YtfcbamfkfadabaaGreat
open Go.Gov
open Classical

def oI (z : Int) : Nat := onN z.toNat
def AscO (l : List Int) : Prop := l.Pairwise fun a b => oI a ≤ oI b
theorem AscO.ins {A B : List Int} {y : Int} (h : AscO (A ++ B)) (hB : ∀ z ∈ B, oI y < oI z) (hA : ∀ z ∈ A, oI z ≤ oI y) : AscO (A ++ y :: B) := by
  unfold AscO at *
  rw [List.pairwise_append] at h ⊢
  refine ⟨h.1, List.pairwise_cons.2 ⟨fun z hz => Nat.le_of_lt (hB z hz), h.2.1⟩, fun a ha b hb => ?_⟩
  rcases List.mem_cons.1 hb with rfl | hb
  · exact hA a ha
  · exact h.2.2 a ha b hb
theorem AscO.last {A : List Int} {z : Int} {n : Nat} (h : AscO (A ++ [z])) (hz : oI z ≤ n) : ∀ x ∈ A ++ [z], oI x ≤ n := fun x hx => by
  rcases List.mem_append.1 hx with hx | hx
  · have := (List.pairwise_append.1 h).2.2 x hx z (List.mem_singleton.2 rfl)
    omega
  · obtain rfl := List.mem_singleton.1 hx
    exact hz
theorem iadj_get1 (X Z : List Int) (u w : Int) : (X ++ u :: w :: Z).getD X.length 0 = u := by
  rw [List.getD_eq_getElem?_getD, List.getElem?_append_right (Nat.le_refl _), Nat.sub_self]
  rfl
theorem iadj_get2 (X Z : List Int) (u w : Int) : (X ++ u :: w :: Z).getD (X.length + 1) 0 = w := by
  rw [List.getD_eq_getElem?_getD, List.getElem?_append_right (by omega), show X.length + 1 - X.length = 1 by omega]
  rfl
theorem iadj_set (X Z : List Int) (u w : Int) : ((X ++ u :: w :: Z).set (X.length + 1) u).set X.length w = X ++ w :: u :: Z := by
  rw [List.set_append_right _ _ (by omega), show X.length + 1 - X.length = 1 by omega, List.set_append_right _ _ (Nat.le_refl _), Nat.sub_self]
  rfl
theorem iadj_set2 (X Z : List Int) (u w : Int) : ((X ++ u :: w :: Z).set X.length w).set (X.length + 1) u = X ++ w :: u :: Z := by
  rw [List.set_append_right _ _ (Nat.le_refl _), Nat.sub_self]
  rw [List.set_append_right _ _ (by omega), show X.length + 1 - X.length = 1 by omega]
  rfl
theorem byI_c (a b : Int) (ha : 0 ≤ a ∧ a < 8) (hb : 0 ≤ b ∧ b < 8) : Pure Tryz.prog 82 [i64 a, i64 b] (i64 ((oI a : Int) - (oI b : Int))) [] := by
  obtain ⟨m, rfl⟩ : ∃ m : Nat, a = (m : Int) := ⟨a.toNat, by omega⟩
  obtain ⟨n, rfl⟩ : ∃ n : Nat, b = (n : Int) := ⟨b.toNat, by omega⟩
  exact byOnes_c m n (by omega) (by omega)
set_option maxHeartbeats 2000000 in
theorem insO_w (X : List Int) (hl : X.length ≤ 8) (hr : ∀ x ∈ X, 0 ≤ x ∧ x < 8) :
    WriE Tryz.prog 108 [.sl 0 1 0 X.length, i64 0, i64 (X.length : Int), .clo 82 [] []] [some (intsC X)] (fun S : List Int => S.Perm X ∧ AscO S) (fun _ => .tup []) (fun S => [some (intsC S)]) := by
  obtain ⟨len, hlen⟩ : ∃ len, len = X.length := ⟨_, rfl⟩
  rw [← hlen] at hl ⊢
  refine wriREV ok108 rfl ?_; unfold c108
  refine RN ?_
  refine V_loop (α := List Int × Nat) (S := fun q => ([(0, .sl 0 1 0 len), (1, i64 0), (2, i64 (len : Int)), (3, .clo 82 [] []), (8, i64 (q.2 : Int))], [some (intsC (q.1 ++ X.drop q.2))])) (C := fun q => 1 ≤ q.2 ∧ (q.2 ≤ len ∨ q.2 = 1) ∧ q.1.Perm (X.take q.2) ∧ AscO q.1) (μ := fun q => len - q.2) (X.take 1, 1) ?_ ?_ ?_
  · refine ⟨Nat.le_refl _, .inr rfl, .refl _, ?_⟩
    cases X with
    | nil => exact List.Pairwise.nil
    | cons x X => exact List.pairwise_singleton _ _
  · exact Ref.to (by rw [List.take_append_drop]) (by simp [sub, fget])
  rintro ⟨S, i⟩ ⟨h1, h2, h3, h4⟩
  dsimp only at h1 h2 h3 h4 ⊢
  refine RN ?_
  refine ⟨fun hc => ?_, fun hc => ?_⟩
  · have hi : i < X.length := by omega
    refine RN ?_
    obtain ⟨y, hy⟩ : ∃ y, y = X[i] := ⟨_, rfl⟩
    have hd : X.drop i = y :: X.drop (i + 1) := by rw [hy]; exact List.drop_eq_getElem_cons hi
    refine V_loop (α := List Int × List Int) (S := fun q => ([(0, .sl 0 1 0 len), (1, i64 0), (2, i64 (len : Int)), (3, .clo 82 [] []), (8, i64 (i : Int)), (9, i64 (q.1.length : Int))], [some (intsC (q.1 ++ y :: (q.2 ++ X.drop (i + 1))))])) (C := fun q => (q.1 ++ q.2).Perm (X.take i) ∧ AscO (q.1 ++ q.2) ∧ ∀ z ∈ q.2, oI y < oI z) (μ := fun q => q.1.length) (S, []) ?_ ?_ ?_
    · exact ⟨by rw [List.append_nil]; exact h3, by rw [List.append_nil]; exact h4, fun z hz => by cases hz⟩
    · have hSl : S.length = i := by rw [h3.length_eq, List.length_take]; omega
      exact Ref.to (by rw [hd]; rfl) (by simp [sub, fget, hSl])
    rintro ⟨A, B⟩ ⟨k1, k2, k3⟩
    dsimp only at k1 k2 k3 ⊢
    have htl : (X.take i).length = i := by rw [List.length_take]; omega
    have hAB := k1.length_eq
    rw [htl, List.length_append] at hAB
    have hdl : (X.drop (i + 1)).length = X.length - (i + 1) := List.length_drop
    have hfin : (∀ z ∈ A, oI z ≤ oI y) → (A ++ y :: B).Perm (X.take (i + 1)) ∧ AscO (A ++ y :: B) := fun hA => ⟨by
      rw [List.take_succ_eq_append_getElem hi, ← hy]
      exact List.perm_middle.trans ((List.Perm.cons y k1).trans (List.perm_append_comm (l₁ := [y]))), k2.ins k3 hA⟩
    obtain ⟨R, hR⟩ : ∃ R, R = B ++ X.drop (i + 1) := ⟨_, rfl⟩
    have hRl : R.length = B.length + (X.length - (i + 1)) := by rw [hR, List.length_append, hdl]
    rw [← hR]
    rcases List.eq_nil_or_concat A with rfl | ⟨A', z, rfl⟩
    · obtain ⟨L, hL⟩ : ∃ L, L = [] ++ (y :: R) := ⟨_, rfl⟩
      have hLl : L.length = len := by rw [hL]; simp at hAB ⊢; omega
      rw [← hL]
      refine RN ?_
      refine GCall.mk (i64 0) (fun hg => absurd hg (by simp)) ?_
      refine RN ?_
      refine fun _ => ?_
      refine RN ?_
      obtain ⟨c1, c2⟩ := hfin (fun z hz => by cases hz)
      refine ⟨(y :: B, i + 1), ⟨by omega, by omega, c1, c2⟩, by omega, ?_⟩
      rw [hL, hR]
      exact Ref.to rfl (by simp [sub, fget] <;> omega)
    · obtain ⟨L, hL⟩ : ∃ L, L = A' ++ [z] ++ (y :: R) := ⟨_, rfl⟩
      rw [List.concat_eq_append] at *
      have hLl : L.length = len := by rw [hL]; simp at hAB ⊢; omega
      have hL' : L = A' ++ z :: y :: R := by rw [hL]; simp
      obtain ⟨p, hp⟩ : ∃ p, p = A'.length := ⟨_, rfl⟩
      have g1 := iadj_get1 A' R z y
      have g2 := iadj_get2 A' R z y
      have s1 := iadj_set A' R z y
      have s2 := iadj_set2 A' R z y
      rw [← hL', ← hp] at g1 g2 s1 s2
      rw [← hL]
      have hAl : (A' ++ [z]).length = p + 1 := by simp [hp]
      rw [hAl] at hAB ⊢
      have t1 : ((p + 1 : Nat) : Int).toNat = p + 1 := by omega
      have t2 : (((p + 1 : Nat) : Int) - 1).toNat = p := by omega
      refine RN ?_
      simp only [t2, g1, g2, go_sem, ↓reduceIte, Nat.reduceEqDiff, Nat.reduceAdd, reduceCtorEq]
      have hyr : 0 ≤ y ∧ y < 8 := hr y (by rw [hy]; exact List.getElem_mem hi)
      have hzr : 0 ≤ z ∧ z < 8 := hr z (List.mem_of_mem_take (k1.subset (by simp)))
      have ho8 : ∀ n : Nat, onN n ≤ 3 := fun n => by unfold onN; omega
      have hoy := ho8 y.toNat
      have hoz := ho8 z.toNat
      have hcb := byI_c y z hyr hzr
      refine GCall.mk (i64 ((oI y : Int) - oI z)) (fun hg => ?_) ?_
      · refine ⟨by omega, by omega, rfl, ?_⟩
        simp only [Nat.add_sub_cancel, g1, go_sem, ↓reduceIte, Nat.reduceEqDiff, Nat.reduceAdd, reduceCtorEq]
        refine pureC1 (hcb) ?_
        exact ⟨rfl, rfl⟩
      refine RN ?_
      refine ⟨fun hc2 => ?_, fun hc2 => ?_⟩
      · have hlt : oI y < oI z := by omega
        refine RN ?_
        refine V_altsB [(0, .sl 0 1 0 len), (1, i64 0), (2, i64 (len : Int)), (3, .clo 82 [] []), (8, i64 (i : Int)), (9, i64 ((p + 1 : Nat) : Int))] [some (intsC (A' ++ y :: z :: R))] ?_ ?_
        · (repeat' first | simp only [go_sem, ↓reduceIte, Nat.reduceEqDiff, Nat.reduceAdd, reduceCtorEq] | with_reducible refine LT_reg ?_ | with_reducible refine LT_regz (by simp only [zAd_load, zAd_loads, zPt_pto, go_sem, ↓reduceIte, Nat.reduceEqDiff, Nat.reduceAdd, reduceCtorEq]) ?_ | with_reducible refine LT_fin ?_ | with_reducible exact LT_tt | with_reducible refine LT_alt ?_ ?_ | (with_reducible refine And.intro ?_ ?_; focus first | assumption | omega | grind))
          all_goals simp only [t1, t2, Nat.add_sub_cancel, g1, g2, s1, s2, go_sem, ↓reduceIte, Nat.reduceEqDiff, Nat.reduceAdd, reduceCtorEq]
          all_goals exact Ref.to (by first | rfl | exact congrArg (fun z => [some (intsC z)]) s1 | exact congrArg (fun z => [some (intsC z)]) s2) (by simp [sub, fget])
        · (refine RN ?_; try with_reducible exact trivial)
          refine ⟨(A', z :: B), ⟨?_, ?_, ?_⟩, by simp [hp], ?_⟩
          · simpa using k1
          · simpa using k2
          · intro x hx
            rcases List.mem_cons.1 hx with rfl | hx
            · exact hlt
            · exact k3 x hx
          · subst hR
            exact Ref.to (by simp) (by simp [sub, fget, hp])
      · have hge : oI z ≤ oI y := by omega
        refine RN ?_
        obtain ⟨c1, c2⟩ := hfin (AscO.last (List.pairwise_append.1 k2).1 hge)
        refine ⟨(A' ++ [z] ++ y :: B, i + 1), ⟨by omega, by omega, c1, c2⟩, by omega, ?_⟩
        rw [hL, hR]
        exact Ref.to (by simp) (by simp [sub, fget] <;> omega)
  · have hXi : X.drop i = [] := List.drop_eq_nil_of_le (by omega)
    refine ⟨S, ⟨?_, h4⟩, ?_⟩
    · rwa [List.take_of_length_le (by omega)] at h3
    · rw [hXi]
      exact Ref.to (by simp) (by simp [sub, fget])
set_option maxHeartbeats 2000000 in
theorem stabO_w (X : List Int) (hl : X.length ≤ 8) (hr : ∀ x ∈ X, 0 ≤ x ∧ x < 8) :
    WriE Tryz.prog 95 [.sl 0 1 0 X.length, i64 (X.length : Int), .clo 82 [] []] [some (intsC X)] (fun S : List Int => S.Perm X ∧ AscO S) (fun _ => .tup []) (fun S => [some (intsC S)]) := by
  have hi := insO_w X hl hr
  obtain ⟨len, hlen⟩ : ∃ len, len = X.length := ⟨_, rfl⟩
  rw [← hlen] at hl hi ⊢
  refine wriREV ok95 rfl ?_; unfold c95
  refine RN ?_
  refine V_loop (α := Unit) (S := fun q => ([(0, .sl 0 1 0 len), (1, i64 (len : Int)), (2, .clo 82 [] []), (6, i64 20), (7, i64 0), (8, i64 20)], [some (intsC X)])) (C := fun _ => True) (μ := fun _ => 0) () trivial (Ref.to1) ?_
  intro _ _
  refine RN ?_
  intro _
  refine RN ?_
  refine wriEF (hi) [0] (by first | rfl | simp) (by simp only [go_sem, ↓reduceIte, Nat.reduceEqDiff, Nat.reduceAdd, reduceCtorEq] <;> rfl) (by simp only [go_sem, ↓reduceIte, Nat.reduceEqDiff, Nat.reduceAdd, reduceCtorEq] <;> rfl) fun o ho => ?_
  refine RN ?_
  obtain ⟨p1, d1⟩ := ho
  have hol := p1.length_eq
  refine V_loop (α := Unit) (S := fun q => ([(0, .sl 0 1 0 len), (1, i64 (len : Int)), (2, .clo 82 [] []), (6, i64 20)], [some (intsC o)])) (C := fun _ => True) (μ := fun _ => 0) () trivial (Ref.to1) ?_
  intro _ _
  refine RN ?_
  intro _
  refine RN ?_
  exact ⟨o, ⟨p1, d1⟩, Ref.to1⟩
theorem sortO_w (X : List Int) (hl : X.length ≤ 8) (hr : ∀ x ∈ X, 0 ≤ x ∧ x < 8) :
    WriE Tryz.prog 81 [.sl 0 1 0 X.length, .clo 82 [] []] [some (intsC X)] (fun S : List Int => S.Perm X ∧ AscO S) (fun _ => .tup []) (fun S => [some (intsC S)]) := by
  have h := stabO_w X hl hr
  refine wriREV ok81 rfl ?_; unfold c81
  refine RN ?_
  refine wriEF (h) [0] (by first | rfl | simp) (by simp only [go_sem, ↓reduceIte, Nat.reduceEqDiff, Nat.reduceAdd, reduceCtorEq] <;> rfl) (by simp only [go_sem, ↓reduceIte, Nat.reduceEqDiff, Nat.reduceAdd, reduceCtorEq] <;> rfl) fun o ho => ?_
  refine RN ?_
  exact ⟨o, ho, Ref.to1⟩
end Go.Proofs.YtfcbamfkfadabaaGreat
set_option maxRecDepth 100000
namespace Go.Proofs.YtfcbamfkfadabaaGreat
open Go.Gov

def admB (a b rings : Int) (m : Nat) : Bool := !((cpS a b m 3).1.any (noRing rings))
def adN (a b rings : Int) (n : Nat) : List Int := ((List.range n).filter fun m => admB a b rings m).map fun m : Nat => (m : Int)
theorem adN_s (a b rings : Int) (n : Nat) : adN a b rings (n + 1) = adN a b rings n ++ if admB a b rings n then [(n : Int)] else [] := by
  unfold adN
  rw [List.range_succ, List.filter_append, List.map_append]
  by_cases h : admB a b rings n = true
  · simp [h]
  · simp [h]
theorem adN_len (a b rings : Int) (n : Nat) : (adN a b rings n).length ≤ n := by
  unfold adN
  rw [List.length_map]
  exact Nat.le_trans (List.length_filter_le _ _) (by simp)
theorem adN_r (a b rings : Int) (n : Nat) : ∀ x ∈ adN a b rings n, 0 ≤ x ∧ x < (n : Int) := fun x hx => by
  unfold adN at hx
  obtain ⟨m, hm, rfl⟩ := List.mem_map.1 hx
  have := List.mem_range.1 (List.mem_filter.1 hm).1
  omega
theorem oI_le (z : Int) : oI z ≤ 3 := by unfold oI onN; omega
theorem oI_three {z : Int} (h : 0 ≤ z ∧ z < 8) (h3 : 3 ≤ oI z) : z = 7 := by
  obtain ⟨n, rfl⟩ : ∃ n : Nat, z = (n : Int) := ⟨z.toNat, by omega⟩
  unfold oI onN at h3
  rw [Int.toNat_natCast] at h3
  omega
theorem asc_last {X S : List Int} (hp : S.Perm X) (ha : AscO S) (hr : ∀ x ∈ X, 0 ≤ x ∧ x < 8) (hn : X.Nodup) (h7 : (7 : Int) ∈ X) : ∃ S', S = S' ++ [7] ∧ S'.Perm (X.filter fun x => x != 7) := by
  have h7S : (7 : Int) ∈ S := hp.mem_iff.2 h7
  rcases List.eq_nil_or_concat S with rfl | ⟨S', z, rfl⟩
  · cases h7S
  rw [List.concat_eq_append] at *
  have hz : z = 7 := by
    rcases List.mem_append.1 h7S with h | h
    · have h1 := (List.pairwise_append.1 ha).2.2 7 h z (by simp)
      have h2 : oI 7 = 3 := rfl
      exact oI_three (hr z (hp.subset (by simp))) (by omega)
    · simp at h; exact h.symm
  subst hz
  have hnS : (S' ++ [7]).Nodup := hp.nodup_iff.2 hn
  refine ⟨S', rfl, ?_⟩
  have h1 := hp.filter fun x => x != 7
  rw [List.filter_append] at h1
  have h2 : S'.filter (fun x => x != 7) = S' := List.filter_eq_self.2 fun x hx => by
    have := (List.nodup_append.1 hnS).2.2 x hx 7 (by simp)
    simpa using this
  rw [h2] at h1
  simpa using h1
theorem sum_perm {l m : List Int} (h : l.Perm m) : l.sum = m.sum := by
  induction h with
  | nil => rfl
  | cons x _ ih => simp [ih]
  | swap x y l => simp only [List.sum_cons]; omega
  | trans _ _ a b => exact a.trans b
def ctR (f : Int → Int) (L : List Int) (k : Nat) : Int := ((L.filter fun s => oI s == k).map f).sum
def ctL (f : Int → Int) (L : List Int) : List Int := [ctR f L 0, ctR f L 1, ctR f L 2]
theorem ctR_perm (f : Int → Int) {L L' : List Int} (h : L.Perm L') (k : Nat) : ctR f L k = ctR f L' k := sum_perm ((h.filter _).map _)
theorem ctL_perm (f : Int → Int) {L L' : List Int} (h : L.Perm L') : ctL f L = ctL f L' := by
  unfold ctL
  rw [ctR_perm f h, ctR_perm f h, ctR_perm f h]
theorem ctR_snoc (f : Int → Int) (L : List Int) (s : Int) (k : Nat) : ctR f (L ++ [s]) k = ctR f L k + if oI s = k then f s else 0 := by
  unfold ctR
  rw [List.filter_append, List.map_append, List.sum_append]
  by_cases h : oI s = k
  · simp [h]
  · simp [h]
theorem ctL_snoc (f : Int → Int) (L : List Int) (s : Int) (h : oI s ≤ 2) : ctL f (L ++ [s]) = (ctL f L).set (oI s) ((ctL f L).getD (oI s) 0 + f s) := by
  unfold ctL
  rw [ctR_snoc, ctR_snoc, ctR_snoc]
  have h3 : oI s = 0 ∨ oI s = 1 ∨ oI s = 2 := by omega
  rcases h3 with e | e | e <;> rw [e] <;> simp
theorem ctR_b (f : Int → Int) {B : Int} (hB : 0 ≤ B) : ∀ (L : List Int) (k : Nat), (∀ s ∈ L, 0 ≤ f s ∧ f s ≤ B) → 0 ≤ ctR f L k ∧ ctR f L k ≤ B * L.length
  | [], _, _ => by simp [ctR]
  | s :: L, k, h => by
    obtain ⟨i1, i2⟩ := ctR_b f hB L k fun x hx => h x (by simp [hx])
    have hs := h s (by simp)
    have e : ctR f (s :: L) k = (if oI s = k then f s else 0) + ctR f L k := by
      unfold ctR
      by_cases h : oI s = k <;> simp [h]
    rw [e, List.length_cons]
    have e2 : B * ((L.length + 1 : Nat) : Int) = B * L.length + B := by rw [Int.natCast_add, Int.mul_add]; simp
    rw [e2]
    by_cases h : oI s = k
    · rw [if_pos h]; omega
    · rw [if_neg h]; omega
theorem ctL_at (f : Int → Int) (L : List Int) {k : Nat} (h : k ≤ 2) : (ctL f L).getD k 0 = ctR f L k := by
  have h3 : k = 0 ∨ k = 1 ∨ k = 2 := by omega
  rcases h3 with rfl | rfl | rfl <;> rfl
def ordP (a b : Int) (m : Nat) : Int := (allA (cpS a b m 3).1).foldl (· * ·) 1
theorem foldl_mul_perm {l m : List Int} (h : l.Perm m) : ∀ x : Int, l.foldl (· * ·) x = m.foldl (· * ·) x := by
  induction h with
  | nil => intro x; rfl
  | cons y _ ih => intro x; exact ih _
  | swap y z l => intro x; simp only [List.foldl_cons]; rw [Int.mul_assoc, Int.mul_comm z y, ← Int.mul_assoc]
  | trans _ _ a b => intro x; exact (a x).trans (b x)
theorem ordP_eq (a b : Int) (m : Nat) : prdL (srtL (allA (cpS a b m 3).1)) (allA (cpS a b m 3).1).length = ordP a b m := by
  unfold prdL ordP
  have h := srtL_perm (allA (cpS a b m 3).1)
  rw [← h.length_eq, List.take_length]
  exact foldl_mul_perm h 1
def fkP (a b rings s : Int) : Int := ((ordP a b 7).tdiv (ordP a b s.toNat)).tdiv (ordP a b (fxI rings s).toNat)
def rgD (a b rings : Int) : Bool := admB a b rings 7 && (List.range 8).all fun m => decide (0 ≤ fxI rings m) && decide (fxI rings m < 8) && decide (0 ≤ fkP a b rings m) && decide (fkP a b rings m ≤ 1000)
end Go.Proofs.YtfcbamfkfadabaaGreat
