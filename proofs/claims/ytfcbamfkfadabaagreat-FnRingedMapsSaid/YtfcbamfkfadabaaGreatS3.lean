/- Texts that belong together. -/
import Derived.Test.YtfcbamfkfadabaaGreatRc
import Derived.Test.YtfcbamfkfadabaaGreatRp
import Derived.Test.YtfcbamfkfadabaaGreatRt
import Derived.Test.YtfcbamfkfadabaaGreatS2
set_option linter.unusedSimpArgs false
set_option linter.unusedVariables false
set_option maxRecDepth 100000
namespace Go.Proofs.YtfcbamfkfadabaaGreat
open Go.Gov
open Classical

set_option maxHeartbeats 1000000 in
theorem admissibleSets_e (a b rings : Int) (ha : 2 ≤ a ∧ a ≤ 32) (hb : 2 ≤ b ∧ b ≤ 32) :
    PureE Tryz.prog 61 [ints [a, b], i64 rings] (fun S : List Int => S.Perm (adN a b rings 8) ∧ AscO S) (fun S => .sl 0 1 0 S.length) (fun S => [some (intsC S)]) := by
  have hn := allNodes_c a b
  refine pureREV ok61 rfl ?_; unfold c61
  refine RN ?_
  refine pureC1 (hn) ?_
  refine RN ?_
  refine V_loop (α := Nat) (S := fun n => ([(0, ints [a, b]), (1, i64 rings), (5, .sl 0 1 0 (adN a b rings n).length), (9, i64 8), (10, i64 (n : Int))], [some (intsC (adN a b rings n))])) (C := fun n => n ≤ 8) (μ := fun n => 8 - n) 0 (by omega) ((Ref.nil 5 1 rfl).trans (Ref.to rfl (by simp [sub, fget, adN]))) ?_
  intro n hn8
  have hs := adN_s a b rings n
  have hl := adN_len a b rings n
  refine RN ?_
  refine ⟨fun hc => ?_, fun hc => ?_⟩
  · have hn9 : n < 8 := by omega
    have had := isAdmissible_c a b rings n hn9 ha hb
    change Pure Tryz.prog _ _ (bl (admB a b rings n)) [] at had
    refine RN ?_
    refine pureC1 (had) ?_
    refine RN ?_
    refine ⟨fun hc2 => ?_, fun hc2 => ?_⟩
    · rw [if_pos hc2] at hs
      generalize adN a b rings n = L at hs hl ⊢
      refine RN ?_
      refine ⟨n + 1, by omega, by omega, ?_⟩
      rw [hs]
      rw [show intsC (L ++ [(n : Int)]) = intsC L ++ [i64 (n : Int)] from by simp [intsC]]
      exact Ref.gc [2] rfl (by simp only [go_sem, ↓reduceIte, Nat.reduceEqDiff, Nat.reduceAdd, reduceCtorEq] <;> rfl) (by simp [sub, fget, gcF, rnm, gcT, rnmL_ints])
    · rw [if_neg (by simp [hc2]), List.append_nil] at hs
      refine RN ?_
      refine ⟨n + 1, by omega, by omega, ?_⟩
      rw [hs]
      exact Ref.to1
  · obtain rfl : n = 8 := by omega
    have hso := sortO_w (adN a b rings 8) hl (adN_r a b rings 8)
    refine RN ?_
    refine wriEF (hso) [0] (by first | rfl | simp) (by simp only [go_sem, ↓reduceIte, Nat.reduceEqDiff, Nat.reduceAdd, reduceCtorEq] <;> rfl) (by simp only [go_sem, ↓reduceIte, Nat.reduceEqDiff, Nat.reduceAdd, reduceCtorEq] <;> rfl) fun o ho => ?_
    refine RN ?_
    have hol := ho.1.length_eq
    rw [← hol]
    exact ⟨o, ho, Ref.to1⟩
def Dg3 (a b : Nat) : Prop := (a = 3 ∧ b = 3) ∨ (a = 4 ∧ b = 3) ∨ (a = 3 ∧ b = 4)
theorem rgD_7 {a b rings : Int} (h : rgD a b rings = true) : admB a b rings 7 = true := by
  unfold rgD at h
  exact (Bool.and_eq_true _ _ ▸ h).1
theorem rgD_m {a b rings : Int} (h : rgD a b rings = true) {m : Nat} (hm : m < 8) : (0 ≤ fxI rings m ∧ fxI rings m < 8) ∧ 0 ≤ fkP a b rings m ∧ fkP a b rings m ≤ 1000 := by
  unfold rgD at h
  rw [Bool.and_eq_true] at h
  have := List.all_eq_true.1 h.2 m (List.mem_range.2 hm)
  simp only [Bool.and_eq_true, decide_eq_true_eq] at this
  omega
def adX (a b rings : Int) : List Int := (adN a b rings 8).filter fun x => x != 7
theorem faceSets_e (a b rings : Int) (ha : 2 ≤ a ∧ a ≤ 32) (hb : 2 ≤ b ∧ b ≤ 32) (h7 : admB a b rings 7 = true) :
    PureE Tryz.prog 33 [ints [a, b], i64 rings] (fun S : List Int => S.Perm (adX a b rings)) (fun S => .sl 0 1 0 S.length) (fun S => [some (intsC (S ++ [7]))]) := by
  have had := admissibleSets_e a b rings ha hb
  have hr := adN_r a b rings 8
  have hl := adN_len a b rings 8
  have hnd : (adN a b rings 8).Nodup := List.pairwise_map.2 ((List.nodup_range.filter _).imp fun {x y} hne e => hne (by omega))
  have hmem : (7 : Int) ∈ adN a b rings 8 := List.mem_map.2 ⟨7, List.mem_filter.2 ⟨by decide, h7⟩, rfl⟩
  refine pureREV ok33 rfl ?_; unfold c33
  refine RN ?_
  refine pureEC had (by simp only [go_sem, ↓reduceIte, Nat.reduceEqDiff, Nat.reduceAdd, reduceCtorEq] <;> rfl) (fun o => by simp only [go_sem, ↓reduceIte, Nat.reduceEqDiff, Nat.reduceAdd, reduceCtorEq]) fun o ho => ?_
  obtain ⟨p1, p2⟩ := ho
  obtain ⟨S', rfl, q⟩ := asc_last p1 p2 hr hnd hmem
  have hol := p1.length_eq
  rw [List.length_append, List.length_singleton] at hol
  have e1 : (S' ++ [7]).length = S'.length + 1 := by simp
  have e2 : (((S'.length + 1 : Nat) : Int) - 1).toNat = S'.length := by omega
  rw [e1]
  (refine RN ?_; try with_reducible exact trivial)
  (try simp only [e2, go_sem, ↓reduceIte, Nat.reduceEqDiff, Nat.reduceAdd, reduceCtorEq])
  refine ⟨S', q, ?_⟩
  exact Ref.to1
theorem isMaskT_c (a b m : Int) (h : 0 ≤ m ∧ m ≤ 7) : Pure Tryz.prog 15 [ints [a, b], i64 m] (bl true) [] := by
  have := isMask_c a b m
  rwa [decide_eq_true h.1, decide_eq_true h.2] at this
theorem order7_c (a b : Nat) (hd : Dg3 a b) : Pure Tryz.prog 16 [ints [(a : Int), (b : Int)], i64 7] (.tup [i64 (ordP a b 7), bl true]) [] := by
  have hd2 := hd
  unfold Dg3 at hd2
  have h := orderOf_c a b 7 (by omega) (by omega) (by omega) (cpS_ok a b 7 (by omega) (by omega) (by omega) (.inr (.inr (by omega))))
  rw [ordP_eq] at h
  exact h
theorem setCode_c (a b : Nat) (rings : Int) (hd : Dg3 a b) (hr : 0 ≤ rings ∧ rings ≤ 7) (h7 : admB a b rings 7 = true) : Pure Tryz.prog 60 [ints [(a : Int), (b : Int)], i64 rings, i64 0] (i64 0) [] := by
  have hd2 := hd
  unfold Dg3 at hd2
  have hi := isDiagram_c a b (by omega) (by omega)
  have hm := isMaskT_c a b rings hr
  have hm0 := isMaskT_c a b 0 (by omega)
  have hn := allNodes_c (a : Int) b
  have ho := order7_c a b hd
  have had := isAdmissible_c a b rings 7 (by omega) (by omega) (by omega)
  change Pure Tryz.prog _ _ (bl (admB a b rings 7)) [] at had
  rw [h7] at had
  refine pureV0 ok60 rfl rfl ?_; unfold c60
  refine RN ?_
  refine pureC1 (hi) ?_
  refine RN ?_
  refine pureC1 (hm) ?_
  refine RN ?_
  refine GCall.on rfl ?_
  refine pureC1 (hm0) ?_
  refine RN ?_
  refine pureC1 (hn) ?_
  refine RN ?_
  refine pureC1 (ho) ?_
  refine RN ?_
  refine GCall.on rfl ?_
  refine pureC1 (hn) ?_
  refine RN ?_
  refine GCall.on rfl ?_
  refine pureC1 (had) ?_
  (refine RN ?_; try with_reducible exact trivial)
theorem ringedCode_c (a b : Nat) (rings : Int) (hd : Dg3 a b) (hr : 0 ≤ rings ∧ rings ≤ 7) (h7 : admB a b rings 7 = true) : Pure Tryz.prog 32 [ints [(a : Int), (b : Int)], i64 rings] (i64 0) [] := by
  have h := setCode_c a b rings hd hr h7
  refine pureV0 ok32 rfl rfl ?_; unfold c32
  refine RN ?_
  refine pureC1 (h) ?_
  (refine RN ?_; try with_reducible exact trivial)
theorem isRinged_c (a b : Nat) (rings : Int) (hd : Dg3 a b) (hr : 0 ≤ rings ∧ rings ≤ 7) (h7 : admB a b rings 7 = true) : Pure Tryz.prog 7 [ints [(a : Int), (b : Int)], i64 rings] (.tup [bl true, i64 0]) [] := by
  have hd2 := hd
  unfold Dg3 at hd2
  have hi := isDiagram_c a b (by omega) (by omega)
  have hm := isMaskT_c a b rings hr
  have hn := allNodes_c (a : Int) b
  have ho := order7_c a b hd
  have had := isAdmissible_c a b rings 7 (by omega) (by omega) (by omega)
  change Pure Tryz.prog _ _ (bl (admB a b rings 7)) [] at had
  rw [h7] at had
  refine pureV0 ok7 rfl rfl ?_; unfold c7
  refine RN ?_
  refine pureC1 (hi) ?_
  refine RN ?_
  refine pureC1 (hm) ?_
  refine RN ?_
  refine pureC1 (hn) ?_
  refine RN ?_
  refine pureC1 (ho) ?_
  refine RN ?_
  refine GCall.on rfl ?_
  refine pureC1 (hn) ?_
  refine RN ?_
  refine GCall.on rfl ?_
  refine pureC1 (had) ?_
  (refine RN ?_; try with_reducible exact trivial)
theorem facesP_c (a b : Nat) (rings : Int) (hd : Dg3 a b) (hg : rgD a b rings = true) {m : Nat} (hm : m < 8) : Pure Tryz.prog 35 [ints [(a : Int), (b : Int)], i64 rings, i64 (m : Int)] (i64 (fkP a b rings m)) [] := by
  have hd2 := hd
  unfold Dg3 at hd2
  obtain ⟨⟨f1, f2⟩, _⟩ := rgD_m hg hm
  have h := facesOfKind_c a b rings m (fxI rings m).toNat hm (by omega) (by omega) (by omega) (by omega) (by omega)
  rw [ordP_eq, ordP_eq, ordP_eq] at h
  exact h
set_option maxHeartbeats 2000000 in
theorem wythoff_c (a b : Nat) (rings : Int) (hd : Dg3 a b) (hr : 0 ≤ rings ∧ rings ≤ 7) (hg : rgD a b rings = true) :
    Pure Tryz.prog 12 [ints [(a : Int), (b : Int)], i64 rings] (.tup [.sl 0 1 0 3, i64 0]) [some (intsC (ctL (fkP a b rings) (adX a b rings)))] := by
  have hd2 := hd
  unfold Dg3 at hd2
  have hrc := ringedCode_c a b rings hd hr (rgD_7 hg)
  have hfs := faceSets_e a b rings (by omega) (by omega) (rgD_7 hg)
  have hXr : ∀ x ∈ adX a b rings, 0 ≤ x ∧ x < 8 ∧ x ≠ 7 := fun x hx => by
    obtain ⟨h1, h2⟩ := List.mem_filter.1 hx
    have := adN_r a b rings 8 x h1
    exact ⟨this.1, this.2, by simpa using h2⟩
  have hXl : (adX a b rings).length ≤ 8 := Nat.le_trans (List.length_filter_le _ _) (adN_len a b rings 8)
  have hfb : ∀ m : Nat, m < 8 → 0 ≤ fkP a b rings m ∧ fkP a b rings m ≤ 1000 := fun m hm => (rgD_m hg hm).2
  have hfp := fun m (hm : m < 8) => facesP_c a b rings hd hg hm
  generalize adX a b rings = X at hfs hXr hXl ⊢
  generalize fkP a b rings = f at hfb hfp ⊢
  refine pureRV ok12 rfl ?_; unfold c12
  refine RN ?_
  refine pureC1 (hrc) ?_
  refine RN ?_
  refine pureEC hfs (by simp only [go_sem, ↓reduceIte, Nat.reduceEqDiff, Nat.reduceAdd, reduceCtorEq] <;> rfl) (fun o => by simp only [go_sem, ↓reduceIte, Nat.reduceEqDiff, Nat.reduceAdd, reduceCtorEq]) fun S hS => ?_
  refine RN ?_
  have hSl : S.length ≤ 8 := by rw [hS.length_eq]; exact hXl
  rw [← ctL_perm f hS]
  refine V_loop (α := Nat) (S := fun i => ([(0, ints [(a : Int), (b : Int)]), (1, i64 rings), (7, .sl 0 1 0 3), (22, .sl 1 1 0 S.length), (23, i64 (S.length : Int)), (24, i64 (i : Int))], [some (intsC (ctL f (S.take i))), some (intsC (S ++ [7]))])) (C := fun i => i ≤ S.length) (μ := fun i => S.length - i) 0 (by omega) (Ref.to1) ?_
  intro i hi
  refine RN ?_
  refine ⟨fun hc => ?_, fun hc => ?_⟩
  · have hil : i < S.length := by omega
    have hx := hXr S[i] (hS.subset (List.getElem_mem hil))
    have hgx : (S ++ [7]).getD i 0 = S[i] := by
      rw [List.getD_eq_getElem?_getD, List.getElem?_append_left hil, List.getElem?_eq_getElem hil]; rfl
    have htk : S.take (i + 1) = S.take i ++ [S[i]] := List.take_succ_eq_append_getElem hil
    obtain ⟨m, hm⟩ : ∃ m : Nat, S[i] = (m : Int) := ⟨S[i].toNat, by omega⟩
    rw [hm] at hx hgx htk
    have hm8 : m < 8 := by omega
    have hoc := onesCount_c m hm8
    have ho2 : onN m ≤ 2 := by
      have h3 := oI_le (m : Int)
      have h4 : oI (m : Int) = onN m := rfl
      have h5 := oI_three (z := (m : Int)) (by omega)
      omega
    have hfm := hfp m hm8
    have hbm := hfb m hm8
    have hcs := ctL_snoc f (S.take i) (m : Int) ho2
    have e4 : oI (m : Int) = onN m := rfl
    rw [e4] at hcs
    have hcb := ctR_b f (B := 1000) (by omega) (S.take i) (onN m) fun s hs => by
      have h6 := hXr s (hS.subset (List.mem_of_mem_take hs))
      obtain ⟨k, rfl⟩ : ∃ k : Nat, s = (k : Int) := ⟨s.toNat, by omega⟩
      exact hfb k (by omega)
    have hca := ctL_at f (S.take i) ho2
    have htl : (S.take i).length ≤ 8 := by rw [List.length_take]; omega
    have hcl : (ctL f (S.take i)).length = 3 := rfl
    rw [← hca] at hcb
    have w1 : IntKind.u64.wrap (m : Int) = (m : Int) := by
      have : m = 0 ∨ m = 1 ∨ m = 2 ∨ m = 3 ∨ m = 4 ∨ m = 5 ∨ m = 6 ∨ m = 7 := by omega
      rcases this with rfl | rfl | rfl | rfl | rfl | rfl | rfl | rfl <;> decide
    have e5 : (S ++ [(7 : Int)]).length = S.length + 1 := by simp
    generalize ctL f (S.take i) = C at hcs hcb hcl ⊢
    generalize f m = y at hfm hbm hcs
    generalize onN m = k at hoc ho2 hcs hcb
    generalize S ++ [7] = T at hgx e5 ⊢
    (repeat first | simp only [hgx, w1, go_sem, ↓reduceIte, Nat.reduceEqDiff, Nat.reduceAdd, reduceCtorEq] | with_reducible refine V_W ?_ | (with_reducible refine And.intro ?_ ?_; focus first | assumption | omega | decide | grind) | (with_reducible refine Br.mk ?_ ?_; focus (intros; omega)) | decide)
    refine pureC1 (hoc) ?_
    (repeat first | simp only [hgx, w1, go_sem, ↓reduceIte, Nat.reduceEqDiff, Nat.reduceAdd, reduceCtorEq] | with_reducible refine V_W ?_ | (with_reducible refine And.intro ?_ ?_; focus first | assumption | omega | decide | grind) | (with_reducible refine Br.mk ?_ ?_; focus (intros; omega)) | decide)
    refine pureC1 (hfm) ?_
    (repeat first | simp only [hgx, w1, go_sem, ↓reduceIte, Nat.reduceEqDiff, Nat.reduceAdd, reduceCtorEq] | with_reducible refine V_W ?_ | (with_reducible refine And.intro ?_ ?_; focus first | assumption | omega | decide | grind) | (with_reducible refine Br.mk ?_ ?_; focus (intros; omega)) | decide)
    refine ⟨i + 1, by omega, by omega, ?_⟩
    rw [htk, hcs]
    exact Ref.to1
  · obtain rfl : i = S.length := by omega
    rw [List.take_length]
    refine RN ?_
    exact Ref.gc2 [0]
end Go.Proofs.YtfcbamfkfadabaaGreat
set_option maxRecDepth 100000
namespace Go.Proofs.YtfcbamfkfadabaaGreat
open Go.Cl

def stC (b : UInt8) (c : Int × Int × Int) : Int × Int × Int :=
  if b = 100 then (c.2.2, c.2.1, c.1) else if b = 97 then (c.2.1, 2 * c.2.1, c.1 + c.2.2) else if b = 116 then (2 * c.2.1, 3 * c.2.1, c.1 + c.2.2) else (c.1 + 2 * c.2.1, 4 * c.2.1, c.2.2 + c.2.1)
noncomputable def vef (M : List (List Int)) : Int × Int × Int := ((vN (fl M) M : Int), (eN (fl M) M : Int), (fN (fl M) M : Int))
def vefL (c : Int × Int × Int) : List Int := [c.1, c.2.1, c.2.2]
theorem vefL_inj {c d : Int × Int × Int} (h : vefL c = vefL d) : c = d := by
  obtain ⟨a, b, e⟩ := c
  obtain ⟨a', b', e'⟩ := d
  simp only [vefL, List.cons.injEq, and_true] at h
  obtain ⟨rfl, rfl, rfl⟩ := h
  rfl
theorem fc_vef {M : List (List Int)} (hM : IsMap M) : fcV (fl M) M M.length = vefL (vef M) := fcV_three hM.2
theorem vef_step {M : List (List Int)} (hM : IsMap M) {b : UInt8} (hb : Ltr b) (hA : IsMap (apM M (bT b) 3)) : vef (apM M (bT b) 3) = stC b (vef M) := by
  have key : ∀ i, i < 4 → b = ltrs.getD i 0 → vef (apM M (bT b) 3) = stC b (vef M) := fun i hi e => by
    have h := due_ok hM i hi
    rw [← e, fc_vef hA] at h
    refine vefL_inj (h.trans ?_)
    match i, hi with
    | 0, _ => subst e; rfl
    | 1, _ => subst e; rfl
    | 2, _ => subst e; rfl
    | 3, _ => subst e; rfl
  rcases hb with h | h | h | h
  · exact key 0 (by omega) h
  · exact key 1 (by omega) h
  · exact key 2 (by omega) h
  · exact key 3 (by omega) h
theorem vef_word : ∀ (w : List UInt8) (M : List (List Int)), IsMap M → (∀ x ∈ w, Ltr x) → fl M * szW 1 w ≤ 400 → vef (mm M w) = w.foldl (fun c b => stC b c) (vef M)
  | [], _, _, _, _ => rfl
  | b :: w, M, hM, hw, h4 => by
    have hb := hw b (by simp)
    have hr : ∀ x ∈ w, Ltr x := fun x hx => hw x (by simp [hx])
    have h2 : szW 1 (b :: w) = szW (1 * (bT b).length) w := rfl
    rw [h2, szW_mul, Nat.one_mul, ← Nat.mul_assoc] at h4
    have hp := szW_pos w hr
    obtain ⟨d, hn⟩ := bT_nice hb
    obtain ⟨a1, a2⟩ := ap_map hM hn (Nat.le_trans (Nat.le_mul_of_pos_right _ hp) h4)
    have ih := vef_word w (apM M (bT b) 3) a1 hr (by rw [a2]; exact h4)
    rw [vef_step hM hb a1] at ih
    exact ih
def nmX (w : List UInt8) : List UInt8 := w.flatMap fun b => wdI b.toNat
theorem mm_app (M : List (List Int)) (u w : List UInt8) : mm M (u ++ w) = mm (mm M u) w := by unfold mm; rw [List.foldl_append]
theorem nmX_succ {w : List UInt8} {i : Nat} (hi : i < w.length) : nmX (w.take (i + 1)) = nmX (w.take i) ++ wdI (w.getD i 0).toNat := by
  unfold nmX
  rw [List.take_succ_eq_append_getElem hi, List.flatMap_append]
  simp [hi]
def rgN (r : Nat) : List UInt8 := ([[], [97], [116], [100], [101], [100, 116], [98]] : List (List UInt8)).getD (r - 1) []
def rgB (r : Nat) : Bool := decide ((rgN r).length ≤ 2) && (List.range 3).all fun i => (!decide (i < (rgN r).length) || ([97, 116, 100, 101, 98].contains ((rgN r).getD i 0).toNat && decide (szW 1 (nmX ((rgN r).take i)) ≤ 1))) && (decide (szW 1 (nmX ((rgN r).take i)) ≤ 6) && (nmX ((rgN r).take i)).all fun x => x == 100 || x == 97 || x == 116 || x == 99)
theorem rgB_t : (List.range 8).all rgB = true := by decide
theorem rgN_ok (r : Nat) (h : r < 8) : (rgN r).length ≤ 2 ∧ (∀ i, i < (rgN r).length → ((rgN r).getD i 0).toNat ∈ [97, 116, 100, 101, 98] ∧ szW 1 (nmX ((rgN r).take i)) ≤ 1) ∧ (∀ i, i < 3 → szW 1 (nmX ((rgN r).take i)) ≤ 6 ∧ ∀ x ∈ nmX ((rgN r).take i), Ltr x) := by
  have h1 := List.all_eq_true.1 rgB_t r (List.mem_range.2 h)
  unfold rgB at h1
  rw [Bool.and_eq_true] at h1
  have h2 := of_decide_eq_true h1.1
  have h3 : ∀ i, i < 3 → _ := fun i hi => List.all_eq_true.1 h1.2 i (List.mem_range.2 hi)
  refine ⟨h2, fun i hi => ?_, fun i hi => ?_⟩
  · have h4 := h3 i (by omega)
    rw [decide_eq_true hi, Bool.and_eq_true] at h4
    have h5 := h4.1
    rw [Bool.not_true, Bool.false_or, Bool.and_eq_true] at h5
    exact ⟨List.contains_iff_mem.1 h5.1, of_decide_eq_true h5.2⟩
  · have h4 := h3 i hi
    rw [Bool.and_eq_true, Bool.and_eq_true] at h4
    refine ⟨of_decide_eq_true h4.2.1, fun x hx => ?_⟩
    have h6 := List.all_eq_true.1 h4.2.2 x hx
    unfold Ltr
    simpa [or_assoc] using h6
end Go.Proofs.YtfcbamfkfadabaaGreat
set_option maxRecDepth 100000
namespace Go.Proofs.YtfcbamfkfadabaaGreat
open Go.Gov Go.Ce

def rgF (a b : Nat) (v e f : Int) : Bool := (List.range 7).all fun r => rgD a b ((r + 1 : Nat) : Int) && decide (vefL ((nmX (rgN (r + 1))).foldl (fun c b => stC b c) (v, e, f)) = ctL (fkP a b ((r + 1 : Nat) : Int)) (adX a b ((r + 1 : Nat) : Int)))
theorem rgF33 : rgF 3 3 4 6 4 = true := by decide +kernel
theorem rgF43 : rgF 4 3 8 12 6 = true := by decide +kernel
theorem rgF34 : rgF 3 4 6 12 8 = true := by decide +kernel
theorem rgF_at {a b : Nat} {v e f : Int} (h : rgF a b v e f = true) {r : Nat} (h1 : 1 ≤ r) (h7 : r ≤ 7) : rgD a b (r : Int) = true ∧ vefL ((nmX (rgN r)).foldl (fun c b => stC b c) (v, e, f)) = ctL (fkP a b (r : Int)) (adX a b (r : Int)) := by
  have h2 := List.all_eq_true.1 h (r - 1) (List.mem_range.2 (by omega))
  rw [show r - 1 + 1 = r by omega, Bool.and_eq_true] at h2
  exact ⟨h2.1, of_decide_eq_true h2.2⟩
def dgT : List (List Int) := [[3, 3], [4, 3], [3, 4]]
theorem ring_ok (k : Nat) (h : k < 3) {r : Nat} (h1 : 1 ≤ r) (h7 : r ≤ 7) : ∃ a b e : Nat, dgT.getD k [] = [(a : Int), (b : Int)] ∧ Dg3 a b ∧ uniC a b = 0 ∧ IsMap (uniT a b) ∧ fl (uniT a b) = 4 * e ∧ e ≤ 12 ∧ rgD a b (r : Int) = true ∧
    vefL ((nmX (rgN r)).foldl (fun c b => stC b c) (vef (uniT a b))) = ctL (fkP a b (r : Int)) (adX a b (r : Int)) := by
  have fin : ∀ a b e v f : Nat, Dg3 a b → ckN a b e = true → ckV a b e v f = true → 1 ≤ e → e ≤ 12 → rgF a b v e f = true → Dg3 a b ∧ uniC a b = 0 ∧ IsMap (uniT a b) ∧ fl (uniT a b) = 4 * e ∧ e ≤ 12 ∧ rgD a b (r : Int) = true ∧
      vefL ((nmX (rgN r)).foldl (fun c b => stC b c) (vef (uniT a b))) = ctL (fkP a b (r : Int)) (adX a b (r : Int)) := fun a b e v f hd hk hc h1e h2e hr => by
    have hd2 := hd
    unfold Dg3 at hd2
    obtain ⟨u1, _, _⟩ := uni_ck (by omega) (by omega) h1e (by omega) hk
    obtain ⟨m1, m2, m3, m4, m5⟩ := uni_cv (by omega) (by omega) h1e (by omega) hk hc
    obtain ⟨g1, g2⟩ := rgF_at hr h1 h7
    refine ⟨hd, u1, m1, m2, h2e, g1, ?_⟩
    have : vef (uniT a b) = ((v : Int), (e : Int), (f : Int)) := by
      unfold vef
      rw [m2, m3, m4, m5]
    rw [this]
    exact g2
  match k, h with
  | 0, _ => exact ⟨3, 3, 6, rfl, fin 3 3 6 4 4 (.inl ⟨rfl, rfl⟩) ck33 cv33 (by omega) (by omega) rgF33⟩
  | 1, _ => exact ⟨4, 3, 12, rfl, fin 4 3 12 8 6 (.inr (.inl ⟨rfl, rfl⟩)) ck43 cv43 (by omega) (by omega) rgF43⟩
  | 2, _ => exact ⟨3, 4, 12, rfl, fin 3 4 12 6 8 (.inr (.inr ⟨rfl, rfl⟩)) ck34 cv34 (by omega) (by omega) rgF34⟩
end Go.Proofs.YtfcbamfkfadabaaGreat
