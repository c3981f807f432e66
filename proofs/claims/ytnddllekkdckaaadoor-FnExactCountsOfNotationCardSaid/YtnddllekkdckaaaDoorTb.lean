/- Texts that belong together. -/
import Derived.Test.YtnddllekkdckaaaDoorZj
import Derived.Test.YtnddllekkdckaaaDoorTa
set_option linter.unusedSimpArgs false
set_option linter.unusedVariables false
set_option maxRecDepth 100000
namespace Go.Proofs.YtnddllekkdckaaaDoor
open Go.Gov Go.Nt
open Classical
variable (tp tq : TypeId) (p q : Value)

theorem getD_app1 {a b : List UInt8} {i : Nat} (h : i < a.length) : (a ++ b).getD i 0 = a.getD i 0 := by
  rw [List.getD_eq_getElem?_getD, List.getElem?_append_left h, ← List.getD_eq_getElem?_getD]
theorem getD_app2 {a b : List UInt8} : (a ++ b).getD a.length 0 = b.getD 0 0 := by
  rw [List.getD_eq_getElem?_getD, List.getElem?_append_right (Nat.le_refl _), Nat.sub_self, ← List.getD_eq_getElem?_getD]
set_option maxHeartbeats 8000000 in
theorem l15Counts_p (o s : List UInt8) (ho : o.length ≤ 12) (h : SeedOk s) (hs : s.length ≤ 1048576) : Pure Tryd.prog 30 [sV (basL o ++ s)] (.sl 0 1 0 3) [some [i64 (cnt (basL o) (seedC s)).1, i64 (cnt (basL o) (seedC s)).2.1, i64 (cnt (basL o) (seedC s)).2.2]] := by
  obtain ⟨n, hn, hop, hk⟩ := seed_kindC h
  have hpos : 0 < s.length := by rcases hk with h | h <;> omega
  have hv := l01Value_c (s.drop 1) (by rw [List.length_drop]; omega)
  rw [show valS (s.drop 1) = numS s from rfl] at hv
  have hbl := basL_len o
  have hcb := cnt_b o s ho h
  have hlet := fun j => lets o (j := j)
  have hcs := fun j => cnt_step (basL o) (seedC s) (j := j)
  obtain ⟨hnO, hnS⟩ := nt_bas o s h
  have hT1 := fun i => getD_app1 (a := basL o) (b := s) (i := i)
  have hT2 := getD_app2 (a := basL o) (b := s)
  have hTl : (basL o ++ s).length = (basL o).length + s.length := List.length_append
  have hTd : ((basL o ++ s).take (basL o ++ s).length).drop ((basL o).length + 1) = s.drop 1 := by
    rw [List.take_length, ← List.drop_drop, List.drop_left']
    rfl
  obtain ⟨T, hT⟩ : ∃ T, T = basL o ++ s := ⟨_, rfl⟩
  rw [← hT] at hnO hnS hT2 hTl hTd ⊢
  simp only [← hT] at hT1
  obtain ⟨B, hB⟩ : ∃ B, B = basL o := ⟨_, rfl⟩
  rw [← hB] at hbl hcb hlet hcs hnO hT1 hT2 hTl hTd ⊢
  have hd0 : cnt (B.drop B.length) (seedC s) = seedC s := by rw [List.drop_length]; rfl
  have hstep := nt_step T
  rw [hnO] at hstep
  rw [← hT2] at hn hop
  refine pureRV ok30 rfl ?_; unfold c30
  (repeat first | simp only [go_sem, ↓reduceIte, Nat.reduceEqDiff, Nat.reduceAdd, reduceCtorEq] | with_reducible refine V_W ?_ | (with_reducible refine And.intro ?_ ?_; focus first | assumption | omega | decide | grind) | (with_reducible refine Br.mk ?_ ?_; focus (intros; omega)) | decide)
  refine V_loop (α := Nat) (S := fun i => ([(0, sV T), (3, i64 (i : Int))], [])) (C := fun i => i ≤ B.length) (μ := fun i => B.length - i) 0 (Nat.zero_le _) (by exact Ref.frame (by simp [sub, fget])) ?_
  intro i hi
  have hst := hstep i hi
  have hwo := l14Word_c (T.getD i 0)
  have hwe := word_op (T.getD i 0)
  (repeat first | simp only [go_sem, ↓reduceIte, Nat.reduceEqDiff, Nat.reduceAdd, reduceCtorEq] | with_reducible refine V_W ?_ | (with_reducible refine And.intro ?_ ?_; focus first | assumption | omega | decide | grind) | (with_reducible refine Br.mk ?_ ?_; focus (intros; omega)) | decide)
  refine pureC (hwo) (by simp only [go_sem, ↓reduceIte, Nat.reduceEqDiff, Nat.reduceAdd, reduceCtorEq] <;> rfl) (by first | rfl | simp only [go_sem, ↓reduceIte, Nat.reduceEqDiff, Nat.reduceAdd, reduceCtorEq]) ?_
  simp only [hwe, Bool.not_not, go_sem, ↓reduceIte, Nat.reduceEqDiff, Nat.reduceAdd, reduceCtorEq]
  (repeat first | simp only [go_sem, ↓reduceIte, Nat.reduceEqDiff, Nat.reduceAdd, reduceCtorEq] | with_reducible refine V_W ?_ | (with_reducible refine And.intro ?_ ?_; focus first | assumption | omega | decide | grind) | (with_reducible refine Br.mk ?_ ?_; focus (intros; omega)) | decide)
  refine ⟨fun hc => ?_, fun hc => ?_⟩
  · have := hst.2 ⟨by omega, hc⟩
    (repeat first | simp only [go_sem, ↓reduceIte, Nat.reduceEqDiff, Nat.reduceAdd, reduceCtorEq] | with_reducible refine V_W ?_ | (with_reducible refine And.intro ?_ ?_; focus first | assumption | omega | decide | grind) | (with_reducible refine Br.mk ?_ ?_; focus (intros; omega)) | decide)
    exact ⟨i + 1, by omega, by omega, Ref.to rfl (by simp [sub, fget])⟩
  · obtain rfl : i = B.length := by
      rcases Nat.lt_or_ge i B.length with h5 | h5
      · have h6 := (hst.1 h5).2
        rw [hc] at h6
        cases h6
      · omega
    clear hst hwo hwe hstep hc hi
    have e0 : ((B.length : Int) + 1).toNat = B.length + 1 := by omega
    (repeat first | simp only [go_sem, ↓reduceIte, Nat.reduceEqDiff, Nat.reduceAdd, reduceCtorEq] | with_reducible refine V_W ?_ | (with_reducible refine And.intro ?_ ?_; focus first | assumption | omega | decide | grind) | (with_reducible refine Br.mk ?_ ?_; focus (intros; omega)) | decide)
    try simp only [hn, go_sem, ↓reduceIte, Nat.reduceEqDiff, Nat.reduceAdd, reduceCtorEq]
    rcases hk with ⟨_, hk⟩ | ⟨_, h2, h3, hk⟩
    · rcases hk with ⟨rfl, e⟩ | ⟨rfl, e⟩ | ⟨rfl, e⟩ | ⟨rfl, e⟩ | ⟨rfl, e⟩
      all_goals
        (iterate 16 ((repeat first | simp only [go_sem, ↓reduceIte, Nat.reduceEqDiff, Nat.reduceAdd, reduceCtorEq] | with_reducible refine V_W ?_ | (with_reducible refine And.intro ?_ ?_; focus first | assumption | omega | decide | grind) | (with_reducible refine Br.mk ?_ ?_; focus (intros; omega)) | decide); (try with_reducible refine fun _ => ?_)))
        refine V_loop (α := Nat) (S := fun j => ([(0, sV T), (4, i64 (cnt (B.drop j) (seedC s)).1), (5, i64 (cnt (B.drop j) (seedC s)).2.1), (6, i64 (cnt (B.drop j) (seedC s)).2.2), (8, i64 ((j : Int) - 1))], [])) (C := fun j => j ≤ B.length) (μ := fun j => j) B.length (Nat.le_refl _) (Ref.to rfl (by rw [hd0, e]; simp [sub, fget])) ?_
        intro j hj
        (repeat first | simp only [go_sem, ↓reduceIte, Nat.reduceEqDiff, Nat.reduceAdd, reduceCtorEq] | with_reducible refine V_W ?_ | (with_reducible refine And.intro ?_ ?_; focus first | assumption | omega | decide | grind) | (with_reducible refine Br.mk ?_ ?_; focus (intros; omega)) | decide)
        refine ⟨fun hc => ?_, fun hc => ?_⟩
        · obtain ⟨m, hm, hl⟩ := hlet j (by omega) hj
          have hst := hcs j (by omega) hj
          obtain ⟨hb1, hb2, hb3⟩ := hcb j
          have hl2 := hl (cnt (B.drop j) (seedC s))
          have hTj := hT1 (j - 1) (by omega)
          unfold Go.Nt.Good at hb1
          obtain ⟨c, hc2⟩ : ∃ c, c = cnt (B.drop j) (seedC s) := ⟨_, rfl⟩
          rw [← hc2] at hst hb1 hb2 hb3 hl2 ⊢
          obtain ⟨v, e', f⟩ := c
          dsimp only at hst hb1 hb2 hb3 hl2 ⊢
          rw [← hTj] at hm
          have e1 : ((j : Int) - 1).toNat = j - 1 := by omega
          have e3 : ((j - 1 : Nat) : Int) - 1 = (j : Int) - 1 - 1 := by omega
          clear hlet hcs hcb hl hc2 hT1
          (repeat first | simp only [go_sem, ↓reduceIte, Nat.reduceEqDiff, Nat.reduceAdd, reduceCtorEq] | with_reducible refine V_W ?_ | (with_reducible refine And.intro ?_ ?_; focus first | assumption | omega | decide | grind) | (with_reducible refine Br.mk ?_ ?_; focus (intros; omega)) | decide)
          try simp only [e1, hm, go_sem, ↓reduceIte, Nat.reduceEqDiff, Nat.reduceAdd, reduceCtorEq]
          rcases hl2 with ⟨rfl, e2⟩ | ⟨rfl, e2⟩ | ⟨rfl, e2⟩ | ⟨rfl, e2⟩
          all_goals
            (iterate 16 ((repeat first | simp only [go_sem, ↓reduceIte, Nat.reduceEqDiff, Nat.reduceAdd, reduceCtorEq] | with_reducible refine V_W ?_ | (with_reducible refine And.intro ?_ ?_; focus first | assumption | omega | decide | grind) | (with_reducible refine Br.mk ?_ ?_; focus (intros; omega)) | decide); (try with_reducible refine fun _ => ?_)))
            refine ⟨j - 1, by omega, by omega, ?_⟩
            rw [hst, e2, e3]
            exact Ref.to rfl (by simp [sub, fget])
        · obtain rfl : j = 0 := by omega
          rw [List.drop_zero]
          (repeat first | simp only [go_sem, ↓reduceIte, Nat.reduceEqDiff, Nat.reduceAdd, reduceCtorEq] | with_reducible refine V_W ?_ | (with_reducible refine And.intro ?_ ?_; focus first | assumption | omega | decide | grind) | (with_reducible refine Br.mk ?_ ?_; focus (intros; omega)) | decide)
          exact Ref.to rfl (by simp [sub, fget])
    · rcases hk with ⟨rfl, e⟩ | ⟨rfl, e⟩
      all_goals
        (iterate 16 ((repeat first | simp only [go_sem, ↓reduceIte, Nat.reduceEqDiff, Nat.reduceAdd, reduceCtorEq] | with_reducible refine V_W ?_ | (with_reducible refine And.intro ?_ ?_; focus first | assumption | omega | decide | grind) | (with_reducible refine Br.mk ?_ ?_; focus (intros; omega)) | decide); (try with_reducible refine fun _ => ?_)))
        try simp only [e0, hTd, go_sem, ↓reduceIte, Nat.reduceEqDiff, Nat.reduceAdd, reduceCtorEq]
        refine pureC (hv) (by simp only [go_sem, ↓reduceIte, Nat.reduceEqDiff, Nat.reduceAdd, reduceCtorEq] <;> rfl) (by first | rfl | simp only [go_sem, ↓reduceIte, Nat.reduceEqDiff, Nat.reduceAdd, reduceCtorEq]) ?_
        (iterate 16 ((repeat first | simp only [go_sem, ↓reduceIte, Nat.reduceEqDiff, Nat.reduceAdd, reduceCtorEq] | with_reducible refine V_W ?_ | (with_reducible refine And.intro ?_ ?_; focus first | assumption | omega | decide | grind) | (with_reducible refine Br.mk ?_ ?_; focus (intros; omega)) | decide); (try with_reducible refine fun _ => ?_)))
        try simp only [hn, go_sem, ↓reduceIte, Nat.reduceEqDiff, Nat.reduceAdd, reduceCtorEq]
        (iterate 16 ((repeat first | simp only [go_sem, ↓reduceIte, Nat.reduceEqDiff, Nat.reduceAdd, reduceCtorEq] | with_reducible refine V_W ?_ | (with_reducible refine And.intro ?_ ?_; focus first | assumption | omega | decide | grind) | (with_reducible refine Br.mk ?_ ?_; focus (intros; omega)) | decide); (try with_reducible refine fun _ => ?_)))
        refine V_loop (α := Nat) (S := fun j => ([(0, sV T), (4, i64 (cnt (B.drop j) (seedC s)).1), (5, i64 (cnt (B.drop j) (seedC s)).2.1), (6, i64 (cnt (B.drop j) (seedC s)).2.2), (8, i64 ((j : Int) - 1))], [])) (C := fun j => j ≤ B.length) (μ := fun j => j) B.length (Nat.le_refl _) (Ref.to rfl (by rw [hd0, e]; simp [sub, fget])) ?_
        intro j hj
        (repeat first | simp only [go_sem, ↓reduceIte, Nat.reduceEqDiff, Nat.reduceAdd, reduceCtorEq] | with_reducible refine V_W ?_ | (with_reducible refine And.intro ?_ ?_; focus first | assumption | omega | decide | grind) | (with_reducible refine Br.mk ?_ ?_; focus (intros; omega)) | decide)
        refine ⟨fun hc => ?_, fun hc => ?_⟩
        · obtain ⟨m, hm, hl⟩ := hlet j (by omega) hj
          have hst := hcs j (by omega) hj
          obtain ⟨hb1, hb2, hb3⟩ := hcb j
          have hl2 := hl (cnt (B.drop j) (seedC s))
          have hTj := hT1 (j - 1) (by omega)
          unfold Go.Nt.Good at hb1
          obtain ⟨c, hc2⟩ : ∃ c, c = cnt (B.drop j) (seedC s) := ⟨_, rfl⟩
          rw [← hc2] at hst hb1 hb2 hb3 hl2 ⊢
          obtain ⟨v, e', f⟩ := c
          dsimp only at hst hb1 hb2 hb3 hl2 ⊢
          rw [← hTj] at hm
          have e1 : ((j : Int) - 1).toNat = j - 1 := by omega
          have e3 : ((j - 1 : Nat) : Int) - 1 = (j : Int) - 1 - 1 := by omega
          clear hlet hcs hcb hl hc2 hT1
          (repeat first | simp only [go_sem, ↓reduceIte, Nat.reduceEqDiff, Nat.reduceAdd, reduceCtorEq] | with_reducible refine V_W ?_ | (with_reducible refine And.intro ?_ ?_; focus first | assumption | omega | decide | grind) | (with_reducible refine Br.mk ?_ ?_; focus (intros; omega)) | decide)
          try simp only [e1, hm, go_sem, ↓reduceIte, Nat.reduceEqDiff, Nat.reduceAdd, reduceCtorEq]
          rcases hl2 with ⟨rfl, e2⟩ | ⟨rfl, e2⟩ | ⟨rfl, e2⟩ | ⟨rfl, e2⟩
          all_goals
            (iterate 16 ((repeat first | simp only [go_sem, ↓reduceIte, Nat.reduceEqDiff, Nat.reduceAdd, reduceCtorEq] | with_reducible refine V_W ?_ | (with_reducible refine And.intro ?_ ?_; focus first | assumption | omega | decide | grind) | (with_reducible refine Br.mk ?_ ?_; focus (intros; omega)) | decide); (try with_reducible refine fun _ => ?_)))
            refine ⟨j - 1, by omega, by omega, ?_⟩
            rw [hst, e2, e3]
            exact Ref.to rfl (by simp [sub, fget])
        · obtain rfl : j = 0 := by omega
          rw [List.drop_zero]
          (repeat first | simp only [go_sem, ↓reduceIte, Nat.reduceEqDiff, Nat.reduceAdd, reduceCtorEq] | with_reducible refine V_W ?_ | (with_reducible refine And.intro ?_ ?_; focus first | assumption | omega | decide | grind) | (with_reducible refine Br.mk ?_ ?_; focus (intros; omega)) | decide)
          exact Ref.to rfl (by simp [sub, fget])
noncomputable def ctA (l : List UInt8) : List Int := if NtOk l then [(cnt (basL (ntO l)) (seedC (ntS l))).1, (cnt (basL (ntO l)) (seedC (ntS l))).2.1, (cnt (basL (ntO l)) (seedC (ntS l))).2.2] else []
theorem ctA_len (l : List UInt8) : (ctA l).length ≤ 3 := by
  unfold ctA
  split <;> simp
theorem specCt_c (l : List UInt8) (hs : l.length ≤ 1048576) : Pure Tryd.prog 20 [sV l] (.tup [.sl 0 1 0 (ctA l).length, i64 (ntK l)]) [some (intsC (ctA l))] := by
  have h := l15Seed_c l (by omega)
  have hl := nt_len l
  have hsl := nt_slen l
  by_cases hk : NtOk l
  · have e1 : ctA l = [(cnt (basL (ntO l)) (seedC (ntS l))).1, (cnt (basL (ntO l)) (seedC (ntS l))).2.1, (cnt (basL (ntO l)) (seedC (ntS l))).2.2] := if_pos hk
    have e2 : ntK l = 0 := if_pos hk
    have hb := l15Basic_c l (ntO l).length hl (by omega)
    rw [nt_take, nt_drop] at hb
    have hc := l15Counts_p (ntO l) (ntS l) hk.1 hk.2 (by omega)
    rw [if_pos hk] at h
    rw [e1, e2]
    generalize cnt (basL (ntO l)) (seedC (ntS l)) = c at hc ⊢
    refine pureRV ok20 rfl ?_; unfold c20
    (repeat first | simp only [go_sem, ↓reduceIte, Nat.reduceEqDiff, Nat.reduceAdd, reduceCtorEq] | with_reducible refine V_W ?_ | (with_reducible refine And.intro ?_ ?_; focus first | assumption | omega | decide | grind) | (with_reducible refine Br.mk ?_ ?_; focus (intros; omega)) | decide)
    refine pureC (h) (by simp only [go_sem, ↓reduceIte, Nat.reduceEqDiff, Nat.reduceAdd, reduceCtorEq] <;> rfl) (by first | rfl | simp only [go_sem, ↓reduceIte, Nat.reduceEqDiff, Nat.reduceAdd, reduceCtorEq]) ?_
    (iterate 16 ((repeat first | simp only [go_sem, ↓reduceIte, Nat.reduceEqDiff, Nat.reduceAdd, reduceCtorEq] | with_reducible refine V_W ?_ | (with_reducible refine And.intro ?_ ?_; focus first | assumption | omega | decide | grind) | (with_reducible refine Br.mk ?_ ?_; focus (intros; omega)) | decide); (try with_reducible refine fun _ => ?_)))
    refine pureC (hb) (by simp only [go_sem, ↓reduceIte, Nat.reduceEqDiff, Nat.reduceAdd, reduceCtorEq] <;> rfl) (by first | rfl | simp only [go_sem, ↓reduceIte, Nat.reduceEqDiff, Nat.reduceAdd, reduceCtorEq]) ?_
    (iterate 16 ((repeat first | simp only [go_sem, ↓reduceIte, Nat.reduceEqDiff, Nat.reduceAdd, reduceCtorEq] | with_reducible refine V_W ?_ | (with_reducible refine And.intro ?_ ?_; focus first | assumption | omega | decide | grind) | (with_reducible refine Br.mk ?_ ?_; focus (intros; omega)) | decide); (try with_reducible refine fun _ => ?_)))
    refine pureC (hc) (by simp only [go_sem, ↓reduceIte, Nat.reduceEqDiff, Nat.reduceAdd, reduceCtorEq] <;> rfl) (by first | rfl | simp only [go_sem, ↓reduceIte, Nat.reduceEqDiff, Nat.reduceAdd, reduceCtorEq]) ?_
    (iterate 16 ((repeat first | simp only [go_sem, ↓reduceIte, Nat.reduceEqDiff, Nat.reduceAdd, reduceCtorEq] | with_reducible refine V_W ?_ | (with_reducible refine And.intro ?_ ?_; focus first | assumption | omega | decide | grind) | (with_reducible refine Br.mk ?_ ?_; focus (intros; omega)) | decide); (try with_reducible refine fun _ => ?_)))
    exact Ref.to rfl (by simp [sub, fget])
  · have e1 : ctA l = [] := if_neg hk
    have e2 : ntK l = 6 := if_neg hk
    rw [if_neg hk] at h
    rw [e1, e2]
    refine pure_nil 1 ?_
    refine pureV0 ok20 rfl rfl ?_; unfold c20
    (repeat first | simp only [go_sem, ↓reduceIte, Nat.reduceEqDiff, Nat.reduceAdd, reduceCtorEq] | with_reducible refine V_W ?_ | (with_reducible refine And.intro ?_ ?_; focus first | assumption | omega | decide | grind) | (with_reducible refine Br.mk ?_ ?_; focus (intros; omega)) | decide)
    refine pureC (h) (by simp only [go_sem, ↓reduceIte, Nat.reduceEqDiff, Nat.reduceAdd, reduceCtorEq] <;> rfl) (by first | rfl | simp only [go_sem, ↓reduceIte, Nat.reduceEqDiff, Nat.reduceAdd, reduceCtorEq]) ?_
    (repeat first | simp only [go_sem, ↓reduceIte, Nat.reduceEqDiff, Nat.reduceAdd, reduceCtorEq] | with_reducible refine V_W ?_ | (with_reducible refine And.intro ?_ ?_; focus first | assumption | omega | decide | grind) | (with_reducible refine Br.mk ?_ ?_; focus (intros; omega)) | decide)
    refine ⟨fun _ => ?_, fun h => absurd h (by decide)⟩
    (repeat first | simp only [go_sem, ↓reduceIte, Nat.reduceEqDiff, Nat.reduceAdd, reduceCtorEq] | with_reducible refine V_W ?_ | (with_reducible refine And.intro ?_ ?_; focus first | assumption | omega | decide | grind) | (with_reducible refine Br.mk ?_ ?_; focus (intros; omega)) | decide)
theorem implCt_c (l : List UInt8) (hs : l.length ≤ 1048576) : PureG Tryd.prog (LV tp tq p q) 21 [sV l] (.tup [.sl 0 1 0 (ctA l).length, i64 (ntK l)]) [some (intsC (ctA l))] := by
  have h := parse_c tp tq p q l (by omega)
  have hsl := nt_slen l
  by_cases hk : NtOk l
  · have e1 : ctA l = [(cnt (basL (ntO l)) (seedC (ntS l))).1, (cnt (basL (ntO l)) (seedC (ntS l))).2.1, (cnt (basL (ntO l)) (seedC (ntS l))).2.2] := if_pos hk
    have e2 : ntK l = 0 := if_pos hk
    have hd := counts_p (ntO l) (ntS l) hk.1 hk.2
    rw [e1, e2]
    refine pureGV ok21 rfl ?_; unfold c21
    (repeat first | simp only [go_sem, ↓reduceIte, Nat.reduceEqDiff, Nat.reduceAdd, reduceCtorEq] | with_reducible refine V_W ?_ | (with_reducible refine And.intro ?_ ?_; focus first | assumption | omega | decide | grind) | (with_reducible refine Br.mk ?_ ?_; focus (intros; omega)) | decide)
    refine pureGEC 0 (h) rfl (by simp only [go_sem, ↓reduceIte, Nat.reduceEqDiff, Nat.reduceAdd, reduceCtorEq] <;> rfl) (fun o => by first | rfl | simp only [go_sem, ↓reduceIte, Nat.reduceEqDiff, Nat.reduceAdd, reduceCtorEq]) fun o ho => ?_
    obtain ⟨⟨a, b, c⟩, d⟩ := o
    obtain ⟨ho1, ho2⟩ := ho
    dsimp only at ho1 ho2
    subst ho1
    obtain ⟨rfl, rfl, rfl⟩ : a = ntO l ∧ b = ntS l ∧ c = (if (ntS l).length = 1 then 0 else numS (ntS l)) := by have := ho2 hk; simpa using this
    rw [decide_eq_true hk]
    clear ho2 h
    generalize (if (ntS l).length = 1 then 0 else numS (ntS l)) = z at hd ⊢
    generalize cnt (basL (ntO l)) (seedC (ntS l)) = c at hd ⊢
    (repeat first | simp only [go_sem, ↓reduceIte, Nat.reduceEqDiff, Nat.reduceAdd, reduceCtorEq] | with_reducible refine V_W ?_ | (with_reducible refine And.intro ?_ ?_; focus first | assumption | omega | decide | grind) | (with_reducible refine Br.mk ?_ ?_; focus (intros; omega)) | decide)
    refine pureC (hd) (by simp only [go_sem, ↓reduceIte, Nat.reduceEqDiff, Nat.reduceAdd, reduceCtorEq] <;> rfl) (by first | rfl | simp only [go_sem, ↓reduceIte, Nat.reduceEqDiff, Nat.reduceAdd, reduceCtorEq]) ?_
    (repeat first | simp only [go_sem, ↓reduceIte, Nat.reduceEqDiff, Nat.reduceAdd, reduceCtorEq] | with_reducible refine V_W ?_ | (with_reducible refine And.intro ?_ ?_; focus first | assumption | omega | decide | grind) | (with_reducible refine Br.mk ?_ ?_; focus (intros; omega)) | decide)
    exact Ref.gc [2] rfl (by simp only [go_sem, ↓reduceIte, Nat.reduceEqDiff, Nat.reduceAdd, reduceCtorEq]; rfl) (by simp [sub, fget, go_sem, ↓reduceIte, Nat.reduceEqDiff, Nat.reduceAdd, reduceCtorEq])
  · have e1 : ctA l = [] := if_neg hk
    have e2 : ntK l = 6 := if_neg hk
    rw [e1, e2]
    refine pureG_nil 1 ?_
    refine pureGV ok21 rfl ?_; unfold c21
    (repeat first | simp only [go_sem, ↓reduceIte, Nat.reduceEqDiff, Nat.reduceAdd, reduceCtorEq] | with_reducible refine V_W ?_ | (with_reducible refine And.intro ?_ ?_; focus first | assumption | omega | decide | grind) | (with_reducible refine Br.mk ?_ ?_; focus (intros; omega)) | decide)
    refine pureGEC 0 (h) rfl (by simp only [go_sem, ↓reduceIte, Nat.reduceEqDiff, Nat.reduceAdd, reduceCtorEq] <;> rfl) (fun o => by first | rfl | simp only [go_sem, ↓reduceIte, Nat.reduceEqDiff, Nat.reduceAdd, reduceCtorEq]) fun o ho => ?_
    obtain ⟨⟨a, b, c⟩, d⟩ := o
    obtain ⟨ho1, ho2⟩ := ho
    dsimp only at ho1 ho2
    subst ho1
    rw [decide_eq_false hk]
    (repeat first | simp only [go_sem, ↓reduceIte, Nat.reduceEqDiff, Nat.reduceAdd, reduceCtorEq] | with_reducible refine V_W ?_ | (with_reducible refine And.intro ?_ ?_; focus first | assumption | omega | decide | grind) | (with_reducible refine Br.mk ?_ ?_; focus (intros; omega)) | decide)
    exact Ref.gc [] rfl (by simp only [go_sem, ↓reduceIte, Nat.reduceEqDiff, Nat.reduceAdd, reduceCtorEq]) (by simp [sub, fget, go_sem, ↓reduceIte, Nat.reduceEqDiff, Nat.reduceAdd, reduceCtorEq])
end Go.Proofs.YtnddllekkdckaaaDoor
