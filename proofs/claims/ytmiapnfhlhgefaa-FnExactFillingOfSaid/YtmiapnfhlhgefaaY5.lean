/- Texts that belong together. -/
import Derived.Test.YtmiapnfhlhgefaaY4
set_option linter.unusedSimpArgs false
set_option linter.unusedVariables false
set_option maxRecDepth 100000
namespace Go.Proofs.Ytmiapnfhlhgefaa
open Go.Gov
open Classical

/-- What is left of a chain after all sums with some pivots. -/
def FiP (R : List Int) (B : List (List Int)) (i : Int) (c : List Int) (y : Pr) : Prop :=
  (∃ (ld : List Int → Option Int) (P : List Pr), Lead ld ∧ Piv ld (blw R B) (plc R (i + 1)).reverse P ∧ Adds P ([], c) y ∧ Done ld P y) ∧ sst y.1 ∧ inB y.1
def FiQ (R : List Int) (B : List (List Int)) (i : Int) (c : List Int) (y : Pr) : Prop := (c = [] ∧ y = ([], [])) ∨ FiP R B i c y
noncomputable def fiO (R : List Int) (B : List (List Int)) (i : Int) (c : List Int) : Option (List Int) :=
  if c = [] then some [] else if h : ∃ y, FiP R B i c y ∧ y.2 = [] then some (Classical.choose h).1 else none
theorem plc_nodup (R : List Int) (i : Int) : (plc R i).reverse.Nodup := by
  refine List.pairwise_reverse.2 ((plcN_sst R i R.length).imp fun {a b} h => ?_)
  exact fun e => by omega
theorem fiO_ok {r : Int} {R : List Int} {B : List (List Int)} (hp : IsPos r R B) {i : Int} {c : List Int} (hc : sst c) {y : Pr} (h : FiQ R B i c y) : (y.2 = [] → fiO R B i c = some y.1) ∧ (y.2 ≠ [] → fiO R B i c = none) := by
  have hf : ∀ e, sst (blw R B e) := blw_sst hp.rows.2
  rcases h with ⟨rfl, rfl⟩ | h
  · refine ⟨fun _ => ?_, fun h => absurd rfl h⟩
    unfold fiO
    rw [if_pos rfl]
  · have h0 := h
    obtain ⟨⟨ld, P, hl, hP, hA, hd⟩, _⟩ := h
    by_cases hc0 : c = []
    · subst hc0
      have h1 := fill_eq hl hl hP hP hf (plc_nodup R (i + 1)) sst_nil hA (Adds.refl ([], [])) hd (.inl rfl)
      have h2 := h1.1.2 rfl
      have h3 := h1.2 h2
      refine ⟨fun _ => ?_, fun h => absurd h2 h⟩
      unfold fiO
      rw [if_pos rfl, h3]
    · unfold fiO
      rw [if_neg hc0]
      refine ⟨fun h2 => ?_, fun h2 => ?_⟩
      · have hex : ∃ y, FiP R B i c y ∧ y.2 = [] := ⟨y, h0, h2⟩
        rw [dif_pos hex]
        obtain ⟨⟨⟨ld', P', hl', hP', hA', hd'⟩, _⟩, h4⟩ := Classical.choose_spec hex
        have h1 := fill_eq hl hl' hP hP' hf (plc_nodup R (i + 1)) hc hA hA' hd hd'
        rw [h1.2 h2]
      · rw [dif_neg]
        rintro ⟨y', ⟨⟨ld', P', hl', hP', hA', hd'⟩, _⟩, h4⟩
        have h1 := fill_eq hl hl' hP hP' hf (plc_nodup R (i + 1)) hc hA hA' hd hd'
        exact h2 (h1.1.2 h4)
theorem FiQ.len {R : List Int} {B : List (List Int)} {i : Int} {c : List Int} {y : Pr} (h : FiQ R B i c y) : y.1.length ≤ 500 := by
  rcases h with ⟨_, rfl⟩ | h
  · simp
  · exact len_500 h.2.1 h.2.2

theorem len_nil (D : List Int) : ((D.length : Int) == 0) = decide (D = []) := by cases D <;> simp <;> omega

set_option maxHeartbeats 2000000 in
theorem l16Filling_e (r : Int) (R : List Int) (B : List (List Int)) (i : Int) (c : List Int) (hp : IsPos r R B) (hr : ∀ xs ∈ B, xs.length ≤ 1048576) (hi : 0 ≤ i) (hi2 : i ≤ r) (hc : sst c) (bc : inB c) :
    PureE Try.prog 49 [posetA r R B, i64 i, ints c] (FiQ R B i c) (fun y => .tup [.sl 0 1 0 y.1.length, bl (decide (y.2 = []))]) (fun y => [some (intsC y.1)]) := by
  obtain ⟨a1, a2, a3, a4, a5⟩ := hp.rank
  have lc := len_500 hc bc
  refine pureEV [2] ok49 rfl ?_; unfold c49
  (repeat first | simp only [go_sem, ↓reduceIte, Nat.reduceEqDiff, Nat.reduceAdd, reduceCtorEq] | with_reducible refine V_W ?_ | (with_reducible refine And.intro ?_ ?_; focus first | assumption | omega | decide | grind) | (with_reducible refine Br.mk ?_ ?_; focus (intros; omega)) | decide)
  refine pureEC (l16Pivots_e r R B (i + 1) hp hr) (by simp only [go_sem, ↓reduceIte, Nat.reduceEqDiff, Nat.reduceAdd, reduceCtorEq] <;> rfl) (fun P => (by first | rfl | simp only [go_sem, ↓reduceIte, Nat.reduceEqDiff, Nat.reduceAdd, reduceCtorEq])) fun P hP => ?_
  obtain ⟨hPv, hPo, hPl⟩ := hP
  have hre := l16Reduce_e P c hPl hPo hc bc
  (repeat first | simp only [go_sem, ↓reduceIte, Nat.reduceEqDiff, Nat.reduceAdd, reduceCtorEq] | with_reducible refine V_W ?_ | (with_reducible refine And.intro ?_ ?_; focus first | assumption | omega | decide | grind) | (with_reducible refine Br.mk ?_ ?_; focus (intros; omega)) | decide)
  refine pureEZ (hre) (by (try simp only [go_sem, ↓reduceIte, Nat.reduceEqDiff, Nat.reduceAdd, reduceCtorEq, Nat.reduceMul, List.take_succ_cons, List.take_zero]); try rfl) fun o ho => ?_
  obtain ⟨C, D⟩ := o
  obtain ⟨hA, hdn, sC, sD, bC, bD⟩ := ho
  dsimp only at hdn sC sD bC bD
  have lD := len_500 sD bD
  (repeat first | simp only [go_sem, ↓reduceIte, Nat.reduceEqDiff, Nat.reduceAdd, reduceCtorEq] | with_reducible refine V_W ?_ | (with_reducible refine And.intro ?_ ?_; focus first | assumption | omega | decide | grind) | (with_reducible refine Br.mk ?_ ?_; focus (intros; omega)) | decide)
  rw [len_nil]
  exact ⟨(C, D), .inr ⟨⟨_, P, lead_head, hPv, hA, hdn⟩, sC, bC⟩, rfl, rfl⟩

set_option maxHeartbeats 2000000 in
theorem filling_e (r : Int) (R : List Int) (B : List (List Int)) (i : Int) (c : List Int) (hp : IsPos r R B) (hr : ∀ xs ∈ B, xs.length ≤ 1048576) (hi : 0 ≤ i) (hi2 : i ≤ r) (hc : sst c) (bc : inB c) :
    PureE Try.prog 52 [.pto [i64 r, ints R, mat B] 0, i64 i, ints c] (FiQ R B i c) (fun y => .tup [.sl 0 1 0 y.1.length, bl (decide (y.2 = []))]) (fun y => [some (intsC y.1)]) := by
  obtain ⟨a1, a2, a3, a4, a5⟩ := hp.rank
  have lc := len_500 hc bc
  by_cases hc0 : c = []
  · have h0 : Pure Try.prog 52 [.pto [i64 r, ints R, mat B] 0, i64 i, ints c] (.tup [nilS, bl true]) [] := by
      have hcl : c.length = 0 := by rw [hc0]; rfl
      refine pureV0 ok52 rfl rfl ?_; unfold c52
      (repeat first | simp only [go_sem, ↓reduceIte, Nat.reduceEqDiff, Nat.reduceAdd, reduceCtorEq] | with_reducible refine V_W ?_ | (with_reducible refine And.intro ?_ ?_; focus first | assumption | omega | decide | grind) | (with_reducible refine Br.mk ?_ ?_; focus (intros; omega)) | decide)
      refine ⟨fun h => ?_, fun h => absurd (by omega) h⟩
      (repeat first | simp only [go_sem, ↓reduceIte, Nat.reduceEqDiff, Nat.reduceAdd, reduceCtorEq] | with_reducible refine V_W ?_ | (with_reducible refine And.intro ?_ ?_; focus first | assumption | omega | decide | grind) | (with_reducible refine Br.mk ?_ ?_; focus (intros; omega)) | decide)
    have h1 := pure_nil 1 h0
    exact CallsX.mono h1 fun av H' ⟨e1, e2⟩ => ⟨([], []), .inl ⟨hc0, rfl⟩, e1, e2⟩
  · have hcl : 0 < c.length := List.length_pos_iff.2 hc0
    refine pureEV [1] ok52 rfl ?_; unfold c52
    (repeat first | simp only [go_sem, ↓reduceIte, Nat.reduceEqDiff, Nat.reduceAdd, reduceCtorEq] | with_reducible refine V_W ?_ | (with_reducible refine And.intro ?_ ?_; focus first | assumption | omega | decide | grind) | (with_reducible refine Br.mk ?_ ?_; focus (intros; omega)) | decide)
    refine fun _ => ?_
    (repeat first | simp only [go_sem, ↓reduceIte, Nat.reduceEqDiff, Nat.reduceAdd, reduceCtorEq] | with_reducible refine V_W ?_ | (with_reducible refine And.intro ?_ ?_; focus first | assumption | omega | decide | grind) | (with_reducible refine Br.mk ?_ ?_; focus (intros; omega)) | decide)
    refine pureEC (keptOf_e r R B (i + 1) hp hr) (by simp only [go_sem, ↓reduceIte, Nat.reduceEqDiff, Nat.reduceAdd, reduceCtorEq] <;> rfl) (fun m => (by first | rfl | simp only [go_sem, ↓reduceIte, Nat.reduceEqDiff, Nat.reduceAdd, reduceCtorEq])) fun m hm => ?_
    obtain ⟨hPv, hPo, hPl⟩ := hm
    have hre := reduce_e m c hPo hc bc
    (repeat first | simp only [go_sem, ↓reduceIte, Nat.reduceEqDiff, Nat.reduceAdd, reduceCtorEq] | with_reducible refine V_W ?_ | (with_reducible refine And.intro ?_ ?_; focus first | assumption | omega | decide | grind) | (with_reducible refine Br.mk ?_ ?_; focus (intros; omega)) | decide)
    refine pureEZ (hre) (by (try simp only [go_sem, ↓reduceIte, Nat.reduceEqDiff, Nat.reduceAdd, reduceCtorEq, Nat.reduceMul, List.take_succ_cons, List.take_zero]); try rfl) fun o ho => ?_
    obtain ⟨b, C, D⟩ := o
    obtain ⟨hA, hdn, sC, sD, bC, bD⟩ := ho
    dsimp only at hA hdn sC sD bC bD ⊢
    have lD := len_500 sD bD
    cases b
    all_goals simp only [cond_true, cond_false]
    · (repeat first | simp only [go_sem, ↓reduceIte, Nat.reduceEqDiff, Nat.reduceAdd, reduceCtorEq] | with_reducible refine V_W ?_ | (with_reducible refine And.intro ?_ ?_; focus first | assumption | omega | decide | grind) | (with_reducible refine Br.mk ?_ ?_; focus (intros; omega)) | decide)
      rw [len_nil]
      exact ⟨(C, D), .inr ⟨⟨_, _, lead_last, hPv, hA, hdn⟩, sC, bC⟩, rfl, rfl⟩
    · (repeat first | simp only [go_sem, ↓reduceIte, Nat.reduceEqDiff, Nat.reduceAdd, reduceCtorEq] | with_reducible refine V_W ?_ | (with_reducible refine And.intro ?_ ?_; focus first | assumption | omega | decide | grind) | (with_reducible refine Br.mk ?_ ?_; focus (intros; omega)) | decide)
      rw [len_nil]
      exact ⟨(C, D), .inr ⟨⟨_, _, lead_last, hPv, hA, hdn⟩, sC, bC⟩, rfl, rfl⟩
end Go.Proofs.Ytmiapnfhlhgefaa
set_option maxRecDepth 100000
namespace Go.Proofs.Ytmiapnfhlhgefaa
open Go.Gov
open Classical

theorem ChOk.inB {R : List Int} {i : Int} {c : List Int} (h : ChOk R i c) (hR : R.length ≤ 500) : inB c := fun e he => by
  obtain ⟨k, hk, hke⟩ := List.mem_iff_getElem.1 he
  have := h.in k hk
  rw [getD_el c k hk, hke] at this
  omega
section
variable (r : Int) (R : List Int) (B : List (List Int)) (i : Int) (a b c : List Int)
noncomputable def fvV : List Int := if chC r R B i [c] = 0 then (fiO R B i c).getD [] else []
noncomputable def fvC : Int := if chC r R B i [c] = 0 then if (fiO R B i c).isSome then 0 else 4 else chC r R B i [c]

theorem fvV_len : (fvV r R B i c).length ≤ 1099511627776 := by
  unfold fvV
  split
  · unfold fiO
    split
    · simp
    · split
      · rename_i h
        have h1 := Classical.choose_spec h
        have h2 := len_500 h1.1.2.1 h1.1.2.2
        simp only [Option.getD_some]
        omega
      · simp
  · simp

set_option maxHeartbeats 2000000 in
theorem specFi_c (h1 : R.length ≤ 1048576) (hl : B.length ≤ 1048576) (hr : ∀ xs ∈ B, xs.length ≤ 1048576) (hc : c.length ≤ 1048576) : Pure Try.prog 26 [posetA r R B, i64 i, ints c] (.tup [.sl 0 1 0 (fvV r R B i c).length, i64 (fvC r R B i c)]) [some (intsC (fvV r R B i c))] := by
  have g3 : ∀ xs ∈ B, xs.length ≤ 1099511627776 := fun xs hx => by have := hr xs hx; omega
  unfold fvV fvC
  by_cases h0 : chC r R B i [c] = 0
  · obtain ⟨hp, hi, hcs⟩ := chC_zero h0
    have hck := hcs c (by simp)
    obtain ⟨a1, a2, a3, a4, hrk⟩ := hp.rank
    have hib := hck.inB a3
    have hfe := l16Filling_e r R B i c hp hr hi.1 (by omega) hck.sst hib
    rw [if_pos h0, if_pos h0]
    cases hO : fiO R B i c with
    | none =>
      simp only [Option.getD_none, Option.isSome_none, Bool.false_eq_true, if_false]
      refine pure_nil 1 ?_
      refine pureV0 ok26 rfl rfl ?_; unfold c26
      (repeat first | simp only [go_sem, ↓reduceIte, Nat.reduceEqDiff, Nat.reduceAdd, reduceCtorEq] | with_reducible refine V_W ?_ | (with_reducible refine And.intro ?_ ?_; focus first | assumption | omega | decide | grind) | (with_reducible refine Br.mk ?_ ?_; focus (intros; omega)) | decide)
      refine pureC (l16Code_c r R B i c (by omega) (by omega) g3 (by omega)) (by simp only [go_sem, ↓reduceIte, Nat.reduceEqDiff, Nat.reduceAdd, reduceCtorEq] <;> rfl) (by first | rfl | simp only [go_sem, ↓reduceIte, Nat.reduceEqDiff, Nat.reduceAdd, reduceCtorEq]) ?_
      generalize chC r R B i [c] = C at h0
      (repeat first | simp only [go_sem, ↓reduceIte, Nat.reduceEqDiff, Nat.reduceAdd, reduceCtorEq] | with_reducible refine V_W ?_ | (with_reducible refine And.intro ?_ ?_; focus first | assumption | omega | decide | grind) | (with_reducible refine Br.mk ?_ ?_; focus (intros; omega)) | decide)
      (first | with_reducible refine fun _ => ?_ | refine ⟨fun _ => ?_, fun hx => absurd hx (by simp_all)⟩ | refine ⟨fun hx => absurd hx (by simp_all), fun _ => ?_⟩)
      (repeat first | simp only [go_sem, ↓reduceIte, Nat.reduceEqDiff, Nat.reduceAdd, reduceCtorEq] | with_reducible refine V_W ?_ | (with_reducible refine And.intro ?_ ?_; focus first | assumption | omega | decide | grind) | (with_reducible refine Br.mk ?_ ?_; focus (intros; omega)) | decide)
      refine pureEC (hfe) (by simp only [go_sem, ↓reduceIte, Nat.reduceEqDiff, Nat.reduceAdd, reduceCtorEq] <;> rfl) (fun o => by first | rfl | simp only [go_sem, ↓reduceIte, Nat.reduceEqDiff, Nat.reduceAdd, reduceCtorEq]) fun o ho => ?_
      have hok := fiO_ok hp hck.sst ho
      have hne : o.2 ≠ [] := fun h => by
        have := hok.1 h
        rw [hO] at this
        cases this
      have hnd : decide (o.2 = []) = false := decide_eq_false hne
      simp only [hnd, go_sem, ↓reduceIte, Nat.reduceEqDiff, Nat.reduceAdd, reduceCtorEq]
      (repeat first | simp only [go_sem, ↓reduceIte, Nat.reduceEqDiff, Nat.reduceAdd, reduceCtorEq] | with_reducible refine V_W ?_ | (with_reducible refine And.intro ?_ ?_; focus first | assumption | omega | decide | grind) | (with_reducible refine Br.mk ?_ ?_; focus (intros; omega)) | decide)
    | some l =>
      simp only [Option.getD_some, Option.isSome_some, if_true]
      refine pureVg [2] ok26 rfl ?_; unfold c26
      (repeat first | simp only [go_sem, ↓reduceIte, Nat.reduceEqDiff, Nat.reduceAdd, reduceCtorEq] | with_reducible refine V_W ?_ | (with_reducible refine And.intro ?_ ?_; focus first | assumption | omega | decide | grind) | (with_reducible refine Br.mk ?_ ?_; focus (intros; omega)) | decide)
      refine pureC (l16Code_c r R B i c (by omega) (by omega) g3 (by omega)) (by simp only [go_sem, ↓reduceIte, Nat.reduceEqDiff, Nat.reduceAdd, reduceCtorEq] <;> rfl) (by first | rfl | simp only [go_sem, ↓reduceIte, Nat.reduceEqDiff, Nat.reduceAdd, reduceCtorEq]) ?_
      generalize chC r R B i [c] = C at h0
      (repeat first | simp only [go_sem, ↓reduceIte, Nat.reduceEqDiff, Nat.reduceAdd, reduceCtorEq] | with_reducible refine V_W ?_ | (with_reducible refine And.intro ?_ ?_; focus first | assumption | omega | decide | grind) | (with_reducible refine Br.mk ?_ ?_; focus (intros; omega)) | decide)
      (first | with_reducible refine fun _ => ?_ | refine ⟨fun _ => ?_, fun hx => absurd hx (by simp_all)⟩ | refine ⟨fun hx => absurd hx (by simp_all), fun _ => ?_⟩)
      (repeat first | simp only [go_sem, ↓reduceIte, Nat.reduceEqDiff, Nat.reduceAdd, reduceCtorEq] | with_reducible refine V_W ?_ | (with_reducible refine And.intro ?_ ?_; focus first | assumption | omega | decide | grind) | (with_reducible refine Br.mk ?_ ?_; focus (intros; omega)) | decide)
      refine pureEC (hfe) (by simp only [go_sem, ↓reduceIte, Nat.reduceEqDiff, Nat.reduceAdd, reduceCtorEq] <;> rfl) (fun o => by first | rfl | simp only [go_sem, ↓reduceIte, Nat.reduceEqDiff, Nat.reduceAdd, reduceCtorEq]) fun o ho => ?_
      have hok := fiO_ok hp hck.sst ho
      have hol := ho.len
      have hne : o.2 = [] := Classical.byContradiction fun h => by
        have := hok.2 h
        rw [hO] at this
        cases this
      have hl2 : o.1 = l := by
        have := hok.1 hne
        rw [hO] at this
        exact (Option.some.inj this).symm
      have hnd : decide (o.2 = []) = true := decide_eq_true hne
      rw [hl2] at hol
      simp only [hnd, hl2, go_sem, ↓reduceIte, Nat.reduceEqDiff, Nat.reduceAdd, reduceCtorEq]
      (repeat first | simp only [go_sem, ↓reduceIte, Nat.reduceEqDiff, Nat.reduceAdd, reduceCtorEq] | with_reducible refine V_W ?_ | (with_reducible refine And.intro ?_ ?_; focus first | assumption | omega | decide | grind) | (with_reducible refine Br.mk ?_ ?_; focus (intros; omega)) | decide)
      refine pureC (own_c l (by omega)) (by simp only [go_sem, ↓reduceIte, Nat.reduceEqDiff, Nat.reduceAdd, reduceCtorEq] <;> rfl) (by first | rfl | simp only [go_sem, ↓reduceIte, Nat.reduceEqDiff, Nat.reduceAdd, reduceCtorEq]) ?_
      (repeat first | simp only [go_sem, ↓reduceIte, Nat.reduceEqDiff, Nat.reduceAdd, reduceCtorEq] | with_reducible refine V_W ?_ | (with_reducible refine And.intro ?_ ?_; focus first | assumption | omega | decide | grind) | (with_reducible refine Br.mk ?_ ?_; focus (intros; omega)) | decide)
      (try simp only [go_sem, ↓reduceIte, Nat.reduceEqDiff, Nat.reduceAdd, reduceCtorEq, and_self])
  · rw [if_neg h0, if_neg h0]
    refine pure_nil 1 ?_
    refine pureV0 ok26 rfl rfl ?_; unfold c26
    (repeat first | simp only [go_sem, ↓reduceIte, Nat.reduceEqDiff, Nat.reduceAdd, reduceCtorEq] | with_reducible refine V_W ?_ | (with_reducible refine And.intro ?_ ?_; focus first | assumption | omega | decide | grind) | (with_reducible refine Br.mk ?_ ?_; focus (intros; omega)) | decide)
    refine pureC (l16Code_c r R B i c (by omega) (by omega) g3 (by omega)) (by simp only [go_sem, ↓reduceIte, Nat.reduceEqDiff, Nat.reduceAdd, reduceCtorEq] <;> rfl) (by first | rfl | simp only [go_sem, ↓reduceIte, Nat.reduceEqDiff, Nat.reduceAdd, reduceCtorEq]) ?_
    generalize chC r R B i [c] = C at h0
    (repeat first | simp only [go_sem, ↓reduceIte, Nat.reduceEqDiff, Nat.reduceAdd, reduceCtorEq] | with_reducible refine V_W ?_ | (with_reducible refine And.intro ?_ ?_; focus first | assumption | omega | decide | grind) | (with_reducible refine Br.mk ?_ ?_; focus (intros; omega)) | decide)
    (first | with_reducible refine fun _ => ?_ | refine ⟨fun _ => ?_, fun hx => absurd hx (by simp_all)⟩ | refine ⟨fun hx => absurd hx (by simp_all), fun _ => ?_⟩)
    (repeat first | simp only [go_sem, ↓reduceIte, Nat.reduceEqDiff, Nat.reduceAdd, reduceCtorEq] | with_reducible refine V_W ?_ | (with_reducible refine And.intro ?_ ?_; focus first | assumption | omega | decide | grind) | (with_reducible refine Br.mk ?_ ?_; focus (intros; omega)) | decide)

set_option maxHeartbeats 2000000 in
theorem implFi_c (h1 : R.length ≤ 1048576) (hl : B.length ≤ 1048576) (hr : ∀ xs ∈ B, xs.length ≤ 1048576) (hc : c.length ≤ 1048576) : Pure Try.prog 27 [posetA r R B, i64 i, ints c] (.tup [.sl 0 1 0 (fvV r R B i c).length, i64 (fvC r R B i c)]) [some (intsC (fvV r R B i c))] := by
  have g3 : ∀ xs ∈ B, xs.length ≤ 1099511627776 := fun xs hx => by have := hr xs hx; omega
  unfold fvV fvC
  by_cases h0 : chC r R B i [c] = 0
  · obtain ⟨hp, hi, hcs⟩ := chC_zero h0
    have hck := hcs c (by simp)
    obtain ⟨a1, a2, a3, a4, hrk⟩ := hp.rank
    have hib := hck.inB a3
    have hfe := filling_e r R B i c hp hr hi.1 (by omega) hck.sst hib
    rw [if_pos h0, if_pos h0]
    cases hO : fiO R B i c with
    | none =>
      simp only [Option.getD_none, Option.isSome_none, Bool.false_eq_true, if_false]
      refine pure_nil 1 ?_
      refine pureV0 ok27 rfl rfl ?_; unfold c27
      (repeat first | simp only [go_sem, ↓reduceIte, Nat.reduceEqDiff, Nat.reduceAdd, reduceCtorEq] | with_reducible refine V_W ?_ | (with_reducible refine And.intro ?_ ?_; focus first | assumption | omega | decide | grind) | (with_reducible refine Br.mk ?_ ?_; focus (intros; omega)) | decide)
      refine pureC (chainCode_c r R B i [c] (by omega) (by omega) g3 (by simp) (by simp; omega)) (by (try simp only [go_sem, ↓reduceIte, Nat.reduceEqDiff, Nat.reduceAdd, reduceCtorEq, Nat.reduceMul, List.take_succ_cons, List.take_zero, List.take_nil]); try rfl) (by first | rfl | simp only [go_sem, ↓reduceIte, Nat.reduceEqDiff, Nat.reduceAdd, reduceCtorEq]) ?_
      generalize chC r R B i [c] = C at h0
      (repeat first | simp only [go_sem, ↓reduceIte, Nat.reduceEqDiff, Nat.reduceAdd, reduceCtorEq] | with_reducible refine V_W ?_ | (with_reducible refine And.intro ?_ ?_; focus first | assumption | omega | decide | grind) | (with_reducible refine Br.mk ?_ ?_; focus (intros; omega)) | decide)
      (first | with_reducible refine fun _ => ?_ | refine ⟨fun _ => ?_, fun hx => absurd hx (by simp_all)⟩ | refine ⟨fun hx => absurd hx (by simp_all), fun _ => ?_⟩)
      (repeat first | simp only [go_sem, ↓reduceIte, Nat.reduceEqDiff, Nat.reduceAdd, reduceCtorEq] | with_reducible refine V_W ?_ | (with_reducible refine And.intro ?_ ?_; focus first | assumption | omega | decide | grind) | (with_reducible refine Br.mk ?_ ?_; focus (intros; omega)) | decide)
      refine pureEC (hfe) (by simp only [go_sem, ↓reduceIte, Nat.reduceEqDiff, Nat.reduceAdd, reduceCtorEq] <;> rfl) (fun o => by first | rfl | simp only [go_sem, ↓reduceIte, Nat.reduceEqDiff, Nat.reduceAdd, reduceCtorEq]) fun o ho => ?_
      have hok := fiO_ok hp hck.sst ho
      have hne : o.2 ≠ [] := fun h => by
        have := hok.1 h
        rw [hO] at this
        cases this
      have hnd : decide (o.2 = []) = false := decide_eq_false hne
      simp only [hnd, go_sem, ↓reduceIte, Nat.reduceEqDiff, Nat.reduceAdd, reduceCtorEq]
      (repeat first | simp only [go_sem, ↓reduceIte, Nat.reduceEqDiff, Nat.reduceAdd, reduceCtorEq] | with_reducible refine V_W ?_ | (with_reducible refine And.intro ?_ ?_; focus first | assumption | omega | decide | grind) | (with_reducible refine Br.mk ?_ ?_; focus (intros; omega)) | decide)
    | some l =>
      simp only [Option.getD_some, Option.isSome_some, if_true]
      refine pureVg [2] ok27 rfl ?_; unfold c27
      (repeat first | simp only [go_sem, ↓reduceIte, Nat.reduceEqDiff, Nat.reduceAdd, reduceCtorEq] | with_reducible refine V_W ?_ | (with_reducible refine And.intro ?_ ?_; focus first | assumption | omega | decide | grind) | (with_reducible refine Br.mk ?_ ?_; focus (intros; omega)) | decide)
      refine pureC (chainCode_c r R B i [c] (by omega) (by omega) g3 (by simp) (by simp; omega)) (by (try simp only [go_sem, ↓reduceIte, Nat.reduceEqDiff, Nat.reduceAdd, reduceCtorEq, Nat.reduceMul, List.take_succ_cons, List.take_zero, List.take_nil]); try rfl) (by first | rfl | simp only [go_sem, ↓reduceIte, Nat.reduceEqDiff, Nat.reduceAdd, reduceCtorEq]) ?_
      generalize chC r R B i [c] = C at h0
      (repeat first | simp only [go_sem, ↓reduceIte, Nat.reduceEqDiff, Nat.reduceAdd, reduceCtorEq] | with_reducible refine V_W ?_ | (with_reducible refine And.intro ?_ ?_; focus first | assumption | omega | decide | grind) | (with_reducible refine Br.mk ?_ ?_; focus (intros; omega)) | decide)
      (first | with_reducible refine fun _ => ?_ | refine ⟨fun _ => ?_, fun hx => absurd hx (by simp_all)⟩ | refine ⟨fun hx => absurd hx (by simp_all), fun _ => ?_⟩)
      (repeat first | simp only [go_sem, ↓reduceIte, Nat.reduceEqDiff, Nat.reduceAdd, reduceCtorEq] | with_reducible refine V_W ?_ | (with_reducible refine And.intro ?_ ?_; focus first | assumption | omega | decide | grind) | (with_reducible refine Br.mk ?_ ?_; focus (intros; omega)) | decide)
      refine pureEC (hfe) (by simp only [go_sem, ↓reduceIte, Nat.reduceEqDiff, Nat.reduceAdd, reduceCtorEq] <;> rfl) (fun o => by first | rfl | simp only [go_sem, ↓reduceIte, Nat.reduceEqDiff, Nat.reduceAdd, reduceCtorEq]) fun o ho => ?_
      have hok := fiO_ok hp hck.sst ho
      have hne : o.2 = [] := Classical.byContradiction fun h => by
        have := hok.2 h
        rw [hO] at this
        cases this
      have hl2 : o.1 = l := by
        have := hok.1 hne
        rw [hO] at this
        exact (Option.some.inj this).symm
      have hnd : decide (o.2 = []) = true := decide_eq_true hne
      simp only [hnd, hl2, go_sem, ↓reduceIte, Nat.reduceEqDiff, Nat.reduceAdd, reduceCtorEq]
      (repeat first | simp only [go_sem, ↓reduceIte, Nat.reduceEqDiff, Nat.reduceAdd, reduceCtorEq] | with_reducible refine V_W ?_ | (with_reducible refine And.intro ?_ ?_; focus first | assumption | omega | decide | grind) | (with_reducible refine Br.mk ?_ ?_; focus (intros; omega)) | decide)
      (try simp only [go_sem, ↓reduceIte, Nat.reduceEqDiff, Nat.reduceAdd, reduceCtorEq, and_self])
  · rw [if_neg h0, if_neg h0]
    refine pure_nil 1 ?_
    refine pureV0 ok27 rfl rfl ?_; unfold c27
    (repeat first | simp only [go_sem, ↓reduceIte, Nat.reduceEqDiff, Nat.reduceAdd, reduceCtorEq] | with_reducible refine V_W ?_ | (with_reducible refine And.intro ?_ ?_; focus first | assumption | omega | decide | grind) | (with_reducible refine Br.mk ?_ ?_; focus (intros; omega)) | decide)
    refine pureC (chainCode_c r R B i [c] (by omega) (by omega) g3 (by simp) (by simp; omega)) (by (try simp only [go_sem, ↓reduceIte, Nat.reduceEqDiff, Nat.reduceAdd, reduceCtorEq, Nat.reduceMul, List.take_succ_cons, List.take_zero, List.take_nil]); try rfl) (by first | rfl | simp only [go_sem, ↓reduceIte, Nat.reduceEqDiff, Nat.reduceAdd, reduceCtorEq]) ?_
    generalize chC r R B i [c] = C at h0
    (repeat first | simp only [go_sem, ↓reduceIte, Nat.reduceEqDiff, Nat.reduceAdd, reduceCtorEq] | with_reducible refine V_W ?_ | (with_reducible refine And.intro ?_ ?_; focus first | assumption | omega | decide | grind) | (with_reducible refine Br.mk ?_ ?_; focus (intros; omega)) | decide)
    (first | with_reducible refine fun _ => ?_ | refine ⟨fun _ => ?_, fun hx => absurd hx (by simp_all)⟩ | refine ⟨fun hx => absurd hx (by simp_all), fun _ => ?_⟩)
    (repeat first | simp only [go_sem, ↓reduceIte, Nat.reduceEqDiff, Nat.reduceAdd, reduceCtorEq] | with_reducible refine V_W ?_ | (with_reducible refine And.intro ?_ ?_; focus first | assumption | omega | decide | grind) | (with_reducible refine Br.mk ?_ ?_; focus (intros; omega)) | decide)

/-! ### AreHomologous -/
noncomputable def ahB : Bool := if chC r R B i [a, b] = 0 then (fiO R B i (sumL a b)).isSome else false

set_option maxHeartbeats 2000000 in
theorem specAh_c (h1 : R.length ≤ 1048576) (hl : B.length ≤ 1048576) (hr : ∀ xs ∈ B, xs.length ≤ 1048576) (ha : a.length ≤ 1048576) (hb : b.length ≤ 1048576) : Pure Try.prog 23 [posetA r R B, i64 i, ints a, ints b] (.tup [bl (ahB r R B i a b), i64 (chC r R B i [a, b])]) [] := by
  have g3 : ∀ xs ∈ B, xs.length ≤ 1099511627776 := fun xs hx => by have := hr xs hx; omega
  unfold ahB
  by_cases h0 : chC r R B i [a, b] = 0
  · obtain ⟨hp, hi, hcs⟩ := chC_zero h0
    have ca := hcs a (by simp)
    have cb := hcs b (by simp)
    obtain ⟨a1, a2, a3, a4, hrk⟩ := hp.rank
    have sc := sum_sst ca.sst cb.sst
    have hib := inB_sum ca.sst cb.sst (ca.inB a3) (cb.inB a3)
    have hfe := l16Filling_e r R B i (sumL a b) hp hr hi.1 (by omega) sc hib
    rw [if_pos h0]
    refine pureV0 ok23 rfl rfl ?_; unfold c23
    (repeat first | simp only [go_sem, ↓reduceIte, Nat.reduceEqDiff, Nat.reduceAdd, reduceCtorEq] | with_reducible refine V_W ?_ | (with_reducible refine And.intro ?_ ?_; focus first | assumption | omega | decide | grind) | (with_reducible refine Br.mk ?_ ?_; focus (intros; omega)) | decide)
    refine pureC (l16Two_c r R B i a b (by omega) (by omega) g3 (by omega) (by omega)) (by simp only [go_sem, ↓reduceIte, Nat.reduceEqDiff, Nat.reduceAdd, reduceCtorEq] <;> rfl) (by first | rfl | simp only [go_sem, ↓reduceIte, Nat.reduceEqDiff, Nat.reduceAdd, reduceCtorEq]) ?_
    generalize chC r R B i [a, b] = C at h0
    (repeat first | simp only [go_sem, ↓reduceIte, Nat.reduceEqDiff, Nat.reduceAdd, reduceCtorEq] | with_reducible refine V_W ?_ | (with_reducible refine And.intro ?_ ?_; focus first | assumption | omega | decide | grind) | (with_reducible refine Br.mk ?_ ?_; focus (intros; omega)) | decide)
    (first | with_reducible refine fun _ => ?_ | refine ⟨fun _ => ?_, fun hx => absurd hx (by simp_all)⟩ | refine ⟨fun hx => absurd hx (by simp_all), fun _ => ?_⟩)
    (repeat first | simp only [go_sem, ↓reduceIte, Nat.reduceEqDiff, Nat.reduceAdd, reduceCtorEq] | with_reducible refine V_W ?_ | (with_reducible refine And.intro ?_ ?_; focus first | assumption | omega | decide | grind) | (with_reducible refine Br.mk ?_ ?_; focus (intros; omega)) | decide)
    refine pureC (l16Sum_p a b (by omega) (by omega)) (by simp only [go_sem, ↓reduceIte, Nat.reduceEqDiff, Nat.reduceAdd, reduceCtorEq] <;> rfl) (by first | rfl | simp only [go_sem, ↓reduceIte, Nat.reduceEqDiff, Nat.reduceAdd, reduceCtorEq]) ?_
    (repeat first | simp only [go_sem, ↓reduceIte, Nat.reduceEqDiff, Nat.reduceAdd, reduceCtorEq] | with_reducible refine V_W ?_ | (with_reducible refine And.intro ?_ ?_; focus first | assumption | omega | decide | grind) | (with_reducible refine Br.mk ?_ ?_; focus (intros; omega)) | decide)
    refine pureEC (hfe) (by simp only [go_sem, ↓reduceIte, Nat.reduceEqDiff, Nat.reduceAdd, reduceCtorEq] <;> rfl) (fun o => by first | rfl | simp only [go_sem, ↓reduceIte, Nat.reduceEqDiff, Nat.reduceAdd, reduceCtorEq]) fun o ho => ?_
    have hok := fiO_ok hp sc ho
    have hnd : decide (o.2 = []) = (fiO R B i (sumL a b)).isSome := by
      by_cases h : o.2 = []
      · rw [hok.1 h, decide_eq_true h]; rfl
      · rw [hok.2 h, decide_eq_false h]; rfl
    simp only [hnd, go_sem, ↓reduceIte, Nat.reduceEqDiff, Nat.reduceAdd, reduceCtorEq]
    (repeat first | simp only [go_sem, ↓reduceIte, Nat.reduceEqDiff, Nat.reduceAdd, reduceCtorEq] | with_reducible refine V_W ?_ | (with_reducible refine And.intro ?_ ?_; focus first | assumption | omega | decide | grind) | (with_reducible refine Br.mk ?_ ?_; focus (intros; omega)) | decide)
    (try simp only [h0])
  · rw [if_neg h0]
    refine pureV0 ok23 rfl rfl ?_; unfold c23
    (repeat first | simp only [go_sem, ↓reduceIte, Nat.reduceEqDiff, Nat.reduceAdd, reduceCtorEq] | with_reducible refine V_W ?_ | (with_reducible refine And.intro ?_ ?_; focus first | assumption | omega | decide | grind) | (with_reducible refine Br.mk ?_ ?_; focus (intros; omega)) | decide)
    refine pureC (l16Two_c r R B i a b (by omega) (by omega) g3 (by omega) (by omega)) (by simp only [go_sem, ↓reduceIte, Nat.reduceEqDiff, Nat.reduceAdd, reduceCtorEq] <;> rfl) (by first | rfl | simp only [go_sem, ↓reduceIte, Nat.reduceEqDiff, Nat.reduceAdd, reduceCtorEq]) ?_
    generalize chC r R B i [a, b] = C at h0
    (repeat first | simp only [go_sem, ↓reduceIte, Nat.reduceEqDiff, Nat.reduceAdd, reduceCtorEq] | with_reducible refine V_W ?_ | (with_reducible refine And.intro ?_ ?_; focus first | assumption | omega | decide | grind) | (with_reducible refine Br.mk ?_ ?_; focus (intros; omega)) | decide)
    (first | with_reducible refine fun _ => ?_ | refine ⟨fun _ => ?_, fun hx => absurd hx (by simp_all)⟩ | refine ⟨fun hx => absurd hx (by simp_all), fun _ => ?_⟩)
    (repeat first | simp only [go_sem, ↓reduceIte, Nat.reduceEqDiff, Nat.reduceAdd, reduceCtorEq] | with_reducible refine V_W ?_ | (with_reducible refine And.intro ?_ ?_; focus first | assumption | omega | decide | grind) | (with_reducible refine Br.mk ?_ ?_; focus (intros; omega)) | decide)

set_option maxHeartbeats 2000000 in
theorem implAh_c (h1 : R.length ≤ 1048576) (hl : B.length ≤ 1048576) (hr : ∀ xs ∈ B, xs.length ≤ 1048576) (ha : a.length ≤ 1048576) (hb : b.length ≤ 1048576) : Pure Try.prog 25 [posetA r R B, i64 i, ints a, ints b] (.tup [bl (ahB r R B i a b), i64 (chC r R B i [a, b])]) [] := by
  have g3 : ∀ xs ∈ B, xs.length ≤ 1099511627776 := fun xs hx => by have := hr xs hx; omega
  have g4 : ∀ xs ∈ [a, b], xs.length ≤ 1099511627776 := fun xs hx => by
    simp only [List.mem_cons, List.not_mem_nil, or_false] at hx
    rcases hx with rfl | rfl <;> omega
  have htot : tot [a, b] ≤ 1099511627776 := by simp [tot]; omega
  unfold ahB
  by_cases h0 : chC r R B i [a, b] = 0
  · obtain ⟨hp, hi, hcs⟩ := chC_zero h0
    have ca := hcs a (by simp)
    have cb := hcs b (by simp)
    obtain ⟨a1, a2, a3, a4, hrk⟩ := hp.rank
    have sc := sum_sst ca.sst cb.sst
    have hib := inB_sum ca.sst cb.sst (ca.inB a3) (cb.inB a3)
    have hfe := filling_e r R B i (sumL a b) hp hr hi.1 (by omega) sc hib
    have hodd := odd_sum ca.sst cb.sst
    have hfl : [a, b].flatten = a ++ b := by simp
    have hfl2 : [a, b].flatten.length ≤ 1099511627776 := by rw [hfl, List.length_append]; omega
    rw [← hfl] at hodd
    rw [if_pos h0]
    refine pureV0 ok25 rfl rfl ?_; unfold c25
    (repeat first | simp only [go_sem, ↓reduceIte, Nat.reduceEqDiff, Nat.reduceAdd, reduceCtorEq] | with_reducible refine V_W ?_ | (with_reducible refine And.intro ?_ ?_; focus first | assumption | omega | decide | grind) | (with_reducible refine Br.mk ?_ ?_; focus (intros; omega)) | decide)
    refine pureC (chainCode_c r R B i [a, b] (by omega) (by omega) g3 (by simp) g4) (by (try simp only [go_sem, ↓reduceIte, Nat.reduceEqDiff, Nat.reduceAdd, reduceCtorEq, Nat.reduceMul, List.take_succ_cons, List.take_zero, List.take_nil]); try rfl) (by first | rfl | simp only [go_sem, ↓reduceIte, Nat.reduceEqDiff, Nat.reduceAdd, reduceCtorEq]) ?_
    generalize chC r R B i [a, b] = C at h0
    (repeat first | simp only [go_sem, ↓reduceIte, Nat.reduceEqDiff, Nat.reduceAdd, reduceCtorEq] | with_reducible refine V_W ?_ | (with_reducible refine And.intro ?_ ?_; focus first | assumption | omega | decide | grind) | (with_reducible refine Br.mk ?_ ?_; focus (intros; omega)) | decide)
    (first | with_reducible refine fun _ => ?_ | refine ⟨fun _ => ?_, fun hx => absurd hx (by simp_all)⟩ | refine ⟨fun hx => absurd hx (by simp_all), fun _ => ?_⟩)
    (repeat first | simp only [go_sem, ↓reduceIte, Nat.reduceEqDiff, Nat.reduceAdd, reduceCtorEq] | with_reducible refine V_W ?_ | (with_reducible refine And.intro ?_ ?_; focus first | assumption | omega | decide | grind) | (with_reducible refine Br.mk ?_ ?_; focus (intros; omega)) | decide)
    refine pureC (concat_c [a, b] (by simp) htot) (by (try simp only [go_sem, ↓reduceIte, Nat.reduceEqDiff, Nat.reduceAdd, reduceCtorEq, Nat.reduceMul, List.take_succ_cons, List.take_zero, List.take_nil]); try rfl) (by first | rfl | simp only [go_sem, ↓reduceIte, Nat.reduceEqDiff, Nat.reduceAdd, reduceCtorEq]) ?_
    generalize [a, b].flatten = ab at hfl2 hodd
    have hoo := oddOf_c ab hfl2
    rw [hodd] at hoo
    (repeat first | simp only [go_sem, ↓reduceIte, Nat.reduceEqDiff, Nat.reduceAdd, reduceCtorEq] | with_reducible refine V_W ?_ | (with_reducible refine And.intro ?_ ?_; focus first | assumption | omega | decide | grind) | (with_reducible refine Br.mk ?_ ?_; focus (intros; omega)) | decide)
    refine wriC (hoo) [3] (by first | rfl | simp) (by simp only [go_sem, ↓reduceIte, Nat.reduceEqDiff, Nat.reduceAdd, reduceCtorEq] <;> rfl) (by simp only [go_sem, ↓reduceIte, Nat.reduceEqDiff, Nat.reduceAdd, reduceCtorEq] <;> rfl) (by first | rfl | simp only [go_sem, ↓reduceIte, Nat.reduceEqDiff, Nat.reduceAdd, reduceCtorEq]) ?_
    (repeat first | simp only [go_sem, ↓reduceIte, Nat.reduceEqDiff, Nat.reduceAdd, reduceCtorEq] | with_reducible refine V_W ?_ | (with_reducible refine And.intro ?_ ?_; focus first | assumption | omega | decide | grind) | (with_reducible refine Br.mk ?_ ?_; focus (intros; omega)) | decide)
    refine pureEC (hfe) (by simp only [go_sem, ↓reduceIte, Nat.reduceEqDiff, Nat.reduceAdd, reduceCtorEq] <;> rfl) (fun o => by first | rfl | simp only [go_sem, ↓reduceIte, Nat.reduceEqDiff, Nat.reduceAdd, reduceCtorEq]) fun o ho => ?_
    have hok := fiO_ok hp sc ho
    have hnd : decide (o.2 = []) = (fiO R B i (sumL a b)).isSome := by
      by_cases h : o.2 = []
      · rw [hok.1 h, decide_eq_true h]; rfl
      · rw [hok.2 h, decide_eq_false h]; rfl
    simp only [hnd, go_sem, ↓reduceIte, Nat.reduceEqDiff, Nat.reduceAdd, reduceCtorEq]
    (repeat first | simp only [go_sem, ↓reduceIte, Nat.reduceEqDiff, Nat.reduceAdd, reduceCtorEq] | with_reducible refine V_W ?_ | (with_reducible refine And.intro ?_ ?_; focus first | assumption | omega | decide | grind) | (with_reducible refine Br.mk ?_ ?_; focus (intros; omega)) | decide)
    (try simp only [h0])
  · rw [if_neg h0]
    refine pureV0 ok25 rfl rfl ?_; unfold c25
    (repeat first | simp only [go_sem, ↓reduceIte, Nat.reduceEqDiff, Nat.reduceAdd, reduceCtorEq] | with_reducible refine V_W ?_ | (with_reducible refine And.intro ?_ ?_; focus first | assumption | omega | decide | grind) | (with_reducible refine Br.mk ?_ ?_; focus (intros; omega)) | decide)
    refine pureC (chainCode_c r R B i [a, b] (by omega) (by omega) g3 (by simp) g4) (by (try simp only [go_sem, ↓reduceIte, Nat.reduceEqDiff, Nat.reduceAdd, reduceCtorEq, Nat.reduceMul, List.take_succ_cons, List.take_zero, List.take_nil]); try rfl) (by first | rfl | simp only [go_sem, ↓reduceIte, Nat.reduceEqDiff, Nat.reduceAdd, reduceCtorEq]) ?_
    generalize chC r R B i [a, b] = C at h0
    (repeat first | simp only [go_sem, ↓reduceIte, Nat.reduceEqDiff, Nat.reduceAdd, reduceCtorEq] | with_reducible refine V_W ?_ | (with_reducible refine And.intro ?_ ?_; focus first | assumption | omega | decide | grind) | (with_reducible refine Br.mk ?_ ?_; focus (intros; omega)) | decide)
    (first | with_reducible refine fun _ => ?_ | refine ⟨fun _ => ?_, fun hx => absurd hx (by simp_all)⟩ | refine ⟨fun hx => absurd hx (by simp_all), fun _ => ?_⟩)
    (repeat first | simp only [go_sem, ↓reduceIte, Nat.reduceEqDiff, Nat.reduceAdd, reduceCtorEq] | with_reducible refine V_W ?_ | (with_reducible refine And.intro ?_ ?_; focus first | assumption | omega | decide | grind) | (with_reducible refine Br.mk ?_ ?_; focus (intros; omega)) | decide)
end
end Go.Proofs.Ytmiapnfhlhgefaa
