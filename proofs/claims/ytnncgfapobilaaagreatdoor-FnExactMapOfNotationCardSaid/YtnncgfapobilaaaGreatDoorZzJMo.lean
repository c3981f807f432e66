/- FnExactMapOfNotation: the given statement. -/
import Derived.Test.YtnncgfapobilaaaGreatDoorRows
import Derived.Test.YtnncgfapobilaaaGreatDoorCards
import Derived.Test.YtnncgfapobilaaaGreatDoorTie
import Derived.ProofKit
import Derived.LaidMore
import Derived.SevenTiedAt
import Derived.Lay
import Derived.MakeChecks
import Derived.ChangeMaps5
import Derived.Lib.SmallJoins
import Derived.OpenShut
import Derived.Test.YtnncgfapobilaaaGreatDoorZm
import Derived.Test.YtnncgfapobilaaaGreatDoorZp
import Derived.Test.YtnncgfapobilaaaGreatDoorT7
import Derived.Test.YtnncgfapobilaaaGreatDoorRs
set_option linter.unusedSimpArgs false
set_option linter.unusedVariables false
set_option maxRecDepth 100000
namespace Go.Proofs.YtnncgfapobilaaaGreatDoor
open Go.Gov Go.Nt
open Classical
variable (tp tq : TypeId) (p q : Value)

theorem specMo_c (l : List UInt8) (hs : l.length ≤ 1048576) : Pure Tryz.prog 6 [sV l] (.tup [maniA (moM l), i64 (moC l)]) [] := by
  have h := l15Map_c l hs
  unfold moA at h
  generalize moM l = M at *
  generalize moC l = c at *
  refine pureRV ok6 rfl ?_; unfold c6
  refine RN ?_
  refine call_pureG h (by simp only [go_sem, ↓reduceIte, Nat.reduceEqDiff, Nat.reduceAdd, reduceCtorEq] <;> rfl) ?_
  refine RN ?_
  exact Ref.gc [] rfl (by simp only [go_sem, ↓reduceIte, Nat.reduceEqDiff, Nat.reduceAdd, reduceCtorEq] <;> rfl) (by simp [sub, fget, go_sem, ↓reduceIte, Nat.reduceEqDiff, Nat.reduceAdd, reduceCtorEq])
theorem implMo_c (l : List UInt8) (hs : l.length ≤ 1048576) : PureG Tryz.prog (LV tp tq p q) 7 [sV l] (.tup [.agg [.sl 0 1 0 (moM l).length], i64 (moC l)]) [some ((moM l).map oints)] := by
  have h := mapOfNotation_c tp tq p q l hs
  generalize moM l = M at *
  generalize moC l = c at *
  refine pureGV ok7 rfl ?_; unfold c7
  refine RN ?_
  refine pureGC 0 (h) rfl (by simp only [go_sem, ↓reduceIte, Nat.reduceEqDiff, Nat.reduceAdd, reduceCtorEq] <;> rfl) (by first | rfl | simp only [go_sem, ↓reduceIte, Nat.reduceEqDiff, Nat.reduceAdd, reduceCtorEq]) ?_
  refine RN ?_
  exact Ref.gc [2] rfl (by simp only [go_sem, ↓reduceIte, Nat.reduceEqDiff, Nat.reduceAdd, reduceCtorEq] <;> rfl) (by simp [sub, fget, go_sem, ↓reduceIte, Nat.reduceEqDiff, Nat.reduceAdd, reduceCtorEq])
theorem moM_b (l : List UInt8) : (moM l).length ≤ 3 ∧ tot (moM l) ≤ 1200 ∧ ∀ xs ∈ moM l, xs.length ≤ 400 := by
  by_cases h : moC l = 0
  · obtain ⟨h1, h2⟩ := mo_map h
    have hI := h1.mvi
    have hr : ∀ xs ∈ moM l, xs.length ≤ 400 := fun xs hx => by
      obtain ⟨k, hk, rfl⟩ := List.mem_iff_getElem.1 hx
      have := hI.row k (by have := h1.2; omega)
      rw [List.getD_eq_getElem?_getD, List.getElem?_eq_getElem hk, Option.getD_some] at this
      omega
    refine ⟨by rw [h1.2]; exact Nat.le_refl _, ?_, hr⟩
    have h3 := h1.2
    generalize moM l = M at *
    match M, h3 with
    | [a, b, c], _ =>
      have ha := hr a (by simp)
      have hb := hr b (by simp)
      have hc := hr c (by simp)
      simp [tot]
      omega
  · have : moM l = [] := by unfold moM; rw [if_neg h]
    rw [this]
    simp [tot]
set_option maxHeartbeats 4000000 in
theorem lawLMo_c (l : List UInt8) (hs : l.length ≤ 9223372036854775807) : PureG Tryz.prog (LV tp tq p q) 3 [sV l] (bl true) [] := by
  refine pureGV ok3 rfl ?_; unfold c3
  refine RN ?_
  refine ⟨fun hc => ?_, fun hc => ?_⟩
  · (refine RN ?_; try with_reducible exact trivial)
    exact Ref.gc1 []
  obtain ⟨hb1, hb2, hb3⟩ := moM_b l
  have gl0 : (moM l).length ≤ 1099511627776 := by omega
  have gt0 : tot (moM l) ≤ 1099511627776 := by omega
  have gr_0 : ∀ xs ∈ moM l, xs.length ≤ 1099511627776 := fun xs hx => by have := hb3 xs hx; omega
  have hS := specMo_c l (by omega)
  have hI := implMo_c tp tq p q l (by omega)
  generalize moM l = Z0 at hS hI gl0 gt0 gr_0
  generalize moC l = Z1 at hS hI
  clear hb1 hb2 hb3
  refine RN ?_
  refine call_pureG hS (by simp only [go_sem, ↓reduceIte, Nat.reduceEqDiff, Nat.reduceAdd, reduceCtorEq] <;> rfl) ?_
  refine RN ?_
  refine pureGC 0 (hI) rfl (by simp only [go_sem, ↓reduceIte, Nat.reduceEqDiff, Nat.reduceAdd, reduceCtorEq] <;> rfl) (by first | rfl | simp only [go_sem, ↓reduceIte, Nat.reduceEqDiff, Nat.reduceAdd, reduceCtorEq]) ?_
  refine RN ?_
  refine pureC1 (eqMan_c Z0 Z0 gl0 gr_0 gl0 gr_0) ?_
  (refine RN ?_; try with_reducible exact trivial)
  (try with_reducible refine fun _ => ?_)
  refine RN ?_
  refine wriC (markMan_c Z0 (1) gl0 gt0 (by omega) (by omega)) [2] (by first | rfl | simp) (by simp only [go_sem, ↓reduceIte, Nat.reduceEqDiff, Nat.reduceAdd, reduceCtorEq] <;> rfl) (by simp only [go_sem, ↓reduceIte, Nat.reduceEqDiff, Nat.reduceAdd, reduceCtorEq] <;> rfl) (by first | rfl | simp only [go_sem, ↓reduceIte, Nat.reduceEqDiff, Nat.reduceAdd, reduceCtorEq]) ?_
  refine RN ?_
  refine pureC (heldMan_c Z0 (1) gl0 gt0 (by omega) (by omega)) (by simp only [go_sem, ↓reduceIte, Nat.reduceEqDiff, Nat.reduceAdd, reduceCtorEq, take_up, take_upR]) (by first | rfl | simp only [go_sem, ↓reduceIte, Nat.reduceEqDiff, Nat.reduceAdd, reduceCtorEq]) ?_
  (refine RN ?_; try with_reducible exact trivial)
  (try with_reducible refine fun _ => ?_)
  (refine RN ?_; try with_reducible exact trivial)
  (try with_reducible refine fun _ => ?_)
  refine RN ?_
  refine pureGC 0 (hI) rfl (by simp only [go_sem, ↓reduceIte, Nat.reduceEqDiff, Nat.reduceAdd, reduceCtorEq] <;> rfl) (by first | rfl | simp only [go_sem, ↓reduceIte, Nat.reduceEqDiff, Nat.reduceAdd, reduceCtorEq]) ?_
  refine RN ?_
  refine pureC1 (eqMan_c Z0 Z0 gl0 gr_0 gl0 gr_0) ?_
  (refine RN ?_; try with_reducible exact trivial)
  (try with_reducible refine fun _ => ?_)
  refine RN ?_
  refine pureC (heldMan_c Z0 (1) gl0 gt0 (by omega) (by omega)) (by simp only [go_sem, ↓reduceIte, Nat.reduceEqDiff, Nat.reduceAdd, reduceCtorEq, take_up, take_upR]) (by first | rfl | simp only [go_sem, ↓reduceIte, Nat.reduceEqDiff, Nat.reduceAdd, reduceCtorEq]) ?_
  (refine RN ?_; try with_reducible exact trivial)
  (try with_reducible refine fun _ => ?_)
  (refine RN ?_; try with_reducible exact trivial)
  (try with_reducible refine fun _ => ?_)
  refine RN ?_
  exact Ref.gc1 []
end Go.Proofs.YtnncgfapobilaaaGreatDoor
set_option maxRecDepth 100000
namespace Go.Proofs.YtnncgfapobilaaaGreatDoor.JMo
open Go.Proofs.YtnncgfapobilaaaGreatDoor
open Go.ChangeShapes Go.WideShapes Go.ChangeAt Go.RowKit Go.Gov Go.ChangeMaps

set_option maxRecDepth 100000 in
set_option maxHeartbeats 2000000 in
theorem lifted (os : Os) (started : os.Started) (H : Type) (enc : TypeId × Value → H) :
    ReturnsInHanded {} Tryz.checked os 3 .any (fun w args => (Rows.fnExactMapOfNotationSpec.pre enc Tryz.prog Tryz.f3 [] false w args ∧ laidMetH Tryz.prog Rows.fnExactMapOfNotationRow.laid w) ∧ sizedMet enc Tryz.prog Tryz.f3 (OpenSpec.ofChange Rows.fnExactMapOfNotationSpec) false w args) (Rows.fnExactMapOfNotationSpec.post enc Tryz.prog Tryz.f3 false true false false) := by
  refine returnsInHanded_of_change_and (C := Tryz.checked) (X := fun w _ => laidMetH Tryz.prog Rows.fnExactMapOfNotationRow.laid w) (fun _ _ _ hh h => h.of_heap hh) Tryz.own started (by kernel_rfl) Tryz.func3
    (ChangeSpec.witness_shaped (enc := enc) (C := Tryz.checked) (os := os) (X := fun w _ => laidMetH Tryz.prog Rows.fnExactMapOfNotationRow.laid w) false (World.laidAll Tryz.prog os Rows.fnExactMapOfNotationRow.laid) #[.string ⟨#[]⟩] 8 (World.laidAll_os _ _ _) (World.shaped_of_ZipB (by kernel_rfl) (by kernel_rfl)) (by kernel_rfl) (by kernel_rfl) (by kernel_rfl) (by rw [MakeChecks.laidMetH_plain _ _ _ (by kernel_rfl)]; exact laidMet_laidAll _ (by kernel_rfl) (by kernel_rfl))) ?_
  intro W base args ds gs before hval0 hW hcnd _ hLaid _
  have hval : ∀ (j : Nat) t v, Tryz.f3.params[j]? = some t → args[j]? = some v → Value.okWide Tryz.prog W .any base t v := hval0
  have hW' := hW
  obtain ⟨p, q, hA0, hV, rfl, hfz, hnd⟩ := hW
  have hA : DataW.TrodAll enc Tryz.prog W 0 (fun _ => true) true Tryz.f3.params.toList args.toList ds p := hA0
  rw [Tryz.params3] at hA hval
  obtain ⟨v0, l0, d0, e0, p0, q0, ha0, rfl, rfl, h0, hA1⟩ := trodAll_cons hA
  obtain ⟨rfl, rfl, rfl⟩ := trodAll_nil hA1
  obtain rfl : args = #[v0] := by rw [← Array.toArray_toList (xs := args), ha0]
  have hv0 := hval 0 9 v0 rfl rfl
  obtain ⟨rfl, rfl⟩ := trodVars_none hV
  obtain ⟨s0, rfl, rfl, hp0, hs0⟩ := open_string Tryz.underlying9 hv0 h0
  obtain ⟨t0, rfl⟩ : ∃ l, s0 = bA l := ⟨s0.data.toList, (bA_all s0).symm⟩
  have hb0 : t0.length ≤ 9223372036854775807 := by rw [bA_size] at hs0; unfold maxLen at hs0; omega
  have hrd : ∀ m (h : m < ([sV t0] : List AV).length), Rd W ((g0 W).tr []) (g0 W).G ([sV t0] : List AV)[m] ((#[Value.string (bA t0)] : Array Value).getD m undef) [] := fun m h => by
    match m, h with
    | 0, _ => exact .val
  obtain ⟨tp, tq, p, q, hVs⟩ := vars_in hLaid rfl rfl rfl
  refine (below_ofG (lawLMo_c tp tq p q t0 hb0) hVs rfl hrd).mono fun e W' ⟨he, hb, hz⟩ => ?_
  simp only [List.append_nil] at hW'
  have hS0 : ∀ sp : Nat → Bool, (∀ x ∈ p0, sp x.block = true) → DataW.Trod enc Tryz.prog W' 0 sp true 9 (.string (bA t0)) _ p0 := fun sp hsp =>
    WideElems.Trod_stays Tryz.laidOut (by kernel_rfl) (of_decide_eq_true (by kernel_rfl)) h0 (fun x hx => hb.same (hW'.lt x (by simp [hx]))) (fun x hx => hsp x (by simp [hx]))
  have hR1 : ∀ (b : Nat) (sp : Nat → Bool) (hd : Bool), DataW.Trod enc Tryz.prog W' b sp hd 4 (.bool true) (.lit (.bool true)) [] := fun _ _ _ => shut_bool Tryz.underlying4 true
  refine ⟨_, he, post_of_new (pa := p0) (pv := []) hW' (fun b sp hd => trodAll_mk1 (hR1 b sp hd)) (fun sp hsp => trodAll_mk1 (hS0 sp hsp)) (fun _ _ => ?_) ?_ ?_ hz ?_⟩
  · rfl
  · simp
  · exact hb.frame _
  · exact ok_one (by kernel_rfl) rfl (okWide_bool_mk Tryz.underlying4 true)

theorem holds : Rows.FnExactMapOfNotationSaid :=
  OpenClaim.holds_of_wide 3 Tryz.f3 rfl rfl rfl rfl rfl rfl rfl ⟨rfl, rfl, rfl, rfl, rfl⟩ rfl rfl rfl rfl rfl (by kernel_rfl) Tryz.func3 (by kernel_rfl)
    (of_decide_eq_true (by kernel_rfl)) (by unfold Func.isWrapper; first | (rw [if_pos (by decide +kernel)]; kernel_rfl) | (rw [if_neg (by decide +kernel)]; exact ⟨rfl, rfl⟩))
    (fun os started H enc _ => lifted os started H enc)

theorem card_holds : Rows.FnExactMapOfNotationCardSaid :=
  Claim7.holds_tied_plain_at .later [] [.data, .data, .data, .data, .sentinel, .sentinel, .pinned] true Rows.fnExactMapOfNotationCard.stood.harness Rows.fnExactMapOfNotationCard.stood.looks
    holds (fun _ h => by cases h) (by kernel_rfl) (fun _ h => by cases h) fnExactMapOfNotation_row_tie rfl ⟨rfl, rfl⟩ (by kernel_rfl) rfl
    (fun f fn hf hfn => by
      obtain rfl : f = 3 := Option.some.inj ((show Tryz.prog.funcNamed "loop.example/g01108/laws.FnExactMapOfNotation" = some 3 by kernel_rfl).symm.trans hf) |>.symm
      obtain rfl : fn = Tryz.f3 := (Option.some.inj (Tryz.func3.symm.trans hfn)).symm
      exact ⟨by kernel_rfl, fun j t ht => by
        rw [Tryz.params3] at ht
        have hm : t ∈ [9] := by simpa using Array.mem_of_getElem? ht
        have hall : ([9].all fun u => !Tryz.prog.wantsStandIn u) = true := by kernel_rfl
        exact (show Tryz.prog.wantsStandIn t = false by simpa using List.all_eq_true.1 hall t hm)⟩)
    (by kernel_rfl)

end Go.Proofs.YtnncgfapobilaaaGreatDoor.JMo
