/- FnExactCountsOfNotation: the given statement. -/
import Derived.Test.YtnddllekkdckaaaDoorRows
import Derived.Test.YtnddllekkdckaaaDoorCards
import Derived.Test.YtnddllekkdckaaaDoorTie
import Derived.ProofKit
import Derived.LaidMore
import Derived.SevenTiedAt
import Derived.Lay
import Derived.MakeChecks
import Derived.ChangeMaps5
import Derived.Lib.SmallJoins
import Derived.OpenShut
import Derived.Test.YtnddllekkdckaaaDoorZp
import Derived.Test.YtnddllekkdckaaaDoorTb
import Derived.Test.YtnddllekkdckaaaDoorT7
set_option linter.unusedSimpArgs false
set_option linter.unusedVariables false
set_option maxRecDepth 100000
namespace Go.Proofs.YtnddllekkdckaaaDoor
open Go.Gov Go.Nt
open Classical
variable (tp tq : TypeId) (p q : Value)

set_option maxHeartbeats 2000000 in
theorem lawLCt_c (l : List UInt8) (hs : l.length ≤ 9223372036854775807) : PureG Tryd.prog (LV tp tq p q) 7 [sV l] (bl true) [] := by
  refine pureGV ok7 rfl ?_; unfold c7
  (repeat first | simp only [go_sem, ↓reduceIte, Nat.reduceEqDiff, Nat.reduceAdd, reduceCtorEq] | with_reducible refine V_W ?_ | (with_reducible refine And.intro ?_ ?_; focus first | assumption | omega | decide | grind) | (with_reducible refine Br.mk ?_ ?_; focus (intros; omega)) | decide)
  refine ⟨fun hc => ?_, fun hc => ?_⟩
  · (repeat first | simp only [go_sem, ↓reduceIte, Nat.reduceEqDiff, Nat.reduceAdd, reduceCtorEq] | with_reducible refine V_W ?_ | (with_reducible refine And.intro ?_ ?_; focus first | assumption | omega | decide | grind) | (with_reducible refine Br.mk ?_ ?_; focus (intros; omega)) | decide)
    exact Ref.gc [] rfl (by simp only [go_sem, ↓reduceIte, Nat.reduceEqDiff, Nat.reduceAdd, reduceCtorEq]) (by simp [sub, fget, go_sem, ↓reduceIte, Nat.reduceEqDiff, Nat.reduceAdd, reduceCtorEq])
  have gv0 : (ctA l).length ≤ 1099511627776 := by have := ctA_len l; omega
  have hS := specCt_c l (by omega)
  have hI := implCt_c tp tq p q l (by omega)
  generalize ctA l = Z0 at hS hI gv0
  generalize ntK l = Z1 at hS hI
  (repeat first | simp only [go_sem, ↓reduceIte, Nat.reduceEqDiff, Nat.reduceAdd, reduceCtorEq] | with_reducible refine V_W ?_ | (with_reducible refine And.intro ?_ ?_; focus first | assumption | omega | decide | grind) | (with_reducible refine Br.mk ?_ ?_; focus (intros; omega)) | decide)
  refine pureC (hS) (by simp only [go_sem, ↓reduceIte, Nat.reduceEqDiff, Nat.reduceAdd, reduceCtorEq] <;> rfl) (by first | rfl | simp only [go_sem, ↓reduceIte, Nat.reduceEqDiff, Nat.reduceAdd, reduceCtorEq]) ?_
  (repeat first | simp only [go_sem, ↓reduceIte, Nat.reduceEqDiff, Nat.reduceAdd, reduceCtorEq] | with_reducible refine V_W ?_ | (with_reducible refine And.intro ?_ ?_; focus first | assumption | omega | decide | grind) | (with_reducible refine Br.mk ?_ ?_; focus (intros; omega)) | decide)
  refine pureGC 0 (hI) rfl (by simp only [go_sem, ↓reduceIte, Nat.reduceEqDiff, Nat.reduceAdd, reduceCtorEq] <;> rfl) (by first | rfl | simp only [go_sem, ↓reduceIte, Nat.reduceEqDiff, Nat.reduceAdd, reduceCtorEq]) ?_
  (repeat first | simp only [go_sem, ↓reduceIte, Nat.reduceEqDiff, Nat.reduceAdd, reduceCtorEq] | with_reducible refine V_W ?_ | (with_reducible refine And.intro ?_ ?_; focus first | assumption | omega | decide | grind) | (with_reducible refine Br.mk ?_ ?_; focus (intros; omega)) | decide)
  refine pureC (eqInt64S_c Z0 Z0 gv0 gv0) (by simp only [go_sem, ↓reduceIte, Nat.reduceEqDiff, Nat.reduceAdd, reduceCtorEq] <;> rfl) (by first | rfl | simp only [go_sem, ↓reduceIte, Nat.reduceEqDiff, Nat.reduceAdd, reduceCtorEq]) ?_
  (repeat first | simp only [go_sem, ↓reduceIte, Nat.reduceEqDiff, Nat.reduceAdd, reduceCtorEq] | with_reducible refine V_W ?_ | (with_reducible refine And.intro ?_ ?_; focus first | assumption | omega | decide | grind) | (with_reducible refine Br.mk ?_ ?_; focus (intros; omega)) | decide)
  (try with_reducible refine fun _ => ?_)
  (repeat first | simp only [go_sem, ↓reduceIte, Nat.reduceEqDiff, Nat.reduceAdd, reduceCtorEq] | with_reducible refine V_W ?_ | (with_reducible refine And.intro ?_ ?_; focus first | assumption | omega | decide | grind) | (with_reducible refine Br.mk ?_ ?_; focus (intros; omega)) | decide)
  refine wriC (markInt64S_c Z0 (1) gv0 (by omega) (by omega)) [2] (by first | rfl | simp) (by simp only [go_sem, ↓reduceIte, Nat.reduceEqDiff, Nat.reduceAdd, reduceCtorEq] <;> rfl) (by simp only [go_sem, ↓reduceIte, Nat.reduceEqDiff, Nat.reduceAdd, reduceCtorEq] <;> rfl) (by first | rfl | simp only [go_sem, ↓reduceIte, Nat.reduceEqDiff, Nat.reduceAdd, reduceCtorEq]) ?_
  (repeat first | simp only [go_sem, ↓reduceIte, Nat.reduceEqDiff, Nat.reduceAdd, reduceCtorEq] | with_reducible refine V_W ?_ | (with_reducible refine And.intro ?_ ?_; focus first | assumption | omega | decide | grind) | (with_reducible refine Br.mk ?_ ?_; focus (intros; omega)) | decide)
  refine pureC (heldS_c Z0.length (1) gv0 (by omega) (by omega)) (by simp only [go_sem, ↓reduceIte, Nat.reduceEqDiff, Nat.reduceAdd, reduceCtorEq, take_up, take_upR]) (by first | rfl | simp only [go_sem, ↓reduceIte, Nat.reduceEqDiff, Nat.reduceAdd, reduceCtorEq]) ?_
  (repeat first | simp only [go_sem, ↓reduceIte, Nat.reduceEqDiff, Nat.reduceAdd, reduceCtorEq] | with_reducible refine V_W ?_ | (with_reducible refine And.intro ?_ ?_; focus first | assumption | omega | decide | grind) | (with_reducible refine Br.mk ?_ ?_; focus (intros; omega)) | decide)
  (try with_reducible refine fun _ => ?_)
  (repeat first | simp only [go_sem, ↓reduceIte, Nat.reduceEqDiff, Nat.reduceAdd, reduceCtorEq] | with_reducible refine V_W ?_ | (with_reducible refine And.intro ?_ ?_; focus first | assumption | omega | decide | grind) | (with_reducible refine Br.mk ?_ ?_; focus (intros; omega)) | decide)
  (try with_reducible refine fun _ => ?_)
  (repeat first | simp only [go_sem, ↓reduceIte, Nat.reduceEqDiff, Nat.reduceAdd, reduceCtorEq] | with_reducible refine V_W ?_ | (with_reducible refine And.intro ?_ ?_; focus first | assumption | omega | decide | grind) | (with_reducible refine Br.mk ?_ ?_; focus (intros; omega)) | decide)
  refine pureGC 0 (hI) rfl (by simp only [go_sem, ↓reduceIte, Nat.reduceEqDiff, Nat.reduceAdd, reduceCtorEq] <;> rfl) (by first | rfl | simp only [go_sem, ↓reduceIte, Nat.reduceEqDiff, Nat.reduceAdd, reduceCtorEq]) ?_
  (repeat first | simp only [go_sem, ↓reduceIte, Nat.reduceEqDiff, Nat.reduceAdd, reduceCtorEq] | with_reducible refine V_W ?_ | (with_reducible refine And.intro ?_ ?_; focus first | assumption | omega | decide | grind) | (with_reducible refine Br.mk ?_ ?_; focus (intros; omega)) | decide)
  refine pureC (eqInt64S_c Z0 Z0 gv0 gv0) (by simp only [go_sem, ↓reduceIte, Nat.reduceEqDiff, Nat.reduceAdd, reduceCtorEq] <;> rfl) (by first | rfl | simp only [go_sem, ↓reduceIte, Nat.reduceEqDiff, Nat.reduceAdd, reduceCtorEq]) ?_
  (repeat first | simp only [go_sem, ↓reduceIte, Nat.reduceEqDiff, Nat.reduceAdd, reduceCtorEq] | with_reducible refine V_W ?_ | (with_reducible refine And.intro ?_ ?_; focus first | assumption | omega | decide | grind) | (with_reducible refine Br.mk ?_ ?_; focus (intros; omega)) | decide)
  (try with_reducible refine fun _ => ?_)
  (repeat first | simp only [go_sem, ↓reduceIte, Nat.reduceEqDiff, Nat.reduceAdd, reduceCtorEq] | with_reducible refine V_W ?_ | (with_reducible refine And.intro ?_ ?_; focus first | assumption | omega | decide | grind) | (with_reducible refine Br.mk ?_ ?_; focus (intros; omega)) | decide)
  refine pureC (heldS_c Z0.length (1) gv0 (by omega) (by omega)) (by simp only [go_sem, ↓reduceIte, Nat.reduceEqDiff, Nat.reduceAdd, reduceCtorEq, take_up, take_upR]) (by first | rfl | simp only [go_sem, ↓reduceIte, Nat.reduceEqDiff, Nat.reduceAdd, reduceCtorEq]) ?_
  (repeat first | simp only [go_sem, ↓reduceIte, Nat.reduceEqDiff, Nat.reduceAdd, reduceCtorEq] | with_reducible refine V_W ?_ | (with_reducible refine And.intro ?_ ?_; focus first | assumption | omega | decide | grind) | (with_reducible refine Br.mk ?_ ?_; focus (intros; omega)) | decide)
  (try with_reducible refine fun _ => ?_)
  (repeat first | simp only [go_sem, ↓reduceIte, Nat.reduceEqDiff, Nat.reduceAdd, reduceCtorEq] | with_reducible refine V_W ?_ | (with_reducible refine And.intro ?_ ?_; focus first | assumption | omega | decide | grind) | (with_reducible refine Br.mk ?_ ?_; focus (intros; omega)) | decide)
  (try with_reducible refine fun _ => ?_)
  (repeat first | simp only [go_sem, ↓reduceIte, Nat.reduceEqDiff, Nat.reduceAdd, reduceCtorEq] | with_reducible refine V_W ?_ | (with_reducible refine And.intro ?_ ?_; focus first | assumption | omega | decide | grind) | (with_reducible refine Br.mk ?_ ?_; focus (intros; omega)) | decide)
  exact Ref.gc [] rfl (by simp only [go_sem, ↓reduceIte, Nat.reduceEqDiff, Nat.reduceAdd, reduceCtorEq]) (by simp [sub, fget, go_sem, ↓reduceIte, Nat.reduceEqDiff, Nat.reduceAdd, reduceCtorEq])
end Go.Proofs.YtnddllekkdckaaaDoor
set_option maxRecDepth 100000
namespace Go.Proofs.YtnddllekkdckaaaDoor.JCt
open Go.Proofs.YtnddllekkdckaaaDoor
open Go.ChangeShapes Go.WideShapes Go.ChangeAt Go.RowKit Go.Gov Go.ChangeMaps

set_option maxRecDepth 100000 in
set_option maxHeartbeats 2000000 in
theorem lifted (os : Os) (started : os.Started) (H : Type) (enc : TypeId × Value → H) :
    ReturnsInHanded {} Tryd.checked os 7 .any (fun w args => (Rows.fnExactCountsOfNotationSpec.pre enc Tryd.prog Tryd.f7 [] false w args ∧ laidMetH Tryd.prog Rows.fnExactCountsOfNotationRow.laid w) ∧ sizedMet enc Tryd.prog Tryd.f7 (OpenSpec.ofChange Rows.fnExactCountsOfNotationSpec) false w args) (Rows.fnExactCountsOfNotationSpec.post enc Tryd.prog Tryd.f7 false true false false) := by
  refine returnsInHanded_of_change_and (C := Tryd.checked) (X := fun w _ => laidMetH Tryd.prog Rows.fnExactCountsOfNotationRow.laid w) (fun _ _ _ hh h => h.of_heap hh) Tryd.own started (by kernel_rfl) Tryd.func7
    (ChangeSpec.witness_shaped (enc := enc) (C := Tryd.checked) (os := os) (X := fun w _ => laidMetH Tryd.prog Rows.fnExactCountsOfNotationRow.laid w) false (World.laidAll Tryd.prog os Rows.fnExactCountsOfNotationRow.laid) #[.string ⟨#[]⟩] 8 (World.laidAll_os _ _ _) (World.shaped_of_ZipB (by kernel_rfl) (by kernel_rfl)) (by kernel_rfl) (by kernel_rfl) (by kernel_rfl) (by rw [MakeChecks.laidMetH_plain _ _ _ (by kernel_rfl)]; exact laidMet_laidAll _ (by kernel_rfl) (by kernel_rfl))) ?_
  intro W base args ds gs before hval0 hW hcnd _ hLaid _
  have hval : ∀ (j : Nat) t v, Tryd.f7.params[j]? = some t → args[j]? = some v → Value.okWide Tryd.prog W .any base t v := hval0
  have hW' := hW
  obtain ⟨p, q, hA0, hV, rfl, hfz, hnd⟩ := hW
  have hA : DataW.TrodAll enc Tryd.prog W 0 (fun _ => true) true Tryd.f7.params.toList args.toList ds p := hA0
  rw [Tryd.params7] at hA hval
  obtain ⟨v0, l0, d0, e0, p0, q0, ha0, rfl, rfl, h0, hA1⟩ := trodAll_cons hA
  obtain ⟨rfl, rfl, rfl⟩ := trodAll_nil hA1
  obtain rfl : args = #[v0] := by rw [← Array.toArray_toList (xs := args), ha0]
  have hv0 := hval 0 9 v0 rfl rfl
  obtain ⟨rfl, rfl⟩ := trodVars_none hV
  obtain ⟨s0, rfl, rfl, hp0, hs0⟩ := open_string Tryd.underlying9 hv0 h0
  obtain ⟨t0, rfl⟩ : ∃ l, s0 = bA l := ⟨s0.data.toList, (bA_all s0).symm⟩
  have hb0 : t0.length ≤ 9223372036854775807 := by rw [bA_size] at hs0; unfold maxLen at hs0; omega
  have hrd : ∀ m (h : m < ([sV t0] : List AV).length), Rd W ((g0 W).tr []) (g0 W).G ([sV t0] : List AV)[m] ((#[Value.string (bA t0)] : Array Value).getD m undef) [] := fun m h => by
    match m, h with
    | 0, _ => exact .val
  obtain ⟨tp, tq, p, q, hVs⟩ := vars_in hLaid rfl rfl rfl
  refine (below_ofG (lawLCt_c tp tq p q t0 hb0) hVs rfl hrd).mono fun e W' ⟨he, hb, hz⟩ => ?_
  simp only [List.append_nil] at hW'
  have hS0 : ∀ sp : Nat → Bool, (∀ x ∈ p0, sp x.block = true) → DataW.Trod enc Tryd.prog W' 0 sp true 9 (.string (bA t0)) _ p0 := fun sp hsp =>
    WideElems.Trod_stays Tryd.laidOut (by kernel_rfl) (of_decide_eq_true (by kernel_rfl)) h0 (fun x hx => hb.same (hW'.lt x (by simp [hx]))) (fun x hx => hsp x (by simp [hx]))
  have hR1 : ∀ (b : Nat) (sp : Nat → Bool) (hd : Bool), DataW.Trod enc Tryd.prog W' b sp hd 4 (.bool true) (.lit (.bool true)) [] := fun _ _ _ => shut_bool Tryd.underlying4 true
  refine ⟨_, he, post_of_new (pa := p0) (pv := []) hW' (fun b sp hd => trodAll_mk1 (hR1 b sp hd)) (fun sp hsp => trodAll_mk1 (hS0 sp hsp)) (fun _ _ => ?_) ?_ ?_ hz ?_⟩
  · rfl
  · simp
  · exact hb.frame _
  · exact ok_one (by kernel_rfl) rfl (okWide_bool_mk Tryd.underlying4 true)

theorem holds : Rows.FnExactCountsOfNotationSaid :=
  OpenClaim.holds_of_wide 7 Tryd.f7 rfl rfl rfl rfl rfl rfl rfl ⟨rfl, rfl, rfl, rfl, rfl⟩ rfl rfl rfl rfl rfl (by kernel_rfl) Tryd.func7 (by kernel_rfl)
    (of_decide_eq_true (by kernel_rfl)) (by unfold Func.isWrapper; first | (rw [if_pos (by decide +kernel)]; kernel_rfl) | (rw [if_neg (by decide +kernel)]; exact ⟨rfl, rfl⟩))
    (fun os started H enc _ => lifted os started H enc)

theorem card_holds : Rows.FnExactCountsOfNotationCardSaid :=
  Claim7.holds_tied_plain_at .later [] [.data, .data, .data, .data, .sentinel, .sentinel, .pinned] true Rows.fnExactCountsOfNotationCard.stood.harness Rows.fnExactCountsOfNotationCard.stood.looks
    holds (fun _ h => by cases h) (by kernel_rfl) (fun _ h => by cases h) fnExactCountsOfNotation_row_tie rfl ⟨rfl, rfl⟩ (by kernel_rfl) rfl
    (fun f fn hf hfn => by
      obtain rfl : f = 7 := Option.some.inj ((show Tryd.prog.funcNamed "loop.example/g01108/laws.FnExactCountsOfNotation" = some 7 by kernel_rfl).symm.trans hf) |>.symm
      obtain rfl : fn = Tryd.f7 := (Option.some.inj (Tryd.func7.symm.trans hfn)).symm
      exact ⟨by kernel_rfl, fun j t ht => by
        rw [Tryd.params7] at ht
        have hm : t ∈ [9] := by simpa using Array.mem_of_getElem? ht
        have hall : ([9].all fun u => !Tryd.prog.wantsStandIn u) = true := by kernel_rfl
        exact (show Tryd.prog.wantsStandIn t = false by simpa using List.all_eq_true.1 hall t hm)⟩)
    (by kernel_rfl)

end Go.Proofs.YtnddllekkdckaaaDoor.JCt
