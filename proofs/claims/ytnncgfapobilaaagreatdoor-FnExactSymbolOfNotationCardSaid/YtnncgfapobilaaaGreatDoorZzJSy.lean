/- FnExactSymbolOfNotation: the given statement. -/
import Derived.Test.YtnncgfapobilaaaGreatDoorRows
import Derived.Test.YtnncgfapobilaaaGreatDoorCards
import Derived.Test.YtnncgfapobilaaaGreatDoorTie
import Derived.LaidMore
import Derived.SevenTiedAt
import Derived.Lay
import Derived.ChangeMaps5
import Derived.OpenShut
import Derived.Test.YtnncgfapobilaaaGreatDoorT7
import Derived.Test.YtnncgfapobilaaaGreatDoorRs
set_option linter.unusedSimpArgs false
set_option linter.unusedVariables false
set_option maxRecDepth 100000
namespace Go.Proofs.YtnncgfapobilaaaGreatDoor
section
open Go.Gov Go.Nt
open Classical
variable (tp tq : TypeId) (p q : Value)
theorem moM_b (l : List UInt8) : (moM l).length ≤ 3 ∧ tot (moM l) ≤ 1200 ∧ ∀ xs ∈ moM l, xs.length ≤ 400 := by
 by_cases h : moC l = 0
 · obtain ⟨h1, h2⟩ := mo_map h
   have hI := h1.mvi
   have hr : ∀ xs ∈ moM l, xs.length ≤ 400 := fun xs hx => by
     obtain ⟨k, hk, rfl⟩ := List.mem_iff_getElem.1 hx
     have := hI.row k (by have := h1.2; omega)
     rw [List.getD_eq_getElem?_getD, List.getElem?_eq_getElem hk, Option.getD_some] at this
     omega
   refine ⟨by rw [h1.2]; exact Nat.le_refl _, ?_, hr⟩
   have h3 := h1.2
   generalize moM l = M at *
   match M, h3 with
   | [a, b, c], _ =>
     have ha := hr a (by simp)
     have hb := hr b (by simp)
     have hc := hr c (by simp)
     simp [tot]
     omega
 · have : moM l = [] := by unfold moM; rw [if_neg h]
   rw [this]
   simp [tot]
end
section
open Go.Gov Go.Nt
open Classical
variable (tp tq : TypeId) (p q : Value)
noncomputable def snC (l : List UInt8) : Int := if moC l = 0 then csC (moM l) else moC l
noncomputable def snL (l : List UInt8) : List Int := if moC l = 0 then csV (moM l) else []
theorem snL_len (l : List UInt8) : (snL l).length ≤ 400 := by
 unfold snL
 split
 · exact csV_len _
 · simp
theorem specSy_c (l : List UInt8) (hs : l.length ≤ 1048576) : Pure Tryz.prog 13 [sV l] (.tup [.sl 0 1 0 (snL l).length, i64 (snC l)]) [some (intsC (snL l))] := by
 have h := l15Map_c l hs
 obtain ⟨hb1, hb2, hb3⟩ := moM_b l
 unfold moA at h
 unfold snL snC
 by_cases h0 : moC l = 0
 · have hc := specCs_c (moM l) (by omega) (fun p hp => by have := hb3 p hp; omega)
   rw [if_pos h0, if_pos h0]
   rw [h0] at h
   generalize moM l = M at *
   generalize csV M = V at *
   generalize csC M = C at *
   refine pureRV ok13 rfl ?_; unfold c13
   refine RN ?_
   refine call_pureG h (by simp only [go_sem, ↓reduceIte, Nat.reduceEqDiff, Nat.reduceAdd, reduceCtorEq] <;> rfl) ?_
   refine RN ?_
   refine pureC1 (hc) ?_
   refine RN ?_
   exact Ref.gc2 [1]
 · rw [if_neg h0, if_neg h0]
   refine pure_nil 1 ?_
   generalize moM l = M at *
   generalize moC l = C at *
   refine pureV0 ok13 rfl rfl ?_; unfold c13
   refine RN ?_
   refine call_pureG h (by simp only [go_sem, ↓reduceIte, Nat.reduceEqDiff, Nat.reduceAdd, reduceCtorEq] <;> rfl) ?_
   refine RN ?_
   refine ⟨fun _ => ?_, fun h => absurd h h0⟩
   (refine RN ?_; try with_reducible exact trivial)
theorem implSy_c (l : List UInt8) (hs : l.length ≤ 1048576) : PureG Tryz.prog (LV tp tq p q) 14 [sV l] (.tup [.sl 0 1 0 (snL l).length, i64 (snC l)]) [some (intsC (snL l))] := by
 have h := mapOfNotation_c tp tq p q l hs
 obtain ⟨hb1, hb2, hb3⟩ := moM_b l
 unfold snL snC
 by_cases h0 : moC l = 0
 · have hM := (mo_map h0).1
   have hcs := commonSymbol_c (moM l) hM (by omega)
   have h3 := hM.2
   rw [if_pos h0, if_pos h0]
   rw [h0] at h
   unfold csV csC
   by_cases hP : csP (moM l)
   · rw [if_pos hP] at hcs
     rw [if_pos ⟨hM, hP⟩, if_pos hM, if_pos hP]
     have hf2 := hM.1.f2
     have hsl := syV_len hM (f := 0) (by omega)
     have hpr := pr_spec hM (f := 0) (by omega)
     obtain ⟨k, hk⟩ : ∃ k, (syV (moM l) 0).length = k + 1 := ⟨(syV (moM l) 0).length - 1, by omega⟩
     rw [hk] at hcs ⊢
     generalize syV (moM l) 0 = Y at *
     generalize moM l = M at *
     refine pureGV ok14 rfl ?_; unfold c14
     refine RN ?_
     refine pureGC 0 (h) rfl (by simp only [go_sem, ↓reduceIte, Nat.reduceEqDiff, Nat.reduceAdd, reduceCtorEq] <;> rfl) (by first | rfl | simp only [go_sem, ↓reduceIte, Nat.reduceEqDiff, Nat.reduceAdd, reduceCtorEq]) ?_
     refine RN ?_
     refine pureC hcs (by simp only [go_sem, ↓reduceIte, Nat.reduceEqDiff, Nat.reduceAdd, reduceCtorEq, frz_im _ _ M M.length rfl]; first | done | rfl) (by first | rfl | simp only [go_sem, ↓reduceIte, Nat.reduceEqDiff, Nat.reduceAdd, reduceCtorEq]) ?_
     refine RN ?_
     have hn : nilOf [some (gvs (LV tp tq p q)), some (M.map oints), some [.sl 1 1 0 M.length], some (intsC Y)] (.sl 3 1 0 (k + 1)) = some false := rfl
     simp only [hn, Option.isSome_some, Option.getD_some, true_and]
     refine RN ?_
     exact Ref.gc1 [3]
   · rw [if_neg hP] at hcs
     rw [if_neg (fun h => hP h.2), if_pos hM, if_neg hP]
     generalize moM l = M at *
     refine pureG_nil 1 ?_
     refine pureGV ok14 rfl ?_; unfold c14
     refine RN ?_
     refine pureGC 0 (h) rfl (by simp only [go_sem, ↓reduceIte, Nat.reduceEqDiff, Nat.reduceAdd, reduceCtorEq] <;> rfl) (by first | rfl | simp only [go_sem, ↓reduceIte, Nat.reduceEqDiff, Nat.reduceAdd, reduceCtorEq]) ?_
     refine RN ?_
     refine pureC hcs (by simp only [go_sem, ↓reduceIte, Nat.reduceEqDiff, Nat.reduceAdd, reduceCtorEq, frz_im _ _ M M.length rfl]; first | done | rfl) (by first | rfl | simp only [go_sem, ↓reduceIte, Nat.reduceEqDiff, Nat.reduceAdd, reduceCtorEq]) ?_
     refine RN ?_
     have hn : ∀ H, nilOf H nilS = some true := fun _ => rfl
     simp only [hn, Option.isSome_some, Option.getD_some, true_and]
     refine RN ?_
     exact Ref.gc1 []
 · rw [if_neg h0, if_neg h0]
   refine pureG_nil 1 ?_
   generalize moM l = M at *
   generalize moC l = C at *
   refine pureGV ok14 rfl ?_; unfold c14
   refine RN ?_
   refine pureGC 0 (h) rfl (by simp only [go_sem, ↓reduceIte, Nat.reduceEqDiff, Nat.reduceAdd, reduceCtorEq] <;> rfl) (by first | rfl | simp only [go_sem, ↓reduceIte, Nat.reduceEqDiff, Nat.reduceAdd, reduceCtorEq]) ?_
   refine RN ?_
   refine ⟨fun _ => ?_, fun h => absurd h h0⟩
   refine RN ?_
   exact Ref.gc1 []
end
section
open Go.Gov Go.Nt
open Classical
variable (tp tq : TypeId) (p q : Value)
set_option maxHeartbeats 2000000 in
theorem lawLSn_c (l : List UInt8) (hs : l.length ≤ 9223372036854775807) : PureG Tryz.prog (LV tp tq p q) 5 [sV l] (bl true) [] := by
 refine pureGV ok5 rfl ?_; unfold c5
 refine RN ?_
 refine ⟨fun hc => ?_, fun hc => ?_⟩
 · (refine RN ?_; try with_reducible exact trivial)
   exact Ref.gc1 []
 have gv0 : (snL l).length ≤ 1099511627776 := by have := snL_len l; omega
 have hS := specSy_c l (by omega)
 have hI := implSy_c tp tq p q l (by omega)
 generalize snL l = Z0 at hS hI gv0
 generalize snC l = Z1 at hS hI
 refine RN ?_
 refine pureC1 (hS) ?_
 refine RN ?_
 refine pureGC 0 (hI) rfl (by simp only [go_sem, ↓reduceIte, Nat.reduceEqDiff, Nat.reduceAdd, reduceCtorEq] <;> rfl) (by first | rfl | simp only [go_sem, ↓reduceIte, Nat.reduceEqDiff, Nat.reduceAdd, reduceCtorEq]) ?_
 refine RN ?_
 refine pureC1 (eqInt64S_c Z0 Z0 gv0 gv0) ?_
 (refine RN ?_; try with_reducible exact trivial)
 (try with_reducible refine fun _ => ?_)
 refine RN ?_
 refine wriC1 (markInt64S_c Z0 (1) gv0 (by omega) (by omega)) [2] ?_
 refine RN ?_
 refine pureC (heldS_c Z0.length (1) gv0 (by omega) (by omega)) (by simp only [go_sem, ↓reduceIte, Nat.reduceEqDiff, Nat.reduceAdd, reduceCtorEq, take_up, take_upR]) (by first | rfl | simp only [go_sem, ↓reduceIte, Nat.reduceEqDiff, Nat.reduceAdd, reduceCtorEq]) ?_
 (refine RN ?_; try with_reducible exact trivial)
 (try with_reducible refine fun _ => ?_)
 (refine RN ?_; try with_reducible exact trivial)
 (try with_reducible refine fun _ => ?_)
 refine RN ?_
 refine pureGC 0 (hI) rfl (by simp only [go_sem, ↓reduceIte, Nat.reduceEqDiff, Nat.reduceAdd, reduceCtorEq] <;> rfl) (by first | rfl | simp only [go_sem, ↓reduceIte, Nat.reduceEqDiff, Nat.reduceAdd, reduceCtorEq]) ?_
 refine RN ?_
 refine pureC1 (eqInt64S_c Z0 Z0 gv0 gv0) ?_
 (refine RN ?_; try with_reducible exact trivial)
 (try with_reducible refine fun _ => ?_)
 refine RN ?_
 refine pureC (heldS_c Z0.length (1) gv0 (by omega) (by omega)) (by simp only [go_sem, ↓reduceIte, Nat.reduceEqDiff, Nat.reduceAdd, reduceCtorEq, take_up, take_upR]) (by first | rfl | simp only [go_sem, ↓reduceIte, Nat.reduceEqDiff, Nat.reduceAdd, reduceCtorEq]) ?_
 (refine RN ?_; try with_reducible exact trivial)
 (try with_reducible refine fun _ => ?_)
 (refine RN ?_; try with_reducible exact trivial)
 (try with_reducible refine fun _ => ?_)
 refine RN ?_
 exact Ref.gc1 []
end
end Go.Proofs.YtnncgfapobilaaaGreatDoor
namespace Go.Proofs.YtnncgfapobilaaaGreatDoor.JSy
open Go.Proofs.YtnncgfapobilaaaGreatDoor
open Go.ChangeShapes Go.WideShapes Go.ChangeAt Go.RowKit Go.Gov Go.ChangeMaps
set_option maxHeartbeats 2000000 in
theorem lifted (os : Os) (started : os.Started) (H : Type) (enc : TypeId × Value → H) :
   ReturnsInHanded {} Tryz.checked os 5 .any (fun w args => (Rows.fnExactSymbolOfNotationSpec.pre enc Tryz.prog Tryz.f5 [] false w args ∧ laidMetH Tryz.prog Rows.fnExactSymbolOfNotationRow.laid w) ∧ sizedMet enc Tryz.prog Tryz.f5 (OpenSpec.ofChange Rows.fnExactSymbolOfNotationSpec) false w args) (Rows.fnExactSymbolOfNotationSpec.post enc Tryz.prog Tryz.f5 false true false false) := by
 refine returnsInHanded_of_change_and (C := Tryz.checked) (X := fun w _ => laidMetH Tryz.prog Rows.fnExactSymbolOfNotationRow.laid w) (fun _ _ _ hh h => h.of_heap hh) Tryz.own started (by kernel_rfl) Tryz.func5
   (ChangeSpec.witness_shaped (enc := enc) (C := Tryz.checked) (os := os) (X := fun w _ => laidMetH Tryz.prog Rows.fnExactSymbolOfNotationRow.laid w) false (World.laidAll Tryz.prog os Rows.fnExactSymbolOfNotationRow.laid) #[.string ⟨#[]⟩] 8 (World.laidAll_os _ _ _) (World.shaped_of_ZipB (by kernel_rfl) (by kernel_rfl)) (by kernel_rfl) (by kernel_rfl) (by kernel_rfl) (by rw [MakeChecks.laidMetH_plain _ _ _ (by kernel_rfl)]; exact laidMet_laidAll _ (by kernel_rfl) (by kernel_rfl))) ?_
 intro W base args ds gs before hval0 hW hcnd _ hLaid _
 have hval : ∀ (j : Nat) t v, Tryz.f5.params[j]? = some t → args[j]? = some v → Value.okWide Tryz.prog W .any base t v := hval0
 have hW' := hW
 obtain ⟨p, q, hA0, hV, rfl, hfz, hnd⟩ := hW
 have hA : DataW.TrodAll enc Tryz.prog W 0 (fun _ => true) true Tryz.f5.params.toList args.toList ds p := hA0
 rw [Tryz.params5] at hA hval
 obtain ⟨v0, l0, d0, e0, p0, q0, ha0, rfl, rfl, h0, hA1⟩ := trodAll_cons hA
 obtain ⟨rfl, rfl, rfl⟩ := trodAll_nil hA1
 obtain rfl : args = #[v0] := by rw [← Array.toArray_toList (xs := args), ha0]
 have hv0 := hval 0 9 v0 rfl rfl
 obtain ⟨rfl, rfl⟩ := trodVars_none hV
 obtain ⟨s0, rfl, rfl, hp0, hs0⟩ := open_string Tryz.underlying9 hv0 h0
 obtain ⟨t0, rfl⟩ : ∃ l, s0 = bA l := ⟨s0.data.toList, (bA_all s0).symm⟩
 have hb0 : t0.length ≤ 9223372036854775807 := by rw [bA_size] at hs0; unfold maxLen at hs0; omega
 have hrd : ∀ m (h : m < ([sV t0] : List AV).length), Rd W ((g0 W).tr []) (g0 W).G ([sV t0] : List AV)[m] ((#[Value.string (bA t0)] : Array Value).getD m undef) [] := fun m h => by
   match m, h with
   | 0, _ => exact .val
 obtain ⟨tp, tq, p, q, hVs⟩ := vars_in hLaid rfl rfl rfl
 refine (below_ofG (lawLSn_c tp tq p q t0 hb0) hVs rfl hrd).mono fun e W' ⟨he, hb, hz⟩ => ?_
 simp only [List.append_nil] at hW'
 have hS0 : ∀ sp : Nat → Bool, (∀ x ∈ p0, sp x.block = true) → DataW.Trod enc Tryz.prog W' 0 sp true 9 (.string (bA t0)) _ p0 := fun sp hsp =>
   WideElems.Trod_stays Tryz.laidOut (by kernel_rfl) (of_decide_eq_true (by kernel_rfl)) h0 (fun x hx => hb.same (hW'.lt x (by simp [hx]))) (fun x hx => hsp x (by simp [hx]))
 have hR1 : ∀ (b : Nat) (sp : Nat → Bool) (hd : Bool), DataW.Trod enc Tryz.prog W' b sp hd 4 (.bool true) (.lit (.bool true)) [] := fun _ _ _ => shut_bool Tryz.underlying4 true
 refine ⟨_, he, post_of_new (pa := p0) (pv := []) hW' (fun b sp hd => trodAll_mk1 (hR1 b sp hd)) (fun sp hsp => trodAll_mk1 (hS0 sp hsp)) (fun _ _ => ?_) ?_ ?_ hz ?_⟩
 · rfl
 · simp
 · exact hb.frame _
 · exact ok_one (by kernel_rfl) rfl (okWide_bool_mk Tryz.underlying4 true)
theorem holds : Rows.FnExactSymbolOfNotationSaid :=
 OpenClaim.holds_of_wide 5 Tryz.f5 rfl rfl rfl rfl rfl rfl rfl ⟨rfl, rfl, rfl, rfl, rfl⟩ rfl rfl rfl rfl rfl (by kernel_rfl) Tryz.func5 (by kernel_rfl)
   (of_decide_eq_true (by kernel_rfl)) (by unfold Func.isWrapper; first | (rw [if_pos (by decide +kernel)]; kernel_rfl) | (rw [if_neg (by decide +kernel)]; exact ⟨rfl, rfl⟩))
   (fun os started H enc _ => lifted os started H enc)
theorem card_holds : Rows.FnExactSymbolOfNotationCardSaid :=
 Claim7.holds_tied_plain_at .later [] [.data, .data, .data, .data, .sentinel, .sentinel, .pinned] true Rows.fnExactSymbolOfNotationCard.stood.harness Rows.fnExactSymbolOfNotationCard.stood.looks
   holds (fun _ h => by cases h) (by kernel_rfl) (fun _ h => by cases h) fnExactSymbolOfNotation_row_tie rfl ⟨rfl, rfl⟩ (by kernel_rfl) rfl
   (fun f fn hf hfn => by
     obtain rfl : f = 5 := Option.some.inj ((show Tryz.prog.funcNamed "loop.example/g01108/laws.FnExactSymbolOfNotation" = some 5 by kernel_rfl).symm.trans hf) |>.symm
     obtain rfl : fn = Tryz.f5 := (Option.some.inj (Tryz.func5.symm.trans hfn)).symm
     exact ⟨by kernel_rfl, fun j t ht => by
       rw [Tryz.params5] at ht
       have hm : t ∈ [9] := by simpa using Array.mem_of_getElem? ht
       have hall : ([9].all fun u => !Tryz.prog.wantsStandIn u) = true := by kernel_rfl
       exact (show Tryz.prog.wantsStandIn t = false by simpa using List.all_eq_true.1 hall t hm)⟩)
   (by kernel_rfl)
end Go.Proofs.YtnncgfapobilaaaGreatDoor.JSy
