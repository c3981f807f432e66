/- FnExactRecognizeMap: the given statement. -/
import Derived.Test.YtfcbamfkfadabaaGreatDoorRows
import Derived.Test.YtfcbamfkfadabaaGreatDoorCards
import Derived.Test.YtfcbamfkfadabaaGreatDoorTie
import Derived.LaidMore
import Derived.SevenTiedAt
import Derived.Lay
import Derived.ChangeMaps5
import Derived.OpenShut
import Derived.Test.YtfcbamfkfadabaaGreatDoorT7
import Derived.Test.YtfcbamfkfadabaaGreatDoorS5
set_option linter.unusedSimpArgs false
set_option linter.unusedVariables false
set_option maxRecDepth 100000
namespace Go.Proofs.YtfcbamfkfadabaaGreatDoor
open Go.Gov Go.Nt
open Classical
noncomputable def rcT (M : List (List Int)) : List UInt8 := if IsMap M then (recV M).getD [] else []
noncomputable def rcC (M : List (List Int)) : Int := if IsMap M then (if (recV M).isSome then 0 else 4) else 1
theorem specRc_c (M : List (List Int)) (hl : M.length ≤ 1048576) (hr : ∀ xs ∈ M, xs.length ≤ 1048576) : Pure Tryz.prog 22 [maniA M] (.tup [sV (rcT M), i64 (rcC M)]) [] := by
 by_cases h : IsMap M
 ·have := specRc_y M h
  unfold rcT rcC
  rw [if_pos h, if_pos h]
  exact this
 ·have hi := l14Is_c M hl hr
  rw [decide_eq_false h] at hi
  unfold rcT rcC
  rw [if_neg h, if_neg h]
  refine pureV0 ok22 rfl rfl ?_; unfold c22
  refine RN ?_
  refine pureC1 (hi) ?_
  (refine RN ?_; try with_reducible exact trivial)
  all_goals first | done | rfl
variable (tp tq : TypeId) (p q : Value)
theorem recV_ne {M : List (List Int)} {l : List UInt8} (h : recV M = some l) : l ≠ [] := by
 obtain ⟨_, n, o, s, hn, ho, hs, rfl⟩ := recV_some h
 have := (txt_ok (n := n) (by omega) ho hs).2.2.2.2.2.2.2
 intro e
 exact this (List.append_eq_nil_iff.1 e).2
theorem implRc_c (M : List (List Int)) (hl : M.length ≤ 1048576) (hr : ∀ xs ∈ M, xs.length ≤ 1048576) : PureG Tryz.prog (LV tp tq p q) 24 [maniA M] (.tup [sV (rcT M), i64 (rcC M)]) [] := by
 have hi := isMap_c M hl hr
 by_cases h : IsMap M
 ·have hre := recognized_c tp tq p q M h
  rw [decide_eq_true h] at hi
  unfold rcT rcC
  rw [if_pos h, if_pos h]
  cases hv : recV M with
  | none =>
   rw [hv, Option.getD_none] at hre
   rw [Option.getD_none]
   have he : ([] : List UInt8).isEmpty = true := rfl
   refine pureGV ok24 rfl ?_; unfold c24
   refine RN ?_
   refine pureC1 (hi) ?_
   refine RN ?_
   refine pureGC1 (hre) ?_
   (repeat first | simp only [he, go_sem, ↓reduceIte, Nat.reduceEqDiff, Nat.reduceAdd, reduceCtorEq] | refine RX ?_ | decide)
   exact Ref.gc1 []
  | some l =>
   have hne := recV_ne hv
   have he : l.isEmpty = false := by cases l with
    | nil => exact absurd rfl hne
    | cons _ _ => rfl
   rw [hv] at hre
   refine pureGV ok24 rfl ?_; unfold c24
   refine RN ?_
   refine pureC1 (hi) ?_
   refine RN ?_
   refine pureGC1 (hre) ?_
   (repeat first | simp only [he, Option.getD_some, go_sem, ↓reduceIte, Nat.reduceEqDiff, Nat.reduceAdd, reduceCtorEq] | refine RX ?_ | decide)
   exact Ref.gc1 []
 ·rw [decide_eq_false h] at hi
  unfold rcT rcC
  rw [if_neg h, if_neg h]
  refine pureGV ok24 rfl ?_; unfold c24
  refine RN ?_
  refine pureC1 (hi) ?_
  refine RN ?_
  exact Ref.gc1 []
set_option maxHeartbeats 8000000 in
theorem lawLRm_c (M0 : List (List Int)) (ha0 : M0.length ≤ 9223372036854775807) (hr0 : ∀ xs ∈ M0, xs.length ≤ 9223372036854775807) : PureG Tryz.prog (LV tp tq p q) 4 [maniA M0] (bl true) [] := by
 refine pureGV ok4 rfl ?_; unfold c4
 refine RN ?_
 refine pureC1 (szMan_c M0 (1048576) (by omega) (by omega) ha0 hr0) ?_
 refine RN ?_
 refine ⟨fun hs0 => ?_, fun hs0 => ?_⟩
 ·(refine RN ?_; try with_reducible exact trivial)
  exact Ref.gc1 []
 obtain ⟨e0, e02⟩ := left_pos (b := 1048576) (n := M0.length + tot M0) (by omega) (by omega)
 obtain ⟨qa0, qt0, qr0⟩ := mat_b (n := 1048576) (B := M0) (by omega)
 have ga0 : M0.length ≤ 1099511627776 := by omega
 have gr0 : ∀ xs ∈ M0, xs.length ≤ 1099511627776 := fun xs hx => by have := qr0 xs hx; omega
 refine RN ?_
 have hS := specRc_c M0 qa0 qr0
 have hI := implRc_c tp tq p q M0 qa0 qr0
 generalize rcT M0 = Z0 at hS hI
 generalize rcC M0 = Z1 at hS hI
 refine pureC1 (toMan_c M0 ga0 gr0) ?_
 refine RN ?_
 refine pureC1 (hS) ?_
 refine RN ?_
 refine pureC1 (toMan_c M0 ga0 gr0) ?_
 refine RN ?_
 refine pureGC1 (hI) ?_
 (refine RN ?_; try with_reducible exact trivial)
 (try with_reducible refine fun _ => ?_)
 refine RN ?_
 refine pureC1 (toMan_c M0 ga0 gr0) ?_
 refine RN ?_
 refine pureC1 (eqMan_c M0 M0 ga0 gr0 ga0 gr0) ?_
 (refine RN ?_; try with_reducible exact trivial)
 (try with_reducible refine fun _ => ?_)
 refine RN ?_
 exact Ref.gc1 []
end Go.Proofs.YtfcbamfkfadabaaGreatDoor
namespace Go.Proofs.YtfcbamfkfadabaaGreatDoor.JRm
open Go.Proofs.YtfcbamfkfadabaaGreatDoor
open Go.ChangeShapes Go.WideShapes Go.ChangeAt Go.RowKit Go.Gov Go.ChangeMaps
set_option maxHeartbeats 2000000 in
theorem lifted (os : Os) (started : os.Started) (H : Type) (enc : TypeId × Value → H) :
    ReturnsInHanded {} Tryz.checked os 4 .any (fun w args => (Rows.fnExactRecognizeMapSpec.pre enc Tryz.prog Tryz.f4 [] false w args ∧ laidMetH Tryz.prog Rows.fnExactRecognizeMapRow.laid w) ∧ sizedMet enc Tryz.prog Tryz.f4 (OpenSpec.ofChange Rows.fnExactRecognizeMapSpec) false w args) (Rows.fnExactRecognizeMapSpec.post enc Tryz.prog Tryz.f4 false true false false) := by
 refine returnsInHanded_of_change_and (C := Tryz.checked) (X := fun w _ => laidMetH Tryz.prog Rows.fnExactRecognizeMapRow.laid w) (fun _ _ _ hh h => h.of_heap hh) Tryz.own started (by kernel_rfl) Tryz.func4
  (ChangeSpec.witness_shaped (enc := enc) (C := Tryz.checked) (os := os) (X := fun w _ => laidMetH Tryz.prog Rows.fnExactRecognizeMapRow.laid w) false (World.laidAll Tryz.prog os Rows.fnExactRecognizeMapRow.laid) #[.agg #[.slice none 0 0]] 8 (World.laidAll_os _ _ _) (World.shaped_of_ZipB (by kernel_rfl) (by kernel_rfl)) (by kernel_rfl) (by kernel_rfl) (by kernel_rfl) (by rw [MakeChecks.laidMetH_plain _ _ _ (by kernel_rfl)]; exact laidMet_laidAll _ (by kernel_rfl) (by kernel_rfl))) ?_
 intro W base args ds gs before hval0 hW hcnd _ hLaid _
 have hval : ∀ (j : Nat) t v, Tryz.f4.params[j]? = some t → args[j]? = some v → Value.okWide Tryz.prog W .any base t v := hval0
 have hW' := hW
 obtain ⟨p, q, hA0, hV, rfl, hfz, hnd⟩ := hW
 have hA : DataW.TrodAll enc Tryz.prog W 0 (fun _ => true) true Tryz.f4.params.toList args.toList ds p := hA0
 rw [Tryz.params4] at hA hval
 obtain ⟨v0, l0, d0, e0, p0, q0, ha0, rfl, rfl, h0, hA1⟩ := trodAll_cons hA
 obtain ⟨rfl, rfl, rfl⟩ := trodAll_nil hA1
 obtain rfl : args = #[v0] := by rw [← Array.toArray_toList (xs := args), ha0]
 have hv0 := hval 0 42 v0 rfl rfl
 obtain ⟨rfl, rfl⟩ := trodVars_none hV
 obtain ⟨a0, x0, m0, rfl, rfl, hp0, ta0⟩ := open_agg1 Tryz.underlying42 (by kernel_rfl) (by kernel_rfl) hv0 h0
 obtain ⟨u0, B0, hu0, hB0, hBr0, rdB0⟩ := rd_rows Tryz.underlying25 Tryz.underlying32 Tryz.underlying2 (by kernel_rfl) (by kernel_rfl) ta0
 simp only [List.cons.injEq, and_true] at hu0
 subst hu0
 have hrd : ∀ m (h : m < ([maniA B0] : List AV).length), Rd W ((g0 W).tr []) (g0 W).G ([maniA B0] : List AV)[m] ((#[Value.agg #[a0]] : Array Value).getD m undef) [] := fun m h => by
  match m, h with
  | 0, _ => exact .agg rfl fun k hk => match k, hk with
   | 0, _ => rdB0 _
 obtain ⟨tp, tq, p, q, hVs⟩ := vars_in hLaid rfl rfl rfl
 refine (below_ofG (lawLRm_c tp tq p q B0 (Nat.le_trans hB0 (by decide)) (fun xs hx => Nat.le_trans (hBr0 xs hx) (by decide))) hVs rfl hrd).mono fun e W' ⟨he, hb, hz⟩ => ?_
 simp only [List.append_nil] at hW'
 have hS0 : ∀ sp : Nat → Bool, (∀ x ∈ p0, sp x.block = true) → DataW.Trod enc Tryz.prog W' 0 sp true 42 (.agg #[a0]) _ p0 := fun sp hsp =>
  WideElems.Trod_stays Tryz.laidOut (by kernel_rfl) (of_decide_eq_true (by kernel_rfl)) h0 (fun x hx => hb.same (hW'.lt x (by simp [hx]))) (fun x hx => hsp x (by simp [hx]))
 have hR1 : ∀ (b : Nat) (sp : Nat → Bool) (hd : Bool), DataW.Trod enc Tryz.prog W' b sp hd 4 (.bool true) (.lit (.bool true)) [] := fun _ _ _ => shut_bool Tryz.underlying4 true
 refine ⟨_, he, post_of_new (pa := p0) (pv := []) hW' (fun b sp hd => trodAll_mk1 (hR1 b sp hd)) (fun sp hsp => trodAll_mk1 (hS0 sp hsp)) (fun _ _ => ?_) ?_ ?_ hz ?_⟩
 ·rfl
 ·simp
 ·exact hb.frame _
 ·exact ok_one (by kernel_rfl) rfl (okWide_bool_mk Tryz.underlying4 true)
theorem holds : Rows.FnExactRecognizeMapSaid :=
 OpenClaim.holds_of_wide 4 Tryz.f4 rfl rfl rfl rfl rfl rfl rfl ⟨rfl, rfl, rfl, rfl, rfl⟩ rfl rfl rfl rfl rfl (by kernel_rfl) Tryz.func4 (by kernel_rfl)
  (of_decide_eq_true (by kernel_rfl)) (by unfold Func.isWrapper; first | (rw [if_pos (by decide +kernel)]; kernel_rfl) | (rw [if_neg (by decide +kernel)]; exact ⟨rfl, rfl⟩))
  (fun os started H enc _ => lifted os started H enc)
theorem card_holds : Rows.FnExactRecognizeMapCardSaid :=
 Claim7.holds_tied_plain_at .later [] [.data, .data, .data, .data, .sentinel, .sentinel, .pinned] true Rows.fnExactRecognizeMapCard.stood.harness Rows.fnExactRecognizeMapCard.stood.looks
  holds (fun _ h => by cases h) (by kernel_rfl) (fun _ h => by cases h) fnExactRecognizeMap_row_tie rfl ⟨rfl, rfl⟩ (by kernel_rfl) rfl
  (fun f fn hf hfn => by
   obtain rfl : f = 4 := Option.some.inj ((show Tryz.prog.funcNamed "loop.example/g01108/laws.FnExactRecognizeMap" = some 4 by kernel_rfl).symm.trans hf) |>.symm
   obtain rfl : fn = Tryz.f4 := (Option.some.inj (Tryz.func4.symm.trans hfn)).symm
   exact ⟨by kernel_rfl, fun j t ht => by
    rw [Tryz.params4] at ht
    have hm : t ∈ [42] := by simpa using Array.mem_of_getElem? ht
    have hall : ([42].all fun u => !Tryz.prog.wantsStandIn u) = true := by kernel_rfl
    exact (show Tryz.prog.wantsStandIn t = false by simpa using List.all_eq_true.1 hall t hm)⟩)
  (by kernel_rfl)
end Go.Proofs.YtfcbamfkfadabaaGreatDoor.JRm
