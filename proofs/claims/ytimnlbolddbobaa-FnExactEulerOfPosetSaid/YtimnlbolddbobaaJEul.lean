/- FnExactEulerOfPoset: the given statement. -/
import Derived.Test.YtimnlbolddbobaaRows
import Derived.Test.YtimnlbolddbobaaEu2
import Derived.Test.YtimnlbolddbobaaBrd
import Derived.Lib.SmallJoins
set_option linter.unusedSimpArgs false
set_option linter.unusedVariables false
namespace Go.Proofs.Ytimnlbolddbobaa
open Go.ChangeShapes Go.WideShapes Go.ChangeAt Go.RowKit Go.Gov

theorem Try.own : ownKnob Try.prog.godebug = none := by kernel_rfl
theorem Try.laidOut : laidOutB Try.prog = true := by kernel_rfl

set_option maxRecDepth 100000 in
set_option maxHeartbeats 2000000 in
theorem euler_lifted (os : Os) (started : os.Started) (H : Type) (enc : TypeId × Value → H) :
    ReturnsInHanded {} Try.checked os 3 .any (Rows.fnExactEulerOfPosetSpec.pre6 enc Try.prog Try.f3 Rows.fnExactEulerOfPosetRow.domain false) (Rows.fnExactEulerOfPosetSpec.post enc Try.prog Try.f3 false true false false) := by
  refine returnsInHanded_of_change (C := Try.checked) Try.own started (by kernel_rfl) Try.func3
    (ChangeSpec.witness6 (enc := enc) (C := Try.checked) false ⟨#[], #[.agg #[.int .i64 0, .slice none 0 0, .slice none 0 0]], []⟩ 8 (by kernel_rfl) (by kernel_rfl) (by kernel_rfl) (by kernel_rfl)) ?_
  intro W base args ds gs before hval0 hW hcnd _
  have hval : ∀ (j : Nat) t v, Try.f3.params[j]? = some t → args[j]? = some v → Value.okWide Try.prog W .any base t v := hval0
  have hW' := hW
  obtain ⟨p, q, hA0, hV, rfl, hfz, hnd⟩ := hW
  have hA : DataW.TrodAll enc Try.prog W 0 (fun _ => true) true Try.f3.params.toList args.toList ds p := hA0
  rw [Try.params3] at hA hval
  obtain ⟨v0, d0, rfl, rfl, n0, h0⟩ := trodAll_one hA
  have hv0 := hval 0 25 v0 rfl rfl
  obtain ⟨rfl, rfl⟩ := trodVars_none hV
  obtain ⟨c0, c1, c2, y0, y1, y2, n, rfl, rfl, hp, t0, t1, t2⟩ := Go.Joins.open_agg3 Try.underlying25 (by kernel_rfl) (by kernel_rfl) hv0 ⟨n0, h0⟩
  obtain ⟨r, hr, _, _⟩ := DataW.trod_int Try.underlying2 t0
  obtain ⟨s1, R, hs1, hR, rdR⟩ := rd_ints Try.underlying22 Try.underlying2 (by kernel_rfl) t1
  obtain ⟨s2, B, hs2, hB, hBr, rdB⟩ := rd_rows Try.underlying23 Try.underlying22 Try.underlying2 (by kernel_rfl) (by kernel_rfl) t2
  simp only [List.cons.injEq, and_true] at hr hs1 hs2
  subst hr hs1 hs2
  have hrd : ∀ m (h : m < [posetA r R B].length), Rd W ((g0 W).tr []) (g0 W).G [posetA r R B][m] ((#[Value.agg #[.int .i64 r, c1, c2]] : Array Value).getD m undef) [] := fun m h => by
    obtain rfl : m = 0 := by simpa using h
    refine .agg rfl fun k hk => ?_
    match k, hk with
    | 0, _ => exact .val
    | 1, _ => exact rdR _
    | 2, _ => exact rdB _
  refine (below_of (law_c r R B (Nat.le_trans hR (by decide)) (Nat.le_trans hB (by decide)) (fun xs hx => Nat.le_trans (hBr xs hx) (by decide))) rfl hrd).mono fun e W' ⟨he, hb, hz⟩ => ?_
  simp only [List.append_nil] at hW'
  have hA1 : ∀ sp : Nat → Bool, (∀ x ∈ p, sp x.block = true) → DataW.Trod enc Try.prog W' 0 sp true 25 (.agg #[.int .i64 r, c1, c2]) (.agg [y0.1, y1.1, y2.1]) p := fun sp hsp =>
    WideElems.Trod_stays Try.laidOut (by kernel_rfl) (of_decide_eq_true (by kernel_rfl)) ⟨n0, h0⟩ (fun x hx => hb.same (hW'.lt x hx)) hsp
  have hR1 : ∀ (b : Nat) (sp : Nat → Bool) (hd : Bool), DataW.Trod enc Try.prog W' b sp hd 4 (.bool true) (.lit (.bool true)) [] := fun _ _ _ => shut_bool Try.underlying4 true
  refine ⟨_, he, post_of_same (pa := p) (pv := []) hW' (fun b sp hd => trodAll_mk1 (hR1 b sp hd)) (fun sp hsp => trodAll_mk1 (hA1 sp hsp)) (fun _ _ => ?_) ?_ ?_ hz ?_⟩
  · rfl
  · simp
  · exact hb.frame _
  · exact ok_one (by kernel_rfl) rfl (okWide_bool_mk Try.underlying4 true)

theorem euler_holds : Rows.FnExactEulerOfPosetSaid :=
  OpenClaim.holds_of_wide 3 Try.f3 rfl rfl rfl rfl rfl rfl rfl ⟨rfl, rfl, rfl, rfl, rfl⟩ rfl rfl rfl rfl rfl (by kernel_rfl) Try.func3 (by kernel_rfl)
    (of_decide_eq_true (by kernel_rfl)) (by unfold Func.isWrapper; first | (rw [if_pos (by decide +kernel)]; kernel_rfl) | (rw [if_neg (by decide +kernel)]; exact ⟨rfl, rfl⟩))
    (fun os started H enc _ => euler_lifted os started H enc)

end Go.Proofs.Ytimnlbolddbobaa
