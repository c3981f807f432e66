/- Texts that belong together. -/
import Derived.Attr
import Derived.Test.YtkolabjcmephaaaZd
set_option linter.unusedSimpArgs false
set_option linter.unusedVariables false
namespace Go.Gov
theorem map_shr_ints (σ : Nat → Nat) (d : Nat) (xs : List Int) : (intsC xs).map (shr σ d) = intsC xs := by cases d <;> simp [intsC, shr]
theorem map_shr_bools (σ : Nat → Nat) (d : Nat) (xs : List Bool) : (boolsC xs).map (shr σ d) = boolsC xs := by cases d <;> simp [boolsC, shr]
theorem shr_oints (σ : Nat → Nat) (d : Nat) (xs : List Int) : shr σ d (oints xs) = oints xs := by
  cases d with
  | zero => rfl
  | succ d => simp only [oints, shr]; rw [map_shr_ints]
theorem map_shr_orows (σ : Nat → Nat) (d : Nat) (xss : List (List Int)) : (xss.map oints).map (shr σ d) = xss.map oints := by
  rw [List.map_map]; exact List.map_congr_left fun xs _ => shr_oints σ d xs
attribute [go_sem] EvOps EvT EvG EvGrd_some isQuiet qOk qVal putF ax
attribute [go_sem] st stOk get_put if_true if_false Option.map_some Option.map_none gcond
attribute [go_sem] binOk binV intOk intV isSh isEq cellsAt thenA
attribute [go_sem] blockA endQ retQ_none retQ_one retQ_two retQ_three mkF fget
attribute [go_sem] argsOk List.map_cons List.map_nil isExt evLoud loOf hiOf loOk
attribute [go_sem] slOk conOk conV true_and and_true Bool.false_eq_true Bool.true_eq_false beqT
attribute [go_sem] beqF condQ len_intsC len_boolsC List.length_map getD_intsC getD_boolsC getD_rows
attribute [go_sem] plain_intsC plain_boolsC plain_rows plain_val plain_slc plain_pto plain_sl plain_ref
attribute [go_sem] plain_any List.getD_cons_zero List.getD_cons_succ List.length_cons List.length_nil Int.toNat_natCast toNat_pred toNat_succ
attribute [go_sem] Nat.mul_one Nat.zero_add Nat.add_zero implies_true and_self cond_f cond_t decide_eq_true_eq
attribute [go_sem] decide_eq_false_iff_not Int.not_le Int.not_lt ge_iff_le gt_iff_lt imp_self cond_true cond_false
attribute [go_sem] Bool.and_self_left Bool.and_false Bool.false_and Bool.or_false Bool.or_true Bool.false_or Bool.true_or Bool.and_self
attribute [go_sem] Bool.or_self Bool.not_not false_implies true_implies gcond_bl Bool.not_true Bool.not_false cells_agg
attribute [go_sem] cells_i64 cells_bl cells_nil cells_str cells_slc cells_pto cells_sl cells_ref
attribute [go_sem] cells_clo one_int one_bl one_nil one_str one_slc one_pto one_sl
attribute [go_sem] one_ref one_clo splice_one splice_two splice_three mk_one rep_intsC rep_boolsC
attribute [go_sem] set_intsC set_boolsC all_plain_intsC all_one_intsC List.getElem?_cons_zero List.getElem?_cons_succ List.nil_append List.cons_append
attribute [go_sem] List.append_nil List.set_cons_zero List.set_cons_succ List.drop_zero List.take_succ_cons List.drop_succ_cons List.take_zero List.take_nil
attribute [go_sem] List.drop_nil Option.bind_some id_eq Option.isSome_some List.all_cons List.all_nil Bool.and_true Bool.true_and
attribute [go_sem] dstOf srcOf List.length_append List.length_take List.length_set List.length_replicate Nat.lt_add_one Nat.zero_lt_succ
attribute [go_sem] Nat.reduceLT Nat.reduceLeDiff Nat.reduceMul
end Go.Gov
namespace Go.Gov
variable {P : Program} {N : Nat} {g : Gh} {F : Frame} {H : Heap} {a : Act} {w : World} {M : List Nat} {n0 : Nat}

/-- A test: both ways, neither looked at yet. -/
structure Br (p q X Y : Prop) : Prop where
  t : p → X
  f : q → Y
@[congr] theorem Br_congr {p p' q q' X Y : Prop} (h : p = p') (k : q = q') : Br p q X Y = Br p' q' X Y := by rw [h, k]
theorem Br_t (X Y : Prop) : Br True False X Y = X := propext ⟨fun h => h.1 trivial, fun h => ⟨fun _ => h, fun h => h.elim⟩⟩
theorem Br_f (X Y : Prop) : Br False True X Y = Y := propext ⟨fun h => h.2 trivial, fun h => ⟨fun h => h.elim, fun _ => h⟩⟩

def condV (F : Frame) (c : AX) (X Y : Prop) : Prop := match st (ax F c) with
  | .val (.bool b) => stOk (ax F c) ∧ Br (b = true) (b = false) X Y
  | _ => False
@[congr] theorem condV_congr {F F' : Frame} {c : AX} {X Y : Prop} (h : F = F') : condV F c X Y = condV F' c X Y := by rw [h]
@[congr] theorem thenA_congr {n : Frame → Heap → Prop} {Q : Exit → Frame → Heap → Prop} {e : Exit} {F F' : Frame} {H H' : Heap} (hF : F = F') (hH : H = H') : thenA n Q e F H = thenA n Q e F' H' := by rw [hF, hH]
@[congr] theorem blockA_congr {id : Nat} {Q : Exit → Frame → Heap → Prop} {e : Exit} {F F' : Frame} {H H' : Heap} (hF : F = F') (hH : H = H') : blockA id Q e F H = blockA id Q e F' H' := by rw [hF, hH]

def V (P : Program) (M : List Nat) (N n0 : Nat) : ACode → (Exit → Frame → Heap → Prop) → Frame → Heap → Prop
  | .skip, Q => Q .normal
  | .ops h t, Q => Later P true h (Later P false t (Q .normal))
  | .alts t, Q => W P M N n0 (.alts t) Q
  | .seq x y, Q => V P M N n0 x (thenA (W P M N n0 y Q) Q)
  | .cond c x y, Q => fun F H => condV F c (V P M N n0 x Q F H) (V P M N n0 y Q F H)
  | .block id x, Q => V P M N n0 x (blockA id Q)
  | .loop x, Q => W P M N n0 (.loop x) Q
  | .exit id, Q => Q (.exit id)
  | .ret, Q => Q .ret
@[congr] theorem V_congr {c : ACode} {Q : Exit → Frame → Heap → Prop} {F F' : Frame} {H H' : Heap} (hF : F = F') (hH : H = H') : V P M N n0 c Q F H = V P M N n0 c Q F' H' := by rw [hF, hH]

theorem V_W : ∀ {c : ACode} {Q : Exit → Frame → Heap → Prop} {F : Frame} {H : Heap}, V P M N n0 c Q F H → W P M N n0 c Q F H
  | .skip, _, _, _, h => W_skip h
  | .ops _ _, _, _, _, h => W_ops2 h
  | .alts _, _, _, _, h => h
  | .seq x y, Q, _, _, h => W_seq (V_W (c := x) h)
  | .cond c x y, Q, F, H, h => W_cond2 (by
      have h : condV F c (V P M N n0 x Q F H) (V P M N n0 y Q F H) := h
      unfold condV at h
      unfold condQ
      split at h
      · rename_i b hb
        simp only [hb]
        exact ⟨h.1, fun hb => V_W (h.2.1 hb), fun hb => V_W (h.2.2 hb)⟩
      · exact h.elim)
  | .block _ x, _, _, _, h => W_block (V_W (c := x) h)
  | .loop _, _, _, _, h => h
  | .exit _, _, _, _, h => W_exit h
  | .ret, _, _, _, h => W_ret h

section
variable {Q : Exit → Frame → Heap → Prop}
theorem V_skip : V P M N n0 .skip Q F H = Q .normal F H := rfl
theorem V_ops (h t : List GOp) : V P M N n0 (.ops h t) Q F H = Later P true h (Later P false t (Q .normal)) F H := rfl
theorem V_os (t : List GOp) : V P M N n0 (os t) Q F H = Later P false t (Q .normal) F H := rfl
theorem V_alts {t : GT} (h : EvT P false t (Q .normal) F H) : V P M N n0 (.alts t) Q F H := W_alts h
theorem V_seq (x y : ACode) : V P M N n0 (.seq x y) Q F H = V P M N n0 x (thenA (W P M N n0 y Q) Q) F H := rfl
theorem V_cond (c : AX) (x y : ACode) : V P M N n0 (.cond c x y) Q F H = condV F c (V P M N n0 x Q F H) (V P M N n0 y Q F H) := rfl
theorem V_block (id : Nat) (x : ACode) : V P M N n0 (.block id x) Q F H = V P M N n0 x (blockA id Q) F H := rfl
theorem V_exit (id : Nat) : V P M N n0 (.exit id) Q F H = Q (.exit id) F H := rfl
theorem V_ret : V P M N n0 .ret Q F H = Q .ret F H := rfl
theorem V_ref {c : ACode} {F' : Frame} {H' : Heap} (hr : Ref n0 F H F' H') (h : V P M N n0 c Q F' H') : W P M N n0 c Q F H := W_ref hr (V_W h)
theorem V_mono {c : ACode} {Q' : Exit → Frame → Heap → Prop} (h : V P M N n0 c Q F H) (hq : ∀ e F H, Q e F H → Q' e F H) : W P M N n0 c Q' F H := W_mono (V_W h) hq

theorem evLoud_mono {x : AOp} {K K' : AV → Heap → Prop} (h : evLoud x F H K) (hk : ∀ av H', K av H' → K' av H') : evLoud x F H K' := by
  unfold evLoud at *
  split at h <;> grind
theorem GCall_mono {gb : Bool} {C K K' : AV → Prop} (h : GCall gb C K) (hk : ∀ av, K av → K' av) : GCall gb C K' := h.imp fun av h => ⟨h.1, hk av h.2⟩
theorem EvGrd_mono {g : Option Bool} {A B : Bool → Prop} (h : EvGrd g A) (hk : ∀ b, A b → B b) : EvGrd g B := by
  cases g with
  | none => exact h
  | some b => exact hk b h
theorem EvG_mono {ext : Bool} {x : GOp} {K K' : Frame → Heap → Prop} (h : EvG P ext x K F H) (hk : ∀ F H, K F H → K' F H) : EvG P ext x K' F H := by
  obtain ⟨d, g, o⟩ := x
  cases g with
  | none =>
    unfold EvG at *
    dsimp only at *
    by_cases hq : isQuiet o = true
    · rw [if_pos hq] at *
      exact ⟨h.1, hk _ _ h.2⟩
    · rw [if_neg hq] at *
      split at h
      · exact ⟨h.1, h.2.mono fun _ _ => hk _ _⟩
      · refine ⟨h.1, h.2.1, ?_⟩
        have h3 := h.2.2
        split at h3
        · exact ⟨h3.1, h3.2.mono fun _ _ => hk _ _⟩
        · exact h3.elim
      · exact ⟨h.1, evLoud_mono h.2 fun _ _ => hk _ _⟩
  | some sw =>
    obtain ⟨s, w⟩ := sw
    unfold EvG at *
    dsimp only at *
    refine EvGrd_mono h fun b hb => ?_
    by_cases hq : isQuiet o = true
    · rw [if_pos hq] at *
      exact ⟨hb.1, hk _ _ hb.2⟩
    · rw [if_neg hq] at *
      split at hb
      · exact GCall_mono hb fun _ => hk _ _
      · exact hb.elim
theorem EvT_mono {K K' : Frame → Heap → Prop} (hk : ∀ F H, K F H → K' F H) : ∀ (t : GT) (b : Bool) (F : Frame) (H : Heap), EvT P b t K F H → EvT P b t K' F H
  | .fin, b, F, H, h => by
    unfold EvT at *
    cases b with
    | true => trivial
    | false => exact hk _ _ h
  | .reg x t, b, F, H, h => by
    unfold EvT at *
    exact EvG_mono h (EvT_mono hk t false)
  | .alt e x t u, b, F, H, h => by
    unfold EvT at *
    exact ⟨EvG_mono h.1 (EvT_mono hk t false), EvT_mono hk u true _ _ h.2⟩
/-- All orders come to one state. -/
theorem V_altsR {t : GT} {y : ACode} (F1 : Frame) (H1 : Heap) (hE : EvT P false t (fun F' H' => Ref n0 F' H' F1 H1) F H) (hy : W P M N n0 y Q F1 H1) : V P M N n0 (.alts t) (thenA (W P M N n0 y Q) Q) F H :=
  W_alts (EvT_mono (fun F' H' h => W_ref h hy) t false F H hE)

/-- A loop: its states by a parameter; every round comes to such a state with a smaller number. -/
theorem V_loop {α : Type} (S : α → Frame × Heap) (C : α → Prop) (μ : α → Nat) (x0 : α) (h0 : C x0) (hr : Ref n0 F H (S x0).1 (S x0).2) {c : ACode}
    (round : ∀ x, C x → V P M N n0 c (thenA (fun F' H' => ∃ x', C x' ∧ μ x' < μ x ∧ Ref n0 F' H' (S x').1 (S x').2) Q) (S x).1 (S x).2) : V P M N n0 (.loop c) Q F H :=
  W_loop S C μ x0 h0 hr fun x hx => V_W (round x hx)
end

theorem Later_0 {ext : Bool} {K : Frame → Heap → Prop} : Later P ext [] K F H = K F H := rfl
theorem Later_1 {ext : Bool} {K : Frame → Heap → Prop} (x1 : GOp) : Later P ext [x1] K F H = EvOps P ext [x1] K F H := rfl
theorem Later_2 {ext : Bool} {K : Frame → Heap → Prop} (x1 x2 : GOp) : Later P ext [x1, x2] K F H = EvOps P ext [x1, x2] K F H := rfl
theorem Later_3 {ext : Bool} {K : Frame → Heap → Prop} (x1 x2 x3 : GOp) (l : List GOp) : Later P ext (x1 :: x2 :: x3 :: l) K F H = EvOps P ext [x1, x2, x3] (Later P ext l K) F H := rfl

/-! ### Functions and calls -/

theorem pureV {f : FuncId} {ac : ACode} {rs : List AOp} {args : List AV} {x : AV} {H0 : Heap} (hc : compileFn P M f = some (N, ac, rs)) (hl : decide (args.length ≤ N) = true) (h : V P M N 0 ac (endQ rs fun av H' => av = x ∧ H' = H0) (mkF 0 args) []) : Pure P f args x H0 := pure_of_W hc hl (V_W h)
theorem pureV0 {f : FuncId} {ac : ACode} {rs : List AOp} {args : List AV} {x : AV} (hc : compileFn P M f = some (N, ac, rs)) (hl : decide (args.length ≤ N) = true) (hx : rnm (gcT [] 0) x = x) (h : V P M N 0 ac (endQ rs fun av _ => av = x) (mkF 0 args) []) : Pure P f args x [] := pure_of_W0 hc hl hx (V_W h)
theorem pureVg {f : FuncId} {ac : ACode} {rs : List AOp} {args : List AV} {x : AV} {H0 : Heap} (ks : List Nat) (hc : compileFn P M f = some (N, ac, rs)) (hl : decide (args.length ≤ N) = true) (h : V P M N 0 ac (endQ rs fun av H' => gcOk ks H'.length 0 = true ∧ rnm (gcT ks 0) av = x ∧ gcH ks H' = H0) (mkF 0 args) []) : Pure P f args x H0 := pure_of_Wg ks hc hl (V_W h)
theorem pureEV {f : FuncId} {ac : ACode} {rs : List AOp} {args : List AV} {α : Type} {Q : α → Prop} {x : α → AV} {H0 : α → Heap} (ks : List Nat) (hc : compileFn P M f = some (N, ac, rs)) (hl : decide (args.length ≤ N) = true)
    (h : V P M N 0 ac (endQ rs fun av H' => gcOk ks H'.length 0 = true ∧ ∃ o, Q o ∧ rnm (gcT ks 0) av = x o ∧ gcH ks H' = H0 o) (mkF 0 args) []) : PureE P f args Q x H0 := pureE_of_Wg ks hc hl (V_W h)
theorem wriV {f : FuncId} {ac : ACode} {rs : List AOp} {args : List AV} {H0 : Heap} {x : AV} {H1 : Heap} (hc : compileFn P M f = some (N, ac, rs)) (hl : decide (args.length ≤ N) = true) (h : V P M N H0.length ac (endQ rs fun av H' => av = x ∧ H' = H1) (mkF 0 args) H0) : Wri P f args H0 x H1 := wri_of_W hc hl (V_W h)
theorem wriVg {f : FuncId} {ac : ACode} {rs : List AOp} {args : List AV} {H0 : Heap} {x : AV} {H1 : Heap} (ks : List Nat) (hc : compileFn P M f = some (N, ac, rs)) (hl : decide (args.length ≤ N) = true) (h : V P M N H0.length ac (endQ rs fun av H' => gcOk ks H'.length H0.length = true ∧ rnm (gcT ks 0) av = x ∧ gcH ks H' = H1) (mkF 0 args) H0) : Wri P f args H0 x H1 := wri_of_Wg ks hc hl (V_W h)

/-- No call: its guard is false. -/
theorem GCall_no {gb : Bool} {C K : AV → Prop} (av : AV) (h : gb = false) (hk : K av) : GCall gb C K := ⟨av, fun e => absurd (h ▸ e) (by decide), hk⟩
theorem pureC {ext : Bool} {f : FuncId} {args args' : List AV} {x : AV} {H0 : Heap} {K : AV → Heap → Prop} (h : Pure P f args x H0) (ha : args'.map (frz H 6) = args) (hx : (nf 6 x && nfH 6 H0) = true) (hK : K (shf H.length 6 x) (H ++ shfH H.length 6 H0)) : CallsX P ext f args' H K :=
  call_pure h ha (Bool.and_eq_true_iff.1 hx).1 (Bool.and_eq_true_iff.1 hx).2 hK
theorem pureEC {ext : Bool} {f : FuncId} {args args' : List AV} {α : Type} {Q : α → Prop} {x : α → AV} {H0 : α → Heap} {K : AV → Heap → Prop} (h : PureE P f args Q x H0) (ha : args'.map (frz H 6) = args) (hx : ∀ o, (nf 6 (x o) && nfH 6 (H0 o)) = true)
    (hK : ∀ o, Q o → K (shf H.length 6 (x o)) (H ++ shfH H.length 6 (H0 o))) : CallsX P ext f args' H K := call_pureE h ha (fun o => (Bool.and_eq_true_iff.1 (hx o)).1) (fun o => (Bool.and_eq_true_iff.1 (hx o)).2) hK
theorem wriC {f : FuncId} {args args' : List AV} {H0 : Heap} {x : AV} {H1 : Heap} {K : AV → Heap → Prop} (h : Wri P f args H0 x H1) (ks : List Nat) (hks : (decide ks.Nodup && ks.all fun o => decide (o < H.length)) = true) (hH : gcH ks H = H0) (ha : args'.map (vw ks H 6) = args) (hx : (nf 6 x && nfH 6 H1) = true)
    (hK : K (shr (sgm ks H.length) 6 x) (putB ks (shrH (sgm ks H.length) 6 H1) H)) : CallsX P false f args' H K := call_wri h ks hks hH ha (Bool.and_eq_true_iff.1 hx).1 (Bool.and_eq_true_iff.1 hx).2 hK

theorem take_map_len {α : Type} (f : α → AV) (L : List α) : (L.map f).take L.length = L.map f := List.take_of_length_le (by simp)
theorem take_map_app {α : Type} (f : α → AV) (L R : List α) : ((L ++ R).map f).take L.length = L.map f := by rw [← List.map_take, List.take_left']; rfl
theorem take_ints_len (xs : List Int) : (intsC xs).take xs.length = intsC xs := take_map_len _ _
theorem take_ints_app (xs ys : List Int) : (intsC (xs ++ ys)).take xs.length = intsC xs := take_map_app _ _ _
theorem take_bools_len (xs : List Bool) : (boolsC xs).take xs.length = boolsC xs := take_map_len _ _
theorem tn0 : Int.toNat 0 = 0 := rfl
theorem tn1 : Int.toNat 1 = 1 := rfl
theorem tn2 : Int.toNat 2 = 2 := rfl
theorem tn3 : Int.toNat 3 = 3 := rfl
attribute [go_sem] tn0 tn1 tn2 tn3
attribute [go_sem] take_map_len take_map_app take_ints_len take_ints_app take_bools_len not_true_eq_false not_false_eq_true decide_true decide_false bne_self_eq_false beq_self_eq_true
attribute [go_sem] Br_t Br_f condV V_skip V_ops V_os V_seq V_cond V_block V_exit V_ret Later_0 Later_1 Later_2 Later_3
attribute [go_sem] gm gz gn gp gq kk ldi
attribute [go_sem] frz map_frz_ints map_frz_bools map_frz_rows map_frz_orows take_all_intsC take_all_orows
attribute [go_sem] nfH nf all_nf_ints all_nf_bools all_nf_orows
attribute [go_sem] shf shfH map_shf_ints map_shf_bools map_shf_orows
attribute [go_sem] gcH gcC gcF gcT rnmL_ints rnmL_bools rnmL_rows rnmL_orows rnmL_app rnmL_rep rnmL_set rnm rnmL
attribute [go_sem] vw killL shr sgm shrH putB map_shr_ints map_shr_bools map_shr_orows rnmH shT deadH
attribute [go_sem] inI64 bne_eq_false_iff_eq Bool.and_eq_true Bool.or_eq_true Bool.not_eq_true' Bool.not_eq_false' Bool.and_eq_false_iff Bool.or_eq_false_iff
attribute [go_sem] beq_iff_eq beq_eq_false_iff_ne bne_iff_ne ne_eq Bool.not_eq_true Bool.not_eq_false
end Go.Gov
namespace Go.Gov
variable {P : Program} {N : Nat} {g : Gh} {F : Frame} {H : Heap} {a : Act} {w : World} {M : List Nat} {n0 : Nat}

def frzF (H : Heap) (F : Frame) : Frame := F.map fun p => (p.1, frz H 6 p.2)
theorem frzF_get (H : Heap) : ∀ (F : Frame) (j : Nat), fget (frzF H F) j = frz H 6 (fget F j) ∨ fget (frzF H F) j = .any
  | [], _ => .inr rfl
  | (i, x) :: l, j => by
    simp only [frzF, List.map_cons, get_put]
    by_cases e : i = j
    · rw [if_pos e, if_pos e]; exact .inl rfl
    · rw [if_neg e, if_neg e]; exact frzF_get H l j
theorem Ref.dead {F' : Frame} (hF : sub (frzF H F) F') : Ref n0 F H F' (deadH H) := fun N g a w hR => by
  have hm := dead_mv hR.hp
  refine ⟨_, ⟨fun j => ?_, hm.hp, hR.size, hR.defers⟩, hm.toN⟩
  have h1 := frz_own hR.hp 6 _ _ [] (hR.fr j) (by simp)
  have h2 : Rd w ((⟨g.ρ, g.ob, fun b => g.G b ∨ g.owns H b⟩ : Gh).tr (deadH H)) (fun b => g.G b ∨ g.owns H b) (frz H 6 (fget F j)) (a.tmps.getD j undef) [] :=
    h1.mono (fun _ h => h) (fun _ _ => rfl) (fun _ _ h => by cases h) (by simp)
  rcases sub_get hF j with e | e
  · rw [e]; exact .any
  · rw [e]
    rcases frzF_get H F j with e2 | e2
    · rw [e2]; exact h2
    · rw [e2]; exact .any
/-- The orders to come, told an operation at a time. -/
def LT (P : Program) (b : Bool) (t : GT) (K : Frame → Heap → Prop) (F : Frame) (H : Heap) : Prop := EvT P b t K F H
@[congr] theorem LT_congr {b : Bool} {t : GT} {K : Frame → Heap → Prop} {F' : Frame} {H' : Heap} (hF : F = F') (hH : H = H') : LT P b t K F H = LT P b t K F' H' := by rw [hF, hH]
theorem LT_fin {K : Frame → Heap → Prop} (h : K F H) : LT P false .fin K F H := h
theorem LT_tt {K : Frame → Heap → Prop} : LT P true .fin K F H := trivial
theorem LT_reg {b : Bool} {x : GOp} {t : GT} {K : Frame → Heap → Prop} (h : EvG P true x (LT P false t K) F H) : LT P b (.reg x t) K F H := h
theorem LT_alt {b e : Bool} {x : GOp} {t u : GT} {K : Frame → Heap → Prop} (h : EvG P e x (LT P false t K) F H) (k : LT P true u K F H) : LT P b (.alt e x t u) K F H := ⟨h, k⟩
/-- All orders come to one state. -/
theorem V_altsS {t : GT} {y : ACode} {Q : Exit → Frame → Heap → Prop} (F1 : Frame) (H1 : Heap) (hE : LT P false t (fun F' H' => Ref n0 F' H' F1 H1) F H) (hy : W P M N n0 y Q F1 H1) : V P M N n0 (.alts t) (thenA (W P M N n0 y Q) Q) F H :=
  W_alts (EvT_mono (fun F' H' h => W_ref h hy) t false F H hE)
/-- All orders come to one state: at a block's end. -/
theorem V_altsB {t : GT} {y : ACode} {id : Nat} {Q Q' : Exit → Frame → Heap → Prop} (F1 : Frame) (H1 : Heap) (hE : LT P false t (fun F' H' => Ref n0 F' H' F1 H1) F H) (hy : W P M N n0 y Q F1 H1) : V P M N n0 (.alts t) (blockA id (thenA (W P M N n0 y Q) Q')) F H :=
  W_alts (EvT_mono (fun F' H' h => W_ref h hy) t false F H hE)
end Go.Gov
