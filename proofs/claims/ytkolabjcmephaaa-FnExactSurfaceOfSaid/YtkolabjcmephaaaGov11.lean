/- Code, the rules of the walk, a function's contract. -/
import Derived.Test.YtkolabjcmephaaaGov10
set_option linter.unusedSimpArgs false
set_option linter.unusedVariables false
namespace Go.Gov
variable {P : Program} {N : Nat} {g : Gh} {F : Frame} {H : Heap} {a : Act} {w : World} {M : List Nat} {n0 : Nat}

inductive ACode where
  | skip
  | ops (h t : List GOp)
  | alts (t : GT)
  | seq (x y : ACode)
  | cond (c : AX) (x y : ACode)
  | block (id : Nat) (x : ACode)
  | loop (x : ACode)
  | exit (id : Nat)
  | ret

/-! Short words for the codes' texts. -/
def kk (n : Int) : AX := .c (.int .i64 n)
def gm (d s : Nat) : GOp := ⟨some d, none, .mov (.s s)⟩
def gz (d : Nat) (n : Int) : GOp := ⟨some d, none, .mov (.c (.int .i64 n))⟩
def gn (d : Nat) : GOp := ⟨some d, none, .mov (.c (.slice none 0 0))⟩
def gp (d : Nat) (x : AOp) : GOp := ⟨some d, none, x⟩
def gq (d s : Nat) (b : Bool) (x : AOp) : GOp := ⟨some d, some ⟨s, b⟩, x⟩
def ldi (s : Nat) : AOp := .load (.val (.int .i64 0)) (.s s)
abbrev os (t : List GOp) : ACode := .ops [] t

/-- A region as code: two lists where an order may be chosen; else the tree of its orders. -/
def compileRegionC (P : Program) (M : List Nat) (N : Nat) (ops : Array Oper) (draw : Bool) : Option ACode := match compileRegion0 P M N ops draw with
  | some p => some (.ops p.1 p.2)
  | none => match draw, compileRegionT P M N ops with
    | true, some t => some (.alts t)
    | _, _ => some (.ops [] [⟨none, none, .bad⟩])
theorem compileRegionC_inv {ops : Array Oper} {draw : Bool} {c : ACode} (h : compileRegionC P M N ops draw = some c) : (∃ hd tl, c = .ops hd tl ∧ compileRegion P M N ops draw = some (hd, tl)) ∨ ∃ t, c = .alts t ∧ draw = true ∧ compileRegionT P M N ops = some t := by
  unfold compileRegionC at h
  split at h
  · rename_i p hp
    simp only [Option.some.injEq] at h
    subst h
    exact .inl ⟨p.1, p.2, rfl, by simp [compileRegion, hp]⟩
  · rename_i hp
    split at h
    · rename_i t ht
      simp only [Option.some.injEq] at h
      subst h
      exact .inr ⟨t, rfl, rfl, ht⟩
    · simp only [Option.some.injEq] at h
      subst h
      exact .inl ⟨_, _, rfl, by simp [compileRegion, hp]⟩

def compileCode (P : Program) (M : List Nat) (N : Nat) : Code → Option ACode
  | .skip => some .skip
  | .region _ ops draw => compileRegionC P M N ops draw
  | .seq x y => match compileCode P M N x, compileCode P M N y with
    | some x, some y => some (.seq x y)
    | _, _ => none
  | .cond c x y => match compileCode P M N x, compileCode P M N y with
    | some x, some y => some (.cond (cX c) x y)
    | _, _ => none
  | .block id x => (compileCode P M N x).map (.block id)
  | .loop x => (compileCode P M N x).map .loop
  | .exit id => some (.exit id)
  | .ret => some .ret
  | _ => none

/-- From one state's ghost to a later one's, for whoever knows the first n objects. -/
structure MvN (n : Nat) (g : Gh) (H : Heap) (w : World) (g' : Gh) (H' : Heap) (w' : World) : Prop where
  hp : HeapR g' H' w'
  stp : Step w w' (g.owns H) (g'.owns H') g.G g'.G
  trk : ∀ o d, o < n → g.tr H o = some d → g'.tr H' o = some d ∨ g'.tr H' o = some none

theorem MvN.refl {n : Nat} (hp : HeapR g H w) : MvN n g H w g H w := ⟨hp, Step.refl _ _ _, fun _ _ _ h => .inl h⟩
theorem MvN.trans {n : Nat} {g' g'' : Gh} {H' H'' : Heap} {w' w'' : World} (h : MvN n g H w g' H' w') (k : MvN n g' H' w' g'' H'' w'') : MvN n g H w g'' H'' w'' :=
  ⟨k.hp, h.stp.trans k.stp, fun o d ho hd => (h.trk o d ho hd).elim (fun h1 => k.trk o d ho h1) (fun h1 => .inr ((k.trk o none ho h1).elim id id))⟩
theorem Mv.toN {n : Nat} {g' : Gh} {H' : Heap} {w' : World} (h : Mv g H w g' H' w') : MvN n g H w g' H' w' := ⟨h.hp, h.stp, fun o d _ => h.trk o d⟩
theorem tr_lt {o : Nat} {d : Option LocN} (h : g.tr H o = some d) : o < H.length := by
  rcases Nat.lt_or_ge o H.length with h' | h'
  · exact h'
  · unfold Gh.tr at h; rw [List.getElem?_eq_none h'] at h; cases h
theorem MvN.toMv {g' : Gh} {H' : Heap} {w' : World} (hp : HeapR g H w) (h : MvN H.length g H w g' H' w') : Mv g H w g' H' w' := by
  have trk : ∀ o d, g.tr H o = some d → g'.tr H' o = some d ∨ g'.tr H' o = some none := fun o d hd => h.trk o d (tr_lt hd) hd
  refine ⟨h.hp, h.stp, fun x v hx => hx.mono h.stp.gin (fun b hb => h.stp.keep b (hp.low b hb) fun ⟨o, cs, ho, hbo⟩ => hp.free o cs ho b hbo hb) trk (by simp), trk⟩

def Fin (N n0 : Nat) (g : Gh) (H : Heap) (w : World) (Q : Exit → Frame → Heap → Prop) : Exit → Act → World → Prop := fun e a' w' =>
  (∀ c, e ≠ .panic c) ∧ ∃ g' F' H', R N g' F' H' a' w' ∧ MvN n0 g H w g' H' w' ∧ Q e F' H'

/-- THE WALK: from a frame and a heap, the code comes to an end that Q tells. -/
def W (P : Program) (M : List Nat) (N n0 : Nat) (c : ACode) (Q : Exit → Frame → Heap → Prop) (F : Frame) (H : Heap) : Prop :=
  ∀ code, compileCode P M N code = some c → ∀ g a w, R N g F H a w → code.wp P (Fin N n0 g H w Q) a w

/-- One state may be told as another. -/
def Ref (n0 : Nat) (F : Frame) (H : Heap) (F' : Frame) (H' : Heap) : Prop := ∀ N g a w, R N g F H a w → ∃ g', R N g' F' H' a w ∧ MvN n0 g H w g' H' w

def thenA (next : Frame → Heap → Prop) (Q : Exit → Frame → Heap → Prop) : Exit → Frame → Heap → Prop
  | .normal, F, H => next F H
  | e, F, H => Q e F H
def blockA (id : Nat) (Q : Exit → Frame → Heap → Prop) : Exit → Frame → Heap → Prop
  | .exit id', F, H => if id' = id then Q .normal F H else Q (.exit id') F H
  | e, F, H => Q e F H

section
variable {Q : Exit → Frame → Heap → Prop}

theorem Fin.trans {g' : Gh} {H' : Heap} {w' : World} {e : Exit} {a' : Act} {w'' : World} (hm : MvN n0 g H w g' H' w') (h : Fin N n0 g' H' w' Q e a' w'') : Fin N n0 g H w Q e a' w'' := by
  obtain ⟨h1, g'', F'', H'', hR, hm', hq⟩ := h
  exact ⟨h1, g'', F'', H'', hR, hm.trans hm', hq⟩

theorem W_ref {c : ACode} {F' : Frame} {H' : Heap} (hr : Ref n0 F H F' H') (h : W P M N n0 c Q F' H') : W P M N n0 c Q F H := fun code hc g a w hR => by
  obtain ⟨g', hR', hm⟩ := hr N g a w hR
  exact wp_mono (h code hc g' a w hR') fun e a w h => h.trans hm

theorem W_mono {c : ACode} {Q' : Exit → Frame → Heap → Prop} (h : W P M N n0 c Q F H) (hq : ∀ e F H, Q e F H → Q' e F H) : W P M N n0 c Q' F H := fun code hc g a w hR =>
  wp_mono (h code hc g a w hR) fun _ _ _ ⟨h1, g', F', H', hR', hm, hk⟩ => ⟨h1, g', F', H', hR', hm, hq _ _ _ hk⟩

theorem W_skip (h : Q .normal F H) : W P M N n0 .skip Q F H := fun code hc g a w hR => by
  cases code <;> simp only [compileCode, Option.map_eq_some_iff, Option.some.injEq, reduceCtorEq, and_false, exists_false] at hc
  · exact wp_skip ⟨fun c => by simp, g, F, H, hR, .refl hR.hp, h⟩
  all_goals (try (split at hc <;> cases hc))
  all_goals (rcases compileRegionC_inv hc with ⟨_, _, he, _⟩ | ⟨_, he, _⟩ <;> cases he)

theorem W_exit {id : Nat} (h : Q (.exit id) F H) : W P M N n0 (.exit id) Q F H := fun code hc g a w hR => by
  cases code <;> simp only [compileCode, Option.map_eq_some_iff, Option.some.injEq, reduceCtorEq, and_false, exists_false, ACode.exit.injEq] at hc
  case exit id' => subst hc; exact wp_exit ⟨fun c => by simp, g, F, H, hR, .refl hR.hp, h⟩
  all_goals (try (split at hc <;> cases hc))
  all_goals (rcases compileRegionC_inv hc with ⟨_, _, he, _⟩ | ⟨_, he, _⟩ <;> cases he)

theorem W_ret (h : Q .ret F H) : W P M N n0 .ret Q F H := fun code hc g a w hR => by
  cases code <;> simp only [compileCode, Option.map_eq_some_iff, Option.some.injEq, reduceCtorEq, and_false, exists_false] at hc
  case ret => exact wp_ret ⟨fun c => by simp, g, F, H, hR, .refl hR.hp, h⟩
  all_goals (try (split at hc <;> cases hc))
  all_goals (rcases compileRegionC_inv hc with ⟨_, _, he, _⟩ | ⟨_, he, _⟩ <;> cases he)

theorem W_ops {h t : List GOp} (hE : EvOps P true h (EvOps P false t (Q .normal)) F H) : W P M N n0 (.ops h t) Q F H := fun code hc g a w hR => by
  cases code <;> simp only [compileCode, Option.map_eq_some_iff, Option.some.injEq, reduceCtorEq, and_false, exists_false] at hc
  case region id ops draw =>
    rcases compileRegionC_inv hc with ⟨h', t', he, hc'⟩ | ⟨_, he, _⟩
    · cases he
      exact region_wp hc' hE hR (fun c a w h => h.1 c rfl) fun g' F' H' a' w' hR' hm hk => ⟨fun c => by simp, g', F', H', hR', hm.toN, hk⟩
    · cases he
  all_goals (try (split at hc <;> cases hc))

theorem W_alts {t : GT} (hE : EvT P false t (Q .normal) F H) : W P M N n0 (.alts t) Q F H := fun code hc g a w hR => by
  cases code <;> simp only [compileCode, Option.map_eq_some_iff, Option.some.injEq, reduceCtorEq, and_false, exists_false] at hc
  case region id ops draw =>
    rcases compileRegionC_inv hc with ⟨h', t', he, hc'⟩ | ⟨_, he, hd, hc'⟩
    · cases he
    · cases he
      subst hd
      exact regionT_wp hc' hE hR (fun c a w h => h.1 c rfl) fun g' F' H' a' w' hR' hm hk => ⟨fun c => by simp, g', F', H', hR', hm.toN, hk⟩
  all_goals (try (split at hc <;> cases hc))

theorem W_seq {x y : ACode} (h : W P M N n0 x (thenA (W P M N n0 y Q) Q) F H) : W P M N n0 (.seq x y) Q F H := fun code hc g a w hR => by
  cases code <;> simp only [compileCode, Option.map_eq_some_iff, Option.some.injEq, reduceCtorEq, and_false, exists_false] at hc
  case seq cx cy =>
    split at hc
    · rename_i x' y' hx hy
      simp only [Option.some.injEq, ACode.seq.injEq] at hc
      obtain ⟨rfl, rfl⟩ := hc
      refine wp_seq (wp_mono (h cx hx g a w hR) fun e a' w' hf => ?_)
      obtain ⟨h1, g', F', H', hR', hm, hk⟩ := hf
      cases e with
      | normal => exact wp_mono (hk cy hy g' a' w' hR') fun e a w h => h.trans hm
      | panic c => exact absurd rfl (h1 c)
      | _ => exact ⟨h1, g', F', H', hR', hm, hk⟩
    · cases hc
  all_goals (try (split at hc <;> cases hc))
  all_goals (rcases compileRegionC_inv hc with ⟨_, _, he, _⟩ | ⟨_, he, _⟩ <;> cases he)

theorem W_cond {c : AX} {x y : ACode} {b : Bool} (hb : st (ax F c) = bl b) (hok : stOk (ax F c)) (ht : b = true → W P M N n0 x Q F H) (hf : b = false → W P M N n0 y Q F H) : W P M N n0 (.cond c x y) Q F H := fun code hc g a w hR => by
  cases code <;> simp only [compileCode, Option.map_eq_some_iff, Option.some.injEq, reduceCtorEq, and_false, exists_false] at hc
  case cond c' cx cy =>
    split at hc
    · rename_i x' y' hx hy
      simp only [Option.some.injEq, ACode.cond.injEq] at hc
      obtain ⟨rfl, rfl, rfl⟩ := hc
      have hv := bl_inv (sx_rd hR c' hok) hb
      exact wp_cond_split hv (fun e => ht e cx hx g a w hR) (fun e => hf e cy hy g a w hR)
    · cases hc
  all_goals (try (split at hc <;> cases hc))
  all_goals (rcases compileRegionC_inv hc with ⟨_, _, he, _⟩ | ⟨_, he, _⟩ <;> cases he)

/-- All orders come to one state. -/
theorem W_seqAlts {t : GT} {y : ACode} (F1 : Frame) (H1 : Heap) (hE : EvT P false t (fun F' H' => Ref n0 F' H' F1 H1) F H) (hy : W P M N n0 y Q F1 H1) : W P M N n0 (.seq (.alts t) y) Q F H :=
  W_seq (W_mono (W_alts (Q := fun e F' H' => match e with | .normal => Ref n0 F' H' F1 H1 | _ => False) hE) fun e F' H' h => by
    cases e <;> first | exact h.elim | exact W_ref h hy)

theorem W_block {id : Nat} {x : ACode} (h : W P M N n0 x (blockA id Q) F H) : W P M N n0 (.block id x) Q F H := fun code hc g a w hR => by
  cases code <;> simp only [compileCode, Option.map_eq_some_iff, Option.some.injEq, reduceCtorEq, and_false, exists_false] at hc
  case block id' cx =>
    obtain ⟨x', hx, he⟩ := hc
    simp only [ACode.block.injEq] at he
    obtain ⟨rfl, rfl⟩ := he
    refine wp_block (wp_mono (h cx hx g a w hR) fun e a' w' hf => ?_)
    obtain ⟨h1, g', F', H', hR', hm, hk⟩ := hf
    cases e with
    | exit i =>
      simp only [Exit.inBlock, blockA] at hk ⊢
      split
      · rename_i hi; rw [if_pos hi] at hk; exact ⟨fun c => by simp, g', F', H', hR', hm, hk⟩
      · rename_i hi; rw [if_neg hi] at hk; exact ⟨h1, g', F', H', hR', hm, hk⟩
    | _ => exact ⟨h1, g', F', H', hR', hm, hk⟩
  all_goals (try (split at hc <;> cases hc))
  all_goals (rcases compileRegionC_inv hc with ⟨_, _, he, _⟩ | ⟨_, he, _⟩ <;> cases he)

/-- A loop: its states by a parameter; every round comes to such a state with a smaller number. -/
theorem W_loop {α : Type} (S : α → Frame × Heap) (C : α → Prop) (μ : α → Nat) (x0 : α) (h0 : C x0) (hr : Ref n0 F H (S x0).1 (S x0).2) {c : ACode}
    (round : ∀ x, C x → W P M N n0 c (thenA (fun F' H' => ∃ x', C x' ∧ μ x' < μ x ∧ Ref n0 F' H' (S x').1 (S x').2) Q) (S x).1 (S x).2) : W P M N n0 (.loop c) Q F H := fun code hc g a w hR => by
  cases code <;> simp only [compileCode, Option.map_eq_some_iff, Option.some.injEq, reduceCtorEq, and_false, exists_false] at hc
  case loop cx =>
    obtain ⟨x', hx, he⟩ := hc
    simp only [ACode.loop.injEq] at he
    obtain rfl := he
    obtain ⟨g0, hR0, hm0⟩ := hr N g a w hR
    refine wp_loop_ghost (fun n a' w' => ∃ x g', C x ∧ μ x = n ∧ R N g' (S x).1 (S x).2 a' w' ∧ MvN n0 g H w g' (S x).2 w') (μ x0) ⟨x0, g0, h0, rfl, hR0, hm0⟩ ?_
    rintro n a' w' ⟨x, g', hC, rfl, hR', hm'⟩
    refine wp_mono (round x hC cx hx g' a' w' hR') fun e a2 w2 hf => ?_
    obtain ⟨h1, g2, F2, H2, hR2, hm2, hk⟩ := hf
    cases e with
    | normal =>
      obtain ⟨x2, hC2, hlt, hr2⟩ := hk
      obtain ⟨g3, hR3, hm3⟩ := hr2 N g2 a2 w2 hR2
      exact ⟨μ x2, hlt, x2, g3, hC2, rfl, hR3, (hm'.trans hm2).trans hm3⟩
    | panic c => exact absurd rfl (h1 c)
    | _ => exact ⟨h1, g2, F2, H2, hR2, hm'.trans hm2, hk⟩
  all_goals (try (split at hc <;> cases hc))
  all_goals (rcases compileRegionC_inv hc with ⟨_, _, he, _⟩ | ⟨_, he, _⟩ <;> cases he)
end

/-! ### A function -/

def compileRes (P : Program) : ResultVar → Option AOp
  | .tmp t => some (.mov (.s t))
  | .cell s t => match P.underlying t, P.info? t with
    | some d, some i => if isAggT (some d) then some (.loads i.size (.s s)) else some (.load (zav d) (.s s))
    | _, _ => none

def retQ (rs : List AOp) (K : AV → Heap → Prop) (F : Frame) (H : Heap) : Prop := match rs with
  | [r] => qOk r F H ∧ K (qVal r F H) H
  | rs => (∀ r ∈ rs, qOk r F H) ∧ K (.tup (rs.map fun r => qVal r F H)) H

def endQ (rs : List AOp) (K : AV → Heap → Prop) : Exit → Frame → Heap → Prop
  | .normal, F, H | .ret, F, H => retQ rs K F H
  | _, _, _ => False

def mkF : Nat → List AV → Frame
  | _, [] => []
  | i, x :: l => (i, x) :: mkF (i + 1) l

theorem get_mkF : ∀ (l : List AV) (i j : Nat), (∀ m (h : m < l.length), j = i + m → fget (mkF i l) j = l[m]) ∧ ((∀ m, m < l.length → j ≠ i + m) → fget (mkF i l) j = .any)
  | [], i, j => ⟨fun m h => by simp at h, fun _ => rfl⟩
  | x :: l, i, j => by
    obtain ⟨h1, h2⟩ := get_mkF l (i + 1) j
    constructor
    · intro m hm hj
      simp only [mkF, get_put]
      cases m with
      | zero => rw [if_pos (by omega)]; rfl
      | succ m => rw [if_neg (by omega)]; simpa using h1 m (by simpa using hm) (by omega)
    · intro hne
      simp only [mkF, get_put]
      rw [if_neg (by have := hne 0 (by simp); omega)]
      exact h2 fun m hm => by have := hne (m + 1) (by simpa using hm); omega

theorem res_run {fn : Func} {r : ResultVar} {x : AOp} (hc : compileRes P r = some x) (hok : qOk x F H) (hR : R N g F H a w) :
    ∃ v, (match r with | .tmp t => (pure (a.tmps.getD t undef) : Sem Value) | .cell s t => do loadVar t (← asAddr (a.tmps.getD s undef))).run P w = .ok v w ∧ Rd w (g.tr H) g.G (qVal x F H) v [] := by
  cases r with
  | tmp t =>
    simp only [compileRes, Option.some.injEq] at hc
    subst hc
    exact ⟨_, rfl, hR.fr t⟩
  | cell s t =>
    have conv : ∀ (o : Oper) (x : AOp), o.op = .load t (.tmp s) → (∃ b off, a.tmps.getD s undef = .pointer (some ⟨b, off, none⟩)) → Quiet P a w g H o (qVal x F H) → ∃ v, (do loadVar t (← asAddr (a.tmps.getD s undef)) : Sem Value).run P w = .ok v w ∧ Rd w (g.tr H) g.G (qVal x F H) v [] := by
      rintro o x hop ⟨b, off, hv⟩ ⟨v, hrun, hx⟩
      refine ⟨v, ?_, hx⟩
      have h1 := hrun w (fun _ _ _ => rfl)
      simp only [execOp, hop, Act.eval, hv, Instr.loadAt, Instr.sureAddr, pure_bind, Sem.run_bind, Sem.run_pure] at h1
      rw [hv]
      simp only [asAddr, pure_bind]
      cases hl : (loadVar t ⟨b, off, none⟩).run P w with
      | ok v' w' => rw [hl] at h1; simp only [Result.andThen_ok, Result.ok.injEq, Next.value.injEq] at h1; rw [h1.1, h1.2]
      | halt x w' => rw [hl] at h1; simp at h1
    simp only [compileRes] at hc
    split at hc
    · rename_i d i hd hi
      by_cases hg : isAggT (some d) = true
      · rw [if_pos hg] at hc
        obtain rfl := Option.some.inj hc
        refine conv { (default : Oper) with op := .load t (.tmp s) } _ rfl ?_ (q_loads (x := .tmp s) hR rfl hd hi hg hok)
        obtain ⟨h1, h2⟩ := hok
        split at h2
        · rename_i cs j hcs
          obtain ⟨b, off, u, bss, hv, _⟩ := cellsAt_ok hR.hp (sx_rd hR (.tmp s) h1) hcs
          exact ⟨b, off + j, hv⟩
        · exact h2.elim
      · rw [if_neg hg] at hc
        obtain rfl := Option.some.inj hc
        refine conv { (default : Oper) with op := .load t (.tmp s) } _ rfl ?_ (q_load (x := .tmp s) hR rfl hd (by simpa using hg) hok)
        obtain ⟨h1, h2⟩ := hok
        split at h2
        · rename_i cs j hcs
          obtain ⟨b, off, u, bss, hv, _⟩ := cellsAt_ok hR.hp (sx_rd hR (.tmp s) h1) hcs
          exact ⟨b, off + j, hv⟩
        · exact h2.elim
    · cases hc

end Go.Gov
