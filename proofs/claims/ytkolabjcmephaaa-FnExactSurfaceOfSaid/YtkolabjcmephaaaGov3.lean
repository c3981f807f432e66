/- The quiet operations are sound. -/
import Derived.Test.YtkolabjcmephaaaGov2
import Derived.IntWalk
set_option linter.unusedSimpArgs false
set_option linter.unusedVariables false
namespace Go.Gov
variable {P : Program} {N : Nat} {g : Gh} {F : Frame} {H : Heap} {a : Act} {w : World}

/-- What was there is as it was. -/
def Ext (w w' : World) : Prop := ∀ b, b < w.heap.size → w'.heap[b]? = w.heap[b]?

theorem Rd.val_inv {tr : Nat → Option (Option LocN)} {G : Nat → Prop} {u v : Value} {bs : List Nat} (h : Rd w tr G (.val u) v bs) : v = u ∧ bs = [] := by cases h; exact ⟨rfl, rfl⟩

theorem ax_rd (hR : R N g F H a w) (x : Operand) : Rd w (g.tr H) g.G (ax F (cX x)) (a.eval x) [] := by
  cases x with
  | tmp t => exact hR.fr t
  | const v => exact .val
  | func f => exact .clo rfl (by intro m hm; simp at hm) rfl (by intro m hm; simp at hm)
  | global g => exact .val

theorem st_rd {tr : Nat → Option (Option LocN)} {G : Nat → Prop} : ∀ (x : AV) (v : Value), stOk x → Rd w tr G x v [] → Rd w tr G (st x) v []
  | .cnd b x, v, h, hr => by
    obtain ⟨h1, h2⟩ := h
    subst h1
    cases hr with
    | cndT hr => exact st_rd x v h2 hr
  | .any, _, _, hr | .val _, _, _, hr | .slc .., _, _, hr | .pto .., _, _, hr | .sl .., _, _, hr | .ref .., _, _, hr | .osl .., _, _, hr | .agg _, _, _, hr | .tup _, _, _, hr | .clo .., _, _, hr => hr

theorem sx_rd (hR : R N g F H a w) (x : Operand) (h : stOk (ax F (cX x))) : Rd w (g.tr H) g.G (st (ax F (cX x))) (a.eval x) [] := st_rd _ _ h (ax_rd hR x)

theorem plainC_nil {tr : Nat → Option (Option LocN)} {G : Nat → Prop} {x : AV} {v : Value} {bs : List Nat} (hp : plainC x = true) (h : Rd w tr G x v bs) : bs = [] := by
  cases h <;> first | rfl | cases hp

/-- What lies at an address. -/
theorem cellsAt_ok (hp : HeapR g H w) {x : AV} {v : Value} (hr : Rd w (g.tr H) g.G x v []) {cs : List AV} {j : Nat} (h : cellsAt H x = some (cs, j)) :
    ∃ (b off : Nat) (u : Nat → Value) (bss : Nat → List Nat), v = .pointer (some ⟨b, off + j, none⟩) ∧ b < w.heap.size ∧ (∀ m, m < cs.length → w.cell? ⟨b, off + m, none⟩ = some (u m)) ∧ ∀ m (h : m < cs.length), Rd w (g.tr H) g.G cs[m] (u m) (bss m) := by
  cases hr with
  | pto u hG hc hr =>
    simp only [cellsAt, Option.some.injEq, Prod.mk.injEq] at h
    obtain ⟨rfl, rfl⟩ := h
    exact ⟨_, _, u, fun _ => [], rfl, hp.low _ hG, hc, hr⟩
  | ref h00 hv0 h1 =>
    rename_i o j'
    simp only [cellsAt] at h
    split at h
    · rename_i cs' hcs
      simp only [Option.some.injEq, Prod.mk.injEq] at h
      obtain ⟨rfl, rfl⟩ := h
      have h2 := h1 _ (Gh.tr_some (g := g) hcs)
      have h3 := hp.obj o cs' hcs
      dsimp only at h2
      cases hl : g.ρ o with
      | none => rw [hl] at h2; exact h2.elim
      | some l =>
        obtain ⟨b, base, sz⟩ := l
        rw [hl] at h2 h3
        obtain ⟨arr, elem, u, bss, hb, hsz, hcl, hc, hr, _⟩ := h3
        refine ⟨b, base, u, bss, h2, (Array.getElem?_eq_some_iff.1 hb).1, fun m hm => ?_, hr⟩
        simp only [World.cell?, hb]
        simpa using hc m hm
    · cases h
  | _ => simp [cellsAt] at h

theorem Ext.cell {w w' : World} (h : Ext w w') {b off : Nat} (hb : b < w.heap.size) : w'.cell? ⟨b, off, none⟩ = w.cell? ⟨b, off, none⟩ := World.cell?_of_block (w := w) (h b hb)

theorem run_ok_bind {α β : Type} {x : Sem α} {f : α → Sem β} {w w' : World} {y : α} (h : x.run P w = .ok y w') : (x >>= f).run P w = (f y).run P w' := by
  rw [Sem.run_bind, h, Result.andThen_ok]

/-- Does it look at memory? -/
def isMem : Op → Bool
  | .load .. => true
  | _ => false
def Quiet (P : Program) (a : Act) (w : World) (g : Gh) (H : Heap) (o : Oper) (x : AV) : Prop :=
  ∃ v, (∀ w', (isMem o.op = true → Ext w w') → (execOp a.eval o).run P w' = .ok (.value v) w') ∧ Rd w (g.tr H) g.G x v []

theorem addr_add (b o n : Nat) : (⟨b, o, none⟩ : Addr).add n = ⟨b, o + n, none⟩ := by unfold Addr.add; split <;> simp_all

theorem q_load {o : Oper} {x : Operand} {t : TypeId} {d : TypeDesc} {z : AV} (hR : R N g F H a w) (hop : o.op = .load t x) (ht : P.underlying t = some d) (hd : isAggT (some d) = false) (hq : qOk (.load z (cX x)) F H) :
    Quiet P a w g H o (qVal (.load z (cX x)) F H) := by
  obtain ⟨h1, h2⟩ := hq
  have h3 := sx_rd hR x h1
  split at h2
  · rename_i cs j hcs
    obtain ⟨b, off, u, bss, hv, hb, hc, hr⟩ := cellsAt_ok hR.hp h3 hcs
    rw [show qVal (.load z (cX x)) F H = cs.getD j z by simp only [qVal, hcs]]
    obtain ⟨hj, hpl⟩ := h2
    refine ⟨u j, fun w' hw => ?_, ?_⟩
    · have hw := hw (by rw [hop]; rfl)
      have hcell := (hw.cell (off := off + j) hb).trans (hc j hj)
      have hagg : ∀ w'', (isAgg t).run P w'' = .ok false w'' := fun w'' => by
        unfold isAgg
        rw [run_ok_bind (run_underlying ht w'')]
        cases d <;> first | rfl | (simp [isAggT] at hd)
      simp [execOp, hop, hv, Instr.loadAt, Instr.sureAddr, loadVar, hagg, hcell]
    · have hj' : cs.getD j z = cs[j] := by simp [hj]
      have hj'' : cs.getD j .any = cs[j] := by simp [hj]
      rw [hj']
      rw [hj''] at hpl
      have := hr j hj
      rwa [plainC_nil hpl this] at this
  · exact h2.elim

theorem q_loads {o : Oper} {x : Operand} {t : TypeId} {d : TypeDesc} {i : TypeInfo} (hR : R N g F H a w) (hop : o.op = .load t x) (ht : P.underlying t = some d) (hi : P.info? t = some i) (hd : isAggT (some d) = true) (hq : qOk (.loads i.size (cX x)) F H) :
    Quiet P a w g H o (qVal (.loads i.size (cX x)) F H) := by
  obtain ⟨h1, h2⟩ := hq
  have h3 := sx_rd hR x h1
  split at h2
  · rename_i cs j hcs
    obtain ⟨b, off, u, bss, hv, hb, hc, hr⟩ := cellsAt_ok hR.hp h3 hcs
    rw [show qVal (.loads i.size (cX x)) F H = .agg ((cs.drop j).take i.size) by simp only [qVal, hcs]]
    obtain ⟨hj, hpl⟩ := h2
    refine ⟨.agg ((List.range i.size).map fun m => u (j + m)).toArray, fun w' hw => ?_, ?_⟩
    · have hw := hw (by rw [hop]; rfl)
      have hagg : ∀ w'', (isAgg t).run P w'' = .ok true w'' := fun w'' => by
        unfold isAgg
        rw [run_ok_bind (run_underlying ht w'')]
        cases d <;> first | rfl | (simp [isAggT] at hd)
      have hl := run_loadCells (P := P) w' ⟨b, off + j, none⟩ i.size (fun m => u (j + m)) (fun m hm => by
        rw [addr_add, Nat.add_assoc, hw.cell hb]
        exact hc (j + m) (by omega))
      simp [execOp, hop, hv, Instr.loadAt, Instr.sureAddr, loadVar, hagg, sizeOf, typeInfo, hi, hl]
    · refine .agg (by simp; omega) (fun m hm => ?_)
      simp only [List.length_take, List.length_drop] at hm
      have e1 : ((List.range i.size).map fun m => u (j + m)).toArray.getD m undef = u (j + m) := by
        have : m < i.size := by omega
        simp [this]
      rw [e1]
      simp only [List.getElem_take, List.getElem_drop]
      have := hr (j + m) (by omega)
      have hp' : plainC cs[j + m] = true := by
        refine List.all_eq_true.1 hpl _ ?_
        refine List.mem_iff_getElem.2 ⟨m, by simp; omega, by simp⟩
      rwa [plainC_nil hp' this] at this
  · exact h2.elim

theorem q_mov {o : Oper} {x : Operand} (hR : R N g F H a w) (hop : o.op = .move x ∨ o.op = .assign x) : Quiet P a w g H o (qVal (.mov (cX x)) F H) :=
  ⟨a.eval x, fun w' _ => by rcases hop with hop | hop <;> simp [execOp, hop], ax_rd hR x⟩

theorem bl_inv {tr : Nat → Option (Option LocN)} {G : Nat → Prop} {x : AV} {v : Value} {t : Bool} (h : Rd w tr G x v []) (e : x = bl t) : v = .bool t := by subst e; exact h.val_inv.1

theorem q_pick {o : Oper} {c x y : Operand} (hR : R N g F H a w) (hop : o.op = .pick c x y) (hq : qOk (.pick (cX c) (cX x) (cX y)) F H) : Quiet P a w g H o (qVal (.pick (cX c) (cX x) (cX y)) F H) := by
  obtain ⟨h1, h2⟩ := hq
  have h3 := sx_rd hR c h1
  simp only [qVal]
  split at h2
  · rename_i t u v hc hx hy
    obtain ⟨h4, h5⟩ := h2
    have hct := bl_inv h3 hc
    cases t with
    | true =>
      have hxu := bl_inv (sx_rd hR x (h4 rfl)) hx
      exact ⟨.bool u, fun w' _ => by simp [execOp, hop, hct, asBool, hxu], by simp only [hc, hx, hy, cond_true]; exact .val⟩
    | false =>
      have hyv := bl_inv (sx_rd hR y (h5 rfl)) hy
      exact ⟨.bool v, fun w' _ => by simp [execOp, hop, hct, asBool, hyv], by simp only [hc, hx, hy, cond_false]; exact .val⟩
  · exact h2.elim

theorem q_not {o : Oper} {x : Operand} {t : TypeId} (hR : R N g F H a w) (hop : o.op = .unOp .not t x) (hq : qOk (.not (cX x)) F H) : Quiet P a w g H o (qVal (.not (cX x)) F H) := by
  obtain ⟨h1, h2⟩ := hq
  have h3 := sx_rd hR x h1
  simp only [qVal]
  split at h2
  · rename_i b hb
    have := bl_inv h3 hb
    exact ⟨.bool (!b), fun w' _ => by simp [execOp, hop, this, Op.unary], by first | exact .val | (simp only [hb]; exact .val)⟩
  · exact h2.elim

theorem wrap_i64 {n : Int} (h : inI64 n) : IntKind.i64.wrap n = n :=
  IntWalk.i64_in n h

theorem q_neg {o : Oper} {x : Operand} {t : TypeId} (hR : R N g F H a w) (hop : o.op = .unOp .neg t x) (hq : qOk (.neg (cX x)) F H) : Quiet P a w g H o (qVal (.neg (cX x)) F H) := by
  obtain ⟨h1, h2⟩ := hq
  have h3 := sx_rd hR x h1
  simp only [qVal]
  split at h2
  · rename_i n hn
    rw [hn] at h3
    have := h3.val_inv.1
    exact ⟨.int .i64 (0 - n), fun w' _ => by simp only [execOp, hop, this, Op.unary, Op.intArith, wrap_i64 h2]; rfl, by first | exact .val | (simp only [hn]; exact .val)⟩
  · exact h2.elim

theorem q_conv {o : Oper} {x : Operand} {s t : TypeId} {k k' : IntKind} (hR : R N g F H a w) (hop : o.op = .convert s t x) (hs : P.underlying s = some (.int k')) (ht : P.underlying t = some (.int k)) (hq : qOk (.conv k (cX x)) F H) :
    Quiet P a w g H o (qVal (.conv k (cX x)) F H) := by
  obtain ⟨h1, h2⟩ := hq
  have h3 := sx_rd hR x h1
  simp only [qVal]
  split at h2
  · rename_i k'' n hn
    rw [hn] at h3
    have := h3.val_inv.1
    refine ⟨conV k n, fun w' _ => ?_, by first | exact .val | (simp only [hn]; exact .val)⟩
    have e : (convert s t (.int k'' n)).run P w' = .ok (.int k (k.wrap n)) w' := by
      unfold convert
      rw [run_ok_bind (run_underlying hs w'), run_ok_bind (run_underlying ht w')]
      simp [Conv.intToInt]
    simp only [execOp, hop, this, Sem.run_bind, e, Result.andThen_ok, Sem.run_pure]
    cases k <;> first | rfl | (simp only [conV]; rw [wrap_i64 h2])
  · exact h2.elim

theorem q_ext {o : Oper} {x : Operand} {i : Nat} (hR : R N g F H a w) (hop : o.op = .extract x i) (hq : qOk (.ext (cX x) i) F H) : Quiet P a w g H o (qVal (.ext (cX x) i) F H) := by
  obtain ⟨h1, h2⟩ := hq
  have h3 := sx_rd hR x h1
  simp only [qVal]
  split at h2
  · rename_i vs hvs
    rw [hvs] at h3
    generalize hv : a.eval x = v at h3
    cases h3 with
    | tup hl hr =>
      rename_i us
      have hlt : i < us.size := by omega
      refine ⟨us.getD i undef, fun w' _ => ?_, ?_⟩
      · simp [execOp, hop, hv, Instr.extract, hlt]
      · try simp only [hvs]
        have := hr i h2
        rwa [show vs.getD i .any = vs[i] by simp [h2]]
  · exact h2.elim

theorem q_fn {o : Oper} {f : FuncId} {fs cs : Array Operand} (hR : R N g F H a w) (hop : o.op = .makeFunc (.func f) fs cs) : Quiet P a w g H o (qVal (.fn f (fs.toList.map cX) (cs.toList.map cX)) F H) := by
  refine ⟨.func (.func f) (fs.map a.eval) (cs.map a.eval), fun w' _ => by simp [execOp, hop, Instr.makeFunc], ?_⟩
  refine .clo (by simp) (fun m hm => ?_) (by simp) (fun m hm => ?_)
  · simp only [List.length_map, Array.length_toList] at hm
    simp [hm]
    exact ax_rd hR _
  · simp only [List.length_map, Array.length_toList] at hm
    simp [hm]
    exact ax_rd hR _

theorem iv {tr : Nat → Option (Option LocN)} {G : Nat → Prop} {x : AV} {v u : Value} (h : Rd w tr G x v []) (e : x = .val u) : v = u := by subst e; exact h.val_inv.1

theorem size_pos_of {i : TypeInfo} (h : i.size ≠ 0) : ¬ i.size = 0 := h

theorem q_fld {o : Oper} {x : Operand} {t ft : TypeId} {j off : Nat} {i : TypeInfo} (hR : R N g F H a w) (hop : o.op = .fieldAddr t x j) (hf : fieldOf P t j = some (off, ft)) (hi : P.info? ft = some i) (h0 : i.size ≠ 0) (hq : qOk (.fld off (cX x)) F H) :
    Quiet P a w g H o (qVal (.fld off (cX x)) F H) := by
  obtain ⟨h1, h2⟩ := hq
  have h3 := sx_rd hR x h1
  have run : ∀ b o', a.eval x = .pointer (some ⟨b, o', none⟩) → ∀ w', (execOp a.eval o).run P w' = .ok (.value (.pointer (some ⟨b, o' + off, none⟩))) w' := by
    intro b o' hv w'
    unfold fieldOf at hf
    split at hf
    · rename_i fs hfs
      rw [Option.map_eq_some_iff] at hf
      obtain ⟨f, hff, he⟩ := hf
      simp only [Prod.mk.injEq] at he
      obtain ⟨rfl, rfl⟩ := he
      have hp : (fieldPlace ⟨b, o', none⟩ f).run P w' = .ok ⟨b, o' + f.offset, none⟩ w' := by
        unfold fieldPlace
        rw [run_ok_bind (y := i.size) (w' := w') (by simp [sizeOf, typeInfo, hi])]
        rw [if_neg h0, addr_add]
        rfl
      simp only [execOp, hop, hv, Instr.fieldAt, Sem.run_bind, run_underlying hfs w', Result.andThen_ok, hff, Instr.sureAddr, Sem.run_pure, hp]
    · cases hf
  simp only [qVal]
  generalize hx : st (ax F (cX x)) = y at h2 h3
  generalize hv : a.eval x = v at h3
  cases h3 <;> simp only at h2
  case pto cs j' b off' u hG hc hr => exact ⟨_, fun w' _ => run b (off' + j') hv w', by rw [Nat.add_assoc]; exact .pto u hG hc hr⟩
  case ref o' j' h00 hv0 h4 =>
    cases ho : H[o']?.bind id with
    | none => rw [ho] at h2; cases h2
    | some cs =>
      have ho' : H[o']? = some (some cs) := by
        cases hh : H[o']? with
        | none => rw [hh] at ho; cases ho
        | some y => rw [hh] at ho; simp at ho; rw [ho]
      have h5 := h4 _ (Gh.tr_some (g := g) ho')
      dsimp only at h5
      cases hl : g.ρ o' with
      | none => rw [hl] at h5; exact h5.elim
      | some l =>
        obtain ⟨b, base, sz⟩ := l
        rw [hl] at h5
        refine ⟨_, fun w' _ => run b (base + j') (hv.trans h5) w', .ref h00 rfl fun l' hl' => ?_⟩
        rw [Gh.tr_some ho'] at hl'
        obtain rfl := Option.some.inj (Option.some.inj hl')
        rw [hl]
        simp [RefAt, Nat.add_assoc]

theorem alive {H : Heap} {o : Nat} (h : (H[o]?.bind id).isSome) : ∃ cs, H[o]? = some (some cs) := by
  cases hh : H[o]? with
  | none => rw [hh] at h; cases h
  | some y => cases y with
    | none => rw [hh] at h; cases h
    | some cs => exact ⟨cs, rfl⟩

theorem elemSize_inv {t : TypeId} {k : Nat} (h : elemSize P t = some k) : ∃ e i, P.underlying t = some (.slice e) ∧ P.info? e = some i ∧ i.size = k := by
  unfold elemSize at h
  split at h
  · rename_i e he
    rw [Option.map_eq_some_iff] at h
    obtain ⟨i, hi, hs⟩ := h
    exact ⟨e, i, he, hi, hs⟩
  · cases h

theorem q_idx {o : Oper} {x y : Operand} {t : TypeId} {k : Nat} (hR : R N g F H a w) (hop : o.op = .indexAddr t x y) (hk : elemSize P t = some k) (hq : qOk (.idx k (cX x) (cX y)) F H) :
    Quiet P a w g H o (qVal (.idx k (cX x) (cX y)) F H) := by
  obtain ⟨h1, h2, h3⟩ := hq
  have hx := sx_rd hR x h1
  have hy := sx_rd hR y h2
  obtain ⟨e, i, he, hi, hsz⟩ := elemSize_inv hk
  have run : ∀ b o' n cap kk m, a.eval x = .slice (some ⟨b, o', none⟩) n cap → a.eval y = .int kk m → 0 ≤ m → m < (n : Int) →
      ∀ w', (execOp a.eval o).run P w' = .ok (.value (.pointer (some ⟨b, o' + m.toNat * k, none⟩))) w' := by
    intro b o' n cap kk m hvx hvy hm0 hm1 w'
    have hsize : ∀ w'', (sizeOf e).run P w'' = .ok k w'' := fun w'' => by simp [sizeOf, typeInfo, hi, hsz]
    simp [execOp, hop, hvx, hvy, Instr.indexAt, asIntOf, run_underlying he, hm0, hm1, hsize, addr_add]
  simp only [qVal]
  generalize hxe : st (ax F (cX x)) = vx at h3 hx
  generalize hye : st (ax F (cX y)) = vy at h3 hy
  split at h3
  · rename_i k' n cs kk m
    obtain ⟨rfl, hm0, hm1⟩ := h3
    have hvy := hy.val_inv.1
    generalize hvx : a.eval x = v at hx
    cases hx with
    | slc u hl hn hm hG hc hr => exact ⟨_, fun w' _ => run _ _ _ _ _ _ hvx hvy hm0 hm1 w', .pto u hG hc hr⟩
    | slc0 hm => exact absurd hm1 (by omega)
  · rename_i o' k' off len kk m
    obtain ⟨rfl, hal, hm0, hm1⟩ := h3
    obtain ⟨cs, ho'⟩ := alive hal
    have hvy := hy.val_inv.1
    cases hx with
    | sl h00 hv0 h4 =>
      obtain ⟨h5, h6⟩ := h4 _ (Gh.tr_some (g := g) ho')
      dsimp only at h5 h6
      cases hl : g.ρ o' with
      | none => rw [hl] at h6; obtain ⟨rfl, _⟩ := h6; exact absurd hm1 (by omega)
      | some l =>
        obtain ⟨b, base, sz⟩ := l
        rw [hl] at h6
        obtain ⟨cap, h7, h8, h9, h10⟩ := h6
        rcases h10 with h10 | ⟨rfl, aa, h10⟩
        · refine ⟨_, fun w' _ => run _ _ _ _ _ _ h10 hvy hm0 hm1 w', .ref h00 rfl fun l' hl' => ?_⟩
          rw [Gh.tr_some ho'] at hl'
          obtain rfl := Option.some.inj (Option.some.inj hl')
          rw [hl]
          simp [RefAt, Nat.add_assoc]
        · exact absurd hm1 (by omega)
  · exact h3.elim

theorem q_mnb {o : Oper} {x y : Operand} {args : Array Operand} {ts : Array TypeId} (hR : R N g F H a w) (hop : o.op = .call { callee := .builtin .min, args := args, argTypes := ts }) (ha : args.toList = [x, y])
    (hq : qOk (.mnb (cX x) (cX y)) F H) : Quiet P a w g H o (qVal (.mnb (cX x) (cX y)) F H) := by
  obtain ⟨h1, h2, h3⟩ := hq
  have hx := sx_rd hR x h1
  have hy := sx_rd hR y h2
  obtain rfl : args = #[x, y] := by rw [← Array.toArray_toList (xs := args), ha]
  simp only [qVal]
  generalize st (ax F (cX x)) = vx at h3 hx
  generalize st (ax F (cX y)) = vy at h3 hy
  split at h3
  · have ex := hx.val_inv.1
    have ey := hy.val_inv.1
    exact ⟨_, fun w' _ => by simp [execOp, hop, resolve, invoke, builtin, Builtin.min_, Builtin.min2, ex, ey], .val⟩
  · exact h3.elim

theorem q_len {o : Oper} {x : Operand} {t e : TypeId} {args : Array Operand} {ts : Array TypeId} (hR : R N g F H a w) (hop : o.op = .call { callee := .builtin .len, args := args, argTypes := ts }) (ha : args.toList = [x]) (hts : ts.toList = [t]) (ht : P.underlying t = some (.slice e))
    (hq : qOk (.len (cX x)) F H) : Quiet P a w g H o (qVal (.len (cX x)) F H) := by
  obtain ⟨h1, h2⟩ := hq
  have hx := sx_rd hR x h1
  obtain rfl : args = #[x] := by rw [← Array.toArray_toList (xs := args), ha]
  obtain rfl : ts = #[t] := by rw [← Array.toArray_toList (xs := ts), hts]
  have run : ∀ b n cap, a.eval x = .slice b n cap → ∀ w', (execOp a.eval o).run P w' = .ok (.value (.int .i64 n)) w' := by
    intro b n cap hv w'
    simp [execOp, hop, resolve, invoke, builtin, Builtin.len_, run_underlying ht, hv, goInt]
  simp only [qVal]
  generalize hxe : st (ax F (cX x)) = vx at h2 hx
  split at h2
  · generalize hvx : a.eval x = v at hx
    cases hx with
    | slc u hl hn hm hG hc hr => exact ⟨_, fun w' _ => run _ _ _ hvx w', .val⟩
    | slc0 hm => exact ⟨_, fun w' _ => run _ _ _ hvx w', .val⟩
  · rename_i o' k' off len
    obtain ⟨cs, ho'⟩ := alive h2
    cases hx with
    | sl h00 hv0 h4 =>
      obtain ⟨h5, h6⟩ := h4 _ (Gh.tr_some (g := g) ho')
      dsimp only at h5 h6
      cases hl : g.ρ o' with
      | none => rw [hl] at h6; obtain ⟨rfl, a0, h6⟩ := h6; exact ⟨_, fun w' _ => run _ _ _ h6 w', .val⟩
      | some l =>
        obtain ⟨b, base, sz⟩ := l
        rw [hl] at h6
        obtain ⟨cap, h7, h8, h9, h10⟩ := h6
        rcases h10 with h10 | ⟨rfl, aa, h10⟩
        · exact ⟨_, fun w' _ => run _ _ _ h10 w', .val⟩
        · obtain rfl : len = 0 := by omega
          exact ⟨_, fun w' _ => run _ _ _ h10 w', .val⟩
  · exact ⟨_, fun w' _ => run _ _ _ hx.val_inv.1 w', .val⟩
  · exact h2.elim

theorem q_slen {o : Oper} {x : Operand} {t : TypeId} {args : Array Operand} {ts : Array TypeId} (hR : R N g F H a w) (hop : o.op = .call { callee := .builtin .len, args := args, argTypes := ts }) (ha : args.toList = [x]) (hts : ts.toList = [t]) (ht : P.underlying t = some .string)
    (hq : qOk (.slen (cX x)) F H) : Quiet P a w g H o (qVal (.slen (cX x)) F H) := by
  obtain ⟨h1, h2⟩ := hq
  have hx := sx_rd hR x h1
  obtain rfl : args = #[x] := by rw [← Array.toArray_toList (xs := args), ha]
  obtain rfl : ts = #[t] := by rw [← Array.toArray_toList (xs := ts), hts]
  simp only [qVal]
  generalize hxe : st (ax F (cX x)) = vx at h2 hx
  split at h2
  · have hv := hx.val_inv.1
    exact ⟨_, fun w' _ => by simp [execOp, hop, resolve, invoke, builtin, Builtin.len_, run_underlying ht, hv, goInt], .val⟩
  · exact h2.elim

theorem q_sidx {o : Oper} {x y : Operand} {t : TypeId} (hR : R N g F H a w) (hop : o.op = .index t x y) (ht : P.underlying t = some .string) (hq : qOk (.sidx (cX x) (cX y)) F H) :
    Quiet P a w g H o (qVal (.sidx (cX x) (cX y)) F H) := by
  obtain ⟨h1, h2, h3⟩ := hq
  have hx := sx_rd hR x h1
  have hy := sx_rd hR y h2
  simp only [qVal]
  generalize hxe : st (ax F (cX x)) = vx at h3 hx
  generalize hye : st (ax F (cX y)) = vy at h3 hy
  split at h3
  · rename_i s k m
    obtain ⟨hm0, hm1⟩ := h3
    have hvx := hx.val_inv.1
    have hvy := hy.val_inv.1
    have hlt : m.toNat < s.size := by omega
    have hlt' : m.toNat < s.data.toList.length := by simpa using hlt
    have hg : s[m.toNat]? = some (s.data.toList.getD m.toNat 0) := by
      have e1 : s[m.toNat]? = some s[m.toNat] := by simp [hlt]
      rw [e1]
      congr 1
      have hlt2 : m.toNat < s.data.size := hlt
      have : s.data.toList.getD m.toNat 0 = s.data.toList[m.toNat] := by
        rw [List.getD_eq_getElem?_getD, List.getElem?_eq_getElem hlt']; rfl
      rw [this]
      rfl
    exact ⟨_, fun w' _ => by simp [execOp, hop, Instr.index, asIntOf, run_underlying ht, hvx, hvy, hm0, hg], .val⟩
  · exact h3.elim

theorem lo_run {lo : Option Operand} {l : Int} (hR : R N g F H a w) (hok : loOk F (lo.map cX)) (hl : loOf F (lo.map cX) = some l) (h0 : 0 ≤ l) (y : Nat) (hy : l ≤ (y : Int)) (code : BoundsCode) (w' : World) :
    (match lo.map a.eval with | some v => Instr.sliceBound v y code | none => pure 0).run P w' = .ok l.toNat w' := by
  cases lo with
  | none => simp only [Option.map_none, loOf, Option.some.injEq] at hl; subst hl; rfl
  | some x =>
    simp only [Option.map_some, loOf] at hl
    have hx := sx_rd hR x hok
    split at hl
    · rename_i k i hi
      rw [hi] at hx
      obtain rfl := Option.some.inj hl
      simp [hx.val_inv.1, Instr.sliceBound, asIntOf, h0, hy]
    · cases hl

theorem hi_run {hi : Option Operand} {h : Int} {n : Nat} (hR : R N g F H a w) (hok : loOk F (hi.map cX)) (hh : hiOf F n (hi.map cX) = some h) (h0 : 0 ≤ h) (cap : Nat) (hy : h ≤ (cap : Int)) (code : BoundsCode) (w' : World) :
    (match hi.map a.eval with | some v => Instr.sliceBound v cap code | none => pure n).run P w' = .ok h.toNat w' := by
  cases hi with
  | none => simp only [Option.map_none, hiOf, Option.some.injEq] at hh; subst hh; rfl
  | some x =>
    simp only [Option.map_some, hiOf] at hh
    have hx := sx_rd hR x hok
    split at hh
    · rename_i k i hi
      rw [hi] at hx
      obtain rfl := Option.some.inj hh
      simp [hx.val_inv.1, Instr.sliceBound, asIntOf, h0, hy]
    · cases hh

theorem bounds_run {lo hi : Option Operand} {l h : Int} {n : Nat} (isS : Bool) (hR : R N g F H a w) (hol : loOk F (lo.map cX)) (hoh : loOk F (hi.map cX)) (hl : loOf F (lo.map cX) = some l) (hh : hiOf F n (hi.map cX) = some h)
    (h0 : 0 ≤ l) (h1 : l ≤ h) (cap : Nat) (h2 : h ≤ (cap : Int)) (w' : World) : (Instr.sliceBounds isS n cap (lo.map a.eval) (hi.map a.eval) none).run P w' = .ok (l.toNat, h.toNat, cap) w' := by
  have e1 := fun code => hi_run (P := P) hR hoh hh (by omega) cap h2 code w'
  have e2 := fun code => lo_run (P := P) hR hol hl h0 h.toNat (by omega) code w'
  cases hi with
  | none =>
    simp only [Option.map_none] at e1
    simp only [Instr.sliceBounds, Option.map_none, Sem.run_bind, Sem.run_pure, Result.andThen_ok]
    have := e1 .index
    simp only [Sem.run_pure, Result.ok.injEq, and_true] at this
    rw [this]
    cases lo with
    | none => have := e2 .index; simp only [Option.map_none, Sem.run_pure, Result.ok.injEq, and_true] at this; simp [← this]
    | some x => have := e2 .sliceB; simp only [Option.map_some] at this; simp [this]
  | some x =>
    simp only [Option.map_some] at e1
    simp only [Instr.sliceBounds, Option.map_some, Sem.run_bind, Sem.run_pure, Result.andThen_ok]
    rw [e1]
    simp only [Result.andThen_ok]
    cases lo with
    | none => have := e2 .index; simp only [Option.map_none, Sem.run_pure, Result.ok.injEq, and_true] at this; simp [← this]
    | some x => have := e2 .sliceB; simp only [Option.map_some] at this; simp [this]

theorem slOk_inv {n : Nat} {lo hi : Option Int} (h : slOk n lo hi) : ∃ l h, lo = some l ∧ hi = some h ∧ 0 ≤ l ∧ l ≤ h ∧ h ≤ (n : Int) := by
  cases lo <;> cases hi <;> simp only [slOk] at h
  exact ⟨_, _, rfl, rfl, h⟩

theorem q_sslice {o : Oper} {x : Operand} {lo hi : Option Operand} {t : TypeId} (hR : R N g F H a w) (hop : o.op = .slice t x lo hi none) (ht : P.underlying t = some .string) (hq : qOk (.sslice (cX x) (lo.map cX) (hi.map cX)) F H) :
    Quiet P a w g H o (qVal (.sslice (cX x) (lo.map cX) (hi.map cX)) F H) := by
  obtain ⟨h1, h2, h3, h4⟩ := hq
  have hx := sx_rd hR x h1
  simp only [qVal]
  generalize hxe : st (ax F (cX x)) = vx at h4 hx
  split at h4
  · rename_i s
    have hv := hx.val_inv.1
    obtain ⟨l, h, hl, hh, h5, h6, h7⟩ := slOk_inv h4
    simp only [hl, hh]
    refine ⟨.string (s.extract l.toNat h.toNat), fun w' _ => ?_, .val⟩
    have e := bounds_run (P := P) false hR h2 h3 hl hh h5 h6 s.size h7 w'
    simp [execOp, hop, Instr.sliceAt, Instr.slice, run_underlying ht, hv, e]
  · exact h4.elim

theorem q_slice {o : Oper} {x : Operand} {lo hi : Option Operand} {t : TypeId} {k : Nat} (hR : R N g F H a w) (hop : o.op = .slice t x lo hi none) (hk : elemSize P t = some k) (hq : qOk (.slice k (cX x) (lo.map cX) (hi.map cX)) F H) :
    Quiet P a w g H o (qVal (.slice k (cX x) (lo.map cX) (hi.map cX)) F H) := by
  obtain ⟨h1, h2, h3, h4⟩ := hq
  have hx := sx_rd hR x h1
  obtain ⟨e, i, he, hi', hsz⟩ := elemSize_inv hk
  have run : ∀ b n cap l h, a.eval x = .slice b n cap → loOf F (lo.map cX) = some l → hiOf F n (hi.map cX) = some h → 0 ≤ l → l ≤ h → h ≤ (n : Int) → n ≤ cap → ∀ w', (execOp a.eval o).run P w' =
      .ok (.value (.slice (if cap = l.toNat then b else b.map (·.add (l.toNat * k))) (h.toNat - l.toNat) (cap - l.toNat))) w' := by
    intro b n cap l h hv hl hh h5 h6 h7 h8 w'
    have e1 := bounds_run (P := P) true hR h2 h3 hl hh h5 h6 cap (by omega) w'
    have hsize : ∀ w'', (sizeOf e).run P w'' = .ok k w'' := fun w'' => by simp [sizeOf, typeInfo, hi', hsz]
    simp [execOp, hop, Instr.sliceAt, Instr.slice, run_underlying he, hv, e1, hsize]
  simp only [qVal]
  generalize hxe : st (ax F (cX x)) = vx at h4 hx
  split at h4
  · rename_i k' n cs
    obtain ⟨rfl, h4⟩ := h4
    obtain ⟨l, h, hl, hh, h5, h6, h7⟩ := slOk_inv h4
    simp only [hl, hh]
    generalize hvx : a.eval x = v at hx
    cases hx with
    | slc u hln hn hm hG hc hr =>
      rename_i b off cap
      refine ⟨_, fun w' _ => run _ _ _ l h hvx hl hh h5 h6 h7 hn w', ?_⟩
      have e1 : (h - l).toNat = h.toNat - l.toNat := by omega
      rw [e1]
      by_cases hcap : cap = l.toNat
      · have e2 : h.toNat - l.toNat = 0 := by omega
        rw [e2]
        simp only [Nat.zero_mul, List.take_zero]
        exact .slc0 (by omega)
      · rw [if_neg hcap]
        simp only [Option.map_some, addr_add]
        have hle : h.toNat * k ≤ n * k := Nat.mul_le_mul_right _ (by omega)
        have e3 : h.toNat * k = l.toNat * k + (h.toNat - l.toNat) * k := by rw [← Nat.add_mul]; congr 1; omega
        refine .slc (fun m => u (l.toNat * k + m)) ?_ (by omega) (by omega) hG (fun m hm' => ?_) (fun m hm' => ?_)
        · rw [List.length_take, List.length_drop, hln]; omega
        · rw [List.length_take, List.length_drop] at hm'
          rw [Nat.add_assoc]
          exact hc _ (by omega)
        · rw [List.length_take, List.length_drop] at hm'
          simp only [List.getElem_take, List.getElem_drop]
          exact hr _ _
    | slc0 hm =>
      refine ⟨_, fun w' _ => run _ _ _ l h hvx hl hh h5 h6 h7 (by omega) w', ?_⟩
      have e1 : (h - l).toNat = 0 := by omega
      have e2 : h.toNat - l.toNat = 0 := by omega
      rw [e1, e2]
      simp only [List.drop_nil, List.take_nil]
      exact .slc0 (by omega)
  · rename_i o' k' off len
    obtain ⟨rfl, hal, h4⟩ := h4
    obtain ⟨l, h, hl, hh, h5, h6, h7⟩ := slOk_inv h4
    simp only [hl, hh]
    obtain ⟨cs, ho'⟩ := alive hal
    cases hx with
    | sl h00 hv0 h8 =>
      obtain ⟨h9, h10⟩ := h8 _ (Gh.tr_some (g := g) ho')
      dsimp only at h9 h10
      have hle : h.toNat * k ≤ len * k := Nat.mul_le_mul_right _ (by omega)
      have e3 : h.toNat * k = l.toNat * k + (h.toNat - l.toNat) * k := by rw [← Nat.add_mul]; congr 1; omega
      have e1 : (h - l).toNat = h.toNat - l.toNat := by omega
      rw [e1]
      cases hl' : g.ρ o' with
      | none =>
        rw [hl'] at h10
        obtain ⟨rfl, a0, h11⟩ := h10
        refine ⟨_, fun w' _ => run _ _ _ l h h11 hl hh h5 h6 h7 (Nat.le_refl _) w', .sl h00 (by first | rfl | (rcases hv' with rfl | ⟨_, a, rfl⟩ <;> rfl)) fun l' hl'' => ?_⟩
        rw [Gh.tr_some ho'] at hl''
        obtain rfl := Option.some.inj (Option.some.inj hl'')
        have e2 : l.toNat = 0 := by omega
        have e4 : h.toNat = 0 := by omega
        rw [hl', e2, e4]
        refine ⟨by dsimp only; omega, ?_⟩
        simp [SlAt]
      | some lc =>
        obtain ⟨b, base, sz⟩ := lc
        rw [hl'] at h10
        obtain ⟨cap, h11, h12, h13, h14⟩ := h10
        have tail : ∀ v', (v' = .slice (some ⟨b, base + (off + l.toNat * k), none⟩) (h.toNat - l.toNat) (cap - l.toNat) ∨ (cap - l.toNat = 0 ∧ ∃ a, v' = .slice a 0 0)) → Rd w (g.tr H) g.G (.sl o' k (off + l.toNat * k) (h.toNat - l.toNat)) v' [] := by
          intro v' hv'
          refine .sl h00 (by first | rfl | (rcases hv' with rfl | ⟨_, a, rfl⟩ <;> rfl)) fun l' hl'' => ?_
          rw [Gh.tr_some ho'] at hl''
          obtain rfl := Option.some.inj (Option.some.inj hl'')
          rw [hl']
          have e5 : cap * k = l.toNat * k + (cap - l.toNat) * k := by rw [← Nat.add_mul]; congr 1; omega
          refine ⟨by dsimp only; omega, cap - l.toNat, by omega, by omega, by omega, hv'⟩
        rcases h14 with h14 | ⟨rfl, aa, h14⟩
        · refine ⟨_, fun w' _ => run _ _ _ l h h14 hl hh h5 h6 h7 h11 w', tail _ ?_⟩
          by_cases hcap : cap = l.toNat
          · right
            refine ⟨by omega, some ⟨b, base + off, none⟩, ?_⟩
            rw [if_pos hcap, show h.toNat - l.toNat = 0 by omega, show cap - l.toNat = 0 by omega]
          · left
            rw [if_neg hcap]
            simp only [Option.map_some, addr_add, Nat.add_assoc]
        · obtain rfl : len = 0 := by omega
          refine ⟨_, fun w' _ => run _ _ _ l h h14 hl hh h5 h6 h7 h11 w', tail _ ?_⟩
          right
          refine ⟨by omega, aa, ?_⟩
          rw [if_pos (by omega), show h.toNat - l.toNat = 0 by omega, show 0 - l.toNat = 0 by omega]
  · exact h4.elim

theorem run_neg {k : IntKind} : True := trivial

theorem beq_bool (x y : Bool) (op : BinOp) (h : isEq op = true) : binV H op (bl x) (bl y) = .val (.bool (if op = .eql then x == y else !(x == y))) := by
  cases op <;> simp_all [binV, isEq]

theorem run_eqGuard_int {op : BinOp} {t : TypeId} {x y : Operand} {u v : Value} (h : ∀ ms, u ≠ .agg ms) (h2 : u ≠ .nilIface) (w : World) : (eqGuard op t x y u v).run P w = .ok () w := by
  unfold eqGuard
  cases op <;> (simp only [Bool.not_true, Bool.not_false]; first | rfl | (cases u <;> first | rfl | exact absurd rfl h2 | exact absurd rfl (h _)))

theorem run_equal_bool {t : TypeId} (ht : P.underlying t = some .bool) (x y : Bool) (w : World) : (Op.equal t (.bool x) (.bool y)).run P w = .ok (x == y) w := by
  show (Op.equalIn (9999 + 1) t (.bool x) (.bool y)).run P w = _
  rw [Op.equalIn, run_ok_bind (run_underlying ht w)]
  rfl
theorem run_equal_nil {t e : TypeId} (ht : P.underlying t = some (.slice e)) (b : Option Addr) (n c : Nat) (w : World) : (Op.equal t (.slice b n c) (.slice none 0 0)).run P w = .ok b.isNone w := by
  show (Op.equalIn (9999 + 1) t (.slice b n c) (.slice none 0 0)).run P w = _
  rw [Op.equalIn, run_ok_bind (run_underlying ht w)]
  cases b <;> rfl

theorem q_bin {o : Oper} {op : BinOp} {x y : Operand} {t t' : TypeId} (hR : R N g F H a w) (hop : o.op = .binOp op t x y t') (hq : qOk (.bin (clsOf (P.underlying t)) op (cX x) (cX y)) F H) :
    Quiet P a w g H o (qVal (.bin (clsOf (P.underlying t)) op (cX x) (cX y)) F H) := by
  obtain ⟨h1, h2, h3⟩ := hq
  have hx := sx_rd hR x h1
  have hy := sx_rd hR y h2
  simp only [qVal]
  generalize hxe : st (ax F (cX x)) = vx at h3 hx
  generalize hye : st (ax F (cX y)) = vy at h3 hy
  have top : ∀ u v r, (∀ ms, u ≠ .agg ms) → u ≠ .nilIface → a.eval x = u → a.eval y = v → (∀ w', (binOp op t u v).run P w' = .ok r w') → ∀ w', (isMem o.op = true → Ext w w') → (execOp a.eval o).run P w' = .ok (.value r) w' := by
    intro u v r hu1 hu2 hu hv hr w' _
    simp only [execOp, hop, hu, hv, Sem.run_bind, run_eqGuard_int hu1 hu2, Result.andThen_ok, hr, Sem.run_pure]
  unfold binOk at h3
  split at h3
  · rename_i k m k' n
    have hvx := hx.val_inv.1
    have hvy := hy.val_inv.1
    obtain ⟨hk, hok⟩ := h3
    refine ⟨intV op k m n, top _ _ _ (by simp) (by simp) hvx hvy (fun w' => ?_), .val⟩
    cases op <;> simp only [isSh, forall_const, Bool.true_eq_false, false_implies] at hk <;> (try subst hk) <;> simp only [intOk] at hok <;> simp only [binOp, intV, ne_eq, not_true_eq_false, if_false, Op.intArith, Op.intDiv, Op.intBits, Op.intCmp, Op.shift, Sem.run_pure, bitsV, shV]
    case add => cases k <;> first | rfl | (simp only [wrap_i64 hok])
    case sub => cases k <;> first | rfl | (simp only [wrap_i64 hok])
    case mul => cases k <;> first | rfl | (simp only [wrap_i64 hok])
    case quo => rw [if_neg hok.1]; cases k <;> first | rfl | (simp only [wrap_i64 hok.2]; rfl)
    case rem => rw [if_neg hok]; rfl
    case shl => rw [if_neg (by omega)]; rfl
    case shr => rw [if_neg (by omega)]; rfl
  · rename_i b c
    have hvx := hx.val_inv.1
    have hvy := hy.val_inv.1
    obtain ⟨hcls, heq⟩ := h3
    have ht : P.underlying t = some .bool := by
      unfold clsOf at hcls
      split at hcls <;> first | assumption | omega
    rw [beq_bool (H := H) b c op heq]
    refine ⟨_, top _ _ _ (by simp) (by simp) hvx hvy (fun w' => ?_), .val⟩
    cases op <;> simp only [isEq, Bool.false_eq_true] at heq
    · show (do pure (Value.bool (← Op.equal t (.bool b) (.bool c))) : Sem Value).run P w' = _
      rw [run_ok_bind (run_equal_bool ht b c w')]; rfl
    · show (do pure (Value.bool (!(← Op.equal t (.bool b) (.bool c)))) : Sem Value).run P w' = _
      rw [run_ok_bind (run_equal_bool ht b c w')]; rfl
  · rename_i s u
    have hvx := hx.val_inv.1
    have hvy := hy.val_inv.1
    refine ⟨strV op s u, top _ _ _ (by simp) (by simp) hvx hvy (fun w' => ?_), .val⟩
    cases op <;> simp only [strOk] at h3 <;> simp only [binOp, Op.stringOp, strV, Sem.run_pure]
    rw [if_neg (by simp only [IntKind.max, IntKind.signed, IntKind.bits]; simp only [maxLen] at h3; simp; omega)]
    rfl
  · obtain ⟨hcls, heq, hnil⟩ := h3
    have hvy := hy.val_inv.1
    obtain ⟨e, ht⟩ : ∃ e, P.underlying t = some (.slice e) := by
      unfold clsOf at hcls
      split at hcls <;> first | exact ⟨_, by assumption⟩ | omega
    have hs : ∃ b n cap, a.eval x = .slice b n cap ∧ (nilOf H vx).getD false = b.isNone := by
      unfold nilOf at hnil ⊢
      split at hnil
      · exact ⟨_, _, _, hx.val_inv.1, rfl⟩
      · generalize hv : a.eval x = v at hx
        cases hx with
        | slc => exact ⟨_, _, _, rfl, rfl⟩
      · rename_i o' k' off len
        by_cases hal : (H[o']?.bind id).isSome = true
        · rw [if_pos hal]
          obtain ⟨cs, ho'⟩ := alive hal
          cases hx with
          | sl h00 hv0 h4 =>
            obtain ⟨h5, h6⟩ := h4 _ (Gh.tr_some (g := g) ho')
            dsimp only at h5 h6
            cases hl : g.ρ o' with
            | none => rw [hl] at h6; exact absurd h6.1 (by omega)
            | some l =>
              obtain ⟨b, base, sz⟩ := l
              rw [hl] at h6
              obtain ⟨cap, h7, h8, h9, h10⟩ := h6
              rcases h10 with h10 | ⟨rfl, aa, h10⟩
              · exact ⟨_, _, _, h10, rfl⟩
              · omega
        · rw [if_neg hal] at hnil; cases hnil
      · cases hnil
    obtain ⟨b, n, cap, hvx, hb⟩ := hs
    have hbv : binV H op vx (.val (.slice none 0 0)) = bl (if op = .eql then b.isNone else !b.isNone) := by
      rw [← hb]
      unfold nilOf at hnil ⊢
      split at hnil <;> cases op <;> simp_all [binV, isEq, nilOf]
    rw [hbv]
    refine ⟨_, top _ _ _ (by simp) (by simp) hvx hvy (fun w' => ?_), .val⟩
    cases op <;> simp only [isEq, Bool.false_eq_true] at heq
    · show (do pure (Value.bool (← Op.equal t (.slice b n cap) (.slice none 0 0))) : Sem Value).run P w' = _
      rw [run_ok_bind (run_equal_nil ht b n cap w')]; rfl
    · show (do pure (Value.bool (!(← Op.equal t (.slice b n cap) (.slice none 0 0)))) : Sem Value).run P w' = _
      rw [run_ok_bind (run_equal_nil ht b n cap w')]; rfl
  · exact h3.elim

theorem oneA_ok {tr : Nat → Option (Option LocN)} {G : Nat → Prop} {x : AV} {v : Value} {bs : List Nat} (h : Rd w tr G x v bs) (h1 : oneA x = true) : v.oneCell' = true := by
  cases h <;> simp only [oneA, Bool.false_eq_true] at h1
  case val => exact h1
  case slc => rfl
  case slc0 => rfl
  case pto => rfl
  case sl => assumption
  case ref => assumption
  case clo => rfl

theorem one_cells {v : Value} (h : v.oneCell' = true) : v.cells = #[v] := by cases v <;> first | rfl | cases h

theorem cellsOf_ok {tr : Nat → Option (Option LocN)} {G : Nat → Prop} {x : AV} {v : Value} {cs : List AV} (h : Rd w tr G x v []) (hc : cellsOf x = some cs) :
    v.cells.size = cs.length ∧ ∀ m (h : m < cs.length), Rd w tr G cs[m] (v.cells.getD m undef) [] := by
  have one : (if oneA x then some [x] else none) = some cs → v.cells.size = cs.length ∧ ∀ m (h : m < cs.length), Rd w tr G cs[m] (v.cells.getD m undef) [] := fun hc => by
    by_cases h1 : oneA x = true
    · rw [if_pos h1] at hc
      obtain rfl := Option.some.inj hc
      rw [one_cells (oneA_ok h h1)]
      refine ⟨rfl, fun m hm => ?_⟩
      obtain rfl : m = 0 := by simpa using hm
      exact h
    · rw [if_neg h1] at hc; cases hc
  cases h with
  | agg hl hr =>
    simp only [cellsOf, Option.some.injEq] at hc
    subst hc
    exact ⟨hl.symm, hr⟩
  | _ => exact one hc

theorem splice_eq {cs vs : List AV} {j : Nat} (h : j + vs.length ≤ cs.length) : splice cs j vs = cs.take j ++ vs ++ cs.drop (j + vs.length) := by
  unfold splice
  split
  · rename_i v
    simp only [List.length_singleton] at h ⊢
    rw [List.set_eq_take_append_cons_drop, if_pos (by omega)]
    simp
  · rfl

theorem q_nck {o : Oper} {x : Operand} (hR : R N g F H a w) (hop : o.op = .nilCheck x) (hq : qOk (.nck (cX x)) F H) : Quiet P a w g H o (qVal (.nck (cX x)) F H) := by
  obtain ⟨h1, h2⟩ := hq
  have h3 := sx_rd hR x h1
  simp only [qVal]
  have run : ∀ v, a.eval x = v → (∃ p, v = .pointer (some p)) ∨ (∃ f vs cs, v = .func (.func f) vs cs) → ∀ w', (execOp a.eval o).run P w' = .ok (.value v) w' := by
    rintro v hv (⟨p, rfl⟩ | ⟨f, vs, cs, rfl⟩) w' <;> simp [execOp, hop, hv]
  generalize hxe : st (ax F (cX x)) = vx at h2 h3
  generalize hv : a.eval x = v at h3
  split at h2
  · refine ⟨v, fun w' _ => run v hv (.inl ?_) w', h3⟩
    cases h3; exact ⟨_, rfl⟩
  · rename_i o' j
    obtain ⟨cs, ho'⟩ := alive h2
    refine ⟨v, fun w' _ => run v hv (.inl ?_) w', h3⟩
    cases h3 with
    | ref h00 hv0 h4 =>
      have h5 := h4 _ (Gh.tr_some (g := g) ho')
      dsimp only at h5
      cases hl : g.ρ o' with
      | none => rw [hl] at h5; exact h5.elim
      | some l => obtain ⟨b, base, sz⟩ := l; rw [hl] at h5; exact ⟨_, h5⟩
  · refine ⟨v, fun w' _ => run v hv (.inr ?_) w', h3⟩
    cases h3; exact ⟨_, _, _, rfl⟩
  · exact h2.elim

theorem fold_splice : ∀ (l : List Value) (off k : Nat) (cells : List Value), off + k + l.length ≤ cells.length →
    ((l.zipIdx k).foldl (fun cs (c, j) => cs.setIfInBounds (off + j) c) cells.toArray) = (cells.take (off + k) ++ l ++ cells.drop (off + k + l.length)).toArray
  | [], off, k, cells, _ => by simp
  | v :: l, off, k, cells, h => by
    simp only [List.length_cons] at h
    simp only [List.zipIdx_cons, List.foldl_cons, List.setIfInBounds_toArray]
    rw [fold_splice l off (k + 1) (cells.set (off + k) v) (by simp; omega)]
    congr 1
    rw [show off + (k + 1) = off + k + 1 by omega, List.take_succ_eq_append_getElem (by simp; omega), List.take_set_of_le (Nat.le_refl _)]
    simp only [List.getElem_set_self, List.append_assoc, List.singleton_append, List.length_cons]
    rw [List.drop_set_of_lt (by omega)]
    congr 2
    rw [show off + k + 1 + l.length = off + k + (l.length + 1) by omega]

/-- The parts of a struct's literal. -/
theorem bld_ok (hR : R N g F H a w) : ∀ (parts : List (Nat × Operand)) (pl : List (Nat × Nat × AX)) (place : Nat → Option (Nat × Nat)) (cs : List AV) (us : List Value),
    pl.length = parts.length → (∀ m (h : m < parts.length) (h' : m < pl.length), place parts[m].1 = some (pl[m].1, pl[m].2.1) ∧ pl[m].2.2 = cX parts[m].2) → bldOk F cs.length pl → us.length = cs.length →
    (∀ m (h : m < cs.length), Rd w (g.tr H) g.G cs[m] (us.getD m undef) []) →
    ∃ us' : List Value, Instr.fill place us.toArray (parts.map fun (i, x) => (i, a.eval x)) = some us'.toArray ∧ us'.length = cs.length ∧ (bldV F cs pl).length = cs.length ∧ ∀ m (h : m < (bldV F cs pl).length), Rd w (g.tr H) g.G (bldV F cs pl)[m] (us'.getD m undef) []
  | [], pl, place, cs, us, hpl, _, _, hus, hr => by
    obtain rfl : pl = [] := List.eq_nil_of_length_eq_zero (by simpa using hpl)
    exact ⟨us, rfl, hus, rfl, hr⟩
  | (i, x) :: parts, pl, place, cs, us, hpl, hp, hok, hus, hr => by
    cases pl with
    | nil => cases hpl
    | cons q pl =>
      obtain ⟨off, m, y⟩ := q
      obtain ⟨hp0, hy⟩ := hp 0 (by simp) (by simp)
      simp only [List.getElem_cons_zero] at hp0 hy
      subst hy
      obtain ⟨h1, h2⟩ := hok
      split at h1
      · rename_i vs hvs
        obtain ⟨hvl, hle⟩ := h1
        obtain ⟨h3, h4⟩ := cellsOf_ok (ax_rd hR x) hvs
        have hsp : splice cs off vs = cs.take off ++ vs ++ cs.drop (off + vs.length) := splice_eq (by omega)
        have hlen : (splice cs off vs).length = cs.length := by rw [hsp]; simp; omega
        let us1 := us.take off ++ (a.eval x).cells.toList ++ us.drop (off + (a.eval x).cells.toList.length)
        have hc : (a.eval x).cells.toList.length = vs.length := by simpa using h3
        have hl1 : us1.length = us.length := by simp only [us1, List.length_append, List.length_take, List.length_drop, hc]; omega
        have hf : ((a.eval x).cells.zipIdx.foldl (fun cs (c, j) => cs.setIfInBounds (off + j) c) us.toArray) = us1.toArray := by
          have := fold_splice (a.eval x).cells.toList off 0 us (by omega)
          simp only [Nat.add_zero] at this
          rw [← this, ← Array.foldl_toList]
          simp
        obtain ⟨us', g1, g2, g3, g4⟩ := bld_ok hR parts pl place (splice cs off vs) us1 (by simpa using hpl) (fun k hk hk' => by have := hp (k + 1) (by simpa using hk) (by simpa using hk'); simpa using this) (by rw [hlen]; exact h2) (by rw [hl1, hlen, hus])
          (fun k hk => by
            rw [hlen] at hk
            by_cases c1 : k < off
            · have e1 : (splice cs off vs)[k]'(by omega) = cs[k] := by
                simp only [hsp]; rw [List.getElem_append_left (by simp; omega), List.getElem_append_left (by simp; omega), List.getElem_take]
              have e2 : us1.getD k undef = us.getD k undef := by
                simp only [us1, List.getD_eq_getElem?_getD]; rw [List.append_assoc, List.getElem?_append_left (by simp; omega), List.getElem?_take_of_lt c1]
              rw [e1, e2]; exact hr k hk
            · by_cases c2 : k < off + vs.length
              · have e1 : (splice cs off vs)[k]'(by omega) = vs[k - off] := by
                  simp only [hsp]; rw [List.getElem_append_left (by simp; omega), List.getElem_append_right (by simp; omega)]; congr 1; simp; omega
                have e2 : us1.getD k undef = (a.eval x).cells.getD (k - off) undef := by
                  simp only [us1, List.getD_eq_getElem?_getD]
                  rw [List.append_assoc, List.getElem?_append_right (by simp; omega), List.getElem?_append_left (by simp; omega)]
                  simp only [List.length_take, Array.getD_eq_getD_getElem?, Array.getElem?_toList]
                  rw [show k - min off us.length = k - off by omega]
                rw [e1, e2]; exact h4 _ _
              · have e1 : (splice cs off vs)[k]'(by omega) = cs[k] := by
                  simp only [hsp]; rw [List.getElem_append_right (by simp; omega), List.getElem_drop]; congr 1; simp; omega
                have e2 : us1.getD k undef = us.getD k undef := by
                  simp only [us1, List.getD_eq_getElem?_getD]
                  rw [List.getElem?_append_right (by simp; omega), List.getElem?_drop]
                  simp only [List.length_append, List.length_take, hc]
                  rw [show off + vs.length + (k - (min off us.length + vs.length)) = k by omega]
                rw [e1, e2]; exact hr k hk)
        refine ⟨us', ?_, by rw [g2, hlen], ?_, ?_⟩
        · simp only [List.map_cons, Instr.fill, hp0]
          rw [if_neg (by
            have e1 : (a.eval x).cells.size = m := by omega
            simp [e1]; omega)]
          rw [hf]
          exact g1
        · simp only [bldV, hvs, Option.getD_some]; rw [g3, hlen]
        · simp only [bldV, hvs, Option.getD_some]; exact g4
      · exact h1.elim

theorem places_run : ∀ (fs : List Field), fs.all (fun f => (P.info? f.type).isSome) = true → ∀ w', (fs.mapM fun f => do pure (f.offset, ← sizeOf f.type) : Sem (List (Nat × Nat))).run P w' = .ok (fs.map fun f => (f.offset, ((P.info? f.type).map (·.size)).getD 0)) w'
  | [], _, w' => rfl
  | f :: fs, h, w' => by
    simp only [List.all_cons, Bool.and_eq_true] at h
    obtain ⟨i, hi⟩ := Option.isSome_iff_exists.1 h.1
    have e1 : (do pure (f.offset, ← sizeOf f.type) : Sem (Nat × Nat)).run P w' = .ok (f.offset, i.size) w' := by simp [sizeOf, typeInfo, hi]
    rw [List.mapM_cons, run_ok_bind e1, run_ok_bind (places_run fs h.2 w')]
    simp [hi]

theorem placesOf_ok {fs : Array Field} : ∀ (parts : List (Nat × AX)) (pl : List (Nat × Nat × AX)), placesOf P fs parts = some pl → pl.length = parts.length ∧ ∀ m (h : m < parts.length) (h' : m < pl.length), ((fs.map fun f => (f.offset, ((P.info? f.type).map (·.size)).getD 0))[parts[m].1]? : Option (Nat × Nat)) = some (pl[m].1, pl[m].2.1) ∧ pl[m].2.2 = parts[m].2
  | [], pl, h => by
    simp only [placesOf, Option.some.injEq] at h
    subst h
    exact ⟨rfl, fun m h => by simp at h⟩
  | (i, x) :: r, pl, h => by
    simp only [placesOf] at h
    split at h
    · rename_i f l hf hl
      split at h
      · rename_i j hj
        obtain rfl := Option.some.inj h
        obtain ⟨h1, h2⟩ := placesOf_ok r l hl
        refine ⟨by simp [h1], fun m hm hm' => ?_⟩
        cases m with
        | zero => simp [hf, hj]
        | succ m => simpa using h2 m (by simpa using hm) (by simpa using hm')
      · cases h
    · cases h

theorem q_bld {o : Oper} {t : TypeId} {fs : Array Field} {z : Value} {parts : Array (Nat × Operand)} {pl : List (Nat × Nat × AX)} (hR : R N g F H a w) (hop : o.op = .build t parts) (ht : P.underlying t = some (.struct fs)) (hz : (P.info? t).bind (·.zero) = some z)
    (hall : fs.toList.all (fun f => (P.info? f.type).isSome) = true) (hpl : placesOf P fs (parts.toList.map fun (i, x) => (i, cX x)) = some pl) (hq : qOk (.bld z.cells.toList pl) F H) : Quiet P a w g H o (qVal (.bld z.cells.toList pl) F H) := by
  obtain ⟨hok, hone⟩ := hq
  obtain ⟨i, hi, hz'⟩ := Option.bind_eq_some_iff.1 hz
  obtain ⟨h1, h2⟩ := placesOf_ok _ _ hpl
  obtain ⟨us', g1, g2, g3, g4⟩ := bld_ok hR parts.toList pl (fun i => (fs.map fun f => (f.offset, ((P.info? f.type).map (·.size)).getD 0))[i]?) (z.cells.toList.map .val) z.cells.toList (by simpa using h1)
    (fun m hm hm' => by
      have := h2 m (by simpa using hm) hm'
      simpa using this) (by simpa using hok) (by simp) (fun m hm => by
      simp only [List.length_map, Array.length_toList] at hm
      simp [hm]; exact .val)
  refine ⟨.agg us'.toArray, fun w' _ => ?_, ?_⟩
  · have hz0 : ∀ w', (zeroValue t).run P w' = .ok z w' := fun w' => by simp [zeroValue, typeInfo, hi, hz']
    have hm : (fs.mapM fun f => do pure (f.offset, ← sizeOf f.type) : Sem (Array (Nat × Nat))).run P w' = .ok (fs.map fun f => (f.offset, ((P.info? f.type).map (·.size)).getD 0)) w' := by
      rw [Array.mapM_eq_mapM_toList, Sem.run_map, places_run _ hall]
      simp only [Result.andThen_ok]
      congr 1
      apply Array.ext'
      simp
    have hpp : (parts.map fun (i, x) => (i, a.eval x)).toList = parts.toList.map fun (i, x) => (i, a.eval x) := by simp
    simp only [execOp, hop, Instr.build, Sem.run_bind, hz0, Result.andThen_ok, run_underlying ht, hm, hpp]
    simp only [Array.toArray_toList] at g1
    rw [g1]
    rfl
  · simp only [qVal]
    refine .agg (by simp [g3, g2]) fun m hm => ?_
    have := g4 m hm
    rwa [show us'.toArray.getD m undef = us'.getD m undef by simp [List.getD]]

theorem part_run {ft : TypeId} {d : TypeDesc} {cs : Array Value} {off : Nat} (hd : P.underlying ft = some d) (hg : isAggT (some d) = false) (hlt : off < cs.size) (w' : World) : (part ft cs off).run P w' = .ok (cs.getD off undef) w' := by
  have hagg : (isAgg ft).run P w' = .ok false w' := by
    unfold isAgg
    rw [run_ok_bind (run_underlying hd w')]
    cases d <;> first | rfl | (simp [isAggT] at hg)
  unfold part
  rw [run_ok_bind hagg]
  simp [hlt]

theorem q_fldv {o : Oper} {x : Operand} {t ft : TypeId} {j off : Nat} {d : TypeDesc} (hR : R N g F H a w) (hop : o.op = .field t x j) (hf : fieldOf P t j = some (off, ft)) (hd : P.underlying ft = some d) (hg : isAggT (some d) = false) (hq : qOk (.fldv off (cX x)) F H) :
    Quiet P a w g H o (qVal (.fldv off (cX x)) F H) := by
  obtain ⟨h1, h2⟩ := hq
  have h3 := sx_rd hR x h1
  unfold fieldOf at hf
  split at hf
  · rename_i fs hfs
    rw [Option.map_eq_some_iff] at hf
    obtain ⟨f, hff, he⟩ := hf
    simp only [Prod.mk.injEq] at he
    obtain ⟨rfl, rfl⟩ := he
    generalize hxe : st (ax F (cX x)) = vx at h2 h3
    have e : ∀ cs, vx = .agg cs → qVal (.fldv f.offset (cX x)) F H = cs.getD f.offset .any := fun cs hcs => by simp only [qVal, hxe, hcs]
    split at h2
    · rename_i cs
      rw [e cs rfl]
      generalize hv : a.eval x = v at h3
      cases h3 with
      | agg hl hr =>
        rename_i vs
        refine ⟨vs.getD f.offset undef, fun w' _ => ?_, ?_⟩
        · simp [execOp, hop, hv, Instr.field, run_underlying hfs, hff, asAgg, part_run hd hg (by omega : f.offset < vs.size)]
        · have := hr f.offset h2
          rwa [show cs.getD f.offset .any = cs[f.offset] by simp [h2]]
    · exact h2.elim
  · cases hf

theorem q_fldvs {o : Oper} {x : Operand} {t ft : TypeId} {j off : Nat} {d : TypeDesc} {i : TypeInfo} (hR : R N g F H a w) (hop : o.op = .field t x j) (hf : fieldOf P t j = some (off, ft)) (hd : P.underlying ft = some d) (hi : P.info? ft = some i) (hg : isAggT (some d) = true) (hq : qOk (.fldvs off i.size (cX x)) F H) :
    Quiet P a w g H o (qVal (.fldvs off i.size (cX x)) F H) := by
  obtain ⟨h1, h2⟩ := hq
  have h3 := sx_rd hR x h1
  unfold fieldOf at hf
  split at hf
  · rename_i fs hfs
    rw [Option.map_eq_some_iff] at hf
    obtain ⟨f, hff, he⟩ := hf
    simp only [Prod.mk.injEq] at he
    obtain ⟨rfl, rfl⟩ := he
    generalize hxe : st (ax F (cX x)) = vx at h2 h3
    have e : ∀ cs, vx = .agg cs → qVal (.fldvs f.offset i.size (cX x)) F H = .agg ((cs.drop f.offset).take i.size) := fun cs hcs => by simp only [qVal, hxe, hcs]
    have hagg : ∀ w', (isAgg f.type).run P w' = .ok true w' := fun w' => by
      unfold isAgg
      rw [run_ok_bind (run_underlying hd w')]
      cases d <;> first | rfl | (simp [isAggT] at hg)
    split at h2
    · rename_i cs
      rw [e cs rfl]
      generalize hv : a.eval x = v at h3
      cases h3 with
      | agg hl hr =>
        rename_i vs
        refine ⟨.agg (vs.extract f.offset (f.offset + i.size)), fun w' _ => ?_, ?_⟩
        · simp [execOp, hop, hv, Instr.field, run_underlying hfs, hff, asAgg, part, hagg, sizeOf, typeInfo, hi]
        · refine .agg (by simp; omega) fun m hm => ?_
          simp only [List.length_take, List.length_drop] at hm
          simp only [List.getElem_take, List.getElem_drop]
          have := hr (f.offset + m) (by omega)
          rwa [show (vs.extract f.offset (f.offset + i.size)).getD m undef = vs.getD (f.offset + m) undef by
            have h1 : f.offset + m < vs.size := by omega
            have h2 : m < min (f.offset + i.size) vs.size - f.offset := by omega
            simp [Array.getElem?_extract, h1, h2]]
    · exact h2.elim
  · cases hf

end Go.Gov
