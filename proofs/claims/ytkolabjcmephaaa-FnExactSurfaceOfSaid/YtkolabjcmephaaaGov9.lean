/- One operation with its guard; a call; a list of operations in an order. -/
import Derived.Test.YtkolabjcmephaaaGov8
import Derived.StillTail
set_option linter.unusedSimpArgs false
set_option linter.unusedVariables false
namespace Go.Gov
variable {P : Program} {N : Nat} {g : Gh} {F : Frame} {H : Heap} {a : Act} {w : World}

structure GOp where
  dst : Option Nat
  grd : Option (Nat × Bool)
  op : AOp

def putF (F : Frame) : Option Nat → AV → Frame
  | some d, x => (d, x) :: F
  | none, _ => F

def dstOk (N : Nat) : Option Nat → Bool
  | some d => decide (d < N)
  | none => true

def compileG (P : Program) (N : Nat) (ops : Array Oper) (i : Nat) : Option GOp := match ops[i]? with
  | none => none
  | some o => match compileOp P o with
    | none => none
    | some x => if dstOk N o.dst then match o.guard with
        | none => some ⟨o.dst, none, x⟩
        | some (j, want) => match (ops[j]?).bind (·.dst) with
          | some s => if s < N then some ⟨o.dst, some (s, want), x⟩ else none
          | none => none
      else none

/-- Is a guarded operation wanted? -/
def gcond : AV → Bool → Option Bool
  | .val (.bool b), w => some (b == w)
  | .cnd c x, w => (gcond x w).map (c && ·)
  | _, _ => none

/-- A call, told over the abstract heap. -/
def CallsX (P : Program) (ext : Bool) (f : FuncId) (args : List AV) (H : Heap) (K : AV → Heap → Prop) : Prop :=
  ∀ g w (vals : Array Value), HeapR g H w → vals.size = args.length → (∀ m (h : m < args.length), Rd w (g.tr H) g.G args[m] (vals.getD m undef) []) →
    Calls P f vals w fun e w' => ∃ v g' av H', e = .returned v ∧ Mv g H w g' H' w' ∧ Rd w' (g'.tr H') g'.G av v [] ∧ (ext = true → Ext w w') ∧ K av H'

def callable (P : Program) (f : FuncId) : Bool := match P.funcs[f]? with
  | some fn => fn.body.isSome && !(fn.name == "runtime.NumGoroutine")
  | none => false

def argsOk (F : Frame) : List AX → Prop
  | [] => True
  | x :: l => stOk (ax F x) ∧ argsOk F l

/-- Under a guard that is told. -/
def EvGrd (g : Option Bool) (A : Bool → Prop) : Prop := match g with
  | none => False
  | some gb => A gb
@[congr] theorem EvGrd_congr {g g' : Option Bool} {A : Bool → Prop} (h : g = g') : EvGrd g A = EvGrd g' A := by rw [h]
theorem EvGrd_some (gb : Bool) (A : Bool → Prop) : EvGrd (some gb) A = A gb := rfl

/-- A call under a guard: what it gives is told ahead. -/
def GCall (gb : Bool) (C K : AV → Prop) : Prop := ∃ av, (gb = true → C av) ∧ K av
@[congr] theorem GCall_congr {gb gb' : Bool} {C C' K : AV → Prop} (h : gb = gb') (hc : ∀ av, C av = C' av) : GCall gb C K = GCall gb' C' K := by
  rw [h, show C = C' from funext hc]
@[congr] theorem CallsX_congr {P : Program} {ext : Bool} {f : FuncId} {args args' : List AV} {H H' : Heap} {K : AV → Heap → Prop} (ha : args = args') (hH : H = H') : CallsX P ext f args H K = CallsX P ext f args' H' K := by
  rw [ha, hH]

def EvG (P : Program) (ext : Bool) (x : GOp) (K : Frame → Heap → Prop) (F : Frame) (H : Heap) : Prop := match x.grd with
  | none => if isQuiet x.op then qOk x.op F H ∧ K (putF F x.dst (qVal x.op F H)) H else match x.op with
    | .call f args => argsOk F args ∧ CallsX P ext f (args.map fun y => st (ax F y)) H fun av H' => K (putF F x.dst av) H'
    | .callv fv args => argsOk F args ∧ stOk (ax F fv) ∧ match st (ax F fv) with
      | .clo f fs cs => callable P f = true ∧ CallsX P ext f (fs ++ (args.map fun y => st (ax F y)) ++ cs) H fun av H' => K (putF F x.dst av) H'
      | _ => False
    | op => (ext = true → isExt op = true) ∧ evLoud op F H fun av H' => K (putF F x.dst av) H'
  | some (s, want) => EvGrd (gcond (fget F s) want) fun gb => if isQuiet x.op then (gb = true → qOk x.op F H) ∧ K (putF F x.dst (.cnd gb (qVal x.op F H))) H else match x.op with
      | .call f args => GCall gb (fun av => argsOk F args ∧ CallsX P true f (args.map fun y => st (ax F y)) H fun av' H' => av' = av ∧ H' = H) fun av => K (putF F x.dst (.cnd gb av)) H
      | _ => False

def EvOps (P : Program) (ext : Bool) : List GOp → (Frame → Heap → Prop) → Frame → Heap → Prop
  | [], K => K
  | x :: l, K => EvG P ext x (EvOps P ext l K)

theorem get_put {F : Frame} {d j : Nat} {x : AV} : fget ((d, x) :: F) j = if d = j then x else fget F j := rfl

theorem put_R {g' : Gh} {H' : Heap} {w' : World} {dst : Option Nat} {x : AV} {v : Value} (hR : R N g F H a w) (hd : dstOk N dst = true) (hm : Mv g H w g' H' w') (hx : Rd w' (g'.tr H') g'.G x v []) : R N g' (putF F dst x) H' (a.put dst v) w' := by
  cases dst with
  | none => exact ⟨fun j => hm.lift _ _ (hR.fr j), hm.hp, hR.size, hR.defers⟩
  | some d =>
    have hlt : d < N := by simpa [dstOk] using hd
    refine ⟨fun j => ?_, hm.hp, by simp [Act.put, hR.size], hR.defers⟩
    simp only [putF, get_put]
    by_cases e : d = j
    · subst e
      rw [if_pos rfl]
      have : (a.put (some d) v).tmps.getD d undef = v := by simp [Act.put, hR.size, hlt]
      rw [this]; exact hx
    · rw [if_neg e]
      have : (a.put (some d) v).tmps.getD j undef = a.tmps.getD j undef := by
        simp [Act.put, Array.getElem?_setIfInBounds, e]
      rw [this]; exact hm.lift _ _ (hR.fr j)

theorem gcond_ok {tr : Nat → Option (Option LocN)} {G : Nat → Prop} : ∀ (x : AV) (v : Value) (want gb : Bool), gcond x want = some gb → Rd w tr G x v [] → ((match v with | .bool b => some b | _ => none : Option Bool) == some want) = gb
  | .val (.bool b), v, want, gb, h, hr => by
    simp only [gcond, Option.some.injEq] at h
    subst h
    rw [hr.val_inv.1]
    cases b <;> cases want <;> rfl
  | .cnd c x, v, want, gb, h, hr => by
    simp only [gcond, Option.map_eq_some_iff] at h
    obtain ⟨gb', h1, h2⟩ := h
    cases hr with
    | cndF => simp only [Bool.false_and] at h2; subst h2; rfl
    | cndT hr => simp only [Bool.true_and] at h2; subst h2; exact gcond_ok x v want gb' h1 hr

theorem argsOk_mem : ∀ {args : List AX}, argsOk F args → ∀ x ∈ args, stOk (ax F x)
  | [], _, x, hx => by cases hx
  | y :: l, h, x, hx => by
    rcases List.mem_cons.1 hx with rfl | hx
    · exact h.1
    · exact argsOk_mem h.2 x hx

theorem args_rd (hR : R N g F H a w) (args : Array Operand) (h : argsOk F (args.toList.map cX)) : ∀ m (h : m < ((args.toList.map cX).map fun y => st (ax F y)).length),
    Rd w (g.tr H) g.G ((args.toList.map cX).map fun y => st (ax F y))[m] ((args.map a.eval).getD m undef) [] := fun m hm => by
  simp only [List.length_map, Array.length_toList] at hm
  simp only [List.getElem_map, Array.getElem_toList]
  have e : (args.map a.eval).getD m undef = a.eval args[m] := by simp [hm]
  rw [e]
  exact sx_rd hR _ (argsOk_mem h _ (List.mem_map.2 ⟨args[m], by simp, rfl⟩))

theorem callFunc_run {f : FuncId} {vs : Array Value} (h : callable P f = true) (w : World) : (callFunc f vs).run P w = .ok (.enter f vs) w := by
  unfold callable at h
  split at h
  · rename_i fn hfn
    simp only [Bool.and_eq_true, Bool.not_eq_true', Option.isSome_iff_ne_none] at h
    have hb : fn.body ≠ none := by intro hb; simp_all
    have hn : ¬ fn.name = "runtime.NumGoroutine" := by simpa using h.2
    unfold callFunc
    simp [program, Sem.run, hfn, hn, hb]
  · cases h

theorem call_inv {o : Oper} {f : FuncId} {args : List AX} (h : compileOp P o = some (.call f args)) : ∃ as ts, o.op = .call { callee := .value (.func f), args := as, argTypes := ts } ∧ args = as.toList.map cX ∧ callable P f = true := by
  rcases compileOp_inv h with h | h
  rotate_left
  · cases h
  unfold compileOp0 at h
  split at h <;> rename_i hop
  case h_23 =>
    split at h
    · rename_i fn hfn
      split at h
      · cases h
      · rename_i hn
        simp only [Option.some.injEq, AOp.call.injEq] at h
        obtain ⟨rfl, rfl⟩ := h
        refine ⟨_, _, hop, rfl, ?_⟩
        simp only [Bool.or_eq_true, not_or] at hn
        unfold callable
        rw [hfn]
        cases hb : fn.body <;> simp_all
    · cases h
  all_goals ((repeat' split at h) <;> first | (cases h; done) | (injection h with h; cases h; done) | (rw [Option.map_eq_some_iff] at h; obtain ⟨_, _, h⟩ := h; cases h; done))

theorem callv_inv {o : Oper} {fv : AX} {args : List AX} (h : compileOp P o = some (.callv fv args)) : ∃ t as ts, o.op = .call { callee := .value (.tmp t), args := as, argTypes := ts } ∧ args = as.toList.map cX ∧ fv = .s t := by
  rcases compileOp_inv h with h | h
  rotate_left
  · cases h
  unfold compileOp0 at h
  split at h <;> rename_i hop
  case h_24 =>
    simp only [Option.some.injEq, AOp.callv.injEq] at h
    obtain ⟨rfl, rfl⟩ := h
    exact ⟨_, _, _, hop, rfl, rfl⟩
  all_goals ((repeat' split at h) <;> first | (cases h; done) | (injection h with h; cases h; done) | (rw [Option.map_eq_some_iff] at h; obtain ⟨_, _, h⟩ := h; cases h; done))

theorem compileG_inv {ops : Array Oper} {i : Nat} {x : GOp} (h : compileG P N ops i = some x) : ∃ o, ops[i]? = some o ∧ compileOp P o = some x.op ∧ x.dst = o.dst ∧ dstOk N o.dst = true ∧
    ((o.guard = none ∧ x.grd = none) ∨ ∃ j want s, o.guard = some (j, want) ∧ (ops[j]?).bind (·.dst) = some s ∧ s < N ∧ x.grd = some (s, want)) := by
  unfold compileG at h
  split at h
  · cases h
  · rename_i o ho
    split at h
    · cases h
    · rename_i y hy
      by_cases hd : dstOk N o.dst = true
      · rw [if_pos hd] at h
        split at h
        · rename_i hg
          obtain rfl := Option.some.inj h
          exact ⟨o, ho, hy, rfl, hd, .inl ⟨hg, rfl⟩⟩
        · rename_i j want hg
          split at h
          · rename_i s hs
            by_cases hlt : s < N
            · rw [if_pos hlt] at h
              obtain rfl := Option.some.inj h
              exact ⟨o, ho, hy, rfl, hd, .inr ⟨j, want, s, hg, hs, hlt, rfl⟩⟩
            · rw [if_neg hlt] at h; cases h
          · cases h
      · rw [if_neg hd] at h; cases h

theorem wanted_of {ops : Array Oper} {o : Oper} {j s : Nat} {want gb : Bool} (hR : R N g F H a w) (hg : o.guard = some (j, want)) (hs : (ops[j]?).bind (·.dst) = some s) (hlt : s < N) (hc : gcond (fget F s) want = some gb) :
    Region.wanted o (yielded ops a.tmps) = gb := by
  have h1 := gcond_ok _ _ _ _ hc (hR.fr s)
  rw [← h1]
  simp only [Region.wanted, hg, yielded, hs, Option.bind_some]
  have : a.tmps[s]? = some (a.tmps.getD s undef) := by simp [hR.size, hlt]
  rw [this]
  cases a.tmps.getD s undef <;> rfl

theorem isExt_quiet {x : AOp} (h : isExt x = true) : isQuiet x = false ∧ isCall x = false := by cases x <;> first | exact ⟨rfl, rfl⟩ | cases h

/-- A call, carried out. -/
theorem call_wp {o : Oper} {f : FuncId} {args : List AV} {vals : Array Value} {ext : Bool} {K : AV → Heap → Prop} {K' : Act → World → Prop} {Q' : Exit → Act → World → Prop} (hrun : (execOp a.eval o).run P w = .ok (.enter f vals) w) (hR : R N g F H a w)
    (hl : vals.size = args.length) (hrd : ∀ m (h : m < args.length), Rd w (g.tr H) g.G args[m] (vals.getD m undef) []) (hC : CallsX P ext f args H K) (hd : dstOk N o.dst = true)
    (hK : ∀ g' av H' v w', Mv g H w g' H' w' → Rd w' (g'.tr H') g'.G av v [] → (ext = true → Ext w w') → K av H' → K' (a.put o.dst v) w') : o.wp P a w K' Q' := by
  unfold Oper.wp
  rw [hrun]
  simp only [Oper.upon]
  refine (hC g w vals hR.hp hl hrd).mono fun e w' ⟨v, g', av, H', he, hm, hx, hext, hk⟩ => ?_
  subst he
  exact hK g' av H' v w' hm hx hext hk

theorem evG_wp {ops : Array Oper} {i : Nat} {x : GOp} {ext : Bool} {K : Frame → Heap → Prop} {K' : Act → World → Prop} {Q' : Exit → Act → World → Prop} (hc : compileG P N ops i = some x) (hE : EvG P ext x K F H) (hR : R N g F H a w)
    (hK : ∀ g' F' H' a' w', R N g' F' H' a' w' → Mv g H w g' H' w' → (ext = true → Ext w w') → K F' H' → K' a' w') : wpOp P ops Q' i K' a w := by
  obtain ⟨o, ho, hop, hdst, hd, hgrd⟩ := compileG_inv hc
  unfold wpOp
  simp only [ho]
  have quiet : ∀ gb : Bool, (gb = true → isQuiet x.op = true → qOk x.op F H → o.wp P a w (fun a' w' => w' = w ∧ ∃ v, a' = a.put o.dst v ∧ Rd w (g.tr H) g.G (qVal x.op F H) v []) Q') := by
    intro gb _ hq hok
    obtain ⟨v, hrun, hv⟩ := quiet_all hop hq hok hR
    unfold Oper.wp
    rw [hrun w (fun _ _ _ => rfl)]
    exact ⟨rfl, v, rfl, hv⟩
  rcases hgrd with ⟨hg, hxg⟩ | ⟨j, want, s, hg, hs, hlt, hxg⟩
  · have hw : Region.wanted o (yielded ops a.tmps) = true := by simp [Region.wanted, hg]
    rw [if_pos hw]
    left
    unfold EvG at hE
    rw [hxg] at hE
    dsimp only at hE
    by_cases hq : isQuiet x.op = true
    · rw [if_pos hq] at hE
      refine Oper.wp_mono ?_ (quiet true rfl hq hE.1)
      rintro a' w' ⟨rfl, v, rfl, hv⟩
      exact hK _ _ _ _ _ (put_R hR hd (Mv.refl hR.hp) hv) (Mv.refl hR.hp) (fun _ _ _ => rfl) (hdst ▸ hE.2)
    · rw [if_neg hq] at hE
      have loud : isCall x.op = false → (ext = true → isExt x.op = true) → evLoud x.op F H (fun av H' => K (putF F x.dst av) H') → o.wp P a w K' Q' := by
        intro hcall hext hl
        obtain ⟨v, w', g', av, H', hrun, hm, hx, he, hk⟩ := loud_all hop (by simpa using hq) hcall hl hR
        have hfin : K' (a.put o.dst v) w' := hK _ _ _ _ _ (put_R hR hd hm hx) hm (fun h => he (hext h)) (hdst ▸ hk)
        unfold Oper.wp
        rcases hrun with hrun | ⟨hrun, rfl⟩
        · rw [hrun]; exact hfin
        · rw [hrun]; exact hfin
      cases hx : x.op <;> rw [hx] at hE hq loud <;> first | exact absurd rfl hq | exact loud rfl hE.1 hE.2 | skip
      · rename_i f args
        obtain ⟨as, ts, hopc, rfl, hcl⟩ := call_inv (hx ▸ hop)
        obtain ⟨hok, hC⟩ := hE
        refine call_wp (vals := as.map a.eval) ?_ hR (by simp) (args_rd hR as hok) hC hd fun g' av H' v w' hm hx2 hext hk => hK _ _ _ _ _ (put_R hR hd hm hx2) hm hext (hdst ▸ hk)
        simp [execOp, hopc, resolve, Act.eval, Deferred.ofValue, invoke, callFunc_run hcl]
      · rename_i fv args
        obtain ⟨t, as, ts, hopc, rfl, rfl⟩ := callv_inv (hx ▸ hop)
        obtain ⟨hok, hokf, hE⟩ := hE
        have hfr := sx_rd hR (.tmp t) hokf
        split at hE
        · rename_i f fs cs hfc
          obtain ⟨hcl, hC⟩ := hE
          have hfr' : Rd w (g.tr H) g.G (.clo f fs cs) (a.eval (.tmp t)) [] := by rw [← hfc]; exact hfr
          generalize hv : a.eval (.tmp t) = v at hfr'
          cases hfr' with
          | clo hf hrf hl hr =>
            rename_i vf vc
            refine call_wp (vals := vf ++ as.map a.eval ++ vc) ?_ hR (by simp; omega) (fun m hm => ?_) hC hd fun g' av H' v w' hm hx2 hext hk => hK _ _ _ _ _ (put_R hR hd hm hx2) hm hext (hdst ▸ hk)
            · simp [execOp, hopc, resolve, hv, Deferred.ofValue, invoke, callFunc_run hcl]
            · have hargs := args_rd hR as hok
              simp only [List.length_append, List.length_map, Array.length_toList] at hm hargs
              by_cases h1 : m < fs.length
              · rw [List.getElem_append_left (by simp; omega), List.getElem_append_left h1]
                have : (vf ++ as.map a.eval ++ vc).getD m undef = vf.getD m undef := by
                  simp [Array.getElem?_append, show m < vf.size by omega, show m < vf.size + as.size by omega]
                rw [this]; exact hrf m h1
              · by_cases h2 : m < fs.length + as.size
                · rw [List.getElem_append_left (by simp; omega), List.getElem_append_right (by omega)]
                  have : (vf ++ as.map a.eval ++ vc).getD m undef = (as.map a.eval).getD (m - fs.length) undef := by
                    simp [Array.getElem?_append, show ¬ m < vf.size by omega, show m < vf.size + as.size by omega, show m - vf.size < as.size by omega, hf]
                  rw [this]; exact hargs (m - fs.length) (by omega)
                · rw [List.getElem_append_right (by simp; omega)]
                  have : (vf ++ as.map a.eval ++ vc).getD m undef = vc.getD (m - (fs.length + as.size)) undef := by
                    simp [Array.getElem?_append, show ¬ m < vf.size by omega, show ¬ m < vf.size + as.size by omega, show ¬ m - vf.size < as.size by omega, hf, Nat.sub_sub]
                  rw [this]
                  have := hr (m - (fs.length + as.size)) (by omega)
                  simpa using this
        · exact hE.elim
  · unfold EvG at hE
    rw [hxg] at hE
    dsimp only at hE
    unfold EvGrd at hE
    split at hE
    · exact hE.elim
    · rename_i gb hgb
      rw [wanted_of hR hg hs hlt hgb]
      cases gb with
      | false =>
        rw [if_neg (by simp)]
        have hskip : ∀ av, R N g (putF F o.dst (.cnd false av)) H (a.put o.dst undef) w := fun av => put_R hR hd (Mv.refl hR.hp) .cndF
        by_cases hq : isQuiet x.op = true
        · rw [if_pos hq] at hE
          exact hK _ _ _ _ _ (hskip _) (Mv.refl hR.hp) (fun _ _ _ => rfl) (hdst ▸ hE.2)
        · rw [if_neg hq] at hE
          split at hE
          · obtain ⟨av, _, hk⟩ := hE
            exact hK _ _ _ _ _ (hskip _) (Mv.refl hR.hp) (fun _ _ _ => rfl) (hdst ▸ hk)
          · exact hE.elim
      | true =>
        rw [if_pos rfl]
        left
        by_cases hq : isQuiet x.op = true
        · rw [if_pos hq] at hE
          refine Oper.wp_mono ?_ (quiet true rfl hq (hE.1 rfl))
          rintro a' w' ⟨rfl, v, rfl, hv⟩
          exact hK _ _ _ _ _ (put_R hR hd (Mv.refl hR.hp) (.cndT hv)) (Mv.refl hR.hp) (fun _ _ _ => rfl) (hdst ▸ hE.2)
        · rw [if_neg hq] at hE
          split at hE
          · rename_i f args hx
            obtain ⟨av, hC, hk⟩ := hE
            obtain ⟨hok, hC⟩ := hC rfl
            obtain ⟨as, ts, hopc, rfl, hcl⟩ := call_inv (hx ▸ hop)
            refine call_wp (vals := as.map a.eval) ?_ hR (by simp) (args_rd hR as hok) hC hd fun g' av' H' v w' hm hx2 hext hk' => ?_
            · simp [execOp, hopc, resolve, Act.eval, Deferred.ofValue, invoke, callFunc_run hcl]
            · obtain ⟨rfl, rfl⟩ := hk'
              exact hK _ _ _ _ _ (put_R hR hd hm (.cndT hx2)) hm (fun _ => hext rfl) (hdst ▸ hk)
          · exact hE.elim

/-- In the order of the text. -/
theorem evOps_seq {ops : Array Oper} {Q' : Exit → Act → World → Prop} : ∀ (idxs : List Nat) (l : List GOp) {K : Frame → Heap → Prop} {g : Gh} {F : Frame} {H : Heap} {a : Act} {w : World}, idxs.mapM (compileG P N ops) = some l → EvOps P false l K F H → R N g F H a w →
    (∀ g' F' H' a' w', R N g' F' H' a' w' → Mv g H w g' H' w' → K F' H' → Q' .normal a' w') → wpOps P ops Q' idxs a w
  | [], l, K, g, F, H, a, w, hl, hE, hR, hK => by
    simp only [List.mapM_nil, Option.pure_def, Option.some.injEq] at hl
    subst hl
    exact hK _ _ _ _ _ hR (Mv.refl hR.hp) hE
  | i :: rest, l, K, g, F, H, a, w, hl, hE, hR, hK => by
    simp only [List.mapM_cons, Option.pure_def, Option.bind_eq_bind, Option.bind_eq_some_iff] at hl
    obtain ⟨x, hx, l', hl', he⟩ := hl
    obtain rfl := Option.some.inj he
    rw [wpOps_cons]
    refine evG_wp hx hE hR fun g' F' H' a' w' hR' hm _ hE' => ?_
    exact evOps_seq rest l' hl' hE' hR' fun g'' F'' H'' a'' w'' hR'' hm' hk => hK _ _ _ _ _ hR'' (hm.trans hm') hk

end Go.Gov
