/- A region that draws its order; code; the rules of the walk. -/
import Derived.Test.YtkolabjcmephaaaGov9
import Derived.Deep.LoopGhost
set_option linter.unusedSimpArgs false
set_option linter.unusedVariables false
namespace Go.Gov
variable {P : Program} {N : Nat} {g : Gh} {F : Frame} {H : Heap} {a : Act} {w : World}

def wpAnyT (P : Program) (ops : Array Oper) (Q : Exit → Act → World → Prop) (n : Nat) (S : World → Prop) : Nat → Array Bool → Act → World → Prop
  | 0, listed, a, w => Region.ready .any ops listed = [] ∧ Q .normal a w
  | fuel + 1, listed, a, w => (Region.ready .any ops listed = [] → Q .normal a w) ∧
    ∀ i ∈ Region.ready .any ops listed, wpOp P ops Q i (fun a' w' => (n ≤ i ∨ S w') ∧ wpAnyT P ops Q n S fuel (listed.setIfInBounds i true) a' w') a w

section
variable {ops : Array Oper} {Q : Exit → Act → World → Prop} {n : Nat} {S S' : World → Prop}

theorem wpAny_of_T : ∀ (fuel : Nat) (listed : Array Bool) (a : Act) (w : World), wpAnyT P ops Q n S fuel listed a w → wpAny P .any ops Q fuel listed a w
  | 0, _, _, _, h => h
  | fuel + 1, _, _, _, h => ⟨h.1, fun i hi => wpOp_mono (fun a' w' h' => wpAny_of_T fuel _ a' w' h'.2) (h.2 i hi)⟩

theorem wpAnyT_mono (hS : ∀ w, S w → S' w) : ∀ (fuel : Nat) (listed : Array Bool) (a : Act) (w : World), wpAnyT P ops Q n S fuel listed a w → wpAnyT P ops Q n S' fuel listed a w
  | 0, _, _, _, h => h
  | fuel + 1, _, _, _, h => ⟨h.1, fun i hi => wpOp_mono (fun a' w' h' => ⟨h'.1.imp id (hS w'), wpAnyT_mono hS fuel _ a' w' h'.2⟩) (h.2 i hi)⟩

theorem wpAnyT_first {i : Nat} {oi : Oper} {v : Value} (hi : ops[i]? = some oi) (hin : i < n) (hsel : ∀ (j : Nat) (o : Oper) cs b, ops[j]? = some o → o.op ≠ .select cs b)
    (hT : ∀ listed, HeadInv .any ops n listed → listed.getD i true = false → ∀ t, n ≤ t → t ∉ Region.ready .any ops listed)
    (hQ : ∀ c a w, Q (.panic c) (a.put oi.dst v) w → Q (.panic c) a w) :
    ∀ (fuel : Nat) (listed : Array Bool) (a : Act) (w : World), HeadInv .any ops n listed →
      (∀ j oj, ops[j]? = some oj → j ≠ i → listed.getD j true = false → (∀ e ∈ oj.after, Region.binds .any e = true → e.on ≠ i) → oi.apart ops oj = true) →
      i ∈ Region.ready .any ops listed → YieldsIf P ops S oi v a → S w →
      wpAnyT P ops Q n S fuel (listed.setIfInBounds i true) (a.put oi.dst v) w → wpAnyT P ops Q n S (fuel + 1) listed a w := by
  intro fuel
  induction fuel with
  | zero =>
    intro listed a w _ _ hr hy hS H
    refine ⟨fun h => (by rw [h] at hr; cases hr), fun j hj => ?_⟩
    by_cases hji : j = i
    · subst hji; exact hy.wpOp hi hS ⟨.inr hS, H⟩
    · have := ready_mono hj hji
      rw [H.1] at this
      cases this
  | succ fuel ih =>
    intro listed a w hinv hfree hr hy hS H
    refine ⟨fun h => (by rw [h] at hr; cases hr), fun j hj => ?_⟩
    by_cases hji : j = i
    · subst hji; exact hy.wpOp hi hS ⟨.inr hS, H⟩
    · have hjn : j < n := by
        rcases Nat.lt_or_ge j n with h | h
        · exact h
        · exact absurd hj (hT listed hinv (mem_ready.1 hr).1 j h)
      have h1 := H.2 j (ready_mono hj hji)
      obtain ⟨hjun, oj, hoj, hall⟩ := mem_ready.1 hj
      have hnot : ∀ e ∈ oj.after, Region.binds .any e = true → e.on ≠ i := fun e he hb heq => by
        have h1 := hall e he hb
        have h0 := (mem_ready.1 hr).1
        rw [heq] at h1
        rcases Nat.lt_or_ge i listed.size with h' | h'
        · simp [h'] at h0 h1; rw [h0] at h1; cases h1
        · simp [Array.getElem?_eq_none h'] at h1
      have h2 := wpOp_putIf hoj (hfree j oj hoj hji hjun hnot) (fun cs b => hsel i oi cs b hi) (fun cs b => hsel j oj cs b hoj) hQ hy h1
      have hfree' : ∀ k ok, ops[k]? = some ok → k ≠ i → (listed.setIfInBounds j true).getD k true = false →
          (∀ e ∈ ok.after, Region.binds .any e = true → e.on ≠ i) → oi.apart ops ok = true := fun k ok hk hki hun hno => by
        refine hfree k ok hk hki ?_ hno
        by_cases hjk : j = k
        · subst hjk; exact hjun
        · rw [getD_set_ne true hjk] at hun; exact hun
      refine wpOp_mono (fun a' w' h3 => ?_) h2
      have hSw : S w' := h3.2.1.resolve_left (by omega)
      refine ⟨.inr hSw, ih (listed.setIfInBounds j true) a' w' (hinv.set hj hjn) hfree' (ready_mono hr (Ne.symm hji)) h3.1 hSw ?_⟩
      rw [Array.setIfInBounds_comm _ _ hji]
      exact h3.2.2
end

def planB (quiet : Nat → Bool) (ops : Array Oper) (n : Nat) : List Nat → Array Bool → Bool
  | [], listed => (Region.ready .any ops listed).isEmpty
  | i :: rest, listed => (if decide (i < n) && quiet i then Region.free .any ops listed i && (Region.ready .any ops listed).contains i else Region.ready .any ops listed == [i]) && planB quiet ops n rest (listed.setIfInBounds i true)

def mkPlan (quiet : Nat → Bool) (ops : Array Oper) (n : Nat) : Nat → Array Bool → List Nat
  | 0, _ => []
  | fuel + 1, listed =>
    let rs := Region.ready .any ops listed
    match rs.find? (fun i => decide (i < n) && quiet i && Region.free .any ops listed i) with
    | some i => i :: mkPlan quiet ops n fuel (listed.setIfInBounds i true)
    | none => match rs with
      | i :: _ => i :: mkPlan quiet ops n fuel (listed.setIfInBounds i true)
      | [] => []

def quietB (P : Program) (ops : Array Oper) (i : Nat) : Bool := match ops[i]? with
  | some o => match compileOp P o with
    | some x => isQuiet x
    | none => false
  | none => false

/-- Does it write what was there? -/
def writes (M : List Nat) : AOp → Bool
  | .store .. | .app .. | .cpy .. => true
  | .call f _ => M.contains f
  | .callv .. => M.contains 999999
  | _ => false

def firstW (P : Program) (M : List Nat) (ops : Array Oper) : List Nat → Nat
  | [] => ops.size
  | i :: rest => match ops[i]? with
    | some o => match compileOp P o with
      | some x => if writes M x then i else firstW P M ops rest
      | none => firstW P M ops rest
    | none => ops.size

def compileRegion0 (P : Program) (M : List Nat) (N : Nat) (ops : Array Oper) (draw : Bool) : Option (List GOp × List GOp) :=
  if draw then
    let n := firstW P M ops (List.range ops.size)
    let plan := (mkPlan (quietB P ops) ops n n (Array.replicate ops.size false))
    let tail := List.range' n (ops.size - n)
    if P.follows .mixedOrders && (n == ops.size || (Region.sinkB .any ops n && Region.chainB .any ops n && decide (n < ops.size))) && Region.noSelect ops && decide (plan.length + tail.length = ops.size) && plan.all (fun i => decide (i < n)) &&
        planB (quietB P ops) ops n (plan ++ tail) (Array.replicate ops.size false) then
      match plan.mapM (compileG P N ops), tail.mapM (compileG P N ops) with
      | some h, some t => some (h, t)
      | _, _ => none
    else none
  else ((List.range ops.size).mapM (compileG P N ops)).map fun t => ([], t)

def compileRegion (P : Program) (M : List Nat) (N : Nat) (ops : Array Oper) (draw : Bool) : Option (List GOp × List GOp) := some ((compileRegion0 P M N ops draw).getD ([], [⟨none, none, .bad⟩]))

theorem evG_quiet {ops : Array Oper} {i : Nat} {x : GOp} {o : Oper} {ext : Bool} {K : Frame → Heap → Prop} (ho : ops[i]? = some o) (hc : compileG P N ops i = some x) (hq : isQuiet x.op = true) (hE : EvG P ext x K F H) (hR : R N g F H a w) :
    ∃ av v, YieldsIf P ops (Ext w) o v a ∧ R N g (putF F x.dst av) H (a.put o.dst v) w ∧ K (putF F x.dst av) H := by
  obtain ⟨o', ho', hop, hdst, hd, hgrd⟩ := compileG_inv hc
  obtain rfl : o = o' := by rw [ho] at ho'; simpa using ho'
  unfold EvG at hE
  rcases hgrd with ⟨hg, hxg⟩ | ⟨j, want, s, hg, hs, hlt, hxg⟩
  · rw [hxg] at hE
    dsimp only at hE
    rw [if_pos hq] at hE
    obtain ⟨v, hrun, hv⟩ := quiet_all hop hq hE.1 hR
    exact ⟨_, v, .inl ⟨by simp [Region.wanted, hg], fun w' hw => hrun w' (fun _ => hw)⟩, by rw [hdst]; exact put_R hR hd (Mv.refl hR.hp) hv, hE.2⟩
  · rw [hxg] at hE
    dsimp only at hE
    unfold EvGrd at hE
    split at hE
    · exact hE.elim
    · rename_i gb hgb
      rw [if_pos hq] at hE
      have hw := wanted_of hR hg hs hlt hgb
      cases gb with
      | false => exact ⟨_, undef, .inr ⟨hw, rfl⟩, by rw [hdst]; exact put_R hR hd (Mv.refl hR.hp) .cndF, hE.2⟩
      | true =>
        obtain ⟨v, hrun, hv⟩ := quiet_all hop hq (hE.1 rfl) hR
        exact ⟨_, v, .inl ⟨hw, fun w' hw' => hrun w' (fun _ => hw')⟩, by rw [hdst]; exact put_R hR hd (Mv.refl hR.hp) (.cndT hv), hE.2⟩

theorem Ext.trans {w w' w'' : World} (h : Ext w w') (hs : w.heap.size ≤ w'.heap.size) (k : Ext w' w'') : Ext w w'' := fun b hb => (k b (Nat.lt_of_lt_of_le hb hs)).trans (h b hb)

section
variable {ops : Array Oper} {Q : Exit → Act → World → Prop} {n : Nat}

theorem tail_ok {qt : Nat → Bool} (S : World → Prop) : ∀ (l : List Nat) (listed : Array Bool) (xs : List GOp) {K : Frame → Heap → Prop} {g : Gh} {F : Frame} {H : Heap} {a : Act} {w : World}, (∀ i ∈ l, n ≤ i) → planB qt ops n l listed = true → l.mapM (compileG P N ops) = some xs → EvOps P false xs K F H → R N g F H a w →
    (∀ g' F' H' a' w', R N g' F' H' a' w' → Mv g H w g' H' w' → K F' H' → Q .normal a' w') → wpAnyT P ops Q n S l.length listed a w
  | [], listed, xs, K, g, F, H, a, w, _, hB, hl, hE, hR, hK => by
    simp only [List.mapM_nil, Option.pure_def, Option.some.injEq] at hl
    subst hl
    refine ⟨by simpa [planB] using hB, hK _ _ _ _ _ hR (Mv.refl hR.hp) hE⟩
  | i :: rest, listed, xs, K, g, F, H, a, w, hn, hB, hl, hE, hR, hK => by
    simp only [List.mapM_cons, Option.pure_def, Option.bind_eq_bind, Option.bind_eq_some_iff] at hl
    obtain ⟨x, hx, l', hl', he⟩ := hl
    obtain rfl := Option.some.inj he
    have hni := hn i (by simp)
    simp only [planB, Bool.and_eq_true] at hB
    obtain ⟨hB1, hB2⟩ := hB
    rw [if_neg (by simp; omega)] at hB1
    have hr : Region.ready .any ops listed = [i] := by simpa using hB1
    refine ⟨fun h0 => (by rw [hr] at h0; cases h0), fun j hj => ?_⟩
    obtain rfl : j = i := by rw [hr] at hj; simpa using hj
    refine evG_wp hx hE hR fun g' F' H' a' w' hR' hm _ hE' => ⟨.inl hni, ?_⟩
    exact tail_ok S rest _ l' (fun k hk => hn k (List.mem_cons_of_mem _ hk)) hB2 hl' hE' hR' fun g'' F'' H'' a'' w'' hR'' hm' hk => hK _ _ _ _ _ hR'' (hm.trans hm') hk

theorem head_ok (tl : List Nat) (xt : List GOp) (htl : ∀ i ∈ tl, n ≤ i) (hxt : tl.mapM (compileG P N ops) = some xt) (hsel : Region.noSelect ops = true)
    (hT : ∀ i, i < n → ∀ listed, HeadInv .any ops n listed → listed.getD i true = false → ∀ t, n ≤ t → t ∉ Region.ready .any ops listed) (hQ : ∀ c a w, ¬ Q (.panic c) a w) :
    ∀ (l : List Nat) (listed : Array Bool) (xs : List GOp) {K : Frame → Heap → Prop} {g : Gh} {F : Frame} {H : Heap} {a : Act} {w : World}, HeadInv .any ops n listed → (∀ i ∈ l, i < n) → planB (quietB P ops) ops n (l ++ tl) listed = true → l.mapM (compileG P N ops) = some xs →
      EvOps P true xs (EvOps P false xt K) F H → R N g F H a w → (∀ g' F' H' a' w', R N g' F' H' a' w' → Mv g H w g' H' w' → K F' H' → Q .normal a' w') → wpAnyT P ops Q n (Ext w) (l ++ tl).length listed a w
  | [], listed, xs, K, g, F, H, a, w, _, _, hB, hl, hE, hR, hK => by
    simp only [List.mapM_nil, Option.pure_def, Option.some.injEq] at hl
    subst hl
    exact tail_ok (Ext w) tl listed xt htl hB hxt hE hR hK
  | i :: rest, listed, xs, K, g, F, H, a, w, hinv, hn, hB, hl, hE, hR, hK => by
    simp only [List.mapM_cons, Option.pure_def, Option.bind_eq_bind, Option.bind_eq_some_iff] at hl
    obtain ⟨x, hx, l', hl', he⟩ := hl
    obtain rfl := Option.some.inj he
    have hni := hn i (by simp)
    simp only [List.cons_append, planB, Bool.and_eq_true] at hB
    obtain ⟨hB1, hB2⟩ := hB
    obtain ⟨o, ho, hop, _⟩ := compileG_inv hx
    by_cases hq : quietB P ops i = true
    · rw [if_pos (by simp [hni, hq])] at hB1
      simp only [Bool.and_eq_true] at hB1
      have hqx : isQuiet x.op = true := by
        unfold quietB at hq
        simp only [ho, hop] at hq
        exact hq
      obtain ⟨av, v, hy, hR', hE'⟩ := evG_quiet ho hx hqx hE hR
      have hri : i ∈ Region.ready .any ops listed := by simpa using hB1.2
      refine wpAnyT_first ho hni (Region.noSelect_spec hsel) (hT i hni) (fun c a w h => absurd h (hQ _ _ _)) _ listed a w hinv (Region.free_spec ho hB1.1) hri hy (fun _ _ => rfl) ?_
      exact head_ok tl xt htl hxt hsel hT hQ rest _ l' (hinv.set hri hni) (fun k hk => hn k (List.mem_cons_of_mem _ hk)) hB2 hl' hE' hR' hK
    · rw [if_neg (by simp [hq])] at hB1
      have hr : Region.ready .any ops listed = [i] := by simpa using hB1
      have hri : i ∈ Region.ready .any ops listed := by rw [hr]; simp
      refine ⟨fun h0 => (by rw [hr] at h0; cases h0), fun j hj => ?_⟩
      obtain rfl : j = i := by rw [hr] at hj; simpa using hj
      refine evG_wp hx hE hR fun g' F' H' a' w' hR' hm hext hE' => ⟨.inr (hext rfl), ?_⟩
      refine wpAnyT_mono (S := Ext w') (fun u hu => (hext rfl).trans hm.stp.size hu) _ _ _ _ ?_
      exact head_ok tl xt htl hxt hsel hT hQ rest _ l' (hinv.set hri hni) (fun k hk => hn k (List.mem_cons_of_mem _ hk)) hB2 hl' hE' hR' fun g'' F'' H'' a'' w'' hR'' hm' hk => hK _ _ _ _ _ hR'' (hm.trans hm') hk
end

theorem drew_R (hR : R N g F H a w) : R N g F H a { w with drawn := w.drawn + 1 } := hR.keep (Nat.le_refl _) (fun _ _ => rfl)
theorem drew_Mv (hp : HeapR g H w) : Mv g H w g H { w with drawn := w.drawn + 1 } :=
  ⟨hp.keep (Nat.le_refl _) (fun _ _ => rfl), ⟨rfl, rfl, rfl, Nat.le_refl _, fun _ _ _ => rfl, fun _ h => .inl h, fun _ h => h, fun _ h => .inl h, fun _ _ => rfl⟩, fun _ _ h => Rd.mono (w := w) (w' := { w with drawn := w.drawn + 1 }) (fun _ h => h) (fun _ _ => rfl) (fun _ _ h => .inl h) h (by simp), fun _ _ h => .inl h⟩

/-- A REGION, drawn or not. -/
theorem region_wp {M : List Nat} {id : Nat} {ops : Array Oper} {draw : Bool} {h t : List GOp} {Q : Exit → Act → World → Prop} {K : Frame → Heap → Prop} (hc : compileRegion P M N ops draw = some (h, t)) (hE : EvOps P true h (EvOps P false t K) F H) (hR : R N g F H a w)
    (hQ : ∀ c a w, ¬ Q (.panic c) a w) (hK : ∀ g' F' H' a' w', R N g' F' H' a' w' → Mv g H w g' H' w' → K F' H' → Q .normal a' w') : (Code.region id ops draw).wp P Q a w := by
  unfold compileRegion at hc
  cases h0 : compileRegion0 P M N ops draw with
  | none =>
    rw [h0] at hc
    simp only [Option.getD_none, Option.some.injEq, Prod.mk.injEq] at hc
    obtain ⟨rfl, rfl⟩ := hc
    exact hE.1.elim
  | some p => ?_
  obtain ⟨h0', t0'⟩ := p
  rw [h0] at hc
  simp only [Option.getD_some] at hc
  have hc : compileRegion0 P M N ops draw = some (h, t) := h0.trans hc
  unfold compileRegion0 at hc
  cases draw with
  | false =>
    rw [if_neg (by simp), Option.map_eq_some_iff] at hc
    obtain ⟨l, hl, he⟩ := hc
    simp only [Prod.mk.injEq] at he
    obtain ⟨rfl, rfl⟩ := he
    exact wp_region (evOps_seq _ _ hl hE hR hK)
  | true =>
    rw [if_pos rfl] at hc
    dsimp only at hc
    split at hc
    · rename_i hb
      split at hc
      · rename_i h' t' hh ht
        simp only [Option.some.injEq, Prod.mk.injEq] at hc
        obtain ⟨rfl, rfl⟩ := hc
        generalize hn : firstW P M ops (List.range ops.size) = n at *
        simp only [Bool.and_eq_true, decide_eq_true_eq, Bool.or_eq_true, beq_iff_eq] at hb
        obtain ⟨⟨⟨⟨⟨hm, hnn⟩, hsel⟩, hlen⟩, hall⟩, hpl⟩ := hb
        refine wp_region_any hm ?_
        have key := head_ok (Q := Q) (P := P) (N := N) (n := n) (List.range' n (ops.size - n)) t' (fun i hi => by rw [List.mem_range'] at hi; omega) ht hsel ?_ hQ _ _ h' (K := K) (g := g) (F := F) (H := H) (a := a) (w := { w with drawn := w.drawn + 1 })
          ?_ (fun i hi => by simpa using List.all_eq_true.1 hall i hi) hpl hh hE (drew_R hR) (fun g' F' H' a' w' hR' hm' hk => hK _ _ _ _ _ hR' ((drew_Mv hR.hp).trans hm') hk)
        · rw [List.length_append, hlen] at key
          exact wpAny_of_T _ _ _ _ key
        · intro i hi listed hinv hun t' ht' hr
          rcases hnn with hnn | ⟨⟨hs, hc⟩, hlt⟩
          · obtain ⟨_, ot, hot, _⟩ := mem_ready.1 hr
            have := (Array.getElem?_eq_some_iff.1 hot).1
            omega
          · exact tail_waits hs hc hlt hinv _ i rfl hi hun t' ht' hr
        · refine ⟨by simp, fun j oj hj hl => ?_, fun t' ht' hlt => ?_⟩
          · rw [getD_replicate_false] at hl; cases hl
          · simp [hlt]
      · cases hc
    · cases hc

/-! ### A region whose operations may come in several orders: all of them -/

/-- The orders. 'reg': an operation that may come first as well as later; 'alt': any of those that are ready. -/
inductive PT where
  | fin
  | reg (i : Nat) (t : PT)
  | alt (i : Nat) (t u : PT)

inductive GT where
  | fin
  | reg (x : GOp) (t : GT)
  | alt (e : Bool) (x : GOp) (t u : GT)

def EvT (P : Program) (b : Bool) : GT → (Frame → Heap → Prop) → Frame → Heap → Prop
  | .fin, K => if b then fun _ _ => True else K
  | .reg x t, K => EvG P true x (EvT P false t K)
  | .alt e x t u, K => fun F H => EvG P e x (EvT P false t K) F H ∧ EvT P true u K F H

/-- Where nothing is written ('wr' false) any quiet operation may come first; else those that look at no memory. -/
def regB (P : Program) (wr : Bool) (ops : Array Oper) (i : Nat) : Bool := quietB P ops i && (!wr || match ops[i]? with
  | some o => !isMem o.op
  | none => false)

def okT (P : Program) (wr : Bool) (ops : Array Oper) : PT → Nat → Array Bool → Option (List Nat) → Bool
  | .fin, _, listed, none => (Region.ready .any ops listed).isEmpty
  | .fin, _, _, some rem => rem.isEmpty
  | .reg i t, fuel + 1, listed, none => regB P wr ops i && Region.free .any ops listed i && (Region.ready .any ops listed).contains i && okT P wr ops t fuel (listed.setIfInBounds i true) none
  | .alt i t u, fuel + 1, listed, m => match m.getD (Region.ready .any ops listed) with
    | j :: r => i == j && okT P wr ops t fuel (listed.setIfInBounds i true) none && okT P wr ops u (fuel + 1) listed (some r)
    | [] => false
  | _, _, _, _ => false

def mkT (P : Program) (wr : Bool) (ops : Array Oper) : Nat → Array Bool → PT
  | 0, _ => .fin
  | fuel + 1, listed =>
    let rs := Region.ready .any ops listed
    match rs.find? (fun i => regB P wr ops i && Region.free .any ops listed i) with
    | some i => .reg i (mkT P wr ops fuel (listed.setIfInBounds i true))
    | none => rs.foldr (fun i u => .alt i (mkT P wr ops fuel (listed.setIfInBounds i true)) u) .fin

def compileT (P : Program) (wr : Bool) (N : Nat) (ops : Array Oper) : PT → Option GT
  | .fin => some .fin
  | .reg i t => match compileG P N ops i, compileT P wr N ops t with
    | some x, some t => some (.reg x t)
    | _, _ => none
  | .alt i t u => match compileG P N ops i, compileT P wr N ops t, compileT P wr N ops u with
    | some x, some t, some u => some (.alt (!wr) x t u)
    | _, _, _ => none

def compileRegionT (P : Program) (M : List Nat) (N : Nat) (ops : Array Oper) : Option GT :=
  let wr := decide (firstW P M ops (List.range ops.size) < ops.size)
  let t := mkT P wr ops ops.size (Array.replicate ops.size false)
  if decide (((List.range ops.size).filter fun i => !regB P wr ops i).length ≤ 5) && P.follows .mixedOrders && Region.noSelect ops && okT P wr ops t ops.size (Array.replicate ops.size false) none then compileT P wr N ops t else none

theorem evG_reg {ops : Array Oper} {i : Nat} {x : GOp} {o : Oper} {ext : Bool} {K : Frame → Heap → Prop} (ho : ops[i]? = some o) (hc : compileG P N ops i = some x) (hq : isQuiet x.op = true) (hmem : isMem o.op = false) (hE : EvG P ext x K F H) (hR : R N g F H a w) :
    ∃ av v, YieldsIf P ops (fun _ => True) o v a ∧ R N g (putF F x.dst av) H (a.put o.dst v) w ∧ K (putF F x.dst av) H := by
  obtain ⟨o', ho', hop, hdst, hd, hgrd⟩ := compileG_inv hc
  obtain rfl : o = o' := by rw [ho] at ho'; simpa using ho'
  unfold EvG at hE
  rcases hgrd with ⟨hg, hxg⟩ | ⟨j, want, s, hg, hs, hlt, hxg⟩
  · rw [hxg] at hE
    dsimp only at hE
    rw [if_pos hq] at hE
    obtain ⟨v, hrun, hv⟩ := quiet_all hop hq hE.1 hR
    exact ⟨_, v, .inl ⟨by simp [Region.wanted, hg], fun w' _ => hrun w' (fun h => by rw [hmem] at h; cases h)⟩, by rw [hdst]; exact put_R hR hd (Mv.refl hR.hp) hv, hE.2⟩
  · rw [hxg] at hE
    dsimp only at hE
    unfold EvGrd at hE
    split at hE
    · exact hE.elim
    · rename_i gb hgb
      rw [if_pos hq] at hE
      have hw := wanted_of hR hg hs hlt hgb
      cases gb with
      | false => exact ⟨_, undef, .inr ⟨hw, rfl⟩, by rw [hdst]; exact put_R hR hd (Mv.refl hR.hp) .cndF, hE.2⟩
      | true =>
        obtain ⟨v, hrun, hv⟩ := quiet_all hop hq (hE.1 rfl) hR
        exact ⟨_, v, .inl ⟨hw, fun w' _ => hrun w' (fun h => by rw [hmem] at h; cases h)⟩, by rw [hdst]; exact put_R hR hd (Mv.refl hR.hp) (.cndT hv), hE.2⟩

section
variable {ops : Array Oper} {Q : Exit → Act → World → Prop} {S : World → Prop}

theorem wpAnyT_firstR {i : Nat} {oi : Oper} {v : Value} (hi : ops[i]? = some oi) (hsel : ∀ (j : Nat) (o : Oper) cs b, ops[j]? = some o → o.op ≠ .select cs b)
    (hQ : ∀ c a w, Q (.panic c) (a.put oi.dst v) w → Q (.panic c) a w) :
    ∀ (fuel : Nat) (listed : Array Bool) (a : Act) (w : World),
      (∀ j oj, ops[j]? = some oj → j ≠ i → listed.getD j true = false → (∀ e ∈ oj.after, Region.binds .any e = true → e.on ≠ i) → oi.apart ops oj = true) →
      i ∈ Region.ready .any ops listed → YieldsIf P ops (fun _ => True) oi v a →
      wpAnyT P ops Q 0 S fuel (listed.setIfInBounds i true) (a.put oi.dst v) w → wpAnyT P ops Q 0 S (fuel + 1) listed a w := by
  intro fuel
  induction fuel with
  | zero =>
    intro listed a w _ hr hy H
    refine ⟨fun h => (by rw [h] at hr; cases hr), fun j hj => ?_⟩
    by_cases hji : j = i
    · subst hji; exact hy.wpOp hi trivial ⟨.inl (Nat.zero_le _), H⟩
    · have := ready_mono hj hji
      rw [H.1] at this
      cases this
  | succ fuel ih =>
    intro listed a w hfree hr hy H
    refine ⟨fun h => (by rw [h] at hr; cases hr), fun j hj => ?_⟩
    by_cases hji : j = i
    · subst hji; exact hy.wpOp hi trivial ⟨.inl (Nat.zero_le _), H⟩
    · have h1 := H.2 j (ready_mono hj hji)
      obtain ⟨hjun, oj, hoj, hall⟩ := mem_ready.1 hj
      have hnot : ∀ e ∈ oj.after, Region.binds .any e = true → e.on ≠ i := fun e he hb heq => by
        have h1 := hall e he hb
        have h0 := (mem_ready.1 hr).1
        rw [heq] at h1
        rcases Nat.lt_or_ge i listed.size with h' | h'
        · simp [h'] at h0 h1; rw [h0] at h1; cases h1
        · simp [Array.getElem?_eq_none h'] at h1
      have h2 := wpOp_putIf hoj (hfree j oj hoj hji hjun hnot) (fun cs b => hsel i oi cs b hi) (fun cs b => hsel j oj cs b hoj) hQ hy h1
      have hfree' : ∀ k ok, ops[k]? = some ok → k ≠ i → (listed.setIfInBounds j true).getD k true = false →
          (∀ e ∈ ok.after, Region.binds .any e = true → e.on ≠ i) → oi.apart ops ok = true := fun k ok hk hki hun hno => by
        refine hfree k ok hk hki ?_ hno
        by_cases hjk : j = k
        · subst hjk; exact hjun
        · rw [getD_set_ne true hjk] at hun; exact hun
      refine wpOp_mono (fun a' w' h3 => ?_) h2
      refine ⟨.inl (Nat.zero_le _), ih (listed.setIfInBounds j true) a' w' hfree' (ready_mono hr (Ne.symm hji)) h3.1 ?_⟩
      rw [Array.setIfInBounds_comm _ _ hji]
      exact h3.2.2

/-- Where nothing is written. -/
theorem tree_okA (hsel : Region.noSelect ops = true) (hQ : ∀ c a w, ¬ Q (.panic c) a w) : ∀ (t : PT) (fuel : Nat) (listed : Array Bool) (m : Option (List Nat)) (gt : GT) {K : Frame → Heap → Prop} {g : Gh} {F : Frame} {H : Heap} {a : Act} {w : World},
    okT P false ops t fuel listed m = true → compileT P false N ops t = some gt → EvT P m.isSome gt K F H → R N g F H a w → HeadInv .any ops ops.size listed →
    (∀ g' F' H' a' w', R N g' F' H' a' w' → Mv g H w g' H' w' → K F' H' → Q .normal a' w') →
    match m with
    | none => wpAnyT P ops Q ops.size (Ext w) fuel listed a w
    | some rem => (∀ i ∈ rem, i ∈ Region.ready .any ops listed) → ∀ i ∈ rem, wpOp P ops Q i (fun a' w' => (ops.size ≤ i ∨ Ext w w') ∧ wpAnyT P ops Q ops.size (Ext w) (fuel - 1) (listed.setIfInBounds i true) a' w') a w
  | .fin, fuel, listed, m, gt, K, g, F, H, a, w, hok, hc, hE, hR, hinv, hK => by
    simp only [compileT, Option.some.injEq] at hc
    subst hc
    cases m with
    | none =>
      have hr : Region.ready .any ops listed = [] := by cases fuel <;> simpa [okT] using hok
      have hq := hK _ _ _ _ _ hR (Mv.refl hR.hp) hE
      cases fuel with
      | zero => exact ⟨hr, hq⟩
      | succ fuel => exact ⟨fun _ => hq, fun i hi => (by rw [hr] at hi; cases hi)⟩
    | some rem =>
      have hr : rem = [] := by cases fuel <;> simpa [okT] using hok
      subst hr
      exact fun _ i hi => (by cases hi)
  | .reg i t, 0, listed, m, gt, K, g, F, H, a, w, hok, hc, hE, hR, hinv, hK => by cases m <;> simp [okT] at hok
  | .reg i t, fuel + 1, listed, some rem, gt, K, g, F, H, a, w, hok, hc, hE, hR, hinv, hK => by simp [okT] at hok
  | .reg i t, fuel + 1, listed, none, gt, K, g, F, H, a, w, hok, hc, hE, hR, hinv, hK => by
    simp only [okT, Bool.and_eq_true] at hok
    obtain ⟨⟨⟨h1, h2⟩, h3⟩, h4⟩ := hok
    simp only [compileT] at hc
    split at hc
    · rename_i x gt' hx ht
      simp only [Option.some.injEq] at hc
      subst hc
      obtain ⟨o, ho, hop, _⟩ := compileG_inv hx
      have hqx : isQuiet x.op = true := by
        simp only [regB, Bool.not_false, Bool.true_or, Bool.and_true] at h1
        unfold quietB at h1
        simp only [ho, hop] at h1
        exact h1
      obtain ⟨av, v, hy, hR', hE'⟩ := evG_quiet ho hx hqx hE hR
      have hri : i ∈ Region.ready .any ops listed := by simpa using h3
      have hin : i < ops.size := (Array.getElem?_eq_some_iff.1 ho).1
      refine wpAnyT_first ho hin (Region.noSelect_spec hsel) (fun listed hinv' _ t ht hr => ?_) (fun c a w h => absurd h (hQ _ _ _)) _ listed a w hinv (Region.free_spec ho h2) hri hy (fun _ _ => rfl) ?_
      · obtain ⟨_, ot, hot, _⟩ := mem_ready.1 hr
        have := (Array.getElem?_eq_some_iff.1 hot).1
        omega
      · exact tree_okA hsel hQ t fuel _ none gt' h4 ht hE' hR' (hinv.set hri hin) hK
    · cases hc
  | .alt i t u, 0, listed, m, gt, K, g, F, H, a, w, hok, hc, hE, hR, hinv, hK => by cases m <;> simp [okT] at hok
  | .alt i t u, fuel + 1, listed, m, gt, K, g, F, H, a, w, hok, hc, hE, hR, hinv, hK => by
    simp only [okT] at hok
    split at hok
    · rename_i j r hjr
      simp only [Bool.and_eq_true, beq_iff_eq] at hok
      obtain ⟨⟨rfl, h1⟩, h2⟩ := hok
      simp only [compileT] at hc
      split at hc
      · rename_i x gt' gu hx ht hu
        simp only [Option.some.injEq] at hc
        subst hc
        obtain ⟨hE1, hE2⟩ := hE
        obtain ⟨o, ho, hop, _⟩ := compileG_inv hx
        have hin : i < ops.size := (Array.getElem?_eq_some_iff.1 ho).1
        have rest := tree_okA hsel hQ u (fuel + 1) listed (some r) gu h2 hu hE2 hR hinv hK
        have one : i ∈ Region.ready .any ops listed → wpOp P ops Q i (fun a' w' => (ops.size ≤ i ∨ Ext w w') ∧ wpAnyT P ops Q ops.size (Ext w) fuel (listed.setIfInBounds i true) a' w') a w := fun hri => by
          refine evG_wp hx hE1 hR fun g' F' H' a' w' hR' hm hext hE' => ⟨.inr (hext rfl), ?_⟩
          refine wpAnyT_mono (S := Ext w') (fun u hu => (hext rfl).trans hm.stp.size hu) _ _ _ _ ?_
          exact tree_okA hsel hQ t fuel _ none gt' h1 ht hE' hR' (hinv.set hri hin) fun g'' F'' H'' a'' w'' hR'' hm' hk => hK _ _ _ _ _ hR'' (hm.trans hm') hk
        cases m with
        | none =>
          simp only [Option.getD_none] at hjr
          refine ⟨fun h0 => (by rw [hjr] at h0; cases h0), fun k hk => ?_⟩
          rw [hjr] at hk
          rcases List.mem_cons.1 hk with rfl | hk'
          · exact one (by rw [hjr]; simp)
          · exact rest (fun q hq => by rw [hjr]; exact List.mem_cons_of_mem _ hq) k hk'
        | some rem =>
          simp only [Option.getD_some] at hjr
          subst hjr
          intro hall k hk
          rcases List.mem_cons.1 hk with rfl | hk'
          · exact one (hall _ (by simp))
          · exact rest (fun q hq => hall q (List.mem_cons_of_mem _ hq)) k hk'
      · cases hc
    · cases hok
/-- Where something may be written. -/
theorem tree_okB (hsel : Region.noSelect ops = true) (hQ : ∀ c a w, ¬ Q (.panic c) a w) : ∀ (t : PT) (fuel : Nat) (listed : Array Bool) (m : Option (List Nat)) (gt : GT) {K : Frame → Heap → Prop} {g : Gh} {F : Frame} {H : Heap} {a : Act} {w : World},
    okT P true ops t fuel listed m = true → compileT P true N ops t = some gt → EvT P m.isSome gt K F H → R N g F H a w →
    (∀ g' F' H' a' w', R N g' F' H' a' w' → Mv g H w g' H' w' → K F' H' → Q .normal a' w') →
    match m with
    | none => wpAnyT P ops Q 0 (fun _ => True) fuel listed a w
    | some rem => (∀ i ∈ rem, i ∈ Region.ready .any ops listed) → ∀ i ∈ rem, wpOp P ops Q i (fun a' w' => (0 ≤ i ∨ True) ∧ wpAnyT P ops Q 0 (fun _ => True) (fuel - 1) (listed.setIfInBounds i true) a' w') a w
  | .fin, fuel, listed, m, gt, K, g, F, H, a, w, hok, hc, hE, hR, hK => by
    simp only [compileT, Option.some.injEq] at hc
    subst hc
    cases m with
    | none =>
      have hr : Region.ready .any ops listed = [] := by cases fuel <;> simpa [okT] using hok
      have hq := hK _ _ _ _ _ hR (Mv.refl hR.hp) hE
      cases fuel with
      | zero => exact ⟨hr, hq⟩
      | succ fuel => exact ⟨fun _ => hq, fun i hi => (by rw [hr] at hi; cases hi)⟩
    | some rem =>
      have hr : rem = [] := by cases fuel <;> simpa [okT] using hok
      subst hr
      exact fun _ i hi => (by cases hi)
  | .reg i t, 0, listed, m, gt, K, g, F, H, a, w, hok, hc, hE, hR, hK => by cases m <;> simp [okT] at hok
  | .reg i t, fuel + 1, listed, some rem, gt, K, g, F, H, a, w, hok, hc, hE, hR, hK => by simp [okT] at hok
  | .reg i t, fuel + 1, listed, none, gt, K, g, F, H, a, w, hok, hc, hE, hR, hK => by
    simp only [okT, Bool.and_eq_true] at hok
    obtain ⟨⟨⟨h1, h2⟩, h3⟩, h4⟩ := hok
    simp only [compileT] at hc
    split at hc
    · rename_i x gt' hx ht
      simp only [Option.some.injEq] at hc
      subst hc
      obtain ⟨o, ho, hop, _⟩ := compileG_inv hx
      simp only [regB, Bool.not_true, Bool.false_or, Bool.and_eq_true, ho, Bool.not_eq_true'] at h1
      have hqx : isQuiet x.op = true := by
        have h1 := h1.1
        unfold quietB at h1
        simp only [ho, hop] at h1
        exact h1
      obtain ⟨av, v, hy, hR', hE'⟩ := evG_reg ho hx hqx h1.2 hE hR
      have hri : i ∈ Region.ready .any ops listed := by simpa using h3
      have hin : i < ops.size := (Array.getElem?_eq_some_iff.1 ho).1
      refine wpAnyT_firstR ho (Region.noSelect_spec hsel) (fun c a w h => absurd h (hQ _ _ _)) _ listed a w (Region.free_spec ho h2) hri hy ?_
      exact tree_okB hsel hQ t fuel _ none gt' h4 ht hE' hR' hK
    · cases hc
  | .alt i t u, 0, listed, m, gt, K, g, F, H, a, w, hok, hc, hE, hR, hK => by cases m <;> simp [okT] at hok
  | .alt i t u, fuel + 1, listed, m, gt, K, g, F, H, a, w, hok, hc, hE, hR, hK => by
    simp only [okT] at hok
    split at hok
    · rename_i j r hjr
      simp only [Bool.and_eq_true, beq_iff_eq] at hok
      obtain ⟨⟨rfl, h1⟩, h2⟩ := hok
      simp only [compileT] at hc
      split at hc
      · rename_i x gt' gu hx ht hu
        simp only [Option.some.injEq] at hc
        subst hc
        obtain ⟨hE1, hE2⟩ := hE
        obtain ⟨o, ho, hop, _⟩ := compileG_inv hx
        have hin : i < ops.size := (Array.getElem?_eq_some_iff.1 ho).1
        have rest := tree_okB hsel hQ u (fuel + 1) listed (some r) gu h2 hu hE2 hR hK
        have one : i ∈ Region.ready .any ops listed → wpOp P ops Q i (fun a' w' => (0 ≤ i ∨ True) ∧ wpAnyT P ops Q 0 (fun _ => True) fuel (listed.setIfInBounds i true) a' w') a w := fun hri => by
          refine evG_wp hx hE1 hR fun g' F' H' a' w' hR' hm hext hE' => ⟨.inl (Nat.zero_le _), ?_⟩
          exact tree_okB hsel hQ t fuel _ none gt' h1 ht hE' hR' fun g'' F'' H'' a'' w'' hR'' hm' hk => hK _ _ _ _ _ hR'' (hm.trans hm') hk
        cases m with
        | none =>
          simp only [Option.getD_none] at hjr
          refine ⟨fun h0 => (by rw [hjr] at h0; cases h0), fun k hk => ?_⟩
          rw [hjr] at hk
          rcases List.mem_cons.1 hk with rfl | hk'
          · exact one (by rw [hjr]; simp)
          · exact rest (fun q hq => by rw [hjr]; exact List.mem_cons_of_mem _ hq) k hk'
        | some rem =>
          simp only [Option.getD_some] at hjr
          subst hjr
          intro hall k hk
          rcases List.mem_cons.1 hk with rfl | hk'
          · exact one (hall _ (by simp))
          · exact rest (fun q hq => hall q (List.mem_cons_of_mem _ hq)) k hk'
      · cases hc
    · cases hok
end

/-- A REGION BY THE TREE OF ITS ORDERS. -/
theorem regionT_wp {M : List Nat} {id : Nat} {ops : Array Oper} {gt : GT} {Q : Exit → Act → World → Prop} {K : Frame → Heap → Prop} (hc : compileRegionT P M N ops = some gt) (hE : EvT P false gt K F H) (hR : R N g F H a w)
    (hQ : ∀ c a w, ¬ Q (.panic c) a w) (hK : ∀ g' F' H' a' w', R N g' F' H' a' w' → Mv g H w g' H' w' → K F' H' → Q .normal a' w') : (Code.region id ops true).wp P Q a w := by
  unfold compileRegionT at hc
  dsimp only at hc
  split at hc
  · rename_i hb
    generalize decide (firstW P M ops (List.range ops.size) < ops.size) = wr at *
    simp only [Bool.and_eq_true] at hb
    obtain ⟨⟨⟨_, hm⟩, hsel⟩, hok⟩ := hb
    refine wp_region_any hm ?_
    have hR' : R N g F H a { w with drawn := w.drawn + 1 } := drew_R hR
    have hK' : ∀ g' F' H' a' w', R N g' F' H' a' w' → Mv g H { w with drawn := w.drawn + 1 } g' H' w' → K F' H' → Q .normal a' w' := fun g' F' H' a' w' hR' hm' hk => hK _ _ _ _ _ hR' ((drew_Mv hR.hp).trans hm') hk
    cases wr with
    | false =>
      exact wpAny_of_T _ _ _ _ (tree_okA hsel hQ _ _ _ none gt hok hc hE hR' ⟨by simp, fun j oj hj hl => (by rw [getD_replicate_false] at hl; cases hl), fun t' ht' hlt => (by simp [hlt])⟩ hK')
    | true => exact wpAny_of_T _ _ _ _ (tree_okB hsel hQ _ _ _ none gt hok hc hE hR' hK')
  · cases hc

end Go.Gov
