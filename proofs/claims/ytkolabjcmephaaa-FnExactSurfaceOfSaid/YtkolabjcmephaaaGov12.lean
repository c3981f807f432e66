/- A function's contract out of its walk; a contract without the caller's heap, met in any heap. -/
import Derived.Test.YtkolabjcmephaaaGov11
set_option linter.unusedSimpArgs false
set_option linter.unusedVariables false
namespace Go.Gov
variable {P : Program} {N : Nat} {g : Gh} {F : Frame} {H : Heap} {a : Act} {w : World} {M : List Nat} {n0 : Nat}

def compileFn (P : Program) (M : List Nat) (f : FuncId) : Option (Nat × ACode × List AOp) := match P.funcs[f]? with
  | some fn => match fn.body with
    | some code => match compileCode P M fn.ntmps code, fn.results.toList.mapM (compileRes P) with
      | some ac, some rs => some (fn.ntmps, ac, rs)
      | _, _ => none
    | none => none
  | none => none

theorem mapM_run {fr : ResultVar → Sem Value} {q : AOp → AV} {cr : ResultVar → Option AOp} {ok : AOp → Prop} {X : AV → Value → Prop} (h : ∀ r x, cr r = some x → ok x → ∃ v, (fr r).run P w = .ok v w ∧ X (q x) v) : ∀ (l : List ResultVar) (rs : List AOp), l.mapM cr = some rs → (∀ x ∈ rs, ok x) →
    ∃ vs : List Value, (l.mapM fr).run P w = .ok vs w ∧ vs.length = rs.length ∧ ∀ m (h : m < rs.length), X (q rs[m]) (vs.getD m undef)
  | [], rs, hl, _ => by
    simp only [List.mapM_nil, Option.pure_def, Option.some.injEq] at hl
    subst hl
    exact ⟨[], rfl, rfl, fun m hm => by simp at hm⟩
  | r :: l, rs, hl, hok => by
    simp only [List.mapM_cons, Option.pure_def, Option.bind_eq_bind, Option.bind_eq_some_iff] at hl
    obtain ⟨x, hx, l', hl', he⟩ := hl
    obtain rfl := Option.some.inj he
    obtain ⟨v, hv, hX⟩ := h r x hx (hok x (by simp))
    obtain ⟨vs, hvs, hlen, hXs⟩ := mapM_run h l l' hl' (fun y hy => hok y (List.mem_cons_of_mem _ hy))
    refine ⟨v :: vs, ?_, by simp [hlen], fun m hm => ?_⟩
    · rw [List.mapM_cons, run_ok_bind hv, run_ok_bind hvs]
      rfl
    · cases m with
      | zero => exact hX
      | succ m => simpa using hXs m (by simpa using hm)

theorem calls_of_W {f : FuncId} {ac : ACode} {rs : List AOp} {args : List AV} {K : AV → Heap → Prop} (hc : compileFn P M f = some (N, ac, rs)) (hl : args.length ≤ N) (hW : W P M N H.length ac (endQ rs K) (mkF 0 args) H) : CallsX P false f args H K := by
  unfold compileFn at hc
  split at hc
  · rename_i fn hfn
    split at hc
    · rename_i code hcode
      split at hc
      · rename_i ac' rs' hac hrs
        simp only [Option.some.injEq, Prod.mk.injEq] at hc
        obtain ⟨rfl, rfl, rfl⟩ := hc
        intro g w vals hp hlen hrd
        refine calls_of_wp hfn hcode ?_
        have hR : R fn.ntmps g (mkF 0 args) H { tmps := vals ++ Array.replicate (fn.ntmps - vals.size) undef, defers := [] } w := by
          refine ⟨fun j => ?_, hp, by simp; omega, rfl⟩
          obtain ⟨h1, h2⟩ := get_mkF args 0 j
          by_cases hj : j < args.length
          · rw [h1 j hj (by omega)]
            have : (vals ++ Array.replicate (fn.ntmps - vals.size) undef).getD j undef = vals.getD j undef := by simp [Array.getElem?_append, show j < vals.size by omega]
            rw [this]; exact hrd j hj
          · rw [h2 fun m hm => by omega]; exact .any
        refine wp_mono (hW code hac g _ w hR) fun e a' w' hf => ?_
        obtain ⟨_, g', F', H', hR', hm, hk⟩ := hf
        have hm' := hm.toMv hp
        have ret : retQ rs' K F' H' → a'.defers = [] ∧ ∃ v, (results fn a'.tmps).run P w' = .ok v w' ∧ ∃ v' g' av H', Ending.returned v = .returned v' ∧ Mv g H w g' H' w' ∧ Rd w' (g'.tr H') g'.G av v' [] ∧ (false = true → Ext w w') ∧ K av H' := by
          intro hk
          refine ⟨hR'.defers, ?_⟩
          have hall : ∀ x ∈ rs', qOk x F' H' := by
            unfold retQ at hk
            split at hk
            · intro x hx; obtain rfl : x = _ := by simpa using hx
              exact hk.1
            · exact hk.1
          obtain ⟨vs, hvs, hvl, hX⟩ := mapM_run (P := P) (w := w') (fr := fun | .tmp t => pure (a'.tmps.getD t undef) | .cell s t => do loadVar t (← asAddr (a'.tmps.getD s undef))) (q := fun x => qVal x F' H') (cr := compileRes P) (ok := fun x => qOk x F' H') (X := fun x v => Rd w' (g'.tr H') g'.G x v [])
            (fun r x hx hok => res_run (fn := fn) hx hok hR') fn.results.toList rs' hrs hall
          have hrun : (results fn a'.tmps).run P w' = .ok (if h : vs.toArray.size = 1 then vs.toArray[0] else .tuple vs.toArray) w' := by
            unfold results
            rw [Array.mapM_eq_mapM_toList]
            simp only [Sem.run_bind, Sem.run_map]
            erw [hvs]
            rfl
          refine ⟨_, hrun, ?_⟩
          unfold retQ at hk
          split at hk
          · rename_i r
            simp only [List.length_singleton] at hvl
            obtain ⟨v, rfl⟩ := List.length_eq_one_iff.1 hvl
            exact ⟨v, g', _, H', rfl, hm', hX 0 (by simp), fun h => (by cases h), hk.2⟩
          · rename_i hne
            have hn1 : ¬ vs.toArray.size = 1 := by
              simp only [List.size_toArray, hvl]
              intro h1
              obtain ⟨r, rfl⟩ := List.length_eq_one_iff.1 h1
              exact hne r rfl
            rw [dif_neg hn1]
            refine ⟨_, g', _, H', rfl, hm', .tup (by simp [hvl]) (fun m hm => ?_), fun h => (by cases h), hk.2⟩
            simp only [List.length_map] at hm
            simp only [List.getElem_map]
            have := hX m hm
            rwa [show vs.toArray.getD m undef = vs.getD m undef by simp [List.getD]]
        cases e <;> simp only [endQ] at hk
        · exact ret hk
        · exact ret hk
      · cases hc
    · cases hc
  · cases hc

theorem CallsX.mono {ext : Bool} {f : FuncId} {args : List AV} {K K' : AV → Heap → Prop} (h : CallsX P ext f args H K) (hk : ∀ av H', K av H' → K' av H') : CallsX P ext f args H K' :=
  fun g w vals hp hl hr => (h g w vals hp hl hr).mono fun _ _ ⟨v, g', av, H', he, hm, hx, hext, hkk⟩ => ⟨v, g', av, H', he, hm, hx, hext, hk _ _ hkk⟩

/-- From no heap: nothing that was there is written. -/
theorem CallsX.ext_nil {f : FuncId} {args : List AV} {K : AV → Heap → Prop} (h : CallsX P false f args [] K) : CallsX P true f args [] K :=
  fun g w vals hp hl hr => (h g w vals hp hl hr).mono fun _ _ ⟨v, g', av, H', he, hm, hx, _, hk⟩ => ⟨v, g', av, H', he, hm, hx, fun _ b hb => hm.stp.keep b hb (fun ⟨o, cs, ho, _⟩ => by simp at ho), hk⟩

theorem CallsX.weak {f : FuncId} {args : List AV} {K : AV → Heap → Prop} {ext : Bool} (h : CallsX P true f args H K) : CallsX P ext f args H K :=
  fun g w vals hp hl hr => (h g w vals hp hl hr).mono fun _ _ ⟨v, g', av, H', he, hm, hx, hext, hk⟩ => ⟨v, g', av, H', he, hm, hx, fun _ => hext rfl, hk⟩

/-- The object's numbers moved up. -/
def shf (n : Nat) : Nat → AV → AV
  | 0, x => x
  | d + 1, .osl k m cs => .osl k m (cs.map (shf n d))
  | d + 1, .agg cs => .agg (cs.map (shf n d))
  | d + 1, .tup cs => .tup (cs.map (shf n d))
  | d + 1, .clo f fs cs => .clo f (fs.map (shf n d)) (cs.map (shf n d))
  | d + 1, .cnd b x => .cnd b (shf n d x)
  | _ + 1, .sl o k off len => .sl (o + n) k off len
  | _ + 1, .ref o j => .ref (o + n) j
  | _ + 1, x => x

/-- It leans on no frozen memory. -/
def nf : Nat → AV → Bool
  | 0, _ => false
  | d + 1, .osl _ _ cs => cs.all (nf d)
  | d + 1, .agg cs => cs.all (nf d)
  | d + 1, .tup cs => cs.all (nf d)
  | d + 1, .clo _ fs cs => fs.all (nf d) && cs.all (nf d)
  | d + 1, .cnd _ x => nf d x
  | _ + 1, .slc _ n _ => n == 0
  | _ + 1, .pto _ _ => false
  | _ + 1, _ => true

def shfH (n d : Nat) (H : Heap) : Heap := H.map (Option.map (List.map (shf n d)))
def nfH (d : Nat) (H : Heap) : Bool := H.all fun x => match x with
  | some cs => cs.all (nf d)
  | none => true

theorem shf_rd {tr tr' : Nat → Option (Option LocN)} {G G' : Nat → Prop} {n : Nat} (ht : ∀ o d, tr o = some d → tr' (o + n) = some d) : ∀ (d : Nat) (x : AV) (v : Value) (bs : List Nat), nf d x = true → Rd w tr G x v bs → Rd w tr' G' (shf n d x) v bs
  | 0, x, v, bs, h, _ => by cases h
  | d + 1, x, v, bs, h, hr => by
    have ih := shf_rd (G := G) (G' := G') ht d
    cases hr with
    | any => exact .any
    | val => exact .val
    | cndF => exact .cndF
    | cndT hr => exact .cndT (ih _ _ _ h hr)
    | slc u hl hn hm hG hc hr =>
      simp only [nf, beq_iff_eq] at h
      subst h
      rename_i k cs b off cap
      have : cs = [] := List.eq_nil_of_length_eq_zero (by simpa using hl)
      subst this
      exact .slc0 hm
    | slc0 hm => exact .slc0 hm
    | pto => cases h
    | sl h0 hv h1 =>
      obtain ⟨d', hd'⟩ := Option.isSome_iff_exists.1 h0
      refine .sl (by rw [ht _ _ hd']; rfl) hv fun l hl => h1 l ?_
      rw [ht _ _ hd'] at hl
      rw [hd', hl]
    | ref h0 hv h1 =>
      obtain ⟨d', hd'⟩ := Option.isSome_iff_exists.1 h0
      refine .ref (by rw [ht _ _ hd']; rfl) hv fun l hl => h1 l ?_
      rw [ht _ _ hd'] at hl
      rw [hd', hl]
    | osl u bss hl hn hm hb hs hc hr =>
      simp only [nf] at h
      simp only [shf]
      rename_i k n2 cs b off cap arr elem
      have := Rd.osl (tr := tr') (G := G') (cs := cs.map (shf n d)) u bss (by simpa using hl) hn hm hb hs (fun m hm' => hc m (by simpa using hm')) (fun m hm' => by
        simp only [List.getElem_map]
        exact ih _ _ _ (List.all_eq_true.1 h _ (List.getElem_mem _)) (hr m (by simpa using hm')))
      simpa only [List.length_map] using this
    | osl0 => simp only [shf, List.map_nil]; exact .osl0
    | agg hl hr =>
      simp only [nf] at h
      simp only [shf]
      exact .agg (by simpa using hl) fun m hm => by simp only [List.getElem_map]; exact ih _ _ _ (List.all_eq_true.1 h _ (List.getElem_mem _)) (hr m (by simpa using hm))
    | tup hl hr =>
      simp only [nf] at h
      simp only [shf]
      exact .tup (by simpa using hl) fun m hm => by simp only [List.getElem_map]; exact ih _ _ _ (List.all_eq_true.1 h _ (List.getElem_mem _)) (hr m (by simpa using hm))
    | clo hf hrf hl hr =>
      simp only [nf, Bool.and_eq_true] at h
      simp only [shf]
      exact .clo (by simpa using hf) (fun m hm => by simp only [List.getElem_map]; exact ih _ _ _ (List.all_eq_true.1 h.1 _ (List.getElem_mem _)) (hrf m (by simpa using hm)))
        (by simpa using hl) fun m hm => by simp only [List.getElem_map]; exact ih _ _ _ (List.all_eq_true.1 h.2 _ (List.getElem_mem _)) (hr m (by simpa using hm))

theorem shfH_get {n d : Nat} {H0 : Heap} {i : Nat} {cs : List AV} (h : (shfH n d H0)[i]? = some (some cs)) : ∃ c, H0[i]? = some (some c) ∧ cs = c.map (shf n d) := by
  unfold shfH at h
  rw [List.getElem?_map, Option.map_eq_some_iff] at h
  obtain ⟨x, hx, he⟩ := h
  rw [Option.map_eq_some_iff] at he
  obtain ⟨c, rfl, rfl⟩ := he
  exact ⟨c, hx, rfl⟩

/-- A CONTRACT THAT KNOWS NO HEAP, MET IN ANY HEAP: the arguments as a reader sees them; what it made is new. -/
theorem CallsX.lift {f : FuncId} {args args' : List AV} {K : AV → Heap → Prop} (h : CallsX P true f args [] K) (d d' : Nat) (ha : args = args'.map (frz H d)) (hnf : ∀ av H0, K av H0 → nf d' av = true ∧ nfH d' H0 = true) :
    CallsX P true f args' H fun av H' => ∃ av0 H0, K av0 H0 ∧ av = shf H.length d' av0 ∧ H' = H ++ shfH H.length d' H0 := by
  intro g w vals hp hl hr
  let g0 : Gh := ⟨fun _ => none, fun _ => [], fun b => b < w.heap.size⟩
  have hp0 : HeapR g0 [] w := ⟨fun o cs h => by simp at h, fun o cs h => by simp at h, fun o o' cs cs' h => by simp at h, fun o cs h => by simp at h, fun b hb => hb⟩
  have htr0 : g0.tr [] = fun _ => none := by funext o; simp [Gh.tr]
  refine (h g0 w vals hp0 (by rw [ha]; simpa using hl) (fun m hm => ?_)).mono ?_
  · rw [htr0]
    subst ha
    simp only [List.getElem_map]
    exact frz_ok hp d _ _ _ (hr m (by simpa using hm))
  · rintro e w' ⟨v, g1, av, H0, he, hm, hx, hext, hk⟩
    obtain ⟨hnf1, hnf2⟩ := hnf av H0 hk
    have hE : Ext w w' := hext rfl
    have hsz := hm.stp.size
    let n := H.length
    let g' : Gh := ⟨fun o => if o < n then g.ρ o else g1.ρ (o - n), fun o => if o < n then g.ob o else g1.ob (o - n), g.G⟩
    let H' := H ++ shfH n d' H0
    have hfresh : ∀ o cs, H0[o]? = some (some cs) → ∀ b ∈ g1.ob o, w.heap.size ≤ b := fun o cs ho b hb => by
      rcases hm.stp.own b ⟨o, cs, ho, hb⟩ with ⟨o', cs', ho', _⟩ | h
      · simp at ho'
      · exact h
    have hget : ∀ o cs, H'[o]? = some (some cs) → (o < n ∧ H[o]? = some (some cs)) ∨ (n ≤ o ∧ ∃ c, H0[o - n]? = some (some c) ∧ cs = c.map (shf n d')) := fun o cs ho => by
      rcases Nat.lt_or_ge o n with h' | h'
      · left; rw [List.getElem?_append_left h'] at ho; exact ⟨h', ho⟩
      · right; rw [List.getElem?_append_right h'] at ho; exact ⟨h', shfH_get ho⟩
    have htr1 : ∀ o dd, g.tr H o = some dd → g'.tr H' o = some dd := fun o dd ho => by
      have hlt := tr_lt ho
      unfold Gh.tr at *
      rw [List.getElem?_append_left hlt]
      simp only [g', n, if_pos hlt]
      exact ho
    have htr2 : ∀ o dd, g1.tr H0 o = some dd → g'.tr H' (o + n) = some dd := fun o dd ho => by
      have hlt := tr_lt ho
      unfold Gh.tr at *
      rw [List.getElem?_append_right (by simp [n])]
      simp only [shfH, List.getElem?_map, n, Nat.add_sub_cancel]
      rw [List.getElem?_eq_getElem hlt] at ho ⊢
      cases hh : H0[o] with
      | none => rw [hh] at ho; simpa using ho
      | some cs => rw [hh] at ho; simpa [g', n, show ¬ o + H.length < H.length by omega] using ho
    have hshift := fun (x : AV) v bs hx hr => shf_rd (w := w') (G := g1.G) (G' := g'.G) htr2 d' x v bs hx hr
    have hcells : ∀ (o : Nat) (c : List AV), H0[o]? = some (some c) → c.all (nf d') = true := fun o c ho => by
      have := List.all_eq_true.1 hnf2 (some c) (List.mem_of_getElem? ho)
      exact this
    have hold : ∀ x v bs, Rd w (g.tr H) g.G x v bs → Rd w' (g'.tr H') g'.G x v bs := fun x v bs h => h.mono (fun _ h => h) (fun b hb => hE b (hp.low b hb)) (fun o dd h => .inl (htr1 o dd h)) (fun b hb => hE b (h.lt b hb))
    have hp' : HeapR g' H' w' := by
      refine ⟨?_, ?_, ?_, ?_, fun b hb => Nat.lt_of_lt_of_le (hp.low b hb) hsz⟩
      · intro o cs ho
        rcases hget o cs ho with ⟨hlt, ho'⟩ | ⟨hge, c, ho', rfl⟩
        · simp only [g', if_pos hlt]
          have h1 := hp.obj o cs ho'
          exact h1.mono (fun _ h => h) (fun b hb => hE b (hp.low b hb)) (fun o dd h => .inl (htr1 o dd h)) (fun b hb => hE b (h1.all_lt b hb))
        · simp only [g', if_neg (Nat.not_lt.2 hge)]
          have h1 := hm.hp.obj (o - n) c ho'
          cases hl : g1.ρ (o - n) with
          | none => rw [hl] at h1; obtain ⟨rfl, h2⟩ := h1; exact ⟨rfl, h2⟩
          | some l =>
            obtain ⟨b, base, sz⟩ := l
            rw [hl] at h1
            obtain ⟨arr, elem, u, bss, hb, h2, h3, h4, h5, h6⟩ := h1
            refine ⟨arr, elem, u, bss, hb, h2, by simpa using h3, fun m hm => h4 m (by simpa using hm), fun m hm => ?_, by simpa using h6⟩
            simp only [List.getElem_map]
            exact hshift _ _ _ (List.all_eq_true.1 (hcells _ _ ho') _ (List.getElem_mem _)) (h5 m (by simpa using hm))
      · intro o cs ho
        rcases hget o cs ho with ⟨hlt, ho'⟩ | ⟨hge, c, ho', rfl⟩
        · simp only [g', if_pos hlt]; exact hp.nodup o cs ho'
        · simp only [g', if_neg (Nat.not_lt.2 hge)]; exact hm.hp.nodup _ c ho'
      · intro o o2 cs cs2 ho ho2 hne b h1 h2
        rcases hget o cs ho with ⟨hlt, ho'⟩ | ⟨hge, c, ho', rfl⟩ <;> rcases hget o2 cs2 ho2 with ⟨hlt2, ho2'⟩ | ⟨hge2, c2, ho2', rfl⟩
        · simp only [g', if_pos hlt] at h1; simp only [g', if_pos hlt2] at h2; exact hp.apart o o2 cs cs2 ho' ho2' hne b h1 h2
        · simp only [g', if_pos hlt] at h1; simp only [g', if_neg (Nat.not_lt.2 hge2)] at h2
          have := (hp.obj o cs ho').all_lt b h1; have := hfresh _ _ ho2' b h2; omega
        · simp only [g', if_neg (Nat.not_lt.2 hge)] at h1; simp only [g', if_pos hlt2] at h2
          have := (hp.obj o2 cs2 ho2').all_lt b h2; have := hfresh _ _ ho' b h1; omega
        · simp only [g', if_neg (Nat.not_lt.2 hge)] at h1; simp only [g', if_neg (Nat.not_lt.2 hge2)] at h2
          exact hm.hp.apart _ _ c c2 ho' ho2' (by omega) b h1 h2
      · intro o cs ho b h1 hG
        rcases hget o cs ho with ⟨hlt, ho'⟩ | ⟨hge, c, ho', rfl⟩
        · simp only [g', if_pos hlt] at h1; exact hp.free o cs ho' b h1 hG
        · simp only [g', if_neg (Nat.not_lt.2 hge)] at h1
          have := hfresh _ _ ho' b h1; have := hp.low b hG; omega
    refine ⟨v, g', shf n d' av, H', he, ⟨hp', ⟨hm.stp.os, hm.stp.tape, hm.stp.output, hsz, fun b hb _ => hE b hb, fun b ⟨o, cs, ho, h1⟩ => ?_, fun _ h => h, fun _ h => .inl h, hm.stp.fz⟩, fun x v h => hold x v [] h, fun o dd h => .inl (htr1 o dd h)⟩, hshift _ _ _ hnf1 hx, fun _ => hE, av, H0, hk, rfl, rfl⟩
    rcases hget o cs ho with ⟨hlt, ho'⟩ | ⟨hge, c, ho', rfl⟩
    · left; simp only [g', if_pos hlt] at h1; exact ⟨o, cs, ho', h1⟩
    · right; simp only [g', if_neg (Nat.not_lt.2 hge)] at h1; exact hfresh _ _ ho' b h1

end Go.Gov
