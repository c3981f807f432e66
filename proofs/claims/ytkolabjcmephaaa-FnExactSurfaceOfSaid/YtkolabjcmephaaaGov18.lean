/- What a call made, told as memory that nobody writes; a nil result told as an object; an empty slice. -/
import Derived.Test.YtkolabjcmephaaaGov17
set_option linter.unusedSimpArgs false
set_option linter.unusedVariables false
namespace Go.Gov
variable {P : Program} {N : Nat} {g : Gh} {F : Frame} {H : Heap} {a : Act} {w : World} {M : List Nat} {n0 : Nat}

/-- A contract that knows no heap; what it gives lies in memory of its own that nobody writes. -/
def Fresh (P : Program) (f : FuncId) (args : List AV) (x : AV) : Prop :=
  ∀ g w (vals : Array Value), HeapR g [] w → vals.size = args.length → (∀ m (h : m < args.length), Rd w (g.tr []) g.G args[m] (vals.getD m undef) []) →
    Calls P f vals w fun e w' => ∃ v, e = .returned v ∧ w'.os = w.os ∧ w'.tape = w.tape ∧ w'.output = w.output ∧ w.heap.size ≤ w'.heap.size ∧ Ext w w' ∧ (∀ a, a.block < w.heap.size → w'.frozen? a = w.frozen? a) ∧
      Rd w' (fun _ => none) (fun b => w.heap.size ≤ b ∧ b < w'.heap.size) x v []

theorem nf_G {tr : Nat → Option (Option LocN)} {G G' : Nat → Prop} {d : Nat} {x : AV} {v : Value} {bs : List Nat} (h : nf d x = true) (hr : Rd w tr G x v bs) : Rd w tr G' (shr id d x) v bs := shr_rd (σ := id) (fun _ _ h => h) d x v bs h hr

theorem Fresh.of {f : FuncId} {args : List AV} {x : AV} {H0 : Heap} (h : Pure P f args x H0) (d : Nat) (hx : nf d x = true) (hH : nfH d H0 = true) {y : AV} (hy : frz (shrH id d H0) d (shr id d x) = y) : Fresh P f args y := by
  intro g w vals hp hl hr
  refine (h g w vals hp hl hr).mono ?_
  rintro e w' ⟨v, g', av, H', he, hm, hrd, hext, rfl, rfl⟩
  have hno : ∀ b, ¬ g.owns [] b := fun b ⟨o, cs, ho, _⟩ => by simp at ho
  have hnew : ∀ b, g'.owns H' b → w.heap.size ≤ b := fun b hb => (hm.stp.own b hb).resolve_left (hno b)
  have hcells : ∀ (i : Nat) (c : List AV), H'[i]? = some (some c) → c.all (nf d) = true := fun i c ho => List.all_eq_true.1 hH (some c) (List.mem_of_getElem? ho)
  let g2 : Gh := ⟨g'.ρ, g'.ob, fun _ => False⟩
  have htr : ∀ o dd, g'.tr H' o = some dd → g2.tr (shrH id d H') o = some dd := fun o dd ho => by
    have hl := tr_lt ho
    unfold Gh.tr at *
    simp only [shrH, List.getElem?_map, g2]
    rw [List.getElem?_eq_getElem hl] at ho ⊢
    cases hh : H'[o] with
    | none => rw [hh] at ho; simpa using ho
    | some cs => rw [hh] at ho; simpa using ho
  have hal : ∀ (i : Nat) (c : List AV), (shrH id d H')[i]? = some (some c) → ∃ c' : List AV, H'[i]? = some (some c') ∧ c = c'.map (shr id d) := fun i c h => by
    simp only [shrH, List.getElem?_map, Option.map_eq_some_iff] at h
    obtain ⟨y, hy, c', hc1, hc2⟩ := h
    exact ⟨c', by rw [hy, hc1], hc2.symm⟩
  have hp2 : HeapR g2 (shrH id d H') w' := by
    refine ⟨?_, ?_, ?_, fun _ _ _ _ _ h => h, fun _ h => h.elim⟩
    · intro o cs ho
      obtain ⟨c, hc, rfl⟩ := hal o cs ho
      have h1 := hm.hp.obj o c hc
      show ObjR w' _ _ _ (g'.ob o) (g'.ρ o)
      cases hl : g'.ρ o with
      | none => rw [hl] at h1; obtain ⟨rfl, h2⟩ := h1; exact ⟨rfl, h2⟩
      | some l =>
        obtain ⟨b, base, sz⟩ := l
        rw [hl] at h1
        obtain ⟨arr, elem, u, bss, hb, h2, h3, h4, h5, h6⟩ := h1
        refine ⟨arr, elem, u, bss, hb, h2, by simpa using h3, fun m hm => h4 m (by simpa using hm), fun m hm => ?_, by simpa using h6⟩
        simp only [List.getElem_map]
        exact shr_rd htr d _ _ _ (List.all_eq_true.1 (hcells _ _ hc) _ (List.getElem_mem _)) (h5 m (by simpa using hm))
    · intro o cs ho
      obtain ⟨c, hc, rfl⟩ := hal o cs ho
      exact hm.hp.nodup o c hc
    · intro o o' cs cs' ho ho' hne b hb hb'
      obtain ⟨c, hc, rfl⟩ := hal o cs ho
      obtain ⟨c', hc', rfl⟩ := hal o' cs' ho'
      exact hm.hp.apart o o' c c' hc hc' hne b hb hb'
  refine ⟨v, he, hm.stp.os, hm.stp.tape, hm.stp.output, hm.stp.size, hext rfl, hm.stp.fz, ?_⟩
  rw [← hy]
  have h1 := frz_own hp2 d (shr id d av) v [] (shr_rd htr d av v [] hx hrd) (by simp)
  refine h1.mono ?_ (fun _ _ => rfl) (fun _ _ h => .inl h) (by simp)
  rintro b (h | ⟨o, cs, ho, hb⟩)
  · exact h.elim
  · obtain ⟨c, hc, rfl⟩ := hal o cs ho
    exact ⟨hnew b ⟨o, c, hc, hb⟩, (hm.hp.obj o c hc).all_lt b hb⟩

theorem call_fresh {ext : Bool} {f : FuncId} {args args' : List AV} {x : AV} {K : AV → Heap → Prop} (h : Fresh P f args x) (ha : args'.map (frz H 6) = args) (hK : K x H) : CallsX P ext f args' H K := by
  intro g w vals hp hl hr
  have hp0 : HeapR (⟨fun _ => none, fun _ => [], fun b => b < w.heap.size⟩ : Gh) [] w := ⟨fun o cs h => by simp at h, fun o cs h => by simp at h, fun o o' cs cs' h => by simp at h, fun o cs h => by simp at h, fun b hb => hb⟩
  refine (h _ w vals hp0 (by rw [← ha]; simpa using hl) (fun m hm => ?_)).mono ?_
  · have htr0 : (⟨fun _ => none, fun _ => [], fun b => b < w.heap.size⟩ : Gh).tr [] = fun _ => none := by funext o; simp [Gh.tr]
    rw [htr0]
    subst ha
    simp only [List.getElem_map]
    exact frz_ok hp 6 _ _ _ (hr m (by simpa using hm))
  · rintro e w' ⟨v, he, h1, h2, h3, h4, hE, h5, hrd⟩
    let g' : Gh := ⟨g.ρ, g.ob, fun b => g.G b ∨ (w.heap.size ≤ b ∧ b < w'.heap.size)⟩
    have htr : g'.tr H = g.tr H := rfl
    have hold : ∀ x v bs, Rd w (g.tr H) g.G x v bs → Rd w' (g'.tr H) g'.G x v bs := fun x v bs h => h.mono (fun _ h => .inl h) (fun b hb => hE b (hp.low b hb)) (fun o dd h => .inl h) (fun b hb => hE b (h.lt b hb))
    have hp' : HeapR g' H w' := by
      refine ⟨fun o cs ho => ?_, hp.nodup, hp.apart, fun o cs ho b hb => ?_, ?_⟩
      · exact (hp.obj o cs ho).mono (fun _ h => .inl h) (fun b hb => hE b (hp.low b hb)) (fun o dd h => .inl h) (fun b hb => hE b ((hp.obj o cs ho).all_lt b hb))
      · rintro (h | ⟨h, _⟩)
        · exact hp.free o cs ho b hb h
        · have := (hp.obj o cs ho).all_lt b hb; omega
      · rintro b (h | ⟨_, h⟩)
        · exact Nat.lt_of_lt_of_le (hp.low b h) h4
        · exact h
    exact ⟨v, g', x, H, he, ⟨hp', ⟨h1, h2, h3, h4, fun b hb _ => hE b hb, fun b hb => .inl hb, fun _ h => .inl h, fun b hb => hb.elim .inl (fun h => .inr (.inr h.1)), h5⟩, fun x v h => hold x v [] h, fun o dd h => .inl h⟩,
      hrd.mono (fun b h => .inr h) (fun _ _ => rfl) (fun _ _ h => by cases h) (by simp), fun _ => hE, hK⟩

/-- A nil slice that a call gives, first of several values, is told as an object. -/
theorem pure_nil {f : FuncId} {args l : List AV} (k : Nat) (h : Pure P f args (.tup (nilS :: l)) []) : Pure P f args (.tup (.sl 0 k 0 0 :: l)) [some []] :=
  fun g w vals hp hl hr => (h g w vals hp hl hr).mono fun _ w' ⟨v, g', av, H', he, hm, hx, hext, hk, hk2⟩ => by
    subst hk hk2
    have hm2 := nil_obj hm.hp
    refine ⟨v, _, _, _, he, hm.trans hm2, ?_, hext, rfl, rfl⟩
    have hx' := hm2.lift _ _ hx
    have e1 : (g'.add ([] : Heap).length none []).tr ([] ++ [some ([] : List AV)]) 0 = some (some (none, 0)) := by
      have e1 : (([] : Heap) ++ [some ([] : List AV)])[0]? = some (some []) := by simp
      rw [Gh.tr_some e1]
      simp [Gh.add]
    cases hx' with
    | tup hl' hr' =>
      refine .tup (by simpa using hl') fun m hm' => ?_
      match m, hm' with
      | 0, _ =>
        have h1 := hr' 0 (by simp)
        simp only [List.getElem_cons_zero] at h1 ⊢
        rw [h1.val_inv.1]
        refine .sl (by rw [e1]; rfl) rfl fun l hl => ?_
        rw [e1] at hl
        obtain rfl := Option.some.inj (Option.some.inj hl)
        exact ⟨by dsimp only; omega, rfl, none, rfl⟩
      | m + 1, hm' =>
        have h1 := hr' (m + 1) (by simpa using hm')
        simpa using h1

/-- A slice without elements is told as memory that nobody writes. -/
theorem Ref.emp (j o : Nat) {cs : List AV} {k off : Nat} (ho : H[o]? = some (some cs)) (h : fget F j = .sl o k off 0) : Ref n0 F H ((j, .slc k 0 []) :: F) H := fun N g a w hR => by
  refine ⟨g, ⟨fun i => ?_, hR.hp, hR.size, hR.defers⟩, .refl hR.hp⟩
  simp only [get_put]
  by_cases e : j = i
  · subst e
    rw [if_pos rfl]
    have h1 := hR.fr j
    rw [h] at h1
    cases h1 with
    | sl h0 hv h2 =>
      obtain ⟨_, hS⟩ := h2 _ (Gh.tr_some (g := g) ho)
      dsimp only at hS
      cases hl : g.ρ o with
      | none =>
        rw [hl] at hS
        obtain ⟨_, a0, hv'⟩ := hS
        rw [hv']; exact .slc0 (by unfold maxLen; omega)
      | some l =>
        obtain ⟨b, base, sz⟩ := l
        rw [hl] at hS
        obtain ⟨cap, _, h4, _, h5⟩ := hS
        rcases h5 with h5 | ⟨_, a0, h5⟩
        · rw [h5]; exact .slc0 h4
        · rw [h5]; exact .slc0 (by unfold maxLen; omega)
  · rw [if_neg e]; exact hR.fr i

/-- A contract whose answer is told by what it fulfils. -/
def PureE (P : Program) (f : FuncId) (args : List AV) {α : Type} (Q : α → Prop) (x : α → AV) (H0 : α → Heap) : Prop := CallsX P true f args [] fun av H' => ∃ o, Q o ∧ av = x o ∧ H' = H0 o

theorem pureE_of_Wg {f : FuncId} {ac : ACode} {rs : List AOp} {args : List AV} {α : Type} {Q : α → Prop} {x : α → AV} {H0 : α → Heap} (ks : List Nat) (hc : compileFn P M f = some (N, ac, rs)) (hl : decide (args.length ≤ N) = true)
    (hW : W P M N 0 ac (endQ rs fun av H' => gcOk ks H'.length 0 = true ∧ ∃ o, Q o ∧ rnm (gcT ks 0) av = x o ∧ gcH ks H' = H0 o) (mkF 0 args) []) : PureE P f args Q x H0 :=
  CallsX.gc ks ((calls_of_W hc (of_decide_eq_true hl) hW).ext_nil) fun _ _ ⟨h1, h2⟩ => ⟨h1, h2⟩

theorem call_pureE {ext : Bool} {f : FuncId} {args args' : List AV} {α : Type} {Q : α → Prop} {x : α → AV} {H0 : α → Heap} {K : AV → Heap → Prop} (h : PureE P f args Q x H0) (ha : args'.map (frz H 6) = args) (hx : ∀ o, nf 6 (x o) = true) (hH : ∀ o, nfH 6 (H0 o) = true)
    (hK : ∀ o, Q o → K (shf H.length 6 (x o)) (H ++ shfH H.length 6 (H0 o))) : CallsX P ext f args' H K :=
  ((CallsX.lift h 6 6 ha.symm (by rintro av H' ⟨o, _, rfl, rfl⟩; exact ⟨hx o, hH o⟩)).weak).mono (by rintro av H' ⟨av0, H0', ⟨o, hq, rfl, rfl⟩, rfl, rfl⟩; exact hK o hq)

end Go.Gov
