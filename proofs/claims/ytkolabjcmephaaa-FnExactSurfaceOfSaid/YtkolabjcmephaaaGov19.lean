/- A contract met where its arguments lean on memory that nobody writes: what it gives may lean on that memory. -/
import Derived.Test.YtkolabjcmephaaaGov18
set_option linter.unusedSimpArgs false
set_option linter.unusedVariables false
namespace Go.Gov
variable {P : Program} {N : Nat} {g : Gh} {F : Frame} {H : Heap} {a : Act} {w : World} {M : List Nat} {n0 : Nat}

def shT (n : Nat) (o : Nat) : Option Nat := some (o + n)
def rnmH (n : Nat) (H : Heap) : Heap := H.map (Option.map (rnmL (shT n)))
theorem rnmH_get {n : Nat} {H0 : Heap} {i : Nat} {cs : List AV} (h : (rnmH n H0)[i]? = some (some cs)) : ∃ c, H0[i]? = some (some c) ∧ cs = rnmL (shT n) c := by
  unfold rnmH at h
  rw [List.getElem?_map, Option.map_eq_some_iff] at h
  obtain ⟨x, hx, he⟩ := h
  rw [Option.map_eq_some_iff] at he
  obtain ⟨c, rfl, rfl⟩ := he
  exact ⟨c, hx, rfl⟩

/-- A CONTRACT THAT KNOWS NO HEAP, MET IN ANY HEAP, where the arguments lean on memory that nobody writes: what it gives may lean on it, too. -/
theorem CallsX.liftG {f : FuncId} {args args' : List AV} {K : AV → Heap → Prop} (h : CallsX P true f args [] K) (ha : args = args'.map (rnm fun _ => none)) :
    CallsX P true f args' H fun av H' => ∃ av0 H0, K av0 H0 ∧ av = rnm (shT H.length) av0 ∧ H' = H ++ rnmH H.length H0 := by
  intro g w vals hp hl hr
  let g0 : Gh := ⟨fun _ => none, fun _ => [], g.G⟩
  have hp0 : HeapR g0 [] w := ⟨fun o cs h => by simp at h, fun o cs h => by simp at h, fun o o' cs cs' h => by simp at h, fun o cs h => by simp at h, hp.low⟩
  have htr0 : g0.tr [] = fun _ => none := by funext o; simp [Gh.tr]
  refine (h g0 w vals hp0 (by rw [ha]; simpa using hl) (fun m hm => ?_)).mono ?_
  · rw [htr0]
    subst ha
    simp only [List.getElem_map]
    exact rnm_rd (fun _ _ _ h _ => by cases h) (hr m (by simpa using hm))
  · rintro e w' ⟨v, g1, av, H0, he, hm, hx, hext, hk⟩
    have hE : Ext w w' := hext rfl
    have hsz := hm.stp.size
    let n := H.length
    let g' : Gh := ⟨fun o => if o < n then g.ρ o else g1.ρ (o - n), fun o => if o < n then g.ob o else g1.ob (o - n), g1.G⟩
    let H' := H ++ rnmH n H0
    have hfresh : ∀ o cs, H0[o]? = some (some cs) → ∀ b ∈ g1.ob o, w.heap.size ≤ b := fun o cs ho b hb => by
      rcases hm.stp.own b ⟨o, cs, ho, hb⟩ with ⟨o', cs', ho', _⟩ | h
      · simp at ho'
      · exact h
    have hget : ∀ o cs, H'[o]? = some (some cs) → (o < n ∧ H[o]? = some (some cs)) ∨ (n ≤ o ∧ ∃ c, H0[o - n]? = some (some c) ∧ cs = rnmL (shT n) c) := fun o cs ho => by
      rcases Nat.lt_or_ge o n with h' | h'
      · left; rw [List.getElem?_append_left h'] at ho; exact ⟨h', ho⟩
      · right; rw [List.getElem?_append_right h'] at ho; exact ⟨h', rnmH_get ho⟩
    have htr1 : ∀ o dd, g.tr H o = some dd → g'.tr H' o = some dd := fun o dd ho => by
      have hlt := tr_lt ho
      unfold Gh.tr at *
      rw [List.getElem?_append_left hlt]
      simp only [g', n, if_pos hlt]
      exact ho
    have htr2 : ∀ o dd, g1.tr H0 o = some dd → g'.tr H' (o + n) = some dd := fun o dd ho => by
      have hlt := tr_lt ho
      unfold Gh.tr at *
      rw [List.getElem?_append_right (by simp [n])]
      simp only [rnmH, List.getElem?_map, n, Nat.add_sub_cancel]
      rw [List.getElem?_eq_getElem hlt] at ho ⊢
      cases hh : H0[o] with
      | none => rw [hh] at ho; simpa using ho
      | some cs => rw [hh] at ho; simpa [g', n, rnmL_map, show ¬ o + H.length < H.length by omega] using ho
    have hshift : ∀ (x : AV) v bs, Rd w' (g1.tr H0) g1.G x v bs → Rd w' (g'.tr H') g'.G (rnm (shT n) x) v bs := fun x v bs hr => rnm_rd (fun o o' d ho hd => by
      simp only [shT, Option.some.injEq] at ho
      subst ho
      exact .inl (htr2 o d hd)) hr
    have hold : ∀ x v bs, Rd w (g.tr H) g.G x v bs → Rd w' (g'.tr H') g'.G x v bs := fun x v bs h => h.mono hm.stp.gin (fun b hb => hE b (hp.low b hb)) (fun o dd h => .inl (htr1 o dd h)) (fun b hb => hE b (h.lt b hb))
    have hp' : HeapR g' H' w' := by
      refine ⟨?_, ?_, ?_, ?_, hm.hp.low⟩
      · intro o cs ho
        rcases hget o cs ho with ⟨hlt, ho'⟩ | ⟨hge, c, ho', rfl⟩
        · simp only [g', if_pos hlt]
          have h1 := hp.obj o cs ho'
          exact h1.mono hm.stp.gin (fun b hb => hE b (hp.low b hb)) (fun o dd h => .inl (htr1 o dd h)) (fun b hb => hE b (h1.all_lt b hb))
        · simp only [g', if_neg (Nat.not_lt.2 hge)]
          have h1 := hm.hp.obj (o - n) c ho'
          cases hl : g1.ρ (o - n) with
          | none => rw [hl] at h1; obtain ⟨rfl, h2⟩ := h1; exact ⟨rfl, h2⟩
          | some l =>
            obtain ⟨b, base, sz⟩ := l
            rw [hl] at h1
            obtain ⟨arr, elem, u, bss, hb, h2, h3, h4, h5, h6⟩ := h1
            refine ⟨arr, elem, u, bss, hb, h2, by simpa [rnmL_map] using h3, fun m hm => h4 m (by simpa [rnmL_map] using hm), fun m hm => ?_, by simpa [rnmL_map] using h6⟩
            simp only [rnmL_map, List.length_map] at hm
            simp only [rnmL_map, List.getElem_map]
            exact hshift _ _ _ (h5 m hm)
      · intro o cs ho
        rcases hget o cs ho with ⟨hlt, ho'⟩ | ⟨hge, c, ho', rfl⟩
        · simp only [g', if_pos hlt]; exact hp.nodup o cs ho'
        · simp only [g', if_neg (Nat.not_lt.2 hge)]; exact hm.hp.nodup _ c ho'
      · intro o o2 cs cs2 ho ho2 hne b h1 h2
        rcases hget o cs ho with ⟨hlt, ho'⟩ | ⟨hge, c, ho', rfl⟩ <;> rcases hget o2 cs2 ho2 with ⟨hlt2, ho2'⟩ | ⟨hge2, c2, ho2', rfl⟩
        · simp only [g', if_pos hlt] at h1; simp only [g', if_pos hlt2] at h2; exact hp.apart o o2 cs cs2 ho' ho2' hne b h1 h2
        · simp only [g', if_pos hlt] at h1; simp only [g', if_neg (Nat.not_lt.2 hge2)] at h2
          have := (hp.obj o cs ho').all_lt b h1; have := hfresh _ _ ho2' b h2; omega
        · simp only [g', if_neg (Nat.not_lt.2 hge)] at h1; simp only [g', if_pos hlt2] at h2
          have := (hp.obj o2 cs2 ho2').all_lt b h2; have := hfresh _ _ ho' b h1; omega
        · simp only [g', if_neg (Nat.not_lt.2 hge)] at h1; simp only [g', if_neg (Nat.not_lt.2 hge2)] at h2
          exact hm.hp.apart _ _ c c2 ho' ho2' (by omega) b h1 h2
      · intro o cs ho b h1 hG
        rcases hget o cs ho with ⟨hlt, ho'⟩ | ⟨hge, c, ho', rfl⟩
        · simp only [g', if_pos hlt] at h1
          rcases hm.stp.gout b hG with h | ⟨_, _, h, _⟩ | h
          · exact hp.free o cs ho' b h1 h
          · simp at h
          · have := (hp.obj o cs ho').all_lt b h1; omega
        · simp only [g', if_neg (Nat.not_lt.2 hge)] at h1
          exact hm.hp.free _ c ho' b h1 hG
    refine ⟨v, g', rnm (shT n) av, H', he, ⟨hp', ⟨hm.stp.os, hm.stp.tape, hm.stp.output, hsz, fun b hb _ => hE b hb, fun b ⟨o, cs, ho, h1⟩ => ?_, hm.stp.gin, fun b hb => (hm.stp.gout b hb).imp id (fun h => h.elim (fun ⟨_, _, h, _⟩ => by simp at h) .inr), hm.stp.fz⟩, fun x v h => hold x v [] h, fun o dd h => .inl (htr1 o dd h)⟩, hshift _ _ _ hx, fun _ => hE, av, H0, hk, rfl, rfl⟩
    rcases hget o cs ho with ⟨hlt, ho'⟩ | ⟨hge, c, ho', rfl⟩
    · left; simp only [g', if_pos hlt] at h1; exact ⟨o, cs, ho', h1⟩
    · right; simp only [g', if_neg (Nat.not_lt.2 hge)] at h1; exact hfresh _ _ ho' b h1

theorem call_pureG {ext : Bool} {f : FuncId} {args args' : List AV} {x : AV} {H0 : Heap} {K : AV → Heap → Prop} (h : Pure P f args x H0) (ha : args'.map (rnm fun _ => none) = args) (hK : K (rnm (shT H.length) x) (H ++ rnmH H.length H0)) : CallsX P ext f args' H K :=
  ((CallsX.liftG h ha.symm).weak).mono (by rintro av H' ⟨av0, H0', ⟨rfl, rfl⟩, rfl, rfl⟩; exact hK)

end Go.Gov
