/- A callee that writes what it is handed: its contract over the objects that it is handed, met in any heap. -/
import Derived.Test.YtkolabjcmephaaaGov14
set_option linter.unusedSimpArgs false
set_option linter.unusedVariables false
namespace Go.Gov
variable {P : Program} {N : Nat} {g : Gh} {F : Frame} {H : Heap} {a : Act} {w : World} {M : List Nat} {n0 : Nat}

def killL : List Nat → Heap → Heap
  | [], H => H
  | k :: ks, H => killL ks (H.set k none)

theorem killL_get : ∀ (ks : List Nat) (H : Heap) (o : Nat) (cs : List AV), (killL ks H)[o]? = some (some cs) → o ∉ ks ∧ H[o]? = some (some cs)
  | [], H, o, cs, h => ⟨by simp, h⟩
  | k :: ks, H, o, cs, h => by
    obtain ⟨h1, h2⟩ := killL_get ks _ o cs h
    rw [List.getElem?_set] at h2
    by_cases e : k = o
    · subst e
      rw [if_pos rfl] at h2
      split at h2 <;> cases h2
    · rw [if_neg e] at h2
      refine ⟨?_, h2⟩
      intro hm
      rcases List.mem_cons.1 hm with h | h
      · exact e h.symm
      · exact h1 h
theorem killL_at : ∀ (ks : List Nat) (H : Heap) (o : Nat), o ∉ ks → (killL ks H)[o]? = H[o]?
  | [], H, o, _ => rfl
  | k :: ks, H, o, h => by
    rw [killL, killL_at ks _ o (fun hm => h (List.mem_cons_of_mem _ hm)), List.getElem?_set_ne (fun e => h (by simp [e]))]
theorem killL_dead : ∀ (ks : List Nat) (H : Heap) (o : Nat), o ∈ ks → o < H.length → (killL ks H)[o]? = some none
  | k :: ks, H, o, h, hl => by
    by_cases e : o ∈ ks
    · exact killL_dead ks _ o e (by simpa using hl)
    · obtain rfl : o = k := by
        rcases List.mem_cons.1 h with h | h
        · exact h
        · exact absurd h e
      rw [killL, killL_at ks _ o e, List.getElem?_set_self hl]
theorem killL_tr (ks : List Nat) (o : Nat) (d : Option LocN) (h : g.tr H o = some d) : g.tr (killL ks H) o = some d ∨ g.tr (killL ks H) o = some none := by
  by_cases e : o ∈ ks
  · right
    unfold Gh.tr
    rw [killL_dead ks H o e (tr_lt h)]
  · left
    unfold Gh.tr at *
    rw [killL_at ks H o e]
    exact h
theorem killL_hp (ks : List Nat) (hp : HeapR g H w) : HeapR g (killL ks H) w := by
  refine ⟨fun o cs h => ?_, fun o cs h => ?_, fun o o' cs cs' h h' => ?_, fun o cs h => ?_, hp.low⟩
  · exact (hp.obj o cs (killL_get ks H o cs h).2).mono (fun _ h => h) (fun _ _ => rfl) (fun o d hd => killL_tr ks o d hd) (fun _ _ => rfl)
  · exact hp.nodup o cs (killL_get ks H o cs h).2
  · exact hp.apart o o' cs cs' (killL_get ks H o cs h).2 (killL_get ks H o' cs' h').2
  · exact hp.free o cs (killL_get ks H o cs h).2

/-- What 'frz' says, with the memory that it leans on. -/
theorem frz_own {g : Gh} {H : Heap} {w : World} (hp : HeapR g H w) : ∀ (d : Nat) (x : AV) (v : Value) (bs : List Nat), Rd w (g.tr H) g.G x v bs → (∀ b ∈ bs, g.owns H b) →
    Rd w (fun _ => none) (fun b => g.G b ∨ g.owns H b) (frz H d x) v [] := by
  intro d
  induction d with
  | zero => intro x v bs _ _; exact .any
  | succ d ih =>
    intro x v bs h hbs
    cases h with
    | any => exact .any
    | val => exact .val
    | cndF => exact .cndF
    | cndT h => simp only [frz]; exact .cndT (ih _ _ _ h (by simp))
    | slc u hl hn hm hG hc hr =>
      simp only [frz]
      exact .slc u (by simpa using hl) hn hm (.inl hG) (fun m hm' => hc m (by simpa using hm')) (fun m hm' => by simp only [List.getElem_map]; exact ih _ _ _ (hr m (by simpa using hm')) (by simp))
    | slc0 hm => simp only [frz, List.map_nil]; exact .slc0 hm
    | pto u hG hc hr =>
      simp only [frz]
      exact .pto u (.inl hG) (fun m hm' => hc m (by simpa using hm')) (fun m hm' => by simp only [List.getElem_map]; exact ih _ _ _ (hr m (by simpa using hm')) (by simp))
    | sl h00 hv0 h =>
      rename_i o k off len
      simp only [frz]
      split
      · rename_i cs hcs
        obtain ⟨h0, h1⟩ := h _ (Gh.tr_some (g := g) hcs)
        have h2 := hp.obj o cs hcs
        dsimp only at h0 h1
        cases hl : g.ρ o with
        | none =>
          rw [hl] at h1 h2
          obtain ⟨rfl, a, rfl⟩ := h1
          simp only [Nat.zero_mul, List.take_zero, List.map_nil]
          exact .slc0 (by unfold maxLen; omega)
        | some l =>
          obtain ⟨b, base, sz⟩ := l
          rw [hl] at h1 h2
          obtain ⟨cap, h3, h4, h5, h6⟩ := h1
          obtain ⟨arr, elem, u, bss, hb, hsz, hcl, hc, hr, hob⟩ := h2
          have hlen : ((cs.drop off).take (len * k)).length = len * k := by
            rw [List.length_take, List.length_drop]; omega
          · rcases h6 with rfl | ⟨rfl, a, rfl⟩
            · refine .slc (fun m => u (off + m)) (by simpa using hlen) h3 h4 (.inr ⟨o, cs, hcs, by rw [hob]; simp⟩) (fun m hm => ?_) (fun m hm => ?_)
              · simp only [List.length_map, List.length_take, List.length_drop] at hm
                have := hc (off + m) (by omega)
                simp only [World.cell?, hb]
                simpa [Nat.add_assoc] using this
              · simp only [List.length_map, List.length_take, List.length_drop] at hm
                simp only [List.getElem_map, List.getElem_take, List.getElem_drop]
                refine ih _ _ _ (hr (off + m) (by omega)) fun b' hb' => ⟨o, cs, hcs, ?_⟩
                rw [hob]
                exact List.mem_cons_of_mem _ (List.mem_flatMap.2 ⟨off + m, List.mem_range.2 (by omega), hb'⟩)
            · have : len = 0 := by omega
              subst this
              simp only [Nat.zero_mul, List.take_zero, List.map_nil]
              exact .slc0 (by unfold maxLen; omega)
      · exact .any
    | ref h00 hv0 h =>
      rename_i o j
      simp only [frz]
      split
      · rename_i cs hcs
        have h1 := h _ (Gh.tr_some (g := g) hcs)
        have h2 := hp.obj o cs hcs
        dsimp only at h1
        cases hl : g.ρ o with
        | none => rw [hl] at h1; exact h1.elim
        | some l =>
          obtain ⟨b, base, sz⟩ := l
          rw [hl] at h1 h2
          obtain rfl := h1
          obtain ⟨arr, elem, u, bss, hb, hsz, hcl, hc, hr, hob⟩ := h2
          refine .pto u (.inr ⟨o, cs, hcs, by rw [hob]; simp⟩) (fun m hm => ?_) (fun m hm => ?_)
          · simp only [List.length_map] at hm
            have := hc m hm
            simp only [World.cell?, hb]
            simpa using this
          · simp only [List.length_map] at hm
            simp only [List.getElem_map]
            refine ih _ _ _ (hr m hm) fun b' hb' => ⟨o, cs, hcs, ?_⟩
            rw [hob]
            exact List.mem_cons_of_mem _ (List.mem_flatMap.2 ⟨m, List.mem_range.2 hm, hb'⟩)
      · exact .any
    | osl u bss hl hn hm hb hs hc hr =>
      simp only [frz]
      refine .slc u (by simpa using hl) hn hm (.inr (hbs _ (by simp))) (fun m hm' => ?_) (fun m hm' => ?_)
      · simp only [List.length_map] at hm'
        simp only [World.cell?, hb]
        simpa using hc m hm'
      · simp only [List.length_map] at hm'
        simp only [List.getElem_map]
        refine ih _ _ _ (hr m hm') fun b' hb' => hbs b' ?_
        exact List.mem_cons_of_mem _ (List.mem_flatMap.2 ⟨m, List.mem_range.2 hm', hb'⟩)
    | osl0 => simp only [frz, List.map_nil]; exact .slc0 (by unfold maxLen; omega)
    | agg hl hr => simp only [frz]; exact .agg (by simpa using hl) (fun m hm => by simp only [List.getElem_map]; exact ih _ _ _ (hr m (by simpa using hm)) (by simp))
    | tup hl hr => simp only [frz]; exact .tup (by simpa using hl) (fun m hm => by simp only [List.getElem_map]; exact ih _ _ _ (hr m (by simpa using hm)) (by simp))
    | clo hf hrf hl hr => simp only [frz]; exact .clo (by simpa using hf) (fun m hm => by simp only [List.getElem_map]; exact ih _ _ _ (hrf m (by simpa using hm)) (by simp)) (by simpa using hl) (fun m hm => by simp only [List.getElem_map]; exact ih _ _ _ (hr m (by simpa using hm)) (by simp))

/-- How a callee that is handed the objects ks sees a value. -/
def vw (ks : List Nat) (H : Heap) : Nat → AV → AV
  | 0, _ => .any
  | d + 1, .sl o k off len => match gcT ks 0 o with
    | some i => .sl i k off len
    | none => frz (killL ks H) (d + 1) (.sl o k off len)
  | d + 1, .ref o j => match gcT ks 0 o with
    | some i => .ref i j
    | none => frz (killL ks H) (d + 1) (.ref o j)
  | d + 1, .cnd b x => .cnd b (vw ks H d x)
  | d + 1, .agg cs => .agg (cs.map (vw ks H d))
  | d + 1, .tup cs => .tup (cs.map (vw ks H d))
  | d + 1, .clo f fs cs => .clo f (fs.map (vw ks H d)) (cs.map (vw ks H d))
  | d + 1, x => frz (killL ks H) (d + 1) x

def selG (g : Gh) (ks : List Nat) (H : Heap) : Gh := ⟨fun o => g.ρ (ks.getD o 0), fun o => g.ob (ks.getD o 0), fun b => g.G b ∨ g.owns (killL ks H) b⟩

theorem sel_tr {ks : List Nat} (hlt : ∀ o ∈ ks, o < H.length) {o' o : Nat} (ho : ks[o']? = some o) : (selG g ks H).tr (gcH ks H) o' = g.tr H o := by
  have hl : o < H.length := hlt o (List.mem_of_getElem? ho)
  have e1 : (gcH ks H)[o']? = some (gcC ks (H.getD o none)) := by simp only [gcH, List.getElem?_map, ho, Option.map_some]
  have e2 : H[o]? = some (H.getD o none) := by simp [hl]
  have e3 : (selG g ks H).ρ o' = g.ρ o := by simp [selG, List.getD, ho]
  unfold Gh.tr
  rw [e1, e2, e3]
  cases H.getD o none with
  | none => rfl
  | some cs => simp only [gcC, rnmL_map, List.length_map]

theorem sel_al {ks : List Nat} (hlt : ∀ o ∈ ks, o < H.length) {o' : Nat} {c : List AV} (h : (gcH ks H)[o']? = some (some c)) : ∃ o cs, ks[o']? = some o ∧ H[o]? = some (some cs) ∧ c = rnmL (gcT ks 0) cs ∧ (selG g ks H).ρ o' = g.ρ o ∧ (selG g ks H).ob o' = g.ob o := by
  simp only [gcH, List.getElem?_map, Option.map_eq_some_iff] at h
  obtain ⟨o, ho, he⟩ := h
  have hl : o < H.length := hlt o (List.mem_of_getElem? ho)
  cases hc : H.getD o none with
  | none => rw [hc] at he; cases he
  | some cs =>
    rw [hc] at he
    refine ⟨o, cs, ho, ?_, (Option.some.inj he).symm, by simp [selG, List.getD, ho], by simp [selG, List.getD, ho]⟩
    have : H[o]? = some (H.getD o none) := by simp [hl]
    rw [this, hc]

theorem sel_hp {ks : List Nat} (hp : HeapR g H w) (hnd : ks.Nodup) (hlt : ∀ o ∈ ks, o < H.length) : HeapR (selG g ks H) (gcH ks H) w := by
  have hτ : ∀ o o' d, gcT ks 0 o = some o' → g.tr H o = some d → (selG g ks H).tr (gcH ks H) o' = some d ∨ (selG g ks H).tr (gcH ks H) o' = some none := fun o o' d h hd => by
    obtain ⟨m, rfl, hm⟩ := gcT_some ks 0 o o' h
    left; rw [Nat.zero_add, sel_tr hlt hm, hd]
  have hinj : ∀ i j o, ks[i]? = some o → ks[j]? = some o → i = j := fun i j o hi hj => by
    obtain ⟨hi1, hi2⟩ := List.getElem?_eq_some_iff.1 hi
    obtain ⟨hj1, hj2⟩ := List.getElem?_eq_some_iff.1 hj
    exact (List.getElem_inj hnd).1 (hi2.trans hj2.symm)
  refine ⟨?_, ?_, ?_, ?_, ?_⟩
  · intro o' c ho
    obtain ⟨o, cs, hk, hc, rfl, e1, e2⟩ := sel_al (g := g) hlt ho
    rw [e1, e2]
    have h1 := hp.obj o cs hc
    cases hl : g.ρ o with
    | none => rw [hl] at h1; obtain ⟨rfl, h2⟩ := h1; exact ⟨rfl, h2⟩
    | some l =>
      obtain ⟨b, base, sz⟩ := l
      rw [hl] at h1
      obtain ⟨arr, elem, u, bss, hb, h2, h3, h4, h5, h6⟩ := h1
      refine ⟨arr, elem, u, bss, hb, h2, by simpa [rnmL_map] using h3, fun m hm => h4 m (by simpa [rnmL_map] using hm), fun m hm => ?_, by simpa [rnmL_map] using h6⟩
      simp only [rnmL_map, List.length_map] at hm
      simp only [rnmL_map, List.getElem_map]
      exact (rnm_rd hτ (h5 m hm)).mono (fun _ h => .inl h) (fun _ _ => rfl) (fun _ _ h => .inl h) (fun _ _ => rfl)
  · intro o' c ho
    obtain ⟨o, cs, hk, hc, rfl, e1, e2⟩ := sel_al (g := g) hlt ho
    rw [e2]; exact hp.nodup o cs hc
  · intro o' o2' c c2 ho ho2 hne b hb
    obtain ⟨o, cs, hk, hc, rfl, e1, e2⟩ := sel_al (g := g) hlt ho
    obtain ⟨o2, cs2, hk2, hc2, rfl, e12, e22⟩ := sel_al (g := g) hlt ho2
    rw [e2] at hb
    rw [e22]
    refine hp.apart o o2 cs cs2 hc hc2 (fun e => hne ?_) b hb
    subst e; exact hinj _ _ _ hk hk2
  · intro o' c ho b hb
    obtain ⟨o, cs, hk, hc, rfl, e1, e2⟩ := sel_al (g := g) hlt ho
    rw [e2] at hb
    rintro (h | ⟨o2, c2, h2, hb2⟩)
    · exact hp.free o cs hc b hb h
    · obtain ⟨h3, h4⟩ := killL_get ks H o2 c2 h2
      exact hp.apart o o2 cs c2 hc h4 (fun e => h3 (e ▸ List.mem_of_getElem? hk)) b hb hb2
  · rintro b (h | ⟨o2, c2, h2, hb2⟩)
    · exact hp.low b h
    · exact (hp.obj o2 c2 (killL_get ks H o2 c2 h2).2).all_lt b hb2

theorem vw_ok {ks : List Nat} (hp : HeapR g H w) (hlt : ∀ o ∈ ks, o < H.length) : ∀ (d : Nat) (x : AV) (v : Value), Rd w (g.tr H) g.G x v [] → Rd w ((selG g ks H).tr (gcH ks H)) (selG g ks H).G (vw ks H d x) v [] := by
  have hf : ∀ (d : Nat) (x : AV) (v : Value), Rd w (g.tr H) g.G x v [] → Rd w ((selG g ks H).tr (gcH ks H)) (selG g ks H).G (frz (killL ks H) d x) v [] := fun d x v h =>
    (frz_own (killL_hp ks hp) d x v [] (h.mono (fun _ h => h) (fun _ _ => rfl) (fun o d hd => killL_tr ks o d hd) (fun _ _ => rfl)) (by simp)).mono (fun _ h => h) (fun _ _ => rfl) (fun _ _ h => by cases h) (fun _ _ => rfl)
  intro d
  induction d with
  | zero => intro x v _; exact .any
  | succ d ih =>
    intro x v h
    have h' := hf (d + 1) x v h
    cases h with
    | sl h0 hv h =>
      simp only [vw]
      split
      · rename_i i hi
        obtain ⟨m, rfl, hm⟩ := gcT_some ks 0 _ i hi
        rw [Nat.zero_add]
        refine .sl (by rw [sel_tr hlt hm]; exact h0) hv fun l hl => h l ?_
        rwa [sel_tr hlt hm] at hl
      · exact h'
    | ref h0 hv h =>
      simp only [vw]
      split
      · rename_i i hi
        obtain ⟨m, rfl, hm⟩ := gcT_some ks 0 _ i hi
        rw [Nat.zero_add]
        refine .ref (by rw [sel_tr hlt hm]; exact h0) hv fun l hl => h l ?_
        rwa [sel_tr hlt hm] at hl
      · exact h'
    | cndF => simp only [vw]; exact .cndF
    | cndT h => simp only [vw]; exact .cndT (ih _ _ h)
    | agg hl hr => simp only [vw]; exact .agg (by simpa using hl) (fun m hm => by simp only [List.getElem_map]; exact ih _ _ (hr m (by simpa using hm)))
    | tup hl hr => simp only [vw]; exact .tup (by simpa using hl) (fun m hm => by simp only [List.getElem_map]; exact ih _ _ (hr m (by simpa using hm)))
    | clo hf hrf hl hr => simp only [vw]; exact .clo (by simpa using hf) (fun m hm => by simp only [List.getElem_map]; exact ih _ _ (hrf m (by simpa using hm))) (by simpa using hl) (fun m hm => by simp only [List.getElem_map]; exact ih _ _ (hr m (by simpa using hm)))
    | _ => simpa only [vw] using h'

/-- Where a callee's object lies in the caller's heap. -/
def sgm : List Nat → Nat → Nat → Nat
  | [], n, i => n + i
  | k :: _, _, 0 => k
  | _ :: ks, n, i + 1 => sgm ks n i

def shr (σ : Nat → Nat) : Nat → AV → AV
  | 0, x => x
  | d + 1, .osl k m cs => .osl k m (cs.map (shr σ d))
  | d + 1, .agg cs => .agg (cs.map (shr σ d))
  | d + 1, .tup cs => .tup (cs.map (shr σ d))
  | d + 1, .clo f fs cs => .clo f (fs.map (shr σ d)) (cs.map (shr σ d))
  | d + 1, .cnd b x => .cnd b (shr σ d x)
  | _ + 1, .sl o k off len => .sl (σ o) k off len
  | _ + 1, .ref o j => .ref (σ o) j
  | _ + 1, x => x
def shrH (σ : Nat → Nat) (d : Nat) (H : Heap) : Heap := H.map (Option.map (List.map (shr σ d)))
def putB : List Nat → Heap → Heap → Heap
  | [], H1, H => H ++ H1
  | k :: ks, c :: H1, H => putB ks H1 (H.set k c)
  | _ :: _, [], H => H

theorem shr_rd {tr tr' : Nat → Option (Option LocN)} {G G' : Nat → Prop} {σ : Nat → Nat} (ht : ∀ o d, tr o = some d → tr' (σ o) = some d) : ∀ (d : Nat) (x : AV) (v : Value) (bs : List Nat), nf d x = true → Rd w tr G x v bs → Rd w tr' G' (shr σ d x) v bs
  | 0, x, v, bs, h, _ => by cases h
  | d + 1, x, v, bs, h, hr => by
    have ih := shr_rd (G := G) (G' := G') ht d
    cases hr with
    | any => exact .any
    | val => exact .val
    | cndF => exact .cndF
    | cndT hr => exact .cndT (ih _ _ _ h hr)
    | slc u hl hn hm hG hc hr =>
      simp only [nf, beq_iff_eq] at h
      subst h
      rename_i k cs b off cap
      have : cs = [] := List.eq_nil_of_length_eq_zero (by simpa using hl)
      subst this
      exact .slc0 hm
    | slc0 hm => exact .slc0 hm
    | pto => cases h
    | sl h0 hv h1 =>
      obtain ⟨d', hd'⟩ := Option.isSome_iff_exists.1 h0
      refine .sl (by rw [ht _ _ hd']; rfl) hv fun l hl => h1 l ?_
      rw [ht _ _ hd'] at hl
      rw [hd', hl]
    | ref h0 hv h1 =>
      obtain ⟨d', hd'⟩ := Option.isSome_iff_exists.1 h0
      refine .ref (by rw [ht _ _ hd']; rfl) hv fun l hl => h1 l ?_
      rw [ht _ _ hd'] at hl
      rw [hd', hl]
    | osl u bss hl hn hm hb hs hc hr =>
      simp only [nf] at h
      simp only [shr]
      rename_i k n2 cs b off cap arr elem
      have := Rd.osl (tr := tr') (G := G') (cs := cs.map (shr σ d)) u bss (by simpa using hl) hn hm hb hs (fun m hm' => hc m (by simpa using hm')) (fun m hm' => by
        simp only [List.getElem_map]
        exact ih _ _ _ (List.all_eq_true.1 h _ (List.getElem_mem _)) (hr m (by simpa using hm')))
      simpa only [List.length_map] using this
    | osl0 => simp only [shr, List.map_nil]; exact .osl0
    | agg hl hr =>
      simp only [nf] at h
      simp only [shr]
      exact .agg (by simpa using hl) fun m hm => by simp only [List.getElem_map]; exact ih _ _ _ (List.all_eq_true.1 h _ (List.getElem_mem _)) (hr m (by simpa using hm))
    | tup hl hr =>
      simp only [nf] at h
      simp only [shr]
      exact .tup (by simpa using hl) fun m hm => by simp only [List.getElem_map]; exact ih _ _ _ (List.all_eq_true.1 h _ (List.getElem_mem _)) (hr m (by simpa using hm))
    | clo hf hrf hl hr =>
      simp only [nf, Bool.and_eq_true] at h
      simp only [shr]
      exact .clo (by simpa using hf) (fun m hm => by simp only [List.getElem_map]; exact ih _ _ _ (List.all_eq_true.1 h.1 _ (List.getElem_mem _)) (hrf m (by simpa using hm)))
        (by simpa using hl) fun m hm => by simp only [List.getElem_map]; exact ih _ _ _ (List.all_eq_true.1 h.2 _ (List.getElem_mem _)) (hr m (by simpa using hm))

theorem sgm_lt : ∀ (ks : List Nat) (n i : Nat) (k : Nat), ks[i]? = some k → sgm ks n i = k
  | [], n, i, k, h => by simp at h
  | k' :: ks, n, 0, k, h => by simpa [sgm] using h
  | k' :: ks, n, i + 1, k, h => by simpa [sgm] using sgm_lt ks n i k (by simpa using h)
theorem sgm_ge : ∀ (ks : List Nat) (n i : Nat), ks.length ≤ i → sgm ks n i = n + (i - ks.length)
  | [], n, i, h => by simp [sgm]
  | k' :: ks, n, 0, h => by simp at h
  | k' :: ks, n, i + 1, h => by rw [sgm, sgm_ge ks n i (by simpa using h)]; simp

theorem putB_len : ∀ (ks : List Nat) (H1 H : Heap), ks.length ≤ H1.length → (putB ks H1 H).length = H.length + (H1.length - ks.length)
  | [], H1, H, _ => by simp [putB]
  | k :: ks, [], H, h => by simp at h
  | k :: ks, c :: H1, H, h => by rw [putB, putB_len ks H1 _ (by simpa using h)]; simp
theorem putB_new : ∀ (ks : List Nat) (H1 H : Heap) (i : Nat), ks.length ≤ H1.length → ks.length ≤ i → (putB ks H1 H)[H.length + (i - ks.length)]? = H1[i]?
  | [], H1, H, i, _, _ => by simp [putB, List.getElem?_append_right]
  | k :: ks, [], H, i, h, _ => by simp at h
  | k :: ks, c :: H1, H, 0, _, h => by simp at h
  | k :: ks, c :: H1, H, i + 1, h, hi => by
    have := putB_new ks H1 (H.set k c) i (by simpa using h) (by simpa using hi)
    rw [putB]
    simpa using this
theorem putB_old : ∀ (ks : List Nat) (H1 H : Heap) (o : Nat), o < H.length → o ∉ ks → (putB ks H1 H)[o]? = H[o]?
  | [], H1, H, o, hl, _ => by simp [putB, List.getElem?_append_left hl]
  | k :: ks, [], H, o, _, _ => rfl
  | k :: ks, c :: H1, H, o, hl, h => by
    rw [putB, putB_old ks H1 _ o (by simpa using hl) (fun hm => h (List.mem_cons_of_mem _ hm)), List.getElem?_set_ne (fun e => h (by simp [e]))]
theorem putB_at : ∀ (ks : List Nat) (H1 H : Heap) (i k : Nat), ks.Nodup → (∀ o ∈ ks, o < H.length) → ks.length ≤ H1.length → ks[i]? = some k → (putB ks H1 H)[k]? = H1[i]?
  | [], H1, H, i, k, _, _, _, h => by simp at h
  | k' :: ks, [], H, i, k, _, _, hl, h => by simp at hl
  | k' :: ks, c :: H1, H, 0, k, hnd, hlt, hl, h => by
    obtain rfl : k' = k := by simpa using h
    rw [putB, putB_old ks H1 _ k' (by simpa using hlt k' (by simp)) (List.nodup_cons.1 hnd).1, List.getElem?_set_self (hlt k' (by simp))]
    rfl
  | k' :: ks, c :: H1, H, i + 1, k, hnd, hlt, hl, h => by
    rw [putB, putB_at ks H1 _ i k (List.nodup_cons.1 hnd).2 (fun o ho => by simpa using hlt o (List.mem_cons_of_mem _ ho)) (by simpa using hl) (by simpa using h)]
    rfl
theorem putB_inv (ks : List Nat) (H1 H : Heap) (hnd : ks.Nodup) (hlt : ∀ o ∈ ks, o < H.length) (hl : ks.length ≤ H1.length) (o : Nat) (x : Option (List AV)) (h : (putB ks H1 H)[o]? = some x) :
    (o ∉ ks ∧ o < H.length ∧ H[o]? = some x) ∨ ∃ i, H1[i]? = some x ∧ sgm ks H.length i = o ∧ (ks[i]? = some o ∨ (ks.length ≤ i ∧ H.length ≤ o)) := by
  by_cases hm : o ∈ ks
  · obtain ⟨i, hi⟩ := List.mem_iff_getElem?.1 hm
    right
    exact ⟨i, by rw [← putB_at ks H1 H i o hnd hlt hl hi]; exact h, sgm_lt ks _ i o hi, .inl hi⟩
  · by_cases ho : o < H.length
    · left; exact ⟨hm, ho, by rwa [putB_old ks H1 H o ho hm] at h⟩
    · right
      have e : o = H.length + ((o - H.length + ks.length) - ks.length) := by omega
      refine ⟨o - H.length + ks.length, ?_, ?_, .inr ⟨by omega, by omega⟩⟩
      · rw [← putB_new ks H1 H _ hl (by omega), ← e]; exact h
      · rw [sgm_ge ks _ _ (by omega)]; omega

/-- A CONTRACT OVER THE OBJECTS THAT ARE HANDED, MET IN ANY HEAP. -/
theorem CallsX.liftW {f : FuncId} {args args' : List AV} {H0 : Heap} {K : AV → Heap → Prop} (ks : List Nat) (d d' : Nat) (h : CallsX P false f args H0 K) (hnd : ks.Nodup) (hlt : ∀ o ∈ ks, o < H.length) (hH0 : gcH ks H = H0) (ha : args = args'.map (vw ks H d))
    (hnf : ∀ av H1, K av H1 → nf d' av = true ∧ nfH d' H1 = true) :
    CallsX P false f args' H fun av H' => ∃ av0 H1, K av0 H1 ∧ av = shr (sgm ks H.length) d' av0 ∧ H' = putB ks (shrH (sgm ks H.length) d' H1) H := by
  intro g w vals hp hl hr
  subst hH0
  refine (h (selG g ks H) w vals (sel_hp hp hnd hlt) (by rw [ha]; simpa using hl) (fun m hm => ?_)).mono ?_
  · subst ha
    simp only [List.getElem_map]
    exact vw_ok hp hlt d _ _ (hr m (by simpa using hm))
  · rintro e w' ⟨v, g1, av, H1, he, hm, hx, _, hk⟩
    obtain ⟨hnf1, hnf2⟩ := hnf av H1 hk
    have hsz := hm.stp.size
    have hown0 : ∀ b, (selG g ks H).owns (gcH ks H) b → ∃ o cs, o ∈ ks ∧ H[o]? = some (some cs) ∧ b ∈ g.ob o := fun b ⟨o', c, ho, hb⟩ => by
      obtain ⟨o, cs, hk, hc, rfl, e1, e2⟩ := sel_al (g := g) hlt ho
      exact ⟨o, cs, List.mem_of_getElem? hk, hc, by rwa [e2] at hb⟩
    have hkeepG : ∀ b, g.G b → w'.heap[b]? = w.heap[b]? := fun b hb => hm.stp.keep b (hp.low b hb) fun ho => by
      obtain ⟨o, cs, _, hc, hbo⟩ := hown0 b ho
      exact hp.free o cs hc b hbo hb
    have hkeepO : ∀ o cs, H[o]? = some (some cs) → o ∉ ks → ∀ b ∈ g.ob o, w'.heap[b]? = w.heap[b]? := fun o cs ho hn b hb => hm.stp.keep b ((hp.obj o cs ho).all_lt b hb) fun hon => by
      obtain ⟨o2, cs2, h2, hc2, hbo⟩ := hown0 b hon
      exact hp.apart o o2 cs cs2 ho hc2 (fun e => hn (e ▸ h2)) b hb hbo
    have hlen : ks.length ≤ H1.length := by
      rcases Nat.eq_zero_or_pos ks.length with h0 | h0
      · omega
      · obtain ⟨o, ho⟩ : ∃ o, ks[ks.length - 1]? = some o := ⟨_, List.getElem?_eq_getElem (by omega)⟩
        have h1 : (selG g ks H).tr (gcH ks H) (ks.length - 1) = g.tr H o := sel_tr hlt ho
        have hol := hlt o (List.mem_of_getElem? ho)
        have h2 : ∃ d, g.tr H o = some d := by
          unfold Gh.tr
          rw [List.getElem?_eq_getElem hol]
          cases H[o] <;> exact ⟨_, rfl⟩
        obtain ⟨dd, hdd⟩ := h2
        have h3 : ks.length - 1 < H1.length := by
          rcases hm.trk _ _ (h1.trans hdd) with h | h <;> exact tr_lt h
        omega
    let σ := sgm ks H.length
    let H2 := shrH σ d' H1
    let H' := putB ks H2 H
    have hlen2 : ks.length ≤ H2.length := by simpa [H2, shrH] using hlen
    let inv : Nat → Nat := fun o => match gcT ks 0 o with
      | some i => i
      | none => o - H.length + ks.length
    let isN : Nat → Bool := fun o => (gcT ks 0 o).isSome || decide (H.length ≤ o)
    let g' : Gh := ⟨fun o => if isN o then g1.ρ (inv o) else g.ρ o, fun o => if isN o then g1.ob (inv o) else g.ob o, g.G⟩
    have gcT_of : ∀ (l : List Nat) (i o m : Nat), l.Nodup → l[m]? = some o → gcT l i o = some (i + m) := fun l => by
      induction l with
      | nil => intro i o m _ h; simp at h
      | cons k l ih =>
        intro i o m hn h
        cases m with
        | zero => obtain rfl : k = o := by simpa using h
                  simp [gcT]
        | succ m =>
          have h' : l[m]? = some o := by simpa using h
          have hne : o ≠ k := fun e => (List.nodup_cons.1 hn).1 (e ▸ List.mem_of_getElem? h')
          rw [gcT, if_neg hne, ih (i + 1) o m (List.nodup_cons.1 hn).2 h']
          congr 1; omega
    have gcT_no : ∀ o, o ∉ ks → gcT ks 0 o = none := fun o ho => by
      cases hg : gcT ks 0 o with
      | none => rfl
      | some i =>
        obtain ⟨m, _, hm⟩ := gcT_some ks 0 o i hg
        exact absurd (List.mem_of_getElem? hm) ho
    have hisO : ∀ o, o ∉ ks → o < H.length → isN o = false := fun o h1 h2 => by simp [isN, gcT_no o h1]; omega
    have hisN : ∀ i o, sgm ks H.length i = o → (ks[i]? = some o ∨ (ks.length ≤ i ∧ H.length ≤ o)) → isN o = true ∧ inv o = i := fun i o hs h => by
      rcases h with h | ⟨h1, h2⟩
      · have := gcT_of ks 0 o i hnd h
        rw [Nat.zero_add] at this
        exact ⟨by simp [isN, this], by simp [inv, this]⟩
      · have hno : o ∉ ks := fun hm => by have := hlt o hm; omega
        rw [sgm_ge ks _ _ h1] at hs
        refine ⟨by simp [isN]; omega, ?_⟩
        simp only [inv, gcT_no o hno]
        omega
    have hinv : ∀ o cs, H'[o]? = some (some cs) → (o ∉ ks ∧ o < H.length ∧ H[o]? = some (some cs)) ∨ ∃ i c, H1[i]? = some (some c) ∧ cs = c.map (shr σ d') ∧ isN o = true ∧ inv o = i := fun o cs ho => by
      rcases putB_inv ks H2 H hnd hlt hlen2 o _ ho with h | ⟨i, h1, h2, h3⟩
      · exact .inl h
      · right
        simp only [H2, shrH, List.getElem?_map, Option.map_eq_some_iff] at h1
        obtain ⟨x, hx, he⟩ := h1
        obtain ⟨c, rfl, rfl⟩ := he
        exact ⟨i, c, hx, rfl, hisN i o h2 h3⟩
    have htrO : ∀ o d, o ∉ ks → g.tr H o = some d → g'.tr H' o = some d := fun o dd hn ho => by
      have hlo := tr_lt ho
      unfold Gh.tr at *
      rw [putB_old ks H2 H o hlo hn]
      simp only [g', hisO o hn hlo]
      exact ho
    have htrN : ∀ i d, g1.tr H1 i = some d → g'.tr H' (σ i) = some d := fun i dd hi => by
      have hli := tr_lt hi
      have hat : H'[σ i]? = H2[i]? ∧ isN (σ i) = true ∧ inv (σ i) = i := by
        rcases Nat.lt_or_ge i ks.length with h1 | h1
        · have h2 : ks[i]? = some ks[i] := List.getElem?_eq_getElem h1
          have e : σ i = ks[i] := sgm_lt ks _ i _ h2
          rw [e]
          exact ⟨putB_at ks H2 H i _ hnd hlt hlen2 h2, hisN i _ (sgm_lt ks _ i _ h2) (.inl h2)⟩
        · have e : σ i = H.length + (i - ks.length) := sgm_ge ks _ i h1
          exact ⟨by rw [e]; exact putB_new ks H2 H i hlen2 h1, hisN i _ rfl (.inr ⟨h1, by rw [e]; omega⟩)⟩
      obtain ⟨h1, h2, h3⟩ := hat
      unfold Gh.tr at *
      rw [h1]
      simp only [H2, shrH, List.getElem?_map, g', h2, h3, if_true]
      rw [List.getElem?_eq_getElem hli] at hi ⊢
      cases hh : H1[i] with
      | none => rw [hh] at hi; simpa using hi
      | some cs => rw [hh] at hi; simpa using hi
    have hcells : ∀ (i : Nat) (c : List AV), H1[i]? = some (some c) → c.all (nf d') = true := fun i c ho => List.all_eq_true.1 hnf2 (some c) (List.mem_of_getElem? ho)
    have htr : ∀ o d, g.tr H o = some d → g'.tr H' o = some d ∨ g'.tr H' o = some none := fun o dd ho => by
      by_cases hm' : o ∈ ks
      · obtain ⟨i, hi⟩ := List.mem_iff_getElem?.1 hm'
        have e : σ i = o := sgm_lt ks _ i o hi
        have h1 : (selG g ks H).tr (gcH ks H) i = some dd := by rw [sel_tr hlt hi]; exact ho
        rw [← e]
        exact (hm.trk i dd h1).imp (htrN i dd) (htrN i none)
      · exact .inl (htrO o dd hm' ho)
    have hfr : ∀ i c, H1[i]? = some (some c) → ∀ b ∈ g1.ob i, (∃ o cs, o ∈ ks ∧ H[o]? = some (some cs) ∧ b ∈ g.ob o) ∨ w.heap.size ≤ b := fun i c hi b hb =>
      (hm.stp.own b ⟨i, c, hi, hb⟩).imp (hown0 b) id
    have hp' : HeapR g' H' w' := by
      refine ⟨?_, ?_, ?_, ?_, fun b hb => Nat.lt_of_lt_of_le (hp.low b hb) hsz⟩
      · intro o cs ho
        rcases hinv o cs ho with ⟨hn, hlo, ho'⟩ | ⟨i, c, hi, rfl, hN, hI⟩
        · simp only [g', hisO o hn hlo]
          exact (hp.obj o cs ho').mono (fun _ h => h) hkeepG htr (hkeepO o cs ho' hn)
        · simp only [g', hN, hI, if_true]
          have h1 := hm.hp.obj i c hi
          cases hl : g1.ρ i with
          | none => rw [hl] at h1; obtain ⟨rfl, h2⟩ := h1; exact ⟨rfl, h2⟩
          | some l =>
            obtain ⟨b, base, sz⟩ := l
            rw [hl] at h1
            obtain ⟨arr, elem, u, bss, hb, h2, h3, h4, h5, h6⟩ := h1
            refine ⟨arr, elem, u, bss, hb, h2, by simpa using h3, fun m hm => h4 m (by simpa using hm), fun m hm => ?_, by simpa using h6⟩
            simp only [List.getElem_map]
            exact shr_rd htrN d' _ _ _ (List.all_eq_true.1 (hcells _ _ hi) _ (List.getElem_mem _)) (h5 m (by simpa using hm))
      · intro o cs ho
        rcases hinv o cs ho with ⟨hn, hlo, ho'⟩ | ⟨i, c, hi, rfl, hN, hI⟩
        · simp only [g', hisO o hn hlo]; exact hp.nodup o cs ho'
        · simp only [g', hN, hI, if_true]; exact hm.hp.nodup i c hi
      · intro o o2 cs cs2 ho ho2 hne b h1 h2
        rcases hinv o cs ho with ⟨hn, hlo, ho'⟩ | ⟨i, c, hi, rfl, hN, hI⟩ <;> rcases hinv o2 cs2 ho2 with ⟨hn2, hlo2, ho2'⟩ | ⟨i2, c2, hi2, rfl, hN2, hI2⟩
        · simp only [g', hisO o hn hlo] at h1; simp only [g', hisO o2 hn2 hlo2] at h2; exact hp.apart o o2 cs cs2 ho' ho2' hne b h1 h2
        · simp only [g', hisO o hn hlo] at h1; simp only [g', hN2, hI2, if_true] at h2
          rcases hfr i2 c2 hi2 b h2 with ⟨o3, cs3, h3, h4, h5⟩ | h
          · exact hp.apart o o3 cs cs3 ho' h4 (fun e => hn (e ▸ h3)) b h1 h5
          · have := (hp.obj o cs ho').all_lt b h1; omega
        · simp only [g', hN, hI, if_true] at h1; simp only [g', hisO o2 hn2 hlo2] at h2
          rcases hfr i c hi b h1 with ⟨o3, cs3, h3, h4, h5⟩ | h
          · exact hp.apart o2 o3 cs2 cs3 ho2' h4 (fun e => hn2 (e ▸ h3)) b h2 h5
          · have := (hp.obj o2 cs2 ho2').all_lt b h2; omega
        · simp only [g', hN, hI, if_true] at h1; simp only [g', hN2, hI2, if_true] at h2
          refine hm.hp.apart i i2 c c2 hi hi2 (fun e => hne ?_) b h1 h2
          subst e
          have : ∀ o, isN o = true → σ (inv o) = o := fun o hN => by
            simp only [isN, Bool.or_eq_true, decide_eq_true_eq, Option.isSome_iff_exists] at hN
            rcases hN with ⟨j, hj⟩ | hge
            · obtain ⟨m, rfl, hm⟩ := gcT_some ks 0 o j hj
              simp only [inv, hj, Nat.zero_add]
              exact sgm_lt ks _ m o hm
            · have hno : o ∉ ks := fun hm => by have := hlt o hm; omega
              simp only [inv, gcT_no o hno]
              show sgm ks H.length _ = o
              rw [sgm_ge ks _ _ (by omega)]; omega
          rw [← this o hN, ← this o2 hN2, hI, hI2]
      · intro o cs ho b h1 hG
        rcases hinv o cs ho with ⟨hn, hlo, ho'⟩ | ⟨i, c, hi, rfl, hN, hI⟩
        · simp only [g', hisO o hn hlo] at h1; exact hp.free o cs ho' b h1 hG
        · simp only [g', hN, hI, if_true] at h1
          rcases hfr i c hi b h1 with ⟨o3, cs3, h3, h4, h5⟩ | h
          · exact hp.free o3 cs3 h4 b h5 hG
          · have := hp.low b hG; omega
    refine ⟨v, g', shr σ d' av, H', he, ⟨hp', ⟨hm.stp.os, hm.stp.tape, hm.stp.output, hsz, fun b hb hno => hm.stp.keep b hb fun ho => ?_, fun b ⟨o, cs, ho, h1⟩ => ?_, fun _ h => h, fun _ h => .inl h, hm.stp.fz⟩,
      fun x v h => h.mono (fun _ h => h) hkeepG htr (by simp), htr⟩, shr_rd htrN d' _ _ _ hnf1 hx, fun h => (by cases h), av, H1, hk, rfl, rfl⟩
    · obtain ⟨o, cs, _, hc, hbo⟩ := hown0 b ho
      exact hno ⟨o, cs, hc, hbo⟩
    · rcases hinv o cs ho with ⟨hn, hlo, ho'⟩ | ⟨i, c, hi, rfl, hN, hI⟩
      · left; simp only [g', hisO o hn hlo] at h1; exact ⟨o, cs, ho', h1⟩
      · simp only [g', hN, hI, if_true] at h1
        exact (hfr i c hi b h1).imp (fun ⟨o3, cs3, h3, h4, h5⟩ => ⟨o3, cs3, h4, h5⟩) id

/-- A contract over the objects that are handed. -/
def Wri (P : Program) (f : FuncId) (args : List AV) (H0 : Heap) (x : AV) (H1 : Heap) : Prop := CallsX P false f args H0 fun av H' => av = x ∧ H' = H1

theorem call_wri {f : FuncId} {args args' : List AV} {H0 : Heap} {x : AV} {H1 : Heap} {K : AV → Heap → Prop} (h : Wri P f args H0 x H1) (ks : List Nat) (hks : (decide ks.Nodup && ks.all fun o => decide (o < H.length)) = true) (hH : gcH ks H = H0) (ha : args'.map (vw ks H 6) = args) (hx : nf 6 x = true) (hH1 : nfH 6 H1 = true)
    (hK : K (shr (sgm ks H.length) 6 x) (putB ks (shrH (sgm ks H.length) 6 H1) H)) : CallsX P false f args' H K := by
  simp only [Bool.and_eq_true, decide_eq_true_eq, List.all_eq_true] at hks
  exact (CallsX.liftW ks 6 6 h hks.1 hks.2 hH ha.symm (by rintro av H' ⟨rfl, rfl⟩; exact ⟨hx, hH1⟩)).mono (by rintro av H' ⟨av0, H0', ⟨rfl, rfl⟩, rfl, rfl⟩; exact hK)

theorem wri_of_W {f : FuncId} {ac : ACode} {rs : List AOp} {args : List AV} {H0 : Heap} {x : AV} {H1 : Heap} (hc : compileFn P M f = some (N, ac, rs)) (hl : decide (args.length ≤ N) = true) (hW : W P M N H0.length ac (endQ rs fun av H' => av = x ∧ H' = H1) (mkF 0 args) H0) : Wri P f args H0 x H1 :=
  calls_of_W hc (of_decide_eq_true hl) hW

/-- What a call made is told anew, the handed objects ahead. -/
theorem CallsX.gcW {f : FuncId} {args : List AV} {H0 : Heap} {K K' : AV → Heap → Prop} (ks : List Nat) (h : CallsX P false f args H0 K') (hk : ∀ av H', K' av H' → gcOk ks H'.length H0.length = true ∧ K (rnm (gcT ks 0) av) (gcH ks H')) : CallsX P false f args H0 K :=
  fun g w vals hp hl hr => (h g w vals hp hl hr).mono fun _ w' ⟨v, g', av, H', he, hm, hx, _, hkk⟩ => by
    obtain ⟨h1, h2⟩ := hk av H' hkk
    have hR : R 1 g' [(0, av)] H' { tmps := #[v], defers := [] } w' := by
      refine ⟨fun j => ?_, hm.hp, rfl, rfl⟩
      simp only [get_put]
      by_cases e : 0 = j
      · rw [if_pos e]; subst e; exact hx
      · rw [if_neg e]; exact .any
    obtain ⟨g2, hR2, hm2⟩ := Ref.gc (n0 := H0.length) (F := [(0, av)]) ks (F' := [(0, rnm (gcT ks 0) av)]) h1 rfl (by simp [sub, fget, gcF]) 1 g' _ w' hR
    have hx2 := hR2.fr 0
    simp only [get_put, if_true] at hx2
    have hmn : MvN H0.length g H0 w g2 (gcH ks H') w' := (hm.toN).trans hm2
    exact ⟨v, g2, _, _, he, MvN.toMv hp hmn, hx2, fun h => (by cases h), h2⟩

theorem wri_of_Wg {f : FuncId} {ac : ACode} {rs : List AOp} {args : List AV} {H0 : Heap} {x : AV} {H1 : Heap} (ks : List Nat) (hc : compileFn P M f = some (N, ac, rs)) (hl : decide (args.length ≤ N) = true) (hW : W P M N H0.length ac (endQ rs fun av H' => gcOk ks H'.length H0.length = true ∧ rnm (gcT ks 0) av = x ∧ gcH ks H' = H1) (mkF 0 args) H0) : Wri P f args H0 x H1 :=
  CallsX.gcW ks (calls_of_W hc (of_decide_eq_true hl) hW) fun _ _ ⟨h1, h2, h3⟩ => ⟨h1, h2, h3⟩

end Go.Gov
