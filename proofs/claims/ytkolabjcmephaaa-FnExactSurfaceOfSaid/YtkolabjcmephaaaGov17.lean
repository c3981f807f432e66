/- A cell's slice opened into an object of its own; a nil slice told as an object; an object told shorter. -/
import Derived.Test.YtkolabjcmephaaaGov15
set_option linter.unusedSimpArgs false
set_option linter.unusedVariables false
namespace Go.Gov
variable {P : Program} {N : Nat} {g : Gh} {F : Frame} {H : Heap} {a : Act} {w : World} {M : List Nat} {n0 : Nat}

theorem opn_al {o x : Nat} {c cs' cs2 : List AV} (h : (H.set o (some cs') ++ [some cs2])[x]? = some (some c)) (hol : o < H.length) : (x = H.length ∧ c = cs2) ∨ (x = o ∧ x < H.length ∧ c = cs') ∨ (x ≠ o ∧ x < H.length ∧ H[x]? = some (some c)) := by
  rcases Nat.lt_trichotomy x H.length with hlt | rfl | hgt
  · rw [List.getElem?_append_left (by simpa using hlt)] at h
    by_cases e : o = x
    · subst e
      rw [List.getElem?_set_self hol] at h
      exact .inr (.inl ⟨rfl, hlt, (Option.some.inj (Option.some.inj h)).symm⟩)
    · rw [List.getElem?_set_ne e] at h
      exact .inr (.inr ⟨Ne.symm e, hlt, h⟩)
  · have e : (H.set o (some cs') ++ [some cs2])[H.length]? = some (some cs2) := by simp
    rw [e] at h
    exact .inl ⟨rfl, (Option.some.inj (Option.some.inj h)).symm⟩
  · rw [List.getElem?_eq_none (by simp; omega)] at h; cases h

/-- A slice that a cell owns is told as an object of its own. -/
theorem Ref.open (o j : Nat) {cs cs2 : List AV} {k n : Nat} (ho : H[o]? = some (some cs)) (hj : cs[j]? = some (.osl k n cs2)) :
    Ref n0 F H F (H.set o (some (cs.set j (.sl H.length k 0 n))) ++ [some cs2]) := fun N g a w hR => by
  have hp := hR.hp
  obtain ⟨hjl, hje⟩ := List.getElem?_eq_some_iff.1 hj
  have hol : o < H.length := (List.getElem?_eq_some_iff.1 ho).1
  have h1 := hp.obj o cs ho
  cases hl : g.ρ o with
  | none => rw [hl] at h1; obtain ⟨rfl, _⟩ := h1; simp at hjl
  | some l =>
    obtain ⟨b, base, sz⟩ := l
    rw [hl] at h1
    obtain ⟨arr, elem, u, bss, hb, hsz, hbase, hc, hr, hob⟩ := h1
    have hjr := hr j hjl
    rw [hje] at hjr
    generalize hbj : bss j = bsj at hjr
    -- where the new object lies
    have hnew : ∃ l2, (∀ (tr : Nat → Option (Option LocN)), (∀ x d, g.tr H x = some d → tr x = some d) → ObjR w tr g.G cs2 bsj l2) ∧ SlAt l2 k 0 n (u j) ∧ (u j).oneCell' = true ∧ n * k ≤ cs2.length := by
      generalize u j = v at hjr
      cases hjr with
      | osl u2 bss2 hl2 hn hm hb2 hs hc2 hr2 =>
        rename_i b2 off2 cap2 arr2 elem2
        have hnk : n * k ≤ cap2 * k := Nat.mul_le_mul_right _ hn
        exact ⟨some (b2, off2, arr2.size), fun tr ht => ⟨arr2, elem2, u2, bss2, hb2, rfl, by omega, hc2, fun m hm => (hr2 m hm).mono (fun _ h => h) (fun _ _ => rfl) (fun x d h => .inl (ht x d h)) (fun _ _ => rfl), rfl⟩, ⟨cap2, hn, hm, by omega, .inl (by simp)⟩, rfl, by omega⟩
      | osl0 =>
        rename_i a0
        exact ⟨none, fun _ _ => ⟨rfl, rfl⟩, ⟨rfl, a0, rfl⟩, rfl, by omega⟩
    obtain ⟨l2, hO2, hS2, hv2, hnk⟩ := hnew
    let bss' : Nat → List Nat := fun m => if m = j then [] else bss m
    let nb := b :: (List.range cs.length).flatMap bss'
    let H' : Heap := H.set o (some (cs.set j (.sl H.length k 0 n))) ++ [some cs2]
    let g' : Gh := ⟨fun x => if x = H.length then l2 else g.ρ x, fun x => if x = H.length then bsj else if x = o then nb else g.ob x, g.G⟩
    have hperm : List.Perm (g.ob o) (bsj ++ nb) := by
      have e : bss = fun m => if m = j then bsj else bss' m := by
        funext m
        by_cases e : m = j
        · subst e; simp [hbj]
        · simp [bss', e]
      rw [hob]
      refine List.Perm.trans (List.Perm.cons b ?_) List.perm_middle.symm
      conv => lhs; rw [e]
      exact flatMap_upd hjl (by simp [bss']) bsj
    have hnd := hp.nodup o cs ho
    rw [hperm.nodup_iff, List.nodup_append] at hnd
    have hmem : ∀ y, (y ∈ bsj ∨ y ∈ nb) → y ∈ g.ob o := fun y hy => hperm.mem_iff.2 (List.mem_append.2 hy)
    have htr : ∀ x d, g.tr H x = some d → g'.tr H' x = some d := fun x d hd => by
      have hxl := tr_lt hd
      unfold Gh.tr at *
      rw [List.getElem?_append_left (by simpa using hxl)]
      simp only [g', if_neg (Nat.ne_of_lt hxl)]
      by_cases e : o = x
      · subst e
        rw [List.getElem?_set_self hol]
        rw [ho] at hd
        simpa using hd
      · rw [List.getElem?_set_ne e]; exact hd
    have lift : ∀ x v bs, Rd w (g.tr H) g.G x v bs → Rd w (g'.tr H') g'.G x v bs := fun x v bs h => h.mono (fun _ h => h) (fun _ _ => rfl) (fun x d h => .inl (htr x d h)) (fun _ _ => rfl)
    have hrj : Rd w (g'.tr H') g'.G (.sl H.length k 0 n) (u j) [] := by
      have e : g'.tr H' H.length = some (some (l2, cs2.length)) := by
        have e1 : H'[H.length]? = some (some cs2) := by simp [H']
        rw [Gh.tr_some e1]
        simp [g']
      refine .sl (by rw [e]; rfl) hv2 fun l hl => ?_
      rw [e] at hl
      obtain rfl := Option.some.inj (Option.some.inj hl)
      exact ⟨by dsimp only; omega, hS2⟩
    have hp' : HeapR g' H' w := by
      refine ⟨?_, ?_, ?_, ?_, hp.low⟩
      · intro x c hx
        rcases opn_al hx hol with ⟨rfl, rfl⟩ | ⟨rfl, h3, rfl⟩ | ⟨h3, h4, h5⟩
        · have e1 : g'.ρ H.length = l2 := by simp [g']
          have e2 : g'.ob H.length = bsj := by simp [g']
          rw [e1, e2]
          exact hO2 _ htr
        · have e1 : g'.ρ x = some (b, base, sz) := by simp [g', Nat.ne_of_lt h3, hl]
          have e2 : g'.ob x = nb := by simp [g', Nat.ne_of_lt h3]
          rw [e1, e2]
          refine ⟨arr, elem, u, bss', hb, hsz, by simpa using hbase, fun m hm => hc m (by simpa using hm), fun m hm => ?_, by simp [nb]⟩
          simp only [List.length_set] at hm
          by_cases e : m = j
          · subst e
            simp only [List.getElem_set_self, bss', if_true]
            exact hrj
          · rw [List.getElem_set_ne (Ne.symm e)]
            simp only [bss', if_neg e]
            exact lift _ _ _ (hr m hm)
        · have e1 : g'.ρ x = g.ρ x := by simp [g', Nat.ne_of_lt h4]
          have e2 : g'.ob x = g.ob x := by simp [g', Nat.ne_of_lt h4, h3]
          rw [e1, e2]
          exact (hp.obj x c h5).mono (fun _ h => h) (fun _ _ => rfl) (fun x d h => .inl (htr x d h)) (fun _ _ => rfl)
      · intro x c hx
        rcases opn_al hx hol with ⟨rfl, rfl⟩ | ⟨rfl, h3, rfl⟩ | ⟨h3, h4, h5⟩
        · simp only [g', if_true]; exact hnd.1
        · simp only [g', if_neg (Nat.ne_of_lt h3), if_true]; exact hnd.2.1
        · simp only [g', if_neg (Nat.ne_of_lt h4), if_neg h3]; exact hp.nodup x c h5
      · intro x y c d hx hy hxy b' hb1 hb2
        rcases opn_al hx hol with ⟨rfl, rfl⟩ | ⟨rfl, h3, rfl⟩ | ⟨h3, h4, h5⟩ <;> rcases opn_al hy hol with ⟨rfl, rfl⟩ | ⟨rfl, k3, rfl⟩ | ⟨k3, k4, k5⟩
        · exact hxy rfl
        · simp only [g', if_true] at hb1
          simp only [g', if_neg (Nat.ne_of_lt k3), if_true] at hb2
          exact hnd.2.2 b' hb1 b' hb2 rfl
        · simp only [g', if_true] at hb1
          simp only [g', if_neg (Nat.ne_of_lt k4), if_neg k3] at hb2
          exact hp.apart o y cs d ho k5 (Ne.symm k3) b' (hmem _ (.inl hb1)) hb2
        · simp only [g', if_true] at hb2
          simp only [g', if_neg (Nat.ne_of_lt h3), if_true] at hb1
          exact hnd.2.2 b' hb2 b' hb1 rfl
        · exact hxy rfl
        · simp only [g', if_neg (Nat.ne_of_lt h3), if_true] at hb1
          simp only [g', if_neg (Nat.ne_of_lt k4), if_neg k3] at hb2
          exact hp.apart x y cs d ho k5 (Ne.symm k3) b' (hmem _ (.inr hb1)) hb2
        · simp only [g', if_true] at hb2
          simp only [g', if_neg (Nat.ne_of_lt h4), if_neg h3] at hb1
          exact hp.apart x o c cs h5 ho h3 b' hb1 (hmem _ (.inl hb2))
        · simp only [g', if_neg (Nat.ne_of_lt h4), if_neg h3] at hb1
          simp only [g', if_neg (Nat.ne_of_lt k3), if_true] at hb2
          exact hp.apart x y c cs h5 ho h3 b' hb1 (hmem _ (.inr hb2))
        · simp only [g', if_neg (Nat.ne_of_lt h4), if_neg h3] at hb1
          simp only [g', if_neg (Nat.ne_of_lt k4), if_neg k3] at hb2
          exact hp.apart x y c d h5 k5 hxy b' hb1 hb2
      · intro x c hx b' hb1
        rcases opn_al hx hol with ⟨rfl, rfl⟩ | ⟨rfl, h3, rfl⟩ | ⟨h3, h4, h5⟩
        · simp only [g', if_true] at hb1
          exact hp.free o cs ho b' (hmem _ (.inl hb1))
        · simp only [g', if_neg (Nat.ne_of_lt h3), if_true] at hb1
          exact hp.free x cs ho b' (hmem _ (.inr hb1))
        · simp only [g', if_neg (Nat.ne_of_lt h4), if_neg h3] at hb1
          exact hp.free x c h5 b' hb1
    refine ⟨g', ⟨fun i => lift _ _ _ (hR.fr i), hp', hR.size, hR.defers⟩, hp', ⟨rfl, rfl, rfl, Nat.le_refl _, fun _ _ _ => rfl, fun b' ⟨x, c, hx, hb1⟩ => .inl ?_, fun _ h => h, fun _ h => .inl h, fun _ _ => rfl⟩, fun x d _ hd => .inl (htr x d hd)⟩
    rcases opn_al hx hol with ⟨rfl, rfl⟩ | ⟨rfl, h3, rfl⟩ | ⟨h3, h4, h5⟩
    · simp only [g', if_true] at hb1
      exact ⟨o, cs, ho, hmem _ (.inl hb1)⟩
    · simp only [g', if_neg (Nat.ne_of_lt h3), if_true] at hb1
      exact ⟨x, cs, ho, hmem _ (.inr hb1)⟩
    · simp only [g', if_neg (Nat.ne_of_lt h4), if_neg h3] at hb1
      exact ⟨x, c, h5, hb1⟩

/-- A nil slice is told as an object without cells. -/
theorem Ref.nil (j k : Nat) (h : fget F j = nilS) : Ref n0 F H ((j, .sl H.length k 0 0) :: F) (H ++ [some []]) := fun N g a w hR => by
  have hm := nil_obj hR.hp
  refine ⟨_, ⟨fun i => ?_, hm.hp, hR.size, hR.defers⟩, hm.toN⟩
  simp only [get_put]
  by_cases e : j = i
  · subst e
    rw [if_pos rfl]
    have h1 := hR.fr j
    rw [h] at h1
    have e1 : (g.add H.length none []).tr (H ++ [some []]) H.length = some (some (none, 0)) := by
      have e1 : (H ++ [some ([] : List AV)])[H.length]? = some (some []) := by simp
      rw [Gh.tr_some e1]
      simp [Gh.add]
    rw [h1.val_inv.1]
    refine .sl (by rw [e1]; rfl) rfl fun l hl => ?_
    rw [e1] at hl
    obtain rfl := Option.some.inj (Option.some.inj hl)
    exact ⟨by dsimp only; omega, rfl, none, rfl⟩
  · rw [if_neg e]; exact hm.lift _ _ (hR.fr i)

/-- An object is told shorter, under a new number; whoever looks at no more of it may go on. -/
theorem Ref.cut (o m j : Nat) {cs : List AV} {k off len : Nat} (ho : H[o]? = some (some cs)) (hm : m ≤ cs.length) (hj : fget F j = .sl o k off len) (hlen : off + len * k ≤ m) :
    Ref n0 F H ((j, .sl H.length k off len) :: F) (H.set o none ++ [some (cs.take m)]) := fun N g a w hR => by
  have hp := hR.hp
  have hol : o < H.length := (List.getElem?_eq_some_iff.1 ho).1
  have h1 := hp.obj o cs ho
  let H' : Heap := H.set o none ++ [some (cs.take m)]
  have hal : ∀ x c, H'[x]? = some (some c) → (x = H.length ∧ c = cs.take m) ∨ (x ≠ o ∧ x < H.length ∧ H[x]? = some (some c)) := fun x c h => by
    rcases app_get h with ⟨hlt, h2⟩ | ⟨h2, h3⟩
    · obtain ⟨h3, h4⟩ := alive_kill h2
      exact .inr ⟨h3, by simpa using hlt, h4⟩
    · exact .inl ⟨by simpa using h2, (Option.some.inj h3).symm⟩
  -- what of its blocks the shorter one owns
  have hnew : ∃ bs', bs'.Sublist (g.ob o) ∧ ∀ (tr : Nat → Option (Option LocN)), (∀ x d, g.tr H x = some d → tr x = some d ∨ tr x = some none) → ObjR w tr g.G (cs.take m) bs' (g.ρ o) := by
    cases hl : g.ρ o with
    | none => rw [hl] at h1; obtain ⟨rfl, h2⟩ := h1; exact ⟨[], List.nil_sublist _, fun _ _ => ⟨by simp, rfl⟩⟩
    | some l =>
      obtain ⟨b, base, sz⟩ := l
      rw [hl] at h1
      obtain ⟨arr, elem, u, bss, hb, hsz, hbase, hc, hr, hob⟩ := h1
      have e : (cs.take m).length = m := by rw [List.length_take]; omega
      refine ⟨b :: (List.range m).flatMap bss, ?_, fun tr ht => ⟨arr, elem, u, bss, hb, hsz, by omega, fun i hi => hc i (by omega), fun i hi => ?_, by rw [e]⟩⟩
      · rw [hob]
        refine List.Sublist.cons_cons _ ?_
        have : List.range cs.length = List.range m ++ (List.range (cs.length - m)).map (m + ·) := by rw [← List.range_add]; congr 1; omega
        rw [this, List.flatMap_append]
        exact List.sublist_append_left _ _
      · simp only [List.getElem_take]
        exact (hr i (by omega)).mono (fun _ h => h) (fun _ _ => rfl) ht (fun _ _ => rfl)
  obtain ⟨bs', hsub, hO⟩ := hnew
  let g' : Gh := ⟨fun x => if x = H.length then g.ρ o else g.ρ x, fun x => if x = H.length then bs' else g.ob x, g.G⟩
  have htr : ∀ x d, g.tr H x = some d → g'.tr H' x = some d ∨ g'.tr H' x = some none := fun x d hd => by
    have hxl := tr_lt hd
    by_cases e : o = x
    · subst e
      right
      unfold Gh.tr
      rw [List.getElem?_append_left (by simpa using hxl), List.getElem?_set_self hol]
    · left
      unfold Gh.tr at *
      rw [List.getElem?_append_left (by simpa using hxl), List.getElem?_set_ne e]
      simp only [g', if_neg (Nat.ne_of_lt hxl)]
      exact hd
  have lift : ∀ x v bs, Rd w (g.tr H) g.G x v bs → Rd w (g'.tr H') g'.G x v bs := fun x v bs h => h.mono (fun _ h => h) (fun _ _ => rfl) htr (fun _ _ => rfl)
  have hp' : HeapR g' H' w := by
    refine ⟨?_, ?_, ?_, ?_, hp.low⟩
    · intro x c hx
      rcases hal x c hx with ⟨rfl, rfl⟩ | ⟨h3, h4, h5⟩
      · simp only [g', if_true]; exact hO _ htr
      · simp only [g', if_neg (Nat.ne_of_lt h4)]
        exact (hp.obj x c h5).mono (fun _ h => h) (fun _ _ => rfl) htr (fun _ _ => rfl)
    · intro x c hx
      rcases hal x c hx with ⟨rfl, rfl⟩ | ⟨h3, h4, h5⟩
      · simp only [g', if_true]; exact hsub.nodup (hp.nodup o cs ho)
      · simp only [g', if_neg (Nat.ne_of_lt h4)]; exact hp.nodup x c h5
    · intro x y c d hx hy hxy b' hb1 hb2
      rcases hal x c hx with ⟨rfl, rfl⟩ | ⟨h3, h4, h5⟩ <;> rcases hal y d hy with ⟨rfl, rfl⟩ | ⟨k3, k4, k5⟩
      · exact hxy rfl
      · simp only [g', if_true] at hb1; simp only [g', if_neg (Nat.ne_of_lt k4)] at hb2
        exact hp.apart o y cs d ho k5 (Ne.symm k3) b' (hsub.subset hb1) hb2
      · simp only [g', if_true] at hb2; simp only [g', if_neg (Nat.ne_of_lt h4)] at hb1
        exact hp.apart x o c cs h5 ho h3 b' hb1 (hsub.subset hb2)
      · simp only [g', if_neg (Nat.ne_of_lt h4)] at hb1; simp only [g', if_neg (Nat.ne_of_lt k4)] at hb2
        exact hp.apart x y c d h5 k5 hxy b' hb1 hb2
    · intro x c hx b' hb1
      rcases hal x c hx with ⟨rfl, rfl⟩ | ⟨h3, h4, h5⟩
      · simp only [g', if_true] at hb1; exact hp.free o cs ho b' (hsub.subset hb1)
      · simp only [g', if_neg (Nat.ne_of_lt h4)] at hb1; exact hp.free x c h5 b' hb1
  refine ⟨g', ⟨fun i => ?_, hp', hR.size, hR.defers⟩, hp', ⟨rfl, rfl, rfl, Nat.le_refl _, fun _ _ _ => rfl, fun b' ⟨x, c, hx, hb1⟩ => .inl ?_, fun _ h => h, fun _ h => .inl h, fun _ _ => rfl⟩, fun x d _ hd => htr x d hd⟩
  · simp only [get_put]
    by_cases e : j = i
    · subst e
      rw [if_pos rfl]
      have h2 := hR.fr j
      rw [hj] at h2
      cases h2 with
      | sl h0 hv h =>
        obtain ⟨_, hS⟩ := h _ (Gh.tr_some (g := g) ho)
        have e1 : g'.tr H' H.length = some (some (g.ρ o, (cs.take m).length)) := by
          have e1 : H'[H.length]? = some (some (cs.take m)) := by simp [H']
          rw [Gh.tr_some e1]
          simp [g']
        refine .sl (by rw [e1]; rfl) hv fun l hl => ?_
        rw [e1] at hl
        obtain rfl := Option.some.inj (Option.some.inj hl)
        refine ⟨?_, hS⟩
        dsimp only
        rw [List.length_take]; omega
    · rw [if_neg e]; exact lift _ _ _ (hR.fr i)
  · rcases hal x c hx with ⟨rfl, rfl⟩ | ⟨h3, h4, h5⟩
    · simp only [g', if_true] at hb1; exact ⟨o, cs, ho, hsub.subset hb1⟩
    · simp only [g', if_neg (Nat.ne_of_lt h4)] at hb1; exact ⟨x, c, h5, hb1⟩

end Go.Gov
