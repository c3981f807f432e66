/- Texts that belong together. -/
import Derived.Test.YtghhlcioabdpfaaDoorZe
set_option linter.unusedSimpArgs false
set_option linter.unusedVariables false
namespace Go.Gov
variable {P : Program} {N : Nat} {g : Gh} {F : Frame} {H : Heap} {a : Act} {w : World} {M : List Nat} {n0 : Nat}

theorem Ref.splitO (o : Nat) {cs cs' cs2 : List AV} (ho : H[o]? = some (some cs)) (hln : cs'.length = cs.length)
    (h : ∀ (g : Gh) (w : World), HeapR g H w → ∃ (l2 : Loc) (bsj nb : List Nat), (∀ tr : Nat → Option (Option LocN), (∀ x d, g.tr H x = some d → tr x = some d) → tr H.length = some (some (l2, cs2.length)) → ObjR w tr g.G cs2 bsj l2 ∧ ObjR w tr g.G cs' nb (g.ρ o)) ∧ (g.ob o).Perm (bsj ++ nb)) :
    Ref n0 F H F (H.set o (some cs') ++ [some cs2]) := Ref.core fun g w hp => by
  obtain ⟨l2, bsj, nb, hO, hperm⟩ := h g w hp
  have hol : o < H.length := (List.getElem?_eq_some_iff.1 ho).1
  let H' : Heap := H.set o (some cs') ++ [some cs2]
  let g' : Gh := ⟨fun x => if x = H.length then l2 else g.ρ x, fun x => if x = H.length then bsj else if x = o then nb else g.ob x, g.G⟩
  have hnd := hp.nodup o cs ho
  rw [hperm.nodup_iff, List.nodup_append] at hnd
  have hmem : ∀ y, (y ∈ bsj ∨ y ∈ nb) → y ∈ g.ob o := fun y hy => hperm.mem_iff.2 (List.mem_append.2 hy)
  have htr : ∀ x d, g.tr H x = some d → g'.tr H' x = some d := fun x d hd => by
    have hxl := tr_lt hd
    unfold Gh.tr at *
    rw [List.getElem?_append_left (by simpa using hxl)]
    simp only [g', if_neg (Nat.ne_of_lt hxl)]
    by_cases e : o = x
    · subst e
      rw [List.getElem?_set_self hol]
      rw [ho] at hd
      simpa [hln] using hd
    · rw [List.getElem?_set_ne e]; exact hd
  have hnew : g'.tr H' H.length = some (some (l2, cs2.length)) := by
    have e1 : H'[H.length]? = some (some cs2) := by simp [H']
    rw [Gh.tr_some e1]
    simp [g']
  obtain ⟨hO2, hO1⟩ := hO _ htr hnew
  refine ⟨g', ⟨?_, ?_, ?_, ?_, hp.low⟩, fun b' ⟨x, c, hx, hb1⟩ => ?_, rfl, fun x d hd => .inl (htr x d hd)⟩
  · intro x c hx
    rcases opn_al hx hol with ⟨rfl, rfl⟩ | ⟨rfl, h3, rfl⟩ | ⟨h3, h4, h5⟩
    · have e1 : g'.ρ H.length = l2 := by simp [g']
      have e2 : g'.ob H.length = bsj := by simp [g']
      rw [e1, e2]
      exact hO2
    · have e1 : g'.ρ x = g.ρ x := by simp [g', Nat.ne_of_lt h3]
      have e2 : g'.ob x = nb := by simp [g', Nat.ne_of_lt h3]
      rw [e1, e2]
      exact hO1
    · have e1 : g'.ρ x = g.ρ x := by simp [g', Nat.ne_of_lt h4]
      have e2 : g'.ob x = g.ob x := by simp [g', Nat.ne_of_lt h4, h3]
      rw [e1, e2]
      exact (hp.obj x c h5).mono (fun _ h => h) (fun _ _ => rfl) (fun x d h => .inl (htr x d h)) (fun _ _ => rfl)
  · intro x c hx
    rcases opn_al hx hol with ⟨rfl, rfl⟩ | ⟨rfl, h3, rfl⟩ | ⟨h3, h4, h5⟩
    · simp only [g', if_true]; exact hnd.1
    · simp only [g', if_neg (Nat.ne_of_lt h3), if_true]; exact hnd.2.1
    · simp only [g', if_neg (Nat.ne_of_lt h4), if_neg h3]; exact hp.nodup x c h5
  · intro x y c d hx hy hxy b' hb1 hb2
    rcases opn_al hx hol with ⟨rfl, rfl⟩ | ⟨rfl, h3, rfl⟩ | ⟨h3, h4, h5⟩ <;> rcases opn_al hy hol with ⟨rfl, rfl⟩ | ⟨rfl, k3, rfl⟩ | ⟨k3, k4, k5⟩
    · exact hxy rfl
    · simp only [g', if_true] at hb1
      simp only [g', if_neg (Nat.ne_of_lt k3), if_true] at hb2
      exact hnd.2.2 b' hb1 b' hb2 rfl
    · simp only [g', if_true] at hb1
      simp only [g', if_neg (Nat.ne_of_lt k4), if_neg k3] at hb2
      exact hp.apart o y cs d ho k5 (Ne.symm k3) b' (hmem _ (.inl hb1)) hb2
    · simp only [g', if_true] at hb2
      simp only [g', if_neg (Nat.ne_of_lt h3), if_true] at hb1
      exact hnd.2.2 b' hb2 b' hb1 rfl
    · exact hxy rfl
    · simp only [g', if_neg (Nat.ne_of_lt h3), if_true] at hb1
      simp only [g', if_neg (Nat.ne_of_lt k4), if_neg k3] at hb2
      exact hp.apart x y cs d ho k5 (Ne.symm k3) b' (hmem _ (.inr hb1)) hb2
    · simp only [g', if_true] at hb2
      simp only [g', if_neg (Nat.ne_of_lt h4), if_neg h3] at hb1
      exact hp.apart x o c cs h5 ho h3 b' hb1 (hmem _ (.inl hb2))
    · simp only [g', if_neg (Nat.ne_of_lt h4), if_neg h3] at hb1
      simp only [g', if_neg (Nat.ne_of_lt k3), if_true] at hb2
      exact hp.apart x y c cs h5 ho h3 b' hb1 (hmem _ (.inr hb2))
    · simp only [g', if_neg (Nat.ne_of_lt h4), if_neg h3] at hb1
      simp only [g', if_neg (Nat.ne_of_lt k4), if_neg k3] at hb2
      exact hp.apart x y c d h5 k5 hxy b' hb1 hb2
  · intro x c hx b' hb1
    rcases opn_al hx hol with ⟨rfl, rfl⟩ | ⟨rfl, h3, rfl⟩ | ⟨h3, h4, h5⟩
    · simp only [g', if_true] at hb1
      exact hp.free o cs ho b' (hmem _ (.inl hb1))
    · simp only [g', if_neg (Nat.ne_of_lt h3), if_true] at hb1
      exact hp.free x cs ho b' (hmem _ (.inr hb1))
    · simp only [g', if_neg (Nat.ne_of_lt h4), if_neg h3] at hb1
      exact hp.free x c h5 b' hb1
  · rcases opn_al hx hol with ⟨rfl, rfl⟩ | ⟨rfl, h3, rfl⟩ | ⟨h3, h4, h5⟩
    · simp only [g', if_true] at hb1
      exact ⟨o, cs, ho, hmem _ (.inl hb1)⟩
    · simp only [g', if_neg (Nat.ne_of_lt h3), if_true] at hb1
      exact ⟨x, cs, ho, hmem _ (.inr hb1)⟩
    · simp only [g', if_neg (Nat.ne_of_lt h4), if_neg h3] at hb1
      exact ⟨x, c, h5, hb1⟩

theorem Ref.openE (o i : Nat) {cs cs2 : List AV} {b k n : Nat} {kv : Value} (ho : H[o]? = some (some [.mpc cs])) (hi : cs[i]? = some (.ent b kv (.osl k n cs2))) :
    Ref n0 F H F (H.set o (some [.mpc (cs.set i (.ent b kv (.sl H.length k 0 n)))]) ++ [some cs2]) := Ref.splitO o ho rfl fun g w hp => by
  have h1 := hp.obj o _ ho
  cases hl : g.ρ o with
  | none => rw [hl] at h1; exact absurd (h1.1.gh _ (List.mem_singleton.2 rfl)) (by simp [ghA])
  | some l =>
    obtain ⟨r, base, sz⟩ := l
    rw [hl] at h1
    obtain ⟨u, bss, hblk, hr, hob⟩ := h1
    obtain ⟨hil, hie⟩ := List.getElem?_eq_some_iff.1 hi
    have h0 := hr 0 (by simp)
    simp only [List.getElem_cons_zero] at h0
    have hob' : g.ob o = r :: bss 0 := by rw [hob]; simp [List.range_succ]
    generalize bss 0 = bs0 at h0 hob'
    generalize hu : u 0 = u0 at h0
    cases h0 with
    | mpc bss' hbs' hl' hr' =>
      rename_i vs
      have h2 := hr' i hil
      rw [hie] at h2
      generalize hbi : bss' i = bsi at h2
      generalize hvi : vs.getD i undef = vi at h2
      cases h2 with
      | ent h3 =>
        rename_i v3
        have hnew : ∃ l2, (∀ (tr : Nat → Option (Option LocN)), (∀ x d, g.tr H x = some d → tr x = some d) → ObjR w tr g.G cs2 bsi l2) ∧ SlAt l2 k 0 n v3 ∧ v3.oneCell' = true ∧ n * k ≤ cs2.length := by
          cases h3 with
          | osl u2 bss2 hl2 hn hm hb2 hs hc2 hr2 =>
            rename_i b2 off2 cap2 arr2 elem2
            have hnk : n * k ≤ cap2 * k := Nat.mul_le_mul_right _ hn
            exact ⟨some (b2, off2, arr2.size), fun tr ht => .ofCells ⟨arr2, elem2, u2, bss2, hb2, rfl, by omega, hc2, fun m hm => (hr2 m hm).mono (fun _ h => h) (fun _ _ => rfl) (fun x d h => .inl (ht x d h)) (fun _ _ => rfl), rfl⟩, ⟨cap2, hn, hm, by omega, .inl (by simp)⟩, rfl, by omega⟩
          | osl0 =>
            rename_i a0
            exact ⟨none, fun _ _ => ObjR.nil, ⟨rfl, a0, rfl⟩, rfl, by omega⟩
        obtain ⟨l2, hO2, hS2, hv2, hnk⟩ := hnew
        let bss2 : Nat → List Nat := fun m => if m = i then [] else bss' m
        have hp2 : ((List.range cs.length).flatMap bss').Perm (bsi ++ (List.range cs.length).flatMap bss2) := by
          have e : bss' = fun m => if m = i then bsi else bss2 m := by
            funext m
            by_cases e : m = i
            · subst e; simp [hbi]
            · simp [bss2, e]
          conv => lhs; rw [e]
          exact flatMap_upd hil (by simp [bss2]) bsi
        refine ⟨l2, bsi, r :: (List.range cs.length).flatMap bss2, fun tr ht hn => ⟨hO2 tr ht, ?_⟩, ?_⟩
        · refine ⟨u, fun _ => (List.range cs.length).flatMap bss2, hblk, fun m hm => ?_, by simp [List.range_succ]⟩
          simp only [List.length_cons, List.length_nil, Nat.zero_add] at hm
          obtain rfl : m = 0 := by omega
          simp only [List.getElem_cons_zero]
          rw [hu]
          refine .mpc bss2 (by rw [List.length_set]) (by rw [List.length_set]; exact hl') fun m hm => ?_
          simp only [List.length_set] at hm
          by_cases e : m = i
          · subst e
            simp only [List.getElem_set_self, bss2, if_true]
            rw [hvi]
            refine .ent (.sl (by rw [hn]; rfl) hv2 fun l hl => ?_)
            rw [hn] at hl
            obtain rfl := Option.some.inj (Option.some.inj hl)
            exact ⟨by dsimp only; omega, hS2⟩
          · rw [List.getElem_set_ne (Ne.symm e)]
            simp only [bss2, if_neg e]
            exact (hr' m hm).mono (fun _ h => h) (fun _ _ => rfl) (fun x d h => .inl (ht x d h)) (fun _ _ => rfl)
        · rw [hob', hbs']
          exact (hp2.cons r).trans List.perm_middle.symm
end Go.Gov
