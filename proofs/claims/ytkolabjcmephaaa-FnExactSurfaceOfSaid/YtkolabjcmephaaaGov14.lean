/- One state told as another: objects renumbered, a slice closed into the cell that alone holds it. -/
import Derived.Test.YtkolabjcmephaaaGov13
set_option linter.unusedSimpArgs false
set_option linter.unusedVariables false
namespace Go.Gov
variable {P : Program} {N : Nat} {g : Gh} {F : Frame} {H : Heap} {a : Act} {w : World} {M : List Nat} {n0 : Nat}

mutual
def rnm (τ : Nat → Option Nat) : AV → AV
  | .sl o k off len => match τ o with
    | some o' => .sl o' k off len
    | none => .any
  | .ref o j => match τ o with
    | some o' => .ref o' j
    | none => .any
  | .cnd b x => .cnd b (rnm τ x)
  | .slc k n cs => .slc k n (rnmL τ cs)
  | .pto cs j => .pto (rnmL τ cs) j
  | .osl k n cs => .osl k n (rnmL τ cs)
  | .agg cs => .agg (rnmL τ cs)
  | .tup cs => .tup (rnmL τ cs)
  | .clo f fs cs => .clo f (rnmL τ fs) (rnmL τ cs)
  | .any => .any
  | .val v => .val v
def rnmL (τ : Nat → Option Nat) : List AV → List AV
  | [] => []
  | x :: l => rnm τ x :: rnmL τ l
end

theorem rnmL_map (τ : Nat → Option Nat) : ∀ l : List AV, rnmL τ l = l.map (rnm τ)
  | [] => rfl
  | x :: l => by rw [rnmL, rnmL_map τ l, List.map_cons]

theorem rnm_rd {τ : Nat → Option Nat} {tr tr' : Nat → Option (Option LocN)} {G : Nat → Prop} (ht : ∀ o o' d, τ o = some o' → tr o = some d → tr' o' = some d ∨ tr' o' = some none) {x : AV} {v : Value} {bs : List Nat}
    (h : Rd w tr G x v bs) : Rd w tr' G (rnm τ x) v bs := by
  induction h with
  | any => exact .any
  | val => exact .val
  | cndF => exact .cndF
  | cndT _ ih => exact .cndT ih
  | slc u hl hn hm hg hc _ ih =>
    simp only [rnm, rnmL_map]
    exact .slc u (by simpa using hl) hn hm hg (fun m hm' => hc m (by simpa using hm')) (fun m hm' => by simp only [List.getElem_map]; exact ih m (by simpa using hm'))
  | slc0 hm => simp only [rnm, rnmL]; exact .slc0 hm
  | pto u hg hc _ ih =>
    simp only [rnm, rnmL_map]
    exact .pto u hg (fun m hm' => hc m (by simpa using hm')) (fun m hm' => by simp only [List.getElem_map]; exact ih m (by simpa using hm'))
  | sl h0 hv h =>
    simp only [rnm]
    split
    · rename_i o' ho'
      obtain ⟨d, hd⟩ := Option.isSome_iff_exists.1 h0
      refine .sl ?_ hv fun l hl => ?_
      · rcases ht _ _ d ho' hd with h' | h' <;> simp [h']
      · rcases ht _ _ d ho' hd with h' | h'
        · exact h l (by rw [hd, ← h', hl])
        · rw [h'] at hl; cases hl
    · exact .any
  | ref h0 hv h =>
    simp only [rnm]
    split
    · rename_i o' ho'
      obtain ⟨d, hd⟩ := Option.isSome_iff_exists.1 h0
      refine .ref ?_ hv fun l hl => ?_
      · rcases ht _ _ d ho' hd with h' | h' <;> simp [h']
      · rcases ht _ _ d ho' hd with h' | h'
        · exact h l (by rw [hd, ← h', hl])
        · rw [h'] at hl; cases hl
    · exact .any
  | osl u bss hl hn hm hb hs hc hr ih =>
    rename_i k n cs b off cap arr elem
    simp only [rnm, rnmL_map]
    have := Rd.osl (tr := tr') (G := G) (cs := cs.map (rnm τ)) u bss (by simpa using hl) hn hm hb hs (fun m hm' => hc m (by simpa using hm')) (fun m hm' => by
      simp only [List.getElem_map]; exact ih m (by simpa using hm'))
    simpa only [List.length_map] using this
  | osl0 => simp only [rnm, rnmL]; exact .osl0
  | agg hl _ ih => simp only [rnm, rnmL_map]; exact .agg (by simpa using hl) (fun m hm => by simp only [List.getElem_map]; exact ih m (by simpa using hm))
  | tup hl _ ih => simp only [rnm, rnmL_map]; exact .tup (by simpa using hl) (fun m hm => by simp only [List.getElem_map]; exact ih m (by simpa using hm))
  | clo hf _ hl _ ihf ih =>
    simp only [rnm, rnmL_map]
    exact .clo (by simpa using hf) (fun m hm => by simp only [List.getElem_map]; exact ihf m (by simpa using hm)) (by simpa using hl) (fun m hm => by simp only [List.getElem_map]; exact ih m (by simpa using hm))

def gcT : List Nat → Nat → Nat → Option Nat
  | [], _, _ => none
  | k :: ks, i, o => if o = k then some i else gcT ks (i + 1) o
def gcF (ks : List Nat) : Frame → Frame
  | [] => []
  | (j, x) :: l => (j, rnm (gcT ks 0) x) :: gcF ks l
def gcC (ks : List Nat) : Option (List AV) → Option (List AV)
  | some cs => some (rnmL (gcT ks 0) cs)
  | none => none
def gcH (ks : List Nat) (H : Heap) : Heap := ks.map fun o => gcC ks (H.getD o none)
/-- The numbers that are kept, in their new order. -/
def gcOk (ks : List Nat) (n n0 : Nat) : Bool := decide ks.Nodup && ks.all (fun o => decide (o < n)) && decide (ks.take n0 = List.range n0)

theorem gcT_some : ∀ (ks : List Nat) (i o o' : Nat), gcT ks i o = some o' → ∃ m, o' = i + m ∧ ks[m]? = some o
  | [], i, o, o', h => by cases h
  | k :: ks, i, o, o', h => by
    simp only [gcT] at h
    split at h
    · rename_i e; cases h; exact ⟨0, rfl, by simp [e]⟩
    · obtain ⟨m, hm, hk⟩ := gcT_some ks (i + 1) o o' h
      exact ⟨m + 1, by omega, by simpa using hk⟩

theorem gcF_get (ks : List Nat) : ∀ (F : Frame) (j : Nat), fget (gcF ks F) j = rnm (gcT ks 0) (fget F j)
  | [], j => rfl
  | (i, x) :: l, j => by
    simp only [gcF, get_put]
    split
    · rfl
    · exact gcF_get ks l j

theorem Ref.gc (ks : List Nat) {F' : Frame} {H' : Heap} (hk : gcOk ks H.length n0 = true) (hH : gcH ks H = H') (hF : sub (gcF ks F) F') : Ref n0 F H F' H' := fun N g a w hR => by
  subst hH
  simp only [gcOk, Bool.and_eq_true, decide_eq_true_eq, List.all_eq_true] at hk
  obtain ⟨⟨hnd, hlt⟩, h0⟩ := hk
  let g' : Gh := ⟨fun o => g.ρ (ks.getD o 0), fun o => g.ob (ks.getD o 0), g.G⟩
  have hget : ∀ (o' o : Nat), ks[o']? = some o → g'.tr (gcH ks H) o' = g.tr H o := fun o' o ho => by
    have hl : o < H.length := hlt o (List.mem_of_getElem? ho)
    have e1 : (gcH ks H)[o']? = some (gcC ks (H.getD o none)) := by simp only [gcH, List.getElem?_map, ho, Option.map_some]
    have e2 : H[o]? = some (H.getD o none) := by simp [hl]
    have e3 : g'.ρ o' = g.ρ o := by simp [g', List.getD, ho]
    unfold Gh.tr
    rw [e1, e2, e3]
    cases H.getD o none with
    | none => rfl
    | some cs => simp only [gcC, rnmL_map, List.length_map]
  have hτ : ∀ o o' d, gcT ks 0 o = some o' → g.tr H o = some d → g'.tr (gcH ks H) o' = some d ∨ g'.tr (gcH ks H) o' = some none := fun o o' d h hd => by
    obtain ⟨m, rfl, hm⟩ := gcT_some ks 0 o o' h
    left; rw [Nat.zero_add, hget m o hm, hd]
  have hal : ∀ o' c, (gcH ks H)[o']? = some (some c) → ∃ o cs, ks[o']? = some o ∧ H[o]? = some (some cs) ∧ c = rnmL (gcT ks 0) cs ∧ g'.ρ o' = g.ρ o ∧ g'.ob o' = g.ob o := fun o' c h => by
    simp only [gcH, List.getElem?_map, Option.map_eq_some_iff] at h
    obtain ⟨o, ho, he⟩ := h
    have hl : o < H.length := hlt o (List.mem_of_getElem? ho)
    cases hc : H.getD o none with
    | none => rw [hc] at he; cases he
    | some cs =>
      rw [hc] at he
      refine ⟨o, cs, ho, ?_, (Option.some.inj he).symm, by simp [g', List.getD, ho], by simp [g', List.getD, ho]⟩
      have : H[o]? = some (H.getD o none) := by simp [hl]
      rw [this, hc]
  have hinj : ∀ i j o, ks[i]? = some o → ks[j]? = some o → i = j := fun i j o hi hj => by
    obtain ⟨hi1, hi2⟩ := List.getElem?_eq_some_iff.1 hi
    obtain ⟨hj1, hj2⟩ := List.getElem?_eq_some_iff.1 hj
    exact (List.getElem_inj hnd).1 (hi2.trans hj2.symm)
  have hp := hR.hp
  have hp' : HeapR g' (gcH ks H) w := by
    refine ⟨?_, ?_, ?_, ?_, hp.low⟩
    · intro o' c ho
      obtain ⟨o, cs, hk, hc, rfl, e1, e2⟩ := hal o' c ho
      rw [e1, e2]
      have h1 := hp.obj o cs hc
      cases hl : g.ρ o with
      | none => rw [hl] at h1; obtain ⟨rfl, h2⟩ := h1; exact ⟨rfl, h2⟩
      | some l =>
        obtain ⟨b, base, sz⟩ := l
        rw [hl] at h1
        obtain ⟨arr, elem, u, bss, hb, h2, h3, h4, h5, h6⟩ := h1
        refine ⟨arr, elem, u, bss, hb, h2, by simpa [rnmL_map] using h3, fun m hm => h4 m (by simpa [rnmL_map] using hm), fun m hm => ?_, by simpa [rnmL_map] using h6⟩
        simp only [rnmL_map, List.length_map] at hm
        simp only [rnmL_map, List.getElem_map]
        exact rnm_rd hτ (h5 m hm)
    · intro o' c ho
      obtain ⟨o, cs, hk, hc, rfl, e1, e2⟩ := hal o' c ho
      rw [e2]; exact hp.nodup o cs hc
    · intro o' o2' c c2 ho ho2 hne b hb
      obtain ⟨o, cs, hk, hc, rfl, e1, e2⟩ := hal o' c ho
      obtain ⟨o2, cs2, hk2, hc2, rfl, e12, e22⟩ := hal o2' c2 ho2
      rw [e2] at hb
      rw [e22]
      refine hp.apart o o2 cs cs2 hc hc2 (fun e => hne ?_) b hb
      subst e; exact hinj _ _ _ hk hk2
    · intro o' c ho b hb
      obtain ⟨o, cs, hk, hc, rfl, e1, e2⟩ := hal o' c ho
      rw [e2] at hb
      exact hp.free o cs hc b hb
  refine ⟨g', ⟨fun j => ?_, hp', hR.size, hR.defers⟩, hp', ⟨rfl, rfl, rfl, Nat.le_refl _, fun _ _ _ => rfl, fun b ⟨o', c, ho, hb⟩ => .inl ?_, fun _ h => h, fun _ h => .inl h, fun _ _ => rfl⟩, fun o d ho hd => .inl ?_⟩
  · rcases sub_get hF j with e | e
    · rw [e]; exact .any
    · rw [e, gcF_get]; exact rnm_rd hτ (hR.fr j)
  · obtain ⟨o, cs, hk, hc, rfl, e1, e2⟩ := hal o' c ho
    rw [e2] at hb
    exact ⟨o, cs, hc, hb⟩
  · have : ks[o]? = some o := by
      have h1 : (ks.take n0)[o]? = (List.range n0)[o]? := by rw [h0]
      rw [List.getElem?_take_of_lt ho, List.getElem?_range ho] at h1
      exact h1
    rw [hget o o this, hd]

theorem flatMap_upd {bss : Nat → List Nat} {j n : Nat} (hj : j < n) (h0 : bss j = []) (bs : List Nat) :
    List.Perm ((List.range n).flatMap fun m => if m = j then bs else bss m) (bs ++ (List.range n).flatMap bss) := by
  obtain ⟨s, t, he⟩ := List.append_of_mem (List.mem_range.2 hj)
  have hnd : (List.range n).Nodup := List.nodup_range
  rw [he] at hnd ⊢
  have h1 := List.nodup_append.1 hnd
  have hs : j ∉ s := fun h => h1.2.2 j h j (by simp) rfl
  have ht : j ∉ t := (List.nodup_cons.1 h1.2.1).1
  have c : ∀ l : List Nat, j ∉ l → (l.flatMap fun m => if m = j then bs else bss m) = l.flatMap bss := fun l hl => by
    rw [List.flatMap_def, List.flatMap_def]
    congr 1
    refine List.map_congr_left fun m hm => ?_
    exact if_neg (fun e : m = j => hl (e ▸ hm))
  simp only [List.flatMap_append, List.flatMap_cons, if_true, c s hs, c t ht, h0, List.nil_append]
  exact List.perm_append_comm_assoc _ _ _

/-- A slice that one cell alone holds is told in the cell. -/
theorem Ref.close (o j o2 : Nat) {cs cs2 : List AV} {k n : Nat} (ho : H[o]? = some (some cs)) (hj : cs[j]? = some (.sl o2 k 0 n)) (h2 : H[o2]? = some (some cs2)) (hne : o ≠ o2) (hlen : cs2.length = n * k) :
    Ref n0 F H F ((H.set o (some (cs.set j (.osl k n cs2)))).set o2 none) := fun N g a w hR => by
  have hp := hR.hp
  obtain ⟨hjl, hje⟩ := List.getElem?_eq_some_iff.1 hj
  have h1 := hp.obj o cs ho
  cases hl : g.ρ o with
  | none => rw [hl] at h1; obtain ⟨rfl, _⟩ := h1; simp at hjl
  | some l =>
    obtain ⟨b, base, sz⟩ := l
    rw [hl] at h1
    obtain ⟨arr, elem, u, bss, hb, hsz, hbase, hc, hr, hob⟩ := h1
    have hrj := hr j hjl
    rw [hje] at hrj
    have hbj : bss j = [] := by
      generalize bss j = x at hrj
      cases hrj; rfl
    obtain ⟨bs', hsub, hrd⟩ : ∃ bs', bs'.Sublist (g.ob o2) ∧ Rd w (g.tr H) g.G (.osl k n cs2) (u j) bs' := by
      generalize u j = x, bss j = y at hrj
      cases hrj with
      | sl h0 hv h =>
        obtain ⟨_, hS⟩ := h _ (Gh.tr_some (g := g) h2)
        have h3 := hp.obj o2 cs2 h2
        dsimp only at hS
        cases hl2 : g.ρ o2 with
        | none =>
          rw [hl2] at hS h3
          obtain ⟨rfl, a0, rfl⟩ := hS
          obtain ⟨rfl, _⟩ := h3
          exact ⟨[], List.nil_sublist _, .osl0⟩
        | some l2 =>
          obtain ⟨b2, base2, sz2⟩ := l2
          rw [hl2] at hS h3
          obtain ⟨cap, hn, hm, hs, hv⟩ := hS
          obtain ⟨arr2, elem2, u2, bss2, hb2, hsz2, hbase2, hc2, hr2, hob2⟩ := h3
          rcases hv with rfl | ⟨rfl, a0, rfl⟩
          · refine ⟨g.ob o2, List.Sublist.refl _, ?_⟩
            rw [hob2]
            exact .osl u2 bss2 hlen hn hm hb2 (by omega) hc2 hr2
          · have : n = 0 := by omega
            subst this
            have : cs2 = [] := List.eq_nil_of_length_eq_zero (by simpa using hlen)
            subst this
            exact ⟨[], List.nil_sublist _, .osl0⟩
    let bss' : Nat → List Nat := fun m => if m = j then bs' else bss m
    let nb := b :: (List.range cs.length).flatMap bss'
    let g' : Gh := ⟨g.ρ, fun x => if x = o then nb else g.ob x, g.G⟩
    have hperm : List.Perm nb (bs' ++ g.ob o) := by
      rw [hob]
      exact ((flatMap_upd hjl hbj bs').cons b).trans List.perm_middle.symm
    have hmem : ∀ y, y ∈ nb → y ∈ g.ob o2 ∨ y ∈ g.ob o := fun y hy => (List.mem_append.1 (hperm.mem_iff.1 hy)).imp (fun h => hsub.subset h) id
    let H' : Heap := (H.set o (some (cs.set j (.osl k n cs2)))).set o2 none
    have hol : o < H.length := (List.getElem?_eq_some_iff.1 ho).1
    have hal : ∀ x c, H'[x]? = some (some c) → x ≠ o2 ∧ ((x = o ∧ c = cs.set j (.osl k n cs2)) ∨ (x ≠ o ∧ H[x]? = some (some c))) := fun x c h => by
      obtain ⟨h3, h4⟩ := alive_kill h
      exact ⟨h3, set_get h4⟩
    have htr : ∀ x d, g.tr H x = some d → g'.tr H' x = some d ∨ g'.tr H' x = some none := fun x d hd => by
      by_cases e : o2 = x
      · subst e
        right
        have : o2 < H.length := (List.getElem?_eq_some_iff.1 h2).1
        simp [Gh.tr, H', this]
      · left
        unfold Gh.tr at *
        rw [List.getElem?_set_ne e]
        by_cases e1 : o = x
        · subst e1
          rw [List.getElem?_set_self hol]
          rw [ho] at hd
          simpa [g'] using hd
        · rw [List.getElem?_set_ne e1]; exact hd
    have lift : ∀ x v bs, Rd w (g.tr H) g.G x v bs → Rd w (g'.tr H') g'.G x v bs := fun x v bs h => h.mono (fun _ h => h) (fun _ _ => rfl) htr (fun _ _ => rfl)
    have hp' : HeapR g' H' w := by
      refine ⟨?_, ?_, ?_, ?_, hp.low⟩
      · intro x c hx
        obtain ⟨h3, ⟨rfl, rfl⟩ | ⟨h4, h5⟩⟩ := hal x c hx
        · show ObjR w _ _ _ (g'.ob x) (g.ρ x)
          rw [hl]
          have e2 : g'.ob x = nb := by simp [g']
          rw [e2]
          refine ⟨arr, elem, u, bss', hb, hsz, by simpa using hbase, fun m hm => hc m (by simpa using hm), fun m hm => ?_, by simp [nb]⟩
          simp only [List.length_set] at hm
          by_cases e : m = j
          · subst e
            simp only [List.getElem_set_self, bss', if_true]
            exact lift _ _ _ hrd
          · rw [List.getElem_set_ne (Ne.symm e)]
            simp only [bss', if_neg e]
            exact lift _ _ _ (hr m hm)
        · have e2 : g'.ob x = g.ob x := by simp [g', h4]
          show ObjR w _ _ _ (g'.ob x) (g.ρ x)
          rw [e2]
          exact (hp.obj x c h5).mono (fun _ h => h) (fun _ _ => rfl) htr (fun _ _ => rfl)
      · intro x c hx
        obtain ⟨h3, ⟨rfl, rfl⟩ | ⟨h4, h5⟩⟩ := hal x c hx
        · have e2 : g'.ob x = nb := by simp [g']
          rw [e2, hperm.nodup_iff, List.nodup_append]
          exact ⟨hsub.nodup (hp.nodup o2 cs2 h2), hp.nodup x cs ho, fun y hy z hz e => hp.apart x o2 cs cs2 ho h2 hne z hz (e ▸ hsub.subset hy)⟩
        · have e2 : g'.ob x = g.ob x := by simp [g', h4]
          rw [e2]; exact hp.nodup x c h5
      · intro x y c d hx hy hxy b' h1 h4
        obtain ⟨h5, ⟨rfl, rfl⟩ | ⟨h6, h7⟩⟩ := hal x c hx <;> obtain ⟨k5, ⟨rfl, rfl⟩ | ⟨k6, k7⟩⟩ := hal y d hy
        · exact hxy rfl
        · simp only [g', if_true] at h1
          simp only [g', if_neg k6] at h4
          rcases hmem b' h1 with h | h
          · exact hp.apart o2 y cs2 d h2 k7 (Ne.symm k5) b' h h4
          · exact hp.apart x y cs d ho k7 (Ne.symm k6) b' h h4
        · simp only [g', if_neg h6] at h1
          simp only [g', if_true] at h4
          rcases hmem b' h4 with h | h
          · exact hp.apart x o2 c cs2 h7 h2 h5 b' h1 h
          · exact hp.apart x y c cs h7 ho h6 b' h1 h
        · simp only [g', if_neg h6] at h1
          simp only [g', if_neg k6] at h4
          exact hp.apart x y c d h7 k7 hxy b' h1 h4
      · intro x c hx b' h1
        obtain ⟨h5, ⟨rfl, rfl⟩ | ⟨h6, h7⟩⟩ := hal x c hx
        · simp only [g', if_true] at h1
          rcases hmem b' h1 with h | h
          · exact hp.free o2 cs2 h2 b' h
          · exact hp.free x cs ho b' h
        · simp only [g', if_neg h6] at h1
          exact hp.free x c h7 b' h1
    refine ⟨g', ⟨fun i => lift _ _ _ (hR.fr i), hp', hR.size, hR.defers⟩, hp', ⟨rfl, rfl, rfl, Nat.le_refl _, fun _ _ _ => rfl, fun b' ⟨x, c, hx, h1⟩ => .inl ?_, fun _ h => h, fun _ h => .inl h, fun _ _ => rfl⟩, fun x d _ hd => htr x d hd⟩
    obtain ⟨h5, ⟨rfl, rfl⟩ | ⟨h6, h7⟩⟩ := hal x c hx
    · simp only [g', if_true] at h1
      rcases hmem b' h1 with h | h
      · exact ⟨o2, cs2, h2, h⟩
      · exact ⟨x, cs, ho, h⟩
    · simp only [g', if_neg h6] at h1
      exact ⟨x, c, h7, h1⟩

theorem Ref.to {F' : Frame} {H' : Heap} (hH : H = H') (h : sub F F') : Ref n0 F H F' H' := hH ▸ Ref.frame h

theorem rnmL_ints (τ : Nat → Option Nat) (xs : List Int) : rnmL τ (intsC xs) = intsC xs := by simp [rnmL_map, intsC, rnm]
theorem rnmL_bools (τ : Nat → Option Nat) (xs : List Bool) : rnmL τ (boolsC xs) = boolsC xs := by simp [rnmL_map, boolsC, rnm]
theorem rnmL_rows (τ : Nat → Option Nat) (xss : List (List Int)) : rnmL τ (xss.map ints) = xss.map ints := by
  rw [rnmL_map, List.map_map]; exact List.map_congr_left fun xs _ => by simp only [Function.comp_apply, ints, rnm, rnmL_ints]
theorem rnmL_orows (τ : Nat → Option Nat) (xss : List (List Int)) : rnmL τ (xss.map oints) = xss.map oints := by
  rw [rnmL_map, List.map_map]; exact List.map_congr_left fun xs _ => by simp only [Function.comp_apply, oints, rnm, rnmL_ints]
theorem rnmL_app (τ : Nat → Option Nat) (a b : List AV) : rnmL τ (a ++ b) = rnmL τ a ++ rnmL τ b := by simp [rnmL_map]
theorem rnmL_rep (τ : Nat → Option Nat) (n : Nat) (x : AV) : rnmL τ (List.replicate n x) = List.replicate n (rnm τ x) := by simp [rnmL_map]
theorem rnmL_set (τ : Nat → Option Nat) (a : List AV) (i : Nat) (x : AV) : rnmL τ (a.set i x) = (rnmL τ a).set i (rnm τ x) := by simp [rnmL_map, List.map_set]

/-- What a call made is told anew: the objects kept, in their new order. -/
theorem CallsX.gc {f : FuncId} {args : List AV} {K K' : AV → Heap → Prop} (ks : List Nat) (h : CallsX P true f args [] K') (hk : ∀ av H', K' av H' → gcOk ks H'.length 0 = true ∧ K (rnm (gcT ks 0) av) (gcH ks H')) : CallsX P true f args [] K :=
  fun g w vals hp hl hr => (h g w vals hp hl hr).mono fun _ w' ⟨v, g', av, H', he, hm, hx, hext, hkk⟩ => by
    obtain ⟨h1, h2⟩ := hk av H' hkk
    have hR : R 1 g' [(0, av)] H' { tmps := #[v], defers := [] } w' := by
      refine ⟨fun j => ?_, hm.hp, rfl, rfl⟩
      simp only [get_put]
      by_cases e : 0 = j
      · rw [if_pos e]; subst e; exact hx
      · rw [if_neg e]; exact .any
    obtain ⟨g2, hR2, hm2⟩ := Ref.gc (n0 := 0) (F := [(0, av)]) ks (F' := [(0, rnm (gcT ks 0) av)]) h1 rfl (by simp [sub, fget, gcF]) 1 g' _ w' hR
    have hx2 := hR2.fr 0
    simp only [get_put, if_true] at hx2
    have hmn : MvN 0 g [] w g2 (gcH ks H') w' := (hm.toN).trans hm2
    exact ⟨v, g2, _, _, he, MvN.toMv hp hmn, hx2, fun h => hext h, h2⟩

/-- .. for a function that gives a value that leans on nothing. -/
theorem pure_of_W0 {f : FuncId} {ac : ACode} {rs : List AOp} {args : List AV} {x : AV} (hc : compileFn P M f = some (N, ac, rs)) (hl : decide (args.length ≤ N) = true) (hx : rnm (gcT [] 0) x = x) (hW : W P M N 0 ac (endQ rs fun av _ => av = x) (mkF 0 args) []) : Pure P f args x [] :=
  CallsX.gc [] ((calls_of_W hc (of_decide_eq_true hl) hW).ext_nil) (by rintro av H' rfl; exact ⟨rfl, hx, rfl⟩)

/-- .. for a function that gives what it made. -/
theorem pure_of_Wg {f : FuncId} {ac : ACode} {rs : List AOp} {args : List AV} {x : AV} {H0 : Heap} (ks : List Nat) (hc : compileFn P M f = some (N, ac, rs)) (hl : decide (args.length ≤ N) = true) (hW : W P M N 0 ac (endQ rs fun av H' => gcOk ks H'.length 0 = true ∧ rnm (gcT ks 0) av = x ∧ gcH ks H' = H0) (mkF 0 args) []) : Pure P f args x H0 :=
  CallsX.gc ks ((calls_of_W hc (of_decide_eq_true hl) hW).ext_nil) fun _ _ ⟨h1, h2, h3⟩ => ⟨h1, h2, h3⟩

theorem take_all_orows (xss : List (List Int)) : (xss.map oints).take (xss.length * 1) = xss.map oints := by rw [Nat.mul_one]; exact List.take_of_length_le (by simp)
theorem cells_agg (cs : List AV) : cellsOf (.agg cs) = some cs := rfl
theorem cells_i64 (n : Int) (k : IntKind) : cellsOf (.val (.int k n)) = some [.val (.int k n)] := rfl
theorem cells_bl (n : Bool) : cellsOf (bl n) = some [bl n] := rfl
theorem cells_nil (a : Option Addr) (n c : Nat) : cellsOf (.val (.slice a n c)) = some [.val (.slice a n c)] := rfl
theorem cells_str (s : ByteArray) : cellsOf (.val (.string s)) = some [.val (.string s)] := rfl
theorem cells_slc (k n : Nat) (cs : List AV) : cellsOf (.slc k n cs) = some [.slc k n cs] := rfl
theorem cells_pto (cs : List AV) (j : Nat) : cellsOf (.pto cs j) = some [.pto cs j] := rfl
theorem cells_sl (o k off len : Nat) : cellsOf (.sl o k off len) = some [.sl o k off len] := rfl
theorem cells_ref (o j : Nat) : cellsOf (.ref o j) = some [.ref o j] := rfl
theorem cells_clo (f : FuncId) (a b : List AV) : cellsOf (.clo f a b) = some [.clo f a b] := rfl
theorem one_int (n : Int) (k : IntKind) : oneA (.val (.int k n)) = true := rfl
theorem one_bl (n : Bool) : oneA (bl n) = true := rfl
theorem one_nil (a : Option Addr) (n c : Nat) : oneA (.val (.slice a n c)) = true := rfl
theorem one_str (s : ByteArray) : oneA (.val (.string s)) = true := rfl
theorem one_slc (k n : Nat) (cs : List AV) : oneA (.slc k n cs) = true := rfl
theorem one_pto (cs : List AV) (j : Nat) : oneA (.pto cs j) = true := rfl
theorem one_sl (o k off len : Nat) : oneA (.sl o k off len) = true := rfl
theorem one_ref (o j : Nat) : oneA (.ref o j) = true := rfl
theorem one_clo (f : FuncId) (a b : List AV) : oneA (.clo f a b) = true := rfl
theorem splice_one (cs : List AV) (j : Nat) (v : AV) : splice cs j [v] = cs.set j v := rfl
theorem splice_three (x y z a b c : AV) : splice [x, y, z] 0 [a, b, c] = [a, b, c] := rfl
theorem splice_two (x y a b : AV) : splice [x, y] 0 [a, b] = [a, b] := rfl
theorem mk_one (v : Value) (n : Nat) : mkCells [v] n = List.replicate n (.val v) := rfl
theorem getD_intsC_any (xs : List Int) (i : Nat) (h : i < xs.length) : (intsC xs).getD i .any = i64 (xs.getD i 0) := by simp [intsC, h]

end Go.Gov
