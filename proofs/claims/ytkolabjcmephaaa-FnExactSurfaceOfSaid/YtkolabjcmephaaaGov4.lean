/- The ghost over a write: an object forgotten, a new one, one written; what a loud operation asks. -/
import Derived.Test.YtkolabjcmephaaaGov3
import Derived.Laws.MakeOwn
set_option linter.unusedSimpArgs false
set_option linter.unusedVariables false
namespace Go.Gov
variable {P : Program} {N : Nat} {g : Gh} {F : Frame} {H : Heap} {a : Act} {w : World}

/-- From one state's ghost to the next one's. -/
structure Mv (g : Gh) (H : Heap) (w : World) (g' : Gh) (H' : Heap) (w' : World) : Prop where
  hp : HeapR g' H' w'
  stp : Step w w' (g.owns H) (g'.owns H') g.G g'.G
  lift : ∀ x v, Rd w (g.tr H) g.G x v [] → Rd w' (g'.tr H') g'.G x v []
  trk : ∀ o d, g.tr H o = some d → g'.tr H' o = some d ∨ g'.tr H' o = some none

theorem Mv.refl (hp : HeapR g H w) : Mv g H w g H w := ⟨hp, Step.refl _ _ _, fun _ _ h => h, fun _ _ h => .inl h⟩
theorem Mv.trans {g' g'' : Gh} {H' H'' : Heap} {w' w'' : World} (h : Mv g H w g' H' w') (k : Mv g' H' w' g'' H'' w'') : Mv g H w g'' H'' w'' :=
  ⟨k.hp, h.stp.trans k.stp, fun x v hx => k.lift x v (h.lift x v hx), fun o d hd => (h.trk o d hd).elim (fun h1 => k.trk o d h1) (fun h1 => .inr ((k.trk o none h1).elim id id))⟩

theorem tr_kill (g : Gh) (H : Heap) (o : Nat) (o' : Nat) (d : Option LocN) (h : g.tr H o' = some d) : g.tr (H.set o none) o' = some d ∨ g.tr (H.set o none) o' = some none := by
  unfold Gh.tr at *
  by_cases e : o = o'
  · subst e
    by_cases hlt : o < H.length
    · right; simp [hlt]
    · rw [List.getElem?_eq_none (by omega)] at h; cases h
  · left; rw [List.getElem?_set_ne e]; exact h

theorem alive_kill {H : Heap} {o o' : Nat} {cs : List AV} (h : (H.set o none)[o']? = some (some cs)) : o' ≠ o ∧ H[o']? = some (some cs) := by
  by_cases e : o = o'
  · subst e
    by_cases hlt : o < H.length
    · simp [hlt] at h
    · rw [List.getElem?_eq_none (by simp; omega)] at h; cases h
  · rw [List.getElem?_set_ne e] at h; exact ⟨fun h => e h.symm, h⟩

/-- An object is forgotten: its blocks belong to nobody. -/
theorem kill_hp (hp : HeapR g H w) (o : Nat) : HeapR g (H.set o none) w :=
  ⟨fun o' cs h => (hp.obj o' cs (alive_kill h).2).mono (fun _ h => h) (fun _ _ => rfl) (tr_kill g H o) (fun _ _ => rfl),
    fun o' cs h => hp.nodup o' cs (alive_kill h).2, fun o1 o2 c1 c2 h1 h2 => hp.apart o1 o2 c1 c2 (alive_kill h1).2 (alive_kill h2).2,
    fun o' cs h => hp.free o' cs (alive_kill h).2, hp.low⟩

theorem kill_rd {o : Nat} {x : AV} {v : Value} {bs : List Nat} (h : Rd w (g.tr H) g.G x v bs) : Rd w (g.tr (H.set o none)) g.G x v bs :=
  h.mono (fun _ h => h) (fun _ _ => rfl) (tr_kill g H o) (fun _ _ => rfl)

theorem kill_mv (hp : HeapR g H w) (o : Nat) : Mv g H w g (H.set o none) w :=
  ⟨kill_hp hp o, ⟨rfl, rfl, rfl, Nat.le_refl _, fun _ _ _ => rfl, fun b ⟨o', cs, h1, h2⟩ => .inl ⟨o', cs, (alive_kill h1).2, h2⟩, fun _ h => h, fun _ h => .inl h, fun _ _ => rfl⟩, fun _ _ h => kill_rd h, tr_kill g H o⟩

def Gh.add (g : Gh) (n : Nat) (l : Loc) (bs : List Nat) : Gh := ⟨fun o => if o = n then l else g.ρ o, fun o => if o = n then bs else g.ob o, g.G⟩

theorem app_get {H : Heap} {x : Option (List AV)} {o : Nat} {cs : List AV} (h : (H ++ [x])[o]? = some (some cs)) : (o < H.length ∧ H[o]? = some (some cs)) ∨ (o = H.length ∧ x = some cs) := by
  rcases Nat.lt_trichotomy o H.length with hlt | rfl | hgt
  · left; rw [List.getElem?_append_left hlt] at h; exact ⟨hlt, h⟩
  · right; simp at h; exact ⟨rfl, h⟩
  · rw [List.getElem?_eq_none (by simp; omega)] at h; cases h

theorem tr_add (g : Gh) (H : Heap) (l : Loc) (bs : List Nat) (x : Option (List AV)) (o : Nat) (d : Option LocN) (h : g.tr H o = some d) : (g.add H.length l bs).tr (H ++ [x]) o = some d := by
  have hlt : o < H.length := by
    rcases Nat.lt_or_ge o H.length with h' | h'
    · exact h'
    · unfold Gh.tr at h; rw [List.getElem?_eq_none h'] at h; cases h
  unfold Gh.tr at *
  rw [List.getElem?_append_left hlt]
  simp only [Gh.add, if_neg (Nat.ne_of_lt hlt)]
  exact h

/-- A new object at a block that nobody owns (a fresh one, or that of a forgotten object). -/
theorem new_obj (hp : HeapR g H w) {w' : World} (hs : w.heap.size ≤ w'.heap.size) {b base sz : Nat} {arr : Array Value} {elem : TypeId} {cs : List AV} (u : Nat → Value) (bss : Nat → List Nat)
    (hkeep : ∀ k, k < w.heap.size → k ≠ b → w'.heap[k]? = w.heap[k]?) (hb : w'.heap[b]? = some (.cells arr elem (0, 0))) (hsz : arr.size = sz) (hbase : base + cs.length ≤ sz)
    (hc : ∀ m, m < cs.length → arr[base + m]? = some (u m)) (hr : ∀ m (h : m < cs.length), Rd w (g.tr H) g.G cs[m] (u m) (bss m))
    (hfG : ¬ g.G b) (hfO : ∀ o cs, H[o]? = some (some cs) → b ∉ g.ob o) (hnd : (b :: (List.range cs.length).flatMap bss).Nodup)
    (hin : ∀ b', b' ∈ (List.range cs.length).flatMap bss → ¬ g.G b' ∧ ∀ o cs, H[o]? = some (some cs) → b' ∉ g.ob o) :
    let g' := g.add H.length (some (b, base, sz)) (b :: (List.range cs.length).flatMap bss)
    HeapR g' (H ++ [some cs]) w' ∧ (∀ x v bs, b ∉ bs → Rd w (g.tr H) g.G x v bs → Rd w' (g'.tr (H ++ [some cs])) g'.G x v bs) := by
  intro g'
  have lift : ∀ x v bs, b ∉ bs → Rd w (g.tr H) g.G x v bs → Rd w' (g'.tr (H ++ [some cs])) g'.G x v bs := fun x v bs hnb h =>
    h.mono (fun _ h => h) (fun b' hb' => hkeep b' (hp.low b' hb') (fun e => hfG (e ▸ hb'))) (fun o d h => .inl (tr_add g H _ _ _ o d h)) (fun b' hb' => hkeep b' (h.lt b' hb') (fun e => hnb (e ▸ hb')))
  refine ⟨⟨?_, ?_, ?_, ?_, ?_⟩, lift⟩
  · intro o cs' ho
    rcases app_get ho with ⟨hlt, ho'⟩ | ⟨rfl, he⟩
    · have h1 := hp.obj o cs' ho'
      have e1 : g'.ρ o = g.ρ o := by simp [g', Gh.add, Nat.ne_of_lt hlt]
      have e2 : g'.ob o = g.ob o := by simp [g', Gh.add, Nat.ne_of_lt hlt]
      rw [e1, e2]
      exact h1.mono (fun _ h => h) (fun b' hb' => hkeep b' (hp.low b' hb') (fun e => hfG (e ▸ hb'))) (fun o d h => .inl (tr_add g H _ _ _ o d h)) (fun b' hb' => hkeep b' (h1.all_lt b' hb') (fun e => hfO o cs' ho' (e ▸ hb')))
    · obtain rfl := Option.some.inj he
      have e1 : g'.ρ H.length = some (b, base, sz) := by simp [g', Gh.add]
      have e2 : g'.ob H.length = b :: (List.range cs.length).flatMap bss := by simp [g', Gh.add]
      rw [e1, e2]
      refine ⟨arr, elem, u, bss, hb, hsz, hbase, hc, fun m hm => lift _ _ _ (fun hmem => ?_) (hr m hm), rfl⟩
      exact (List.nodup_cons.1 hnd).1 (List.mem_flatMap.2 ⟨m, List.mem_range.2 hm, hmem⟩)
  · intro o cs' ho
    rcases app_get ho with ⟨hlt, ho'⟩ | ⟨rfl, he⟩
    · simpa [g', Gh.add, Nat.ne_of_lt hlt] using hp.nodup o cs' ho'
    · simpa [g', Gh.add] using hnd
  · intro o o' c c' ho ho' hne b' hb1 hb2
    have key : ∀ o c, o < H.length → H[o]? = some (some c) → b' ∈ g.ob o → b' ∉ b :: (List.range cs.length).flatMap bss := fun o c hlt ho hb1' hb2 => by
      rcases List.mem_cons.1 hb2 with rfl | hb2
      · exact hfO o c ho hb1'
      · exact (hin b' hb2).2 o c ho hb1'
    rcases app_get ho with ⟨hlt, ho1⟩ | ⟨rfl, he⟩ <;> rcases app_get ho' with ⟨hlt', ho1'⟩ | ⟨rfl, he'⟩
    · simp only [g', Gh.add, Nat.ne_of_lt hlt, Nat.ne_of_lt hlt', if_false] at hb1 hb2
      exact hp.apart o o' c c' ho1 ho1' hne b' hb1 hb2
    · simp only [g', Gh.add, Nat.ne_of_lt hlt, if_false, if_true] at hb1 hb2
      exact key o c hlt ho1 hb1 hb2
    · simp only [g', Gh.add, Nat.ne_of_lt hlt', if_false, if_true] at hb1 hb2
      exact key o' c' hlt' ho1' hb2 hb1
    · exact hne rfl
  · intro o c ho b' hb'
    rcases app_get ho with ⟨hlt, ho1⟩ | ⟨rfl, he⟩
    · simp only [g', Gh.add, Nat.ne_of_lt hlt, if_false] at hb'
      exact hp.free o c ho1 b' hb'
    · simp only [g', Gh.add, if_true] at hb'
      rcases List.mem_cons.1 hb' with rfl | hb'
      · exact hfG
      · exact (hin b' hb').1
  · exact fun b' hb' => Nat.lt_of_lt_of_le (hp.low b' hb') hs

theorem add_owns {l : Loc} {bs : List Nat} {cs : List AV} {b' : Nat} (h : (g.add H.length l bs).owns (H ++ [some cs]) b') : g.owns H b' ∨ b' ∈ bs := by
  obtain ⟨o, c, ho, hb⟩ := h
  rcases app_get ho with ⟨hlt, ho1⟩ | ⟨rfl, he⟩
  · left; exact ⟨o, c, ho1, by simpa [Gh.add, Nat.ne_of_lt hlt] using hb⟩
  · right; simpa [Gh.add] using hb

theorem flatMap_nil {n : Nat} : (List.range n).flatMap (fun _ => ([] : List Nat)) = [] := by simp

/-- A fresh block of plain cells. -/
theorem new_plain (hp : HeapR g H w) {w' : World} (hw : ∀ k, k < w.heap.size → w'.heap[k]? = w.heap[k]?) (hs : w.heap.size ≤ w'.heap.size) (ho : w'.os = w.os) (ht : w'.tape = w.tape) (hout : w'.output = w.output) (hfz : ∀ a, w'.frozen? a = w.frozen? a) {b : Nat} (hbb : w.heap.size ≤ b) {arr : Array Value} {elem : TypeId} {cs : List AV} (u : Nat → Value)
    (hb : w'.heap[b]? = some (.cells arr elem (0, 0))) (hbase : cs.length ≤ arr.size)
    (hc : ∀ m, m < cs.length → arr[m]? = some (u m)) (hr : ∀ m (h : m < cs.length), Rd w (g.tr H) g.G cs[m] (u m) []) :
    ∃ g', Mv g H w g' (H ++ [some cs]) w' ∧ g'.ρ H.length = some (b, 0, arr.size) := by
  have hnew := new_obj hp hs (base := 0) (cs := cs) u (fun _ => []) (fun k hk _ => hw k hk) hb rfl (by omega) (fun m hm => by rw [Nat.zero_add]; exact hc m hm) hr
    (fun hG => absurd (hp.low _ hG) (by omega)) (fun o c h hm => absurd ((hp.obj o c h).all_lt _ hm) (by omega)) (by rw [flatMap_nil]; simp) (by rw [flatMap_nil]; simp)
  refine ⟨_, ⟨hnew.1, ⟨ho, ht, hout, hs, fun k hk _ => hw k hk, fun k hk => ?_, fun _ h => h, fun _ h => .inl h, fun a _ => hfz a⟩, fun x v h => hnew.2 x v [] (by simp) h, fun o d h => .inl (tr_add g H _ _ _ o d h)⟩, by simp [Gh.add]⟩
  rcases add_owns hk with h | h
  · exact .inl h
  · simp only [flatMap_nil, List.mem_cons, List.not_mem_nil, or_false] at h
    exact .inr (by omega)

theorem flatMap_sublist {f f' : Nat → List Nat} (h : ∀ m, (f m).Sublist (f' m)) : ∀ l : List Nat, (l.flatMap f).Sublist (l.flatMap f')
  | [] => by simp
  | x :: l => by simp only [List.flatMap_cons]; exact (h x).append (flatMap_sublist h l)

theorem tr_set (g : Gh) (H : Heap) (o : Nat) (cs cs' : List AV) (ho : H[o]? = some (some cs)) (hl : cs'.length = cs.length) (bs : List Nat) :
    Gh.tr ⟨g.ρ, fun x => if x = o then bs else g.ob x, g.G⟩ (H.set o (some cs')) = g.tr H := by
  funext x
  unfold Gh.tr
  by_cases e : o = x
  · subst e
    have hlt : o < H.length := (List.getElem?_eq_some_iff.1 ho).1
    rw [List.getElem?_set_self hlt, ho]
    simp only [hl]
  · rw [List.getElem?_set_ne e]

theorem set_get {H : Heap} {o o' : Nat} {cs c : List AV} (h : (H.set o (some cs))[o']? = some (some c)) : (o' = o ∧ c = cs) ∨ (o' ≠ o ∧ H[o']? = some (some c)) := by
  by_cases e : o = o'
  · subst e
    by_cases hlt : o < H.length
    · simp [hlt] at h; exact .inl ⟨rfl, h.symm⟩
    · rw [List.getElem?_eq_none (by simp; omega)] at h; cases h
  · rw [List.getElem?_set_ne e] at h; exact .inr ⟨fun h => e h.symm, h⟩

/-- Cells of an object are written: values that own nothing. -/
theorem set_obj (hp : HeapR g H w) {o b base sz j : Nat} {cs vs : List AV} (ho : H[o]? = some (some cs)) (hl : g.ρ o = some (b, base, sz)) (hj : j + vs.length ≤ cs.length) {us : List Value} (hus : us.length = vs.length)
    (hr : ∀ m (h : m < vs.length), Rd w (g.tr H) g.G vs[m] (us.getD m undef) []) {arr : Array Value} {elem : TypeId} (hb : w.heap[b]? = some (.cells arr elem (0, 0))) :
    ∃ g', Mv g H w g' (H.set o (some (cs.take j ++ vs ++ cs.drop (j + vs.length)))) (w.setRow b (arr.toList.take (base + j) ++ us ++ arr.toList.drop (base + j + us.length)).toArray) := by
  obtain ⟨arr', elem', u, bss, hb', hsz, hbase, hc, hrr, hob⟩ := hl ▸ hp.obj o cs ho
  rw [hb] at hb'
  simp only [Option.some.injEq, Obj.cells.injEq, and_true] at hb'
  obtain ⟨rfl, rfl⟩ := hb'
  have hlen : (cs.take j ++ vs ++ cs.drop (j + vs.length)).length = cs.length := by simp; omega
  let bss' : Nat → List Nat := fun m => if j ≤ m ∧ m < j + vs.length then [] else bss m
  let bs' := b :: (List.range cs.length).flatMap bss'
  have hsub : bs'.Sublist (g.ob o) := by
    rw [hob]
    exact (flatMap_sublist (fun m => by dsimp only [bss']; split <;> simp) _).cons_cons b
  let g' : Gh := ⟨g.ρ, fun x => if x = o then bs' else g.ob x, g.G⟩
  have htr := tr_set g H o cs _ ho hlen bs'
  have hbo : b ∈ g.ob o := by rw [hob]; simp
  have hnG : ¬ g.G b := hp.free o cs ho b hbo
  have hsz' : base + cs.length ≤ arr.size := by omega
  let w' := w.setRow b (arr.toList.take (base + j) ++ us ++ arr.toList.drop (base + j + us.length)).toArray
  have hother : ∀ k, k ≠ b → w'.heap[k]? = w.heap[k]? := fun k hk => setRow_other w b k _ hk
  have hbsub : ∀ x c, (H.set o (some (cs.take j ++ vs ++ cs.drop (j + vs.length))))[x]? = some (some c) → ∃ c', H[x]? = some (some c') ∧ ∀ y, y ∈ g'.ob x → y ∈ g.ob x := fun x c hx => by
    rcases set_get hx with ⟨rfl, _⟩ | ⟨hne, hx'⟩
    · exact ⟨cs, ho, fun y hy => hsub.subset (by simpa [g'] using hy)⟩
    · exact ⟨c, hx', fun y hy => by simpa [g', hne] using hy⟩
  refine ⟨g', ⟨⟨?_, ?_, ?_, ?_, ?_⟩, ?_, ?_, fun o d h => .inl (by rw [htr]; exact h)⟩⟩
  · intro x c hx
    rw [htr]
    rcases set_get hx with ⟨rfl, rfl⟩ | ⟨hne, hx'⟩
    · show ObjR w' (g.tr H) g.G _ (g'.ob x) (g.ρ x)
      rw [hl]
      have e2 : g'.ob x = bs' := by simp [g']
      rw [e2]
      refine ⟨_, elem, fun m => if j ≤ m ∧ m < j + vs.length then us.getD (m - j) undef else u m, bss', setRow_heap w b arr _ elem _ hb, ?_, by omega, ?_, ?_, by rw [hlen]⟩
      · simp; omega
      · intro m hm
        rw [hlen] at hm
        have hm' := hc m hm
        simp only [List.getElem?_toArray]
        by_cases h1 : m < j
        · rw [if_neg (by omega), List.append_assoc, List.getElem?_append_left (by simp; omega), List.getElem?_take_of_lt (by omega)]
          simpa using hm'
        · by_cases h2 : m < j + vs.length
          · rw [if_pos ⟨by omega, h2⟩, List.append_assoc, List.getElem?_append_right (by simp; omega), List.getElem?_append_left (by simp; omega)]
            simp only [List.length_take, Array.length_toList]
            rw [show base + m - min (base + j) arr.size = m - j by omega]
            simp [show m - j < us.length by omega]
          · rw [if_neg (by omega), List.getElem?_append_right (by simp; omega), List.getElem?_drop]
            simp only [List.length_append, List.length_take, Array.length_toList]
            rw [show base + j + us.length + (base + m - (min (base + j) arr.size + us.length)) = base + m by omega]
            simpa using hm'
      · intro m hm
        have hm2 := hm
        rw [hlen] at hm2
        by_cases h1 : m < j
        · have e1 : (cs.take j ++ vs ++ cs.drop (j + vs.length))[m] = cs[m] := by
            rw [List.getElem_append_left (by simp; omega), List.getElem_append_left (by simp; omega), List.getElem_take]
          rw [e1]
          simp only [bss', if_neg (show ¬ (j ≤ m ∧ m < j + vs.length) by omega)]
          refine (hrr m hm2).mono (fun _ h => h) (fun b' hb' => hother b' (fun e => hnG (e ▸ hb'))) (fun _ _ h => .inl h) (fun b' hb' => hother b' (fun e => ?_))
          have := hp.nodup x cs ho
          rw [hob] at this
          exact (List.nodup_cons.1 this).1 (List.mem_flatMap.2 ⟨m, List.mem_range.2 hm2, e ▸ hb'⟩)
        · by_cases h2 : m < j + vs.length
          · have e1 : (cs.take j ++ vs ++ cs.drop (j + vs.length))[m] = vs[m - j] := by
              rw [List.getElem_append_left (by simp; omega), List.getElem_append_right (by simp; omega)]
              congr 1; simp; omega
            rw [e1]
            simp only [bss', if_pos (show j ≤ m ∧ m < j + vs.length from ⟨by omega, h2⟩)]
            exact (hr (m - j) (by omega)).mono (fun _ h => h) (fun b' hb' => hother b' (fun e => hnG (e ▸ hb'))) (fun _ _ h => .inl h) (by simp)
          · have e1 : (cs.take j ++ vs ++ cs.drop (j + vs.length))[m] = cs[m] := by
              rw [List.getElem_append_right (by simp; omega), List.getElem_drop]
              congr 1; simp; omega
            rw [e1]
            simp only [bss', if_neg (show ¬ (j ≤ m ∧ m < j + vs.length) by omega)]
            refine (hrr m hm2).mono (fun _ h => h) (fun b' hb' => hother b' (fun e => hnG (e ▸ hb'))) (fun _ _ h => .inl h) (fun b' hb' => hother b' (fun e => ?_))
            have := hp.nodup x cs ho
            rw [hob] at this
            exact (List.nodup_cons.1 this).1 (List.mem_flatMap.2 ⟨m, List.mem_range.2 hm2, e ▸ hb'⟩)
    · have e2 : g'.ob x = g.ob x := by simp [g', hne]
      rw [e2]
      exact (hp.obj x c hx').mono (fun _ h => h) (fun b' hb' => hother b' (fun e => hnG (e ▸ hb'))) (fun _ _ h => .inl h) (fun b' hb' => hother b' (fun e => hp.apart x o c cs hx' ho hne b' hb' (e ▸ hbo)))
  · intro x c hx
    rcases set_get hx with ⟨rfl, rfl⟩ | ⟨hne, hx'⟩
    · have : g'.ob x = bs' := by simp [g']
      rw [this]
      exact (hp.nodup x cs ho).sublist hsub
    · simpa [g', hne] using hp.nodup x c hx'
  · intro x y c d hx hy hne b' h1 h2
    obtain ⟨c', hx', hs1⟩ := hbsub x c hx
    obtain ⟨d', hy', hs2⟩ := hbsub y d hy
    exact hp.apart x y c' d' hx' hy' hne b' (hs1 _ h1) (hs2 _ h2)
  · intro x c hx b' h1
    obtain ⟨c', hx', hs1⟩ := hbsub x c hx
    exact hp.free x c' hx' b' (hs1 _ h1)
  · intro b' hb'
    show b' < w'.heap.size
    have : w'.heap.size = w.heap.size := by simp [w', World.setRow]
    rw [this]
    exact hp.low b' hb'
  · refine ⟨rfl, rfl, rfl, by simp [World.setRow], fun k _ hO => hother k (fun e => hO ⟨o, cs, ho, e ▸ hbo⟩), fun b' ⟨x, c, hx, h1⟩ => ?_, fun _ h => h, fun _ h => .inl h, fun a _ => frozen_set hb (setRow_heap w b arr _ elem _ hb) hother a⟩
    obtain ⟨c', hx', hs1⟩ := hbsub x c hx
    exact .inl ⟨x, c', hx', hs1 _ h1⟩
  · intro x v hx
    rw [htr]
    exact hx.mono (fun _ h => h) (fun b' hb' => hother b' (fun e => hnG (e ▸ hb'))) (fun _ _ h => .inl h) (by simp)

end Go.Gov
