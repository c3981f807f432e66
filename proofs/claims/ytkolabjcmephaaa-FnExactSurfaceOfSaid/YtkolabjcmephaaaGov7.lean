/- append. -/
import Derived.Test.YtkolabjcmephaaaGov6
set_option linter.unusedSimpArgs false
set_option linter.unusedVariables false
namespace Go.Gov
variable {P : Program} {N : Nat} {g : Gh} {F : Frame} {H : Heap} {a : Act} {w : World}

theorem run_app_room {t ty e e' : TypeId} {i : TypeInfo} (ht : P.underlying t = some (.slice e)) (hi : P.info? e = some i) {b off sLen sCap m mc : Nat} {xa : Option Addr} {cur : Array Value} {news : List Value} (hg : w.heap[b]? = some (.cells cur e' (0, 0)))
    (hf : (Builtin.firstCells i.size m (.slice xa m mc)).run P w = .ok news.toArray w) (h1 : ∀ u ∈ news, u.oneCell' = true) (hroom : sLen + m ≤ sCap) (hfit : off + sLen * i.size + news.length ≤ cur.size) :
    (Builtin.append_ #[t, t] ty #[.slice (some ⟨b, off, none⟩) sLen sCap, .slice xa m mc]).run P w =
      .ok (.slice (some ⟨b, off, none⟩) (sLen + m) sCap) (w.setRow b (cur.toList.take (off + sLen * i.size) ++ news ++ cur.toList.drop (off + sLen * i.size + news.length)).toArray) := by
  have hst := run_storeCells_at P b (off + sLen * i.size) e' news 0 cur w hg (by omega) h1
  simp only [Nat.add_zero] at hst
  simp [Builtin.append_, run_underlying ht, sizeOf, typeInfo, hi, Builtin.lenOf, hroom, hf, addr_add, hst]

theorem run_app_nothing {t ty e : TypeId} {i : TypeInfo} (ht : P.underlying t = some (.slice e)) (hi : P.info? e = some i) {base xa : Option Addr} {sLen sCap mc : Nat} (hf : (Builtin.firstCells i.size 0 (.slice xa 0 mc)).run P w = .ok #[] w) (hroom : sLen ≤ sCap) :
    (Builtin.append_ #[t, t] ty #[.slice base sLen sCap, .slice xa 0 mc]).run P w = .ok (.slice base sLen sCap) w := by
  cases base <;> simp [Builtin.append_, run_underlying ht, sizeOf, typeInfo, hi, Builtin.lenOf, hroom, hf, storeCells]

theorem run_app_grow {t ty e : TypeId} {i : TypeInfo} {z : Value} (ht : P.underlying t = some (.slice e)) (hi : P.info? e = some i) (hz : i.zero = some z) {base xa : Option Addr} {sLen sCap m mc : Nat} {olds news : List Value}
    (hfo : (Builtin.firstCells i.size sLen (.slice base sLen sCap)).run P w.drew = .ok olds.toArray w.drew) (hf : (Builtin.firstCells i.size m (.slice xa m mc)).run P w.drew = .ok news.toArray w.drew)
    (hg : sCap < sLen + m) (h63 : sLen + m ≤ 140737488355328) (hfit : (sLen + m) * i.bytes ≤ 140737488355328) :
    (Builtin.append_ #[t, t] ty #[.slice base sLen sCap, .slice xa m mc]).run P w =
      .ok (.slice (some ⟨w.heap.size, 0, none⟩) (sLen + m) (grownCap w (sLen + m) sCap e)) (w.drew.alloc (.cells (olds ++ news ++ (Builtin.zeroCells z.cells (grownCap w (sLen + m) sCap e - (sLen + m))).toList).toArray e)) := by
  have hn : ¬ (sLen + m ≤ sCap) := by omega
  have h63' : ¬ (9223372036854775807 < ((sLen : Int) + (m : Int))) := by omega
  have h48 := growslice_fits hg hfit
  have h48' : ¬ (281474976710656 < Builtin.nextslicecap (sLen + m) sCap * i.bytes) := by omega
  simp [Builtin.append_, run_underlying ht, sizeOf, typeInfo, zeroValue, hi, hz, Builtin.lenOf, hn, h63', h48', Question.forced, hf, hfo, newRow, grownCap]
  congr 2
  apply Array.ext'
  simp

/-- What is appended. -/
theorem src_ok (hR : R N g F H a w) {k m : Nat} {x : Operand} {new : List AV} (hok : stOk (ax F (cX x))) (hs : srcOf H k (st (ax F (cX x))) = some (m, new)) (hpl : new.all plainC = true) :
    ∃ (xa : Option Addr) (mc : Nat) (news : List Value), a.eval x = .slice xa m mc ∧ news.length = new.length ∧ new.length = m * k ∧ (∀ w', Ext w w' → ∀ q, q ≤ m → (Builtin.firstCells k q (.slice xa m mc)).run P w' = .ok (news.take (q * k)).toArray w') ∧
      ∀ j (h : j < new.length), Rd w (g.tr H) g.G new[j] (news.getD j undef) [] := by
  have hx := sx_rd hR x hok
  generalize hxe : st (ax F (cX x)) = vx at hs hx
  have mk : ∀ (b off : Nat) (u : Nat → Value) (mc : Nat), new.length = m * k → b < w.heap.size → (∀ j, j < new.length → w.cell? ⟨b, off + j, none⟩ = some (u j)) → (∀ j (h : j < new.length), Rd w (g.tr H) g.G new[j] (u j) []) → a.eval x = .slice (some ⟨b, off, none⟩) m mc →
      ∃ (xa : Option Addr) (mc : Nat) (news : List Value), a.eval x = .slice xa m mc ∧ news.length = new.length ∧ new.length = m * k ∧ (∀ w', Ext w w' → ∀ q, q ≤ m → (Builtin.firstCells k q (.slice xa m mc)).run P w' = .ok (news.take (q * k)).toArray w') ∧
      ∀ j (h : j < new.length), Rd w (g.tr H) g.G new[j] (news.getD j undef) [] := by
    intro b off u mc hl hb hc hr hv
    refine ⟨_, mc, (List.range new.length).map u, hv, by simp, hl, fun w' hw q hq => ?_, fun j hj => ?_⟩
    · have hqk : q * k ≤ m * k := Nat.mul_le_mul_right _ hq
      refine run_firstCells_some (P := P) w' k q ⟨b, off, none⟩ m mc _ (by rw [List.length_take]; simp; omega) (fun j v hj => ?_)
      rw [List.getElem?_take] at hj
      split at hj
      rotate_left
      · cases hj
      rw [List.getElem?_map, Option.map_eq_some_iff] at hj
      obtain ⟨j', hj', rfl⟩ := hj
      obtain ⟨hlt, hjj⟩ := List.getElem?_eq_some_iff.1 hj'
      simp only [List.getElem_range] at hjj
      subst hjj
      rw [addr_add, hw.cell hb]
      exact hc j (by simpa using hlt)
    · have : ((List.range new.length).map u).getD j undef = u j := by simp [hj]
      rw [this]; exact hr j hj
  have mk0 : ∀ xa mc, m = 0 → new = [] → a.eval x = .slice xa 0 mc → ∃ (xa : Option Addr) (mc : Nat) (news : List Value), a.eval x = .slice xa m mc ∧ news.length = new.length ∧ new.length = m * k ∧ (∀ w', Ext w w' → ∀ q, q ≤ m → (Builtin.firstCells k q (.slice xa m mc)).run P w' = .ok (news.take (q * k)).toArray w') ∧
      ∀ j (h : j < new.length), Rd w (g.tr H) g.G new[j] (news.getD j undef) [] := by
    rintro xa mc rfl rfl hv
    refine ⟨xa, mc, [], hv, rfl, by simp, fun w' _ q hq => ?_, fun j hj => absurd hj (by simp)⟩
    obtain rfl : q = 0 := by omega
    simp only [List.take_nil]
    cases xa with
    | none => simp [Builtin.firstCells]
    | some b => exact run_firstCells_some (P := P) w' k 0 b 0 mc [] (by simp) (by simp)
  unfold srcOf at hs
  split at hs
  · rename_i k' n cs
    by_cases hk : k' = k
    · rw [if_pos hk] at hs
      simp only [Option.some.injEq, Prod.mk.injEq] at hs
      obtain ⟨rfl, rfl⟩ := hs
      subst hk
      generalize hv : a.eval x = v at hx
      cases hx with
      | slc u hl hn hm hG hc hr => rw [hv] at mk; exact mk _ _ u _ hl (hR.hp.low _ hG) hc hr rfl
      | slc0 hm => rw [hv] at mk0; exact mk0 _ _ rfl rfl rfl
    · rw [if_neg hk] at hs; cases hs
  · rename_i o' k' off len
    by_cases hk : k' = k
    · rw [if_pos hk] at hs
      split at hs
      · rename_i cs ho'
        simp only [Option.some.injEq, Prod.mk.injEq] at hs
        obtain ⟨rfl, rfl⟩ := hs
        subst hk
        cases hx with
        | sl h00 hv0 h4 =>
          obtain ⟨h5, h6⟩ := h4 _ (Gh.tr_some (g := g) ho')
          dsimp only at h5 h6
          have hobj := hR.hp.obj o' cs ho'
          cases hl : g.ρ o' with
          | none => rw [hl] at h6; obtain ⟨h6, a0, h7⟩ := h6; exact mk0 _ _ h6 (by simp [h6]) h7
          | some l =>
            obtain ⟨b, base, sz⟩ := l
            rw [hl] at h6 hobj
            obtain ⟨cap, h7, h8, h9, h10⟩ := h6
            obtain ⟨arr, elem, u, bss, hb, hsz, hbase, hc, hrr, hob⟩ := hobj
            rcases h10 with h10 | ⟨rfl, aa, h10⟩
            · have hlen : ((cs.drop off).take (len * k')).length = len * k' := by rw [List.length_take, List.length_drop]; omega
              refine mk b (base + off) (fun j => u (off + j)) cap hlen (Array.getElem?_eq_some_iff.1 hb).1 (fun j hj => ?_) (fun j hj => ?_) h10
              · rw [hlen] at hj
                have := hc (off + j) (by omega)
                simp only [World.cell?, hb]
                simpa [Nat.add_assoc] using this
              · have hj' := hj
                rw [hlen] at hj'
                simp only [List.getElem_take, List.getElem_drop]
                have h11 := hrr (off + j) (by omega)
                have h12 : plainC cs[off + j] = true := by
                  have := List.all_eq_true.1 hpl _ (List.getElem_mem hj)
                  simpa only [List.getElem_take, List.getElem_drop] using this
                rwa [plainC_nil h12 h11] at h11
            · obtain rfl : len = 0 := by omega
              exact mk0 _ _ rfl (by simp) h10
      · cases hs
    · rw [if_neg hk] at hs; cases hs
  · simp only [Option.some.injEq, Prod.mk.injEq] at hs
    obtain ⟨rfl, rfl⟩ := hs
    exact mk0 _ _ rfl rfl hx.val_inv.1
  · cases hs

theorem sublist_flatMap {f : Nat → List Nat} {l l' : List Nat} (h : l.Sublist l') : (l.flatMap f).Sublist (l'.flatMap f) := by
  induction h with
  | slnil => simp
  | cons x _ ih => simp only [List.flatMap_cons]; exact ih.trans (List.sublist_append_right _ _)
  | cons_cons x _ ih => simp only [List.flatMap_cons]; exact (List.Sublist.refl _).append ih

theorem shift_sublist {f : Nat → List Nat} {off n N L : Nat} (h : off + n ≤ N) (hL : n ≤ L) : ((List.range L).flatMap fun m => if m < n then f (off + m) else []).Sublist ((List.range N).flatMap f) := by
  obtain ⟨d, rfl⟩ := Nat.exists_eq_add_of_le hL
  rw [List.range_add, List.flatMap_append]
  have e2 : (((List.range d).map (n + ·)).flatMap fun m => if m < n then f (off + m) else []) = [] := by
    rw [List.flatMap_eq_nil_iff]
    intro x hx
    obtain ⟨y, _, rfl⟩ := List.mem_map.1 hx
    rw [if_neg (by omega)]
  rw [e2, List.append_nil]
  have e1 : ((List.range n).flatMap fun m => if m < n then f (off + m) else []) = ((List.range n).map (off + ·)).flatMap f := by
    rw [List.flatMap_map]
    simp only [List.flatMap_def]
    congr 1
    refine List.map_congr_left fun m hm => ?_
    rw [if_pos (List.mem_range.1 hm)]
  rw [e1]
  refine sublist_flatMap ?_
  rw [show N = off + n + (N - (off + n)) by omega, List.range_add, List.range_add]
  exact (List.sublist_append_right _ _).trans (List.sublist_append_left _ _)

/-- An object's cells move on into a new object: at the same block, or at a fresh one. -/
theorem move_obj (hp : HeapR g H w) {o b base sz off n : Nat} {cs new : List AV} (ho : H[o]? = some (some cs)) (hl : g.ρ o = some (b, base, sz)) (hon : off + n ≤ cs.length) {w' : World} (hos : w'.os = w.os) (hfz : ∀ a, w'.frozen? a = w.frozen? a) (htape : w'.tape = w.tape) (hout : w'.output = w.output)
    (hs : w.heap.size ≤ w'.heap.size) {b' base' sz' : Nat} {arr' : Array Value} {elem' : TypeId} (hb' : b' = b ∨ w.heap.size ≤ b') (hkeep : ∀ k, k < w.heap.size → k ≠ b' → w'.heap[k]? = w.heap[k]?) (hb : w'.heap[b']? = some (.cells arr' elem' (0, 0))) (hsz : arr'.size = sz')
    (hbase : base' + (n + new.length) ≤ sz') (hold : ∀ arr elem, w.heap[b]? = some (.cells arr elem (0, 0)) → ∀ m, m < n → arr'[base' + m]? = arr[base + off + m]?) (us : Nat → Value) (hnew : ∀ m, m < new.length → arr'[base' + n + m]? = some (us m))
    (hrn : ∀ m (h : m < new.length), Rd w (g.tr H) g.G new[m] (us m) []) :
    ∃ g', Mv g H w g' (H.set o none ++ [some ((cs.drop off).take n ++ new)]) w' ∧ g'.ρ H.length = some (b', base', sz') := by
  obtain ⟨arr, elem, u, bss, hbb, hszz, hbs, hc, hrr, hob⟩ := hl ▸ hp.obj o cs ho
  have hnd := hp.nodup o cs ho
  rw [hob] at hnd
  have hbo : b ∈ g.ob o := by rw [hob]; simp
  have hlen1 : ((cs.drop off).take n).length = n := by rw [List.length_take, List.length_drop]; omega
  have hlen : ((cs.drop off).take n ++ new).length = n + new.length := by rw [List.length_append, hlen1]
  let bss' : Nat → List Nat := fun m => if m < n then bss (off + m) else []
  have hsub : ((List.range ((cs.drop off).take n ++ new).length).flatMap bss').Sublist ((List.range cs.length).flatMap bss) := shift_sublist hon (by omega)
  have hin : ∀ x, x ∈ (List.range ((cs.drop off).take n ++ new).length).flatMap bss' → x ∈ g.ob o := fun x hx => by rw [hob]; exact List.mem_cons_of_mem _ (hsub.subset hx)
  have hlt := (hp.obj o cs ho).all_lt
  have hnb : ∀ x, x ∈ (List.range ((cs.drop off).take n ++ new).length).flatMap bss' → x ≠ b' := fun x hx e => by
    rcases hb' with rfl | hge
    · exact (List.nodup_cons.1 hnd).1 (e ▸ hsub.subset hx)
    · have := hlt x (hin x hx); omega
  have hnG : ¬ g.G b' := by
    rcases hb' with rfl | hge
    · exact hp.free o cs ho _ hbo
    · exact fun h => absurd (hp.low _ h) (by omega)
  have hnO : ∀ o' c, (H.set o none)[o']? = some (some c) → b' ∉ g.ob o' := fun o' c h hm => by
    obtain ⟨hne, h⟩ := alive_kill h
    rcases hb' with rfl | hge
    · exact hp.apart o' o c cs h ho hne _ hm hbo
    · have := (hp.obj o' c h).all_lt _ hm; omega
  have hk := kill_hp hp o
  have hnew2 := new_obj hk (w' := w') hs (b := b') (base := base') (sz := sz') (arr := arr') (elem := elem') (cs := (cs.drop off).take n ++ new) (fun m => if m < n then u (off + m) else us (m - n)) bss' hkeep hb hsz (by omega)
    (fun m hm => by
      rw [hlen] at hm
      by_cases h1 : m < n
      · rw [if_pos h1, hold arr elem hbb m h1]
        have := hc (off + m) (by omega)
        rwa [← Nat.add_assoc] at this
      · rw [if_neg h1]
        have := hnew (m - n) (by omega)
        rwa [show base' + n + (m - n) = base' + m by omega] at this)
    (fun m hm => by
      have hm2 := hm
      rw [hlen] at hm2
      by_cases h1 : m < n
      · have e1 : ((cs.drop off).take n ++ new)[m] = cs[off + m] := by
          rw [List.getElem_append_left (by omega)]; simp
        rw [e1, if_pos h1]
        simp only [bss', if_pos h1]
        exact kill_rd (hrr (off + m) (by omega))
      · have e1 : ((cs.drop off).take n ++ new)[m] = new[m - n] := by
          rw [List.getElem_append_right (by omega)]
          congr 1; omega
        rw [e1, if_neg h1]
        simp only [bss', if_neg h1]
        exact kill_rd (hrn (m - n) (by omega)))
    hnG hnO (List.nodup_cons.2 ⟨fun h => hnb _ h rfl, (List.nodup_cons.1 hnd).2.sublist hsub⟩)
    (fun x hx => ⟨hp.free o cs ho x (hin x hx), fun o' c h hm => by
      obtain ⟨hne, h⟩ := alive_kill h
      exact hp.apart o' o c cs h ho hne x hm (hin x hx)⟩)
  have htr : ∀ o' d, g.tr H o' = some d → (g.add H.length (some (b', base', sz')) (b' :: (List.range ((cs.drop off).take n ++ new).length).flatMap bss')).tr (H.set o none ++ [some ((cs.drop off).take n ++ new)]) o' = some d ∨
      (g.add H.length (some (b', base', sz')) (b' :: (List.range ((cs.drop off).take n ++ new).length).flatMap bss')).tr (H.set o none ++ [some ((cs.drop off).take n ++ new)]) o' = some none := fun o' d h => by
    have key : ∀ d, g.tr (H.set o none) o' = some d → (g.add H.length (some (b', base', sz')) (b' :: (List.range ((cs.drop off).take n ++ new).length).flatMap bss')).tr (H.set o none ++ [some ((cs.drop off).take n ++ new)]) o' = some d := fun d h => by
      have := tr_add g (H.set o none) (some (b', base', sz')) (b' :: (List.range ((cs.drop off).take n ++ new).length).flatMap bss') (some ((cs.drop off).take n ++ new)) o' d h
      simpa only [List.length_set] using this
    exact (tr_kill g H o o' d h).imp (key d) (key none)
  simp only [List.length_set] at hnew2
  refine ⟨_, ⟨hnew2.1, ⟨hos, htape, hout, hs, fun k hk hO => hkeep k hk (fun e => ?_), fun k hk => ?_, fun _ h => h, fun _ h => .inl h, fun a _ => hfz a⟩, fun x v h => hnew2.2 x v [] (by simp) (kill_rd h), htr⟩, by simp [Gh.add]⟩
  · rcases hb' with rfl | hge
    · exact hO ⟨o, cs, ho, e ▸ hbo⟩
    · omega
  · have hk' : (g.add (H.set o none).length (some (b', base', sz')) (b' :: (List.range ((cs.drop off).take n ++ new).length).flatMap bss')).owns (H.set o none ++ [some ((cs.drop off).take n ++ new)]) k := by simpa only [List.length_set] using hk
    rcases add_owns hk' with ⟨o', c, h1, h2⟩ | h
    · exact .inl ⟨o', c, (alive_kill h1).2, h2⟩
    · rcases List.mem_cons.1 h with rfl | h
      · rcases hb' with rfl | hge
        · exact .inl ⟨o, cs, ho, hbo⟩
        · exact .inr hge
      · exact .inl ⟨o, cs, ho, hin k h⟩

theorem setRow_size (w : World) (b : Nat) (c : Array Value) : (w.setRow b c).heap.size = w.heap.size := by simp [World.setRow]

/-- A new object that lies nowhere. -/
theorem nil_obj (hp : HeapR g H w) : Mv g H w (g.add H.length none []) (H ++ [some []]) w := by
  have lift : ∀ x v bs, Rd w (g.tr H) g.G x v bs → Rd w ((g.add H.length none []).tr (H ++ [some []])) g.G x v bs := fun x v bs h =>
    h.mono (fun _ h => h) (fun _ _ => rfl) (fun o d h => .inl (tr_add g H _ _ _ o d h)) (fun _ _ => rfl)
  have hob : ∀ o, o < H.length → (g.add H.length none []).ob o = g.ob o := fun o h => by simp [Gh.add, Nat.ne_of_lt h]
  have hob' : (g.add H.length none []).ob H.length = [] := by simp [Gh.add]
  have hρ : ∀ o, o < H.length → (g.add H.length none []).ρ o = g.ρ o := fun o h => by simp [Gh.add, Nat.ne_of_lt h]
  refine ⟨⟨?_, ?_, ?_, ?_, hp.low⟩, ⟨rfl, rfl, rfl, Nat.le_refl _, fun _ _ _ => rfl, fun k hk => ?_, fun _ h => h, fun _ h => .inl h, fun _ _ => rfl⟩, fun x v h => lift x v [] h, fun o d h => .inl (tr_add g H _ _ _ o d h)⟩
  · intro o cs ho
    rcases app_get ho with ⟨hlt, ho'⟩ | ⟨rfl, he⟩
    · rw [hob o hlt, hρ o hlt]
      exact (hp.obj o cs ho').mono (fun _ h => h) (fun _ _ => rfl) (fun o d h => .inl (tr_add g H _ _ _ o d h)) (fun _ _ => rfl)
    · obtain rfl := Option.some.inj he
      rw [hob', show (g.add H.length none []).ρ H.length = none by simp [Gh.add]]
      exact ⟨rfl, rfl⟩
  · intro o cs ho
    rcases app_get ho with ⟨hlt, ho'⟩ | ⟨rfl, he⟩
    · rw [hob o hlt]; exact hp.nodup o cs ho'
    · rw [hob']; simp
  · intro o o' c c' ho ho' hne b h1 h2
    rcases app_get ho with ⟨hlt, ho1⟩ | ⟨rfl, he⟩
    · rcases app_get ho' with ⟨hlt', ho1'⟩ | ⟨rfl, he'⟩
      · rw [hob o hlt] at h1; rw [hob o' hlt'] at h2; exact hp.apart o o' c c' ho1 ho1' hne b h1 h2
      · rw [hob'] at h2; cases h2
    · rw [hob'] at h1; cases h1
  · intro o c ho b h1
    rcases app_get ho with ⟨hlt, ho1⟩ | ⟨rfl, he⟩
    · rw [hob o hlt] at h1; exact hp.free o c ho1 b h1
    · rw [hob'] at h1; cases h1
  · rcases add_owns hk with h | h
    · exact .inl h
    · cases h

theorem alloc_drew (w : World) (x : Obj) : (w.drew.alloc x).heap.size = w.heap.size + 1 ∧ (w.drew.alloc x).heap[w.heap.size]? = some x ∧ ∀ k, k < w.heap.size → (w.drew.alloc x).heap[k]? = w.heap[k]? :=
  ⟨by show (w.heap.push x).size = _; simp, heap_alloc_new w.drew x, fun k hk => heap_alloc_old w.drew x k hk⟩

theorem l_app {o : Oper} {t : TypeId} {s x : Operand} {args : Array Operand} {ts : Array TypeId} {k : Nat} {z : List Value} {K : AV → Heap → Prop} (hR : R N g F H a w) (hop : o.op = .call { callee := .builtin .append, args := args, argTypes := ts }) (ha : args.toList = [s, x]) (hts : ts.toList = [t, t])
    (hk : elemSize P t = some k) (hz : elemZero P t = some z) (hzk : z.length = k) (hE : evLoud (.app k (elemBytes P t) (cX s) (cX x)) F H K) : Loud P a w g H o false K := by
  obtain ⟨h1, h2, hE⟩ := hE
  obtain rfl : args = #[s, x] := by rw [← Array.toArray_toList (xs := args), ha]
  obtain rfl : ts = #[t, t] := by rw [← Array.toArray_toList (xs := ts), hts]
  obtain ⟨e, i, zv, he, hi, hz', hzl⟩ := elemZero_inv hz
  obtain ⟨e', i', he', hi', hsz⟩ := elemSize_inv hk
  obtain rfl : e = e' := by rw [he] at he'; simpa using he'
  obtain rfl : i = i' := by rw [hi] at hi'; simpa using hi'
  rw [elemBytes_eq he hi] at hE
  split at hE
  · rename_i n old H1 m new hd hs
    obtain ⟨h63, hby, hpl, hone, hK⟩ := hE
    obtain ⟨xa, mc, news, hvx, hnl, hnk, hfc, hrn⟩ := src_ok (P := P) hR h2 hs hpl
    have hones : ∀ u ∈ news, u.oneCell' = true := fun u hu => by
      obtain ⟨j, hj, rfl⟩ := List.mem_iff_getElem.1 hu
      have := hrn j (by omega)
      rw [show news.getD j undef = news[j] by simp [hj]] at this
      exact oneA_ok this (List.all_eq_true.1 hone _ (List.getElem_mem _))
    have exec : ∀ v r w', a.eval s = v → (Builtin.append_ #[t, t] o.type #[v, .slice xa m mc]).run P w = .ok r w' → (execOp a.eval o).run P w = .ok (.value r) w' := by
      intro v r w' hv hr
      simp [execOp, hop, resolve, invoke, builtin, hv, hvx, hr]
    rw [← hsz] at hfc
    have hnt : news.take (m * i.size) = news := List.take_of_length_le (by rw [hnl, hnk, hsz]; exact Nat.le_refl _)
    have hf0 := hfc w (fun _ _ => rfl) m (Nat.le_refl _)
    have hf1 := hfc w.drew (fun _ _ => rfl) m (Nat.le_refl _)
    rw [hnt] at hf0 hf1
    have hsx := sx_rd hR s h1
    -- a nil destination
    have nild : ∀ v, a.eval s = v → (v = .slice none 0 0 ∨ ∃ aa, v = .slice aa 0 0) → n = 0 → old = [] → H1.length = H.length → Mv g H w g H1 w → Loud P a w g H o false K := by
      intro v hv hv2 hn hold hH1 hmv
      subst hn hold
      have hv3 : ∃ aa, v = .slice aa 0 0 := hv2.elim (fun h => ⟨none, h⟩) id
      obtain ⟨aa, rfl⟩ := hv3
      by_cases hm : m = 0
      · subst hm
        have hnew : new = [] := List.eq_nil_of_length_eq_zero (by simpa using hnk)
        subst hnew
        have hnews : news = [] := List.eq_nil_of_length_eq_zero (by simpa using hnl)
        subst hnews
        have hmv2 := hmv.trans (nil_obj hmv.hp)
        refine ⟨_, w, _, _, _, .inl (exec _ _ _ hv (run_app_nothing he hi hf0 (Nat.le_refl _))), hmv2, ?_, fun h => (by cases h), hK⟩
        rw [← hH1]
        exact sl_new (l := none) (by simp [Gh.add]) (by simp) ⟨by omega, aa, rfl⟩
      · have hfo : (Builtin.firstCells i.size 0 (.slice aa 0 0)).run P w.drew = .ok ([] : List Value).toArray w.drew := by
          cases aa with
          | none => simp [Builtin.firstCells]
          | some b => exact run_firstCells_some (P := P) w.drew i.size 0 b 0 0 [] (by simp) (by simp)
        have hrun := run_app_grow (P := P) (ty := o.type) he hi hz' hfo hf1 (by omega) (by omega) hby
        simp only [List.nil_append, Nat.zero_add] at hrun hK
        obtain ⟨ha1, ha2, ha3⟩ := alloc_drew w (.cells (news ++ (Builtin.zeroCells zv.cells (grownCap w m 0 e - m)).toList).toArray e)
        obtain ⟨g', hm', hρ⟩ := new_plain hmv.hp (w' := w.drew.alloc (.cells (news ++ (Builtin.zeroCells zv.cells (grownCap w m 0 e - m)).toList).toArray e)) ha3 (by omega) rfl rfl rfl (fun a => frozen_alloc w.drew _ _ a) (Nat.le_refl _) (cs := new) (fun j => news.getD j undef) ha2
          (by simp; omega) (fun j hj => by rw [List.getElem?_toArray, List.getElem?_append_left (by omega)]; simp [show j < news.length by omega]) (fun j hj => hmv.lift _ _ (hrn j hj))
        refine ⟨_, _, g', _, _, .inl (exec _ _ _ hv hrun), hmv.trans hm', ?_, fun h => (by cases h), hK⟩
        rw [← hH1]
        refine sl_new hρ (by omega) ⟨_, grownCap_ge w m 0 e, grownCap_le_maxLen w m 0 e (by unfold maxLen; omega), ?_, .inl (by simp)⟩
        have hge := grownCap_ge w m 0 e
        have hzs : zv.cells.size = k := by rw [← hzk, ← hzl]; simp
        simp only [List.size_toArray, List.length_append, Array.length_toList, size_zeroCells, hzs, hnl, hnk, ← Nat.add_mul]
        rw [show m + (grownCap w m 0 e - m) = grownCap w m 0 e by omega]
        omega
    generalize hse : st (ax F (cX s)) = vs at hd hsx
    unfold dstOf at hd
    split at hd
    · simp only [Option.some.injEq, Prod.mk.injEq] at hd
      obtain ⟨rfl, rfl, rfl⟩ := hd
      have hv := hsx.val_inv.1
      exact nild _ hv (.inl rfl) rfl rfl rfl (Mv.refl hR.hp)
    · rename_i o' k' off len
      by_cases hkk : k' = k
      · rw [if_pos hkk] at hd
        subst hkk
        split at hd
        · rename_i cs ho'
          simp only [Option.some.injEq, Prod.mk.injEq] at hd
          obtain ⟨rfl, rfl, rfl⟩ := hd
          cases hsx with
          | sl h00 hv0 h4 =>
            obtain ⟨h5, h6⟩ := h4 _ (Gh.tr_some (g := g) ho')
            dsimp only at h5 h6
            have hobj := hR.hp.obj o' cs ho'
            cases hl : g.ρ o' with
            | none =>
              rw [hl] at h6
              obtain ⟨rfl, a0, h7⟩ := h6
              exact nild _ h7 (.inr ⟨a0, rfl⟩) rfl (by simp) (by simp) (kill_mv hR.hp o')
            | some l =>
              obtain ⟨b, base, sz⟩ := l
              rw [hl] at h6 hobj
              obtain ⟨cap, h7, h8, h9, h10⟩ := h6
              obtain ⟨arr, elem, u, bss, hb, hszz, hbase, hc, hrr, hob⟩ := hobj
              have hlen1 : ((cs.drop off).take (len * k')).length = len * k' := by rw [List.length_take, List.length_drop]; omega
              by_cases hm : m = 0
              · -- nothing is appended
                subst hm
                have hnew : new = [] := List.eq_nil_of_length_eq_zero (by simpa using hnk)
                subst hnew
                have hnews : news = [] := List.eq_nil_of_length_eq_zero (by simpa using hnl)
                subst hnews
                obtain ⟨g', hm', hρ⟩ := move_obj hR.hp ho' hl (off := off) (n := len * k') (by omega) (new := []) (w' := w) rfl (fun _ => rfl) rfl rfl (Nat.le_refl _) (b' := b) (base' := base + off) (sz' := sz) (.inl rfl) (fun _ _ _ => rfl) hb hszz (by simp; omega)
                  (fun arr2 elem2 h2 j hj => by rw [hb] at h2; simp only [Option.some.injEq, Obj.cells.injEq, and_true] at h2; obtain ⟨rfl, rfl⟩ := h2; rfl) (fun _ => undef) (fun j hj => absurd hj (by simp)) (fun j hj => absurd hj (by simp))
                have hv2 : ∃ base2, a.eval s = .slice base2 len cap := by
                  rcases h10 with h10 | ⟨rfl, aa, h10⟩
                  · exact ⟨_, h10⟩
                  · obtain rfl : len = 0 := by omega
                    exact ⟨_, h10⟩
                obtain ⟨base2, hv2⟩ := hv2
                refine ⟨_, w, g', _, _, .inl (exec _ _ _ hv2 (run_app_nothing he hi hf0 h7)), hm', ?_, fun h => (by cases h), hK⟩
                have := sl_new (H := H.set o' none) (k := k') (n := len + 0) (cs := (cs.drop off).take (len * k') ++ []) (v := .slice base2 len cap) (w' := w) (G := g'.G) (l := some (b, base + off, sz)) (by simpa only [List.length_set] using hρ) (by rw [List.append_nil, hlen1]; simp)
                  ⟨cap, by omega, h8, by omega, by
                    rcases h10 with h10 | ⟨hc0, aa, h10⟩
                    · left; rw [hv2] at h10; simpa using h10
                    · right; rw [hv2] at h10; exact ⟨hc0, aa, h10⟩⟩
                simpa only [List.length_set] using this
              · by_cases hroom : len + m ≤ cap
                · -- within the capacity
                  rcases h10 with h10 | ⟨rfl, aa, h10⟩
                  · have hfit2 : len * k' + m * k' ≤ cap * k' := by rw [← Nat.add_mul]; exact Nat.mul_le_mul_right _ hroom
                    have hrun := run_app_room (P := P) (ty := o.type) he hi (off := base + off) (sLen := len) (sCap := cap) hb hf0 hones hroom (by rw [hsz]; omega)
                    rw [hsz] at hrun
                    obtain ⟨g', hm', hρ⟩ := move_obj hR.hp ho' hl (off := off) (n := len * k') (by omega) (new := new) (w' := w.setRow b (arr.toList.take (base + off + len * k') ++ news ++ arr.toList.drop (base + off + len * k' + news.length)).toArray)
                      rfl (frozen_set hb (setRow_heap w b arr _ elem _ hb) (fun k hk => setRow_other w b k _ hk)) rfl rfl (by rw [setRow_size]; exact Nat.le_refl _) (b' := b) (base' := base + off) (sz' := sz) (.inl rfl) (fun j _ hj => setRow_other w b j _ hj) (setRow_heap w b arr _ elem _ hb) (by simp; omega) (by omega)
                      (fun arr2 elem2 h2 j hj => by
                        rw [hb] at h2; simp only [Option.some.injEq, Obj.cells.injEq, and_true] at h2; obtain ⟨rfl, rfl⟩ := h2
                        simp only [List.getElem?_toArray]
                        rw [List.append_assoc, List.getElem?_append_left (by simp; omega), List.getElem?_take_of_lt (by omega)]
                        simp)
                      (fun j => news.getD j undef) (fun j hj => by
                        simp only [List.getElem?_toArray]
                        rw [List.append_assoc, List.getElem?_append_right (by simp; omega), List.getElem?_append_left (by simp; omega)]
                        simp only [List.length_take, Array.length_toList]
                        rw [show base + off + len * k' + j - min (base + off + len * k') arr.size = j by omega]
                        simp [show j < news.length by omega]) hrn
                    refine ⟨_, _, g', _, _, .inl (exec _ _ _ h10 hrun), hm', ?_, fun h => (by cases h), hK⟩
                    have := sl_new (H := H.set o' none) (k := k') (n := len + m) (cs := (cs.drop off).take (len * k') ++ new) (v := .slice (some ⟨b, base + off, none⟩) (len + m) cap) (w' := w.setRow b (arr.toList.take (base + off + len * k') ++ news ++ arr.toList.drop (base + off + len * k' + news.length)).toArray) (G := g'.G) (l := some (b, base + off, sz)) (by simpa only [List.length_set] using hρ)
                      (by rw [List.length_append, hlen1, hnk, Nat.add_mul]; exact Nat.le_refl _) ⟨cap, hroom, h8, by omega, .inl (by simp)⟩
                    simpa only [List.length_set] using this
                  · omega
                · -- a new block
                  have hge := grownCap_ge w (len + m) cap e
                  have hzs : zv.cells.size = k' := by rw [← hzk, ← hzl]; simp
                  have grow : ∀ (base2 : Option Addr) (olds : List Value), a.eval s = .slice base2 len cap → olds.length = len * k' → (∀ j, j < len * k' → olds[j]? = arr[base + off + j]?) → (Builtin.firstCells i.size len (.slice base2 len cap)).run P w.drew = .ok olds.toArray w.drew → Loud P a w g H o false K := by
                    intro base2 olds hv hol hoc hfo
                    have hrun := run_app_grow (P := P) (ty := o.type) he hi hz' hfo hf1 (by omega) (by omega) hby
                    obtain ⟨ha1, ha2, ha3⟩ := alloc_drew w (.cells (olds ++ news ++ (Builtin.zeroCells zv.cells (grownCap w (len + m) cap e - (len + m))).toList).toArray e)
                    have hsz2 : (olds ++ news ++ (Builtin.zeroCells zv.cells (grownCap w (len + m) cap e - (len + m))).toList).toArray.size = grownCap w (len + m) cap e * k' := by
                      simp only [List.size_toArray, List.length_append, Array.length_toList, size_zeroCells, hzs, hnl, hnk, hol, ← Nat.add_mul]
                      congr 1
                      omega
                    have hle2 : (len + m) * k' ≤ grownCap w (len + m) cap e * k' := Nat.mul_le_mul_right _ hge
                    rw [Nat.add_mul] at hle2
                    obtain ⟨g', hm', hρ⟩ := move_obj hR.hp ho' hl (off := off) (n := len * k') (by omega) (new := new) (w' := w.drew.alloc (.cells (olds ++ news ++ (Builtin.zeroCells zv.cells (grownCap w (len + m) cap e - (len + m))).toList).toArray e))
                      rfl (fun a => frozen_alloc w.drew _ _ a) rfl rfl (by omega) (b' := w.heap.size) (base' := 0) (.inr (Nat.le_refl _)) (fun j hj _ => ha3 j hj) ha2 hsz2 (by omega)
                      (fun arr2 elem2 h2 j hj => by
                        rw [hb] at h2; simp only [Option.some.injEq, Obj.cells.injEq, and_true] at h2; obtain ⟨rfl, rfl⟩ := h2
                        simp only [List.getElem?_toArray, Nat.zero_add]
                        rw [List.append_assoc, List.getElem?_append_left (by omega)]
                        exact hoc j hj)
                      (fun j => news.getD j undef) (fun j hj => by
                        simp only [List.getElem?_toArray]
                        rw [List.append_assoc, List.getElem?_append_right (by omega), List.getElem?_append_left (by omega)]
                        rw [show 0 + len * k' + j - olds.length = j by omega]
                        simp [show j < news.length by omega]) hrn
                    refine ⟨_, _, g', _, _, .inl (exec _ _ _ hv hrun), hm', ?_, fun h => (by cases h), hK⟩
                    have := sl_new (H := H.set o' none) (k := k') (n := len + m) (cs := (cs.drop off).take (len * k') ++ new) (v := .slice (some ⟨w.heap.size, 0, none⟩) (len + m) (grownCap w (len + m) cap e)) (w' := w.drew.alloc (.cells (olds ++ news ++ (Builtin.zeroCells zv.cells (grownCap w (len + m) cap e - (len + m))).toList).toArray e)) (G := g'.G) (l := some (w.heap.size, 0, grownCap w (len + m) cap e * k')) (by simpa only [List.length_set] using hρ)
                      (by rw [List.length_append, hlen1, hnk, Nat.add_mul]; exact Nat.le_refl _) ⟨_, hge, grownCap_le_maxLen w (len + m) cap e (by unfold maxLen; omega), by omega, .inl (by simp)⟩
                    simpa only [List.length_set] using this
                  rcases h10 with h10 | ⟨rfl, aa, h10⟩
                  · refine grow _ ((List.range (len * k')).map fun j => u (off + j)) h10 (by simp) (fun j hj => ?_) ?_
                    · have := hc (off + j) (by omega)
                      rw [← Nat.add_assoc] at this
                      simp [hj, this]
                    · refine run_firstCells_some (P := P) w.drew i.size len ⟨b, base + off, none⟩ len cap _ (by simp [hsz]) (fun j v hj => ?_)
                      rw [List.getElem?_map, Option.map_eq_some_iff] at hj
                      obtain ⟨j', hj', rfl⟩ := hj
                      obtain ⟨hlt, hjj⟩ := List.getElem?_eq_some_iff.1 hj'
                      simp only [List.getElem_range] at hjj
                      subst hjj
                      have := hc (off + j) (by simp only [List.length_range] at hlt; omega)
                      rw [addr_add]
                      show w.cell? _ = _
                      simp only [World.cell?, hb]
                      simpa [Nat.add_assoc] using this
                  · obtain rfl : len = 0 := by omega
                    refine grow _ [] h10 (by simp) (fun j hj => absurd hj (by omega)) ?_
                    cases aa with
                    | none => simp [Builtin.firstCells]
                    | some b => exact run_firstCells_some (P := P) w.drew i.size 0 b 0 0 [] (by simp) (by simp)
        · cases hd
      · rw [if_neg hkk] at hd; cases hd
    · cases hd
  · exact hE.elim

theorem l_cpy {o : Oper} {t t2 : TypeId} {s x : Operand} {args : Array Operand} {ts : Array TypeId} {K : AV → Heap → Prop} (hR : R N g F H a w) (hop : o.op = .call { callee := .builtin .copy, args := args, argTypes := ts }) (ha : args.toList = [s, x]) (hts : ts.toList = [t, t2])
    (hk : elemSize P t = some 1) (hE : evLoud (.cpy (cX s) (cX x)) F H K) : Loud P a w g H o false K := by
  obtain ⟨h1, h2, hE⟩ := hE
  obtain rfl : args = #[s, x] := by rw [← Array.toArray_toList (xs := args), ha]
  obtain rfl : ts = #[t, t2] := by rw [← Array.toArray_toList (xs := ts), hts]
  obtain ⟨e, i, he, hi, hsz⟩ := elemSize_inv hk
  have hsx := sx_rd hR s h1
  generalize hse : st (ax F (cX s)) = vs at hE hsx
  split at hE
  · rename_i o' off n m new hs
    split at hE
    · rename_i cs ho'
      obtain ⟨hfit, hpl, hone, hK⟩ := hE
      obtain ⟨xa, mc, news, hvx, hnl, hnk, hfc, hrn⟩ := src_ok (P := P) hR h2 hs hpl
      rw [Nat.mul_one] at hnk
      have hmn : Nat.min m n ≤ m := Nat.min_le_left _ _
      have hmn2 : Nat.min m n ≤ n := Nat.min_le_right _ _
      have htl : (new.take (Nat.min m n)).length = Nat.min m n := by rw [List.length_take]; omega
      have htl2 : (news.take (Nat.min m n)).length = Nat.min m n := by rw [List.length_take]; omega
      have hsize : ∀ w', (sizeOf e).run P w' = .ok 1 w' := fun w' => by simp [sizeOf, typeInfo, hi, hsz]
      have hones : ∀ u ∈ news.take (Nat.min m n), u.oneCell' = true := fun u hu => by
        obtain ⟨j, hj, rfl⟩ := List.mem_iff_getElem.1 (List.mem_of_mem_take hu)
        have := hrn j (by omega)
        rw [show news.getD j undef = news[j] by simp [hj]] at this
        exact oneA_ok this (List.all_eq_true.1 hone _ (List.getElem_mem _))
      have hfc' : (Builtin.firstCells 1 (Nat.min m n) (.slice xa m mc)).run P w = .ok (news.take (Nat.min m n)).toArray w := by
        have hw := hfc w (fun _ _ => rfl) (Nat.min m n) hmn
        rw [Nat.mul_one] at hw
        exact hw
      have exec : ∀ b cap w', a.eval s = .slice b n cap → (match b with | some ad => storeCells ad (news.take (Nat.min m n)) | none => pure ()).run P w = .ok () w' → (execOp a.eval o).run P w = .ok (.value (.int .i64 (Nat.min m n : Nat))) w' := by
        intro b cap w' hv hst
        have hn0 : Nat.min (Nat.min m n) n = Nat.min m n := Nat.min_eq_left hmn2
        cases b with
        | none =>
          simp only [Sem.run_pure, Result.ok.injEq, true_and] at hst
          subst hst
          simp [execOp, hop, resolve, invoke, builtin, Builtin.copy_, run_underlying he, hv, hvx, Builtin.lenOf, hsize, hfc', goInt]
        | some ad => simp [execOp, hop, resolve, invoke, builtin, Builtin.copy_, run_underlying he, hv, hvx, Builtin.lenOf, hsize, hfc', hst, goInt]
      cases hsx with
      | sl h00 hv0 h4 =>
        obtain ⟨h5, h6⟩ := h4 _ (Gh.tr_some (g := g) ho')
        dsimp only at h5 h6
        cases hl : g.ρ o' with
        | none =>
          rw [hl] at h6
          obtain ⟨rfl, a0, h7⟩ := h6
          have hz : Nat.min m 0 = 0 := Nat.min_zero m
          have hHe : H.set o' (some (cs.take off ++ new.take (Nat.min m 0) ++ cs.drop (off + Nat.min m 0))) = H := by
            rw [hz, List.take_zero, List.append_nil, Nat.add_zero, List.take_append_drop]
            exact List.ext_getElem? fun q => by
              by_cases e : o' = q
              · subst e
                rw [List.getElem?_set_self (List.getElem?_eq_some_iff.1 ho').1, ho']
              · rw [List.getElem?_set_ne e]
          rw [hHe] at hK
          refine ⟨_, w, g, _, _, .inl (exec _ _ w h7 ?_), Mv.refl hR.hp, .val, fun h => (by cases h), hK⟩
          rw [hz, List.take_zero]
          cases a0 <;> simp [storeCells]
        | some l =>
          obtain ⟨b, base, sz⟩ := l
          rw [hl] at h6
          obtain ⟨cap, h7, h8, h9, h10⟩ := h6
          obtain ⟨arr, elem, u, bss, hb, hszz, hbase, hc, hrr, hob⟩ := hl ▸ hR.hp.obj o' cs ho'
          obtain ⟨g', hm⟩ := set_obj hR.hp ho' hl (j := off) (vs := new.take (Nat.min m n)) (by omega) (us := news.take (Nat.min m n)) (by omega) (fun j hj => by
            have hj' : j < Nat.min m n := by omega
            have := hrn j (by omega)
            rw [show (news.take (Nat.min m n)).getD j undef = news.getD j undef by simp [hj', show j < news.length by omega], List.getElem_take]
            exact this) hb
          rw [htl] at hm
          rcases h10 with h10 | ⟨rfl, aa, h10⟩
          · have hst := run_storeCells_at P b (base + off) elem (news.take (Nat.min m n)) 0 arr w hb (by omega) hones
            simp only [Nat.add_zero] at hst
            exact ⟨_, _, g', _, _, .inl (exec _ _ _ h10 hst), hm, .val, fun h => (by cases h), hK⟩
          · obtain rfl : n = 0 := by omega
            have hz : Nat.min m 0 = 0 := Nat.min_zero m
            have hHe : H.set o' (some (cs.take off ++ new.take (Nat.min m 0) ++ cs.drop (off + Nat.min m 0))) = H := by
              rw [hz, List.take_zero, List.append_nil, Nat.add_zero, List.take_append_drop]
              exact List.ext_getElem? fun q => by
                by_cases e : o' = q
                · subst e
                  rw [List.getElem?_set_self (List.getElem?_eq_some_iff.1 ho').1, ho']
                · rw [List.getElem?_set_ne e]
            rw [hHe] at hK
            refine ⟨_, w, g, _, _, .inl (exec _ _ w h10 ?_), Mv.refl hR.hp, .val, fun h => (by cases h), hK⟩
            rw [hz, List.take_zero]
            cases aa <;> simp [storeCells]
    · exact hE.elim
  · exact hE.elim

end Go.Gov
