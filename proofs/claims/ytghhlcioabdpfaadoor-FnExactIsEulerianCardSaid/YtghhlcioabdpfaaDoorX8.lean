/- Texts that belong together. -/
import Derived.Test.YtghhlcioabdpfaaDoorZe
import Derived.Test.YtghhlcioabdpfaaDoorV1
import Derived.Test.YtghhlcioabdpfaaDoorZg
import Derived.Test.YtghhlcioabdpfaaDoorZj
import Derived.Test.YtghhlcioabdpfaaDoorZq
import Derived.Test.YtghhlcioabdpfaaDoorX2
import Derived.Test.YtghhlcioabdpfaaDoorX5
import Derived.Test.YtghhlcioabdpfaaDoorX6
import Derived.Test.YtghhlcioabdpfaaDoorX7
set_option linter.unusedSimpArgs false
set_option linter.unusedVariables false
set_option maxRecDepth 100000
namespace Go.Proofs.YtghhlcioabdpfaaDoor
open Go.Gov Go.Sort Go.Shelf Go.Lib Go.Proofs

theorem rd_ints_nil {w : World} {tr : Nat → Option (Option LocN)} {G : Nat → Prop} {xs : List Int} {v : Value} {bs : List Nat} (h : Rd w tr G (ints xs) v bs) : bs = [] ∧ v.oneCell' = true := by
  generalize hx : ints xs = x at h
  cases h <;> first | (cases hx; done) | exact ⟨rfl, rfl⟩
theorem rd_i64 {w w' : World} {tr tr' : Nat → Option (Option LocN)} {G G' : Nat → Prop} {n : Int} {v : Value} (h : Rd w tr G (i64 n) v []) : Rd w' tr' G' (i64 n) v [] := by
  rw [h.val_inv.1]; exact .val
theorem rd_ints_any {w w' : World} {tr tr' : Nat → Option (Option LocN)} {G G' : Nat → Prop} {xs : List Int} {v : Value} {bs : List Nat} (hG : ∀ b, G b → G' b) (hw : ∀ b, G b → w'.heap[b]? = w.heap[b]?) (h : Rd w tr G (ints xs) v bs) : Rd w' tr' G' (ints xs) v [] := by
  generalize hx : ints xs = x at h
  cases h with
  | slc u hl hn hm hg hc hr =>
    cases hx
    refine .slc u hl hn hm (hG _ hg) (fun m hm' => (World.cell?_of_block (w := w) (hw _ hg)).trans (hc m hm')) fun m hm' => ?_
    have h5 := hr m hm'
    have e : ∃ z, (intsC xs)[m] = i64 z := ⟨_, by simp [intsC]; rfl⟩
    obtain ⟨z, hz⟩ := e
    rw [hz] at h5 ⊢
    exact rd_i64 h5
  | slc0 hm =>
    have : xs = [] := by
      cases xs with
      | nil => rfl
      | cons x xs => simp at hx
    subst this
    exact .slc0 hm
  | _ => cases hx
theorem heapE_at {α : Type} [Inhabited α] {enc : α → Value} {w : World} {b off n : Nat} {os : Array Obj} {cur : Array Value} {e : TypeId} {fr : Nat × Nat} (d : Array α) (hb : w.heap[b]? = some (.cells cur e fr)) :
    (sortWorld enc w b off n d os).heap[b]? = some (.cells (putCells enc off d cur) e fr) := by
  have hg : b < w.heap.size := (Array.getElem?_eq_some_iff.1 hb).1
  unfold sortWorld
  rw [heap_grow_old _ _ (by simpa using hg)]
  simp [putRow, mapBlock, Sort.ahead, Array.getElem?_modify, hb, onCells]
theorem heapE_other {α : Type} [Inhabited α] {enc : α → Value} {w : World} {b off n : Nat} {os : Array Obj} (d : Array α) {k : Nat} (hk : k < w.heap.size) (hne : k ≠ b) : (sortWorld enc w b off n d os).heap[k]? = w.heap[k]? := by
  unfold sortWorld
  rw [heap_grow_old _ _ (by simpa using hk)]
  simp [putRow, mapBlock, Sort.ahead, Array.getElem?_modify, Ne.symm hne]
theorem grow_of {W w' : World} (ho : w'.os = W.os) (ht : TapeOk W w') (hu : w'.output = W.output) (hz : W.heap.size ≤ w'.heap.size) (he : Ext W w') : ∃ q os', w' = grow (W.drewN q) os' := by
  refine ⟨w'.drawn - W.drawn, w'.heap.extract W.heap.size w'.heap.size, ?_⟩
  have hh : w'.heap = W.heap ++ w'.heap.extract W.heap.size w'.heap.size := by
    refine Array.ext_getElem? fun i => ?_
    by_cases hi : i < W.heap.size
    · rw [Array.getElem?_append_left hi, he i hi]
    · rw [Array.getElem?_append_right (by omega), Array.getElem?_extract]
      by_cases h2 : i < w'.heap.size
      · rw [if_pos (by omega), show W.heap.size + (i - W.heap.size) = i by omega]
      · rw [if_neg (by omega), Array.getElem?_eq_none (by omega)]
  obtain ⟨t1, t2⟩ := ht
  cases w'; cases W
  simp only [grow, World.drewN, World.mk.injEq] at *
  exact ⟨hh, t1, by omega, ho, hu⟩
theorem extract_all {α : Type} {a : Array α} {n : Nat} (h : a.size = n) : a.extract 0 n = a := by subst h; simp
def cmpR (X : List (List Int)) (x y : Fin X.length) : Int := cmpL (X.getD x.1 []) (X.getD y.1 [])
theorem cmpR_lt (X : List (List Int)) (x y : Fin X.length) : ltOf (cmpR X) x y = lexL (X.getD x.1 []) (X.getD y.1 []) := by
  unfold ltOf cmpR
  have h := cmpL_lt (X.getD x.1 []) (X.getD y.1 [])
  cases hh : lexL (X.getD x.1 []) (X.getD y.1 []) with
  | true => exact decide_eq_true (h.2 hh)
  | false => exact decide_eq_false fun h2 => by rw [h.1 h2] at hh; cases hh
theorem cmpR_swo (X : List (List Int)) : SWO (ltOf (cmpR X)) where
  irrefl x := by rw [cmpR_lt]; exact lexL_irr _
  trans x y z h1 h2 := by rw [cmpR_lt] at *; exact lexL_trans h1 h2
  ntrans x y z h1 h2 := by
    rw [cmpR_lt] at *
    cases h3 : lexL (X.getD x.1 []) (X.getD z.1 []) with
    | false => rfl
    | true =>
      cases h4 : lexL (X.getD y.1 []) (X.getD x.1 []) with
      | true => rw [lexL_trans h4 h3] at h2; cases h2
      | false =>
        rw [lexL_tri h1 h4] at h3
        rw [h2] at h3; cases h3
def Asc (S : List (List Int)) : Prop := S.Pairwise fun a b => lexL b a = false

theorem sortF_w (X : List (List Int)) (hl : X.length ≤ 1099511627776) (hrl : ∀ x ∈ X, x.length ≤ 1099511627776) :
    WriE Tryd.prog 122 [.sl 0 1 0 X.length, .clo 82 [] []] [some (X.map ints)] (fun S : List (List Int) => S.Perm X ∧ Asc S) (fun _ => .tup []) (fun S => [some (S.map ints)]) := by
  intro g w vals hp hl1 hr
  have h0 := hr 0 (by simp)
  have h1 := hr 1 (by simp)
  simp only [List.getElem_cons_zero, List.getElem_cons_succ] at h0 h1
  have hv : vals = #[vals.getD 0 undef, .func (.func 82) #[] #[]] := by
    refine Array.ext (by simpa using hl1) fun i h2 h3 => ?_
    simp only [List.length_cons, List.length_nil] at hl1
    match i, h3 with
    | 0, _ => simp [h2]
    | 1, _ =>
      have e1 : vals.getD 1 undef = .func (.func 82) #[] #[] := by
        generalize vals.getD 1 undef = v1 at h1
        cases h1 with
        | @clo _ _ _ vf vc hf _ hc _ =>
          obtain rfl : vf = #[] := Array.size_eq_zero_iff.1 (by simpa using hf.symm)
          obtain rfl : vc = #[] := Array.size_eq_zero_iff.1 (by simpa using hc.symm)
          rfl
      simpa [h2] using e1
  have ho := hp.obj 0 (X.map ints) rfl
  generalize vals.getD 0 undef = v at h0 hv
  subst hv
  have none_case : ∀ a cap, X = [] → Calls Tryd.prog 122 #[.slice a 0 cap, .func (.func 82) #[] #[]] w fun e w' => ∃ v g' av H', e = .returned v ∧ Mv g [some (X.map ints)] w g' H' w' ∧ Rd w' (g'.tr H') g'.G av v [] ∧ (false = true → Ext w w') ∧ ∃ S : List (List Int), (S.Perm X ∧ Asc S) ∧ av = .tup [] ∧ H' = [some (S.map ints)] := by
    rintro a cap rfl
    refine (AnyF.slices_SortFunc_none { Tryd.sortF with } a cap _ w).mono ?_
    rintro e w' ⟨rfl, rfl⟩
    exact ⟨.tuple #[], g, .tup [], _, rfl, Mv.refl hp, .tup rfl (by simp), by simp, [], ⟨.refl _, List.Pairwise.nil⟩, rfl, rfl⟩
  have hil : (X.map ints).length = X.length := List.length_map ..
  cases h0 with
  | sl h00 hv0 h =>
    obtain ⟨hle, hS⟩ := h _ (Gh.tr_some (g := g) (H := [some (X.map ints)]) (o := 0) rfl)
    dsimp only at hS hle
    cases hρ : g.ρ 0 with
    | none =>
      rw [hρ] at hS
      obtain ⟨hn, a, rfl⟩ := hS
      have hx := List.eq_nil_of_length_eq_zero hn
      exact none_case a 0 hx
    | some l =>
      obtain ⟨b, base, sz⟩ := l
      rw [hρ] at hS ho
      obtain ⟨cap, h1, h2, h3, h4⟩ := hS
      obtain ⟨arr, elem, u, bss, hb, hsz, hbase, hc, hr2, hob⟩ := ho.cells (by omega)
      rw [hil] at hbase
      have hu : ∀ m (hm : m < X.length), Rd w (g.tr [some (X.map ints)]) g.G (ints (X.getD m [])) (u m) (bss m) := fun m hm => by
        have h5 := hr2 m (by omega)
        have e : (X.map ints)[m]'(by omega) = ints (X.getD m []) := by simp [hm]
        rwa [e] at h5
      by_cases hX : X.length = 0
      · have hx := List.eq_nil_of_length_eq_zero hX
        rcases h4 with rfl | ⟨rfl, a, rfl⟩
        · rw [hX]; exact none_case _ cap hx
        · exact none_case a 0 hx
      rcases h4 with rfl | ⟨rfl, a, rfl⟩
      · letI inst : Inhabited (Fin X.length) := ⟨⟨0, by omega⟩⟩
        have hblk : b < w.heap.size := (Array.getElem?_eq_some_iff.1 hb).1
        have hGb : ¬ g.G b := hp.free 0 _ rfl b (by rw [hob]; simp)
        obtain ⟨enc, henc⟩ : ∃ enc : Fin X.length → Value, enc = fun k => u k.1 := ⟨_, rfl⟩
        obtain ⟨d, hd⟩ : ∃ d : Array (Fin X.length), d = Array.ofFn fun i => i := ⟨_, rfl⟩
        have hds : d.size = X.length := by rw [hd, Array.size_ofFn]
        have hdj : ∀ j (hj : j < X.length), d[j]! = ⟨j, hj⟩ := fun j hj => by
          rw [getElem!_pos d j (by omega)]
          subst hd
          simp
        have h1c : OneCell enc := fun k => by rw [henc]; exact (rd_ints_nil (hu k.1 k.2)).2
        have hH : Holds enc w b (base + 0) d := fun j hj => by
          have hj' : j < X.length := by omega
          have hcj := hc j (by omega)
          refine ⟨?_, by have h9 : elem.1.2.2 ≤ elem.1.2.1 ∨ sz ≤ elem.1.2.1 := elem.2; have h11 : base + j < sz := (by omega); simp [World.frozen?, hb]; intro h10; rcases h9 with h9 | h9; exact Nat.le_trans h9 h10; exact absurd (Nat.le_trans h9 h10) (by omega)⟩
          rw [hdj j hj', henc]
          simp only [World.cell?, hb, Nat.add_zero]
          exact hcj
        have hcmp : CmpLays1 Tryd.prog 82 #[] enc (cmpR X) b (base + 0) d.size w := by
          intro m os dk hdk x y
          have hoth := fun k (hk : k < w.heap.size) (hne : k ≠ b) => heapE_other (enc := enc) (w := w) (b := b) (off := base + 0) (n := m) (os := os) dk hk hne
          have hsize : w.heap.size ≤ (sortWorld enc w b (base + 0) m dk os).heap.size := by simp [sortWorld, grow, putRow, mapBlock, Sort.ahead]
          generalize sortWorld enc w b (base + 0) m dk os = W at *
          have hfr : ∀ k, g.G k → W.heap[k]? = w.heap[k]? := fun k hk => hoth k (hp.low k hk) fun e => hGb (e ▸ hk)
          have hk := compare_c (X.getD x.1 []) (X.getD y.1 []) (hrl _ (by simp)) (hrl _ (by simp)) ⟨fun _ => none, fun _ => [], g.G⟩ W #[enc x, enc y] ⟨by simp, by simp, by simp, by simp, fun k hk => Nat.lt_of_lt_of_le (hp.low k hk) hsize⟩ rfl (fun i hi => by
            match i, hi with
            | 0, _ => rw [henc]; exact rd_ints_any (fun _ h => h) hfr (hu x.1 x.2)
            | 1, _ => rw [henc]; exact rd_ints_any (fun _ h => h) hfr (hu y.1 y.2))
          have e : (#[enc x, enc y] ++ #[] : Array Value) = #[enc x, enc y] := by simp
          rw [e]
          refine hk.mono ?_
          rintro e w' ⟨v, g', av, H', rfl, hmv, hrd, hext, rfl, rfl⟩
          exact ⟨by rw [hrd.val_inv.1]; rfl, grow_of hmv.stp.os hmv.stp.tape hmv.stp.output hmv.stp.size (hext rfl)⟩
        have eg : ∀ args w, (callFunc 82 args).run Tryd.prog w = .ok (.enter 82 args) w := fun args w => callFunc_run (by kernel_rfl) w
        have hcon := Any.slices_SortFunc Tryd.sortF enc h1c (cmpR X) (cmpR_swo X) 82 #[] b (base + 0) cap d w eg hcmp hH hblk (by omega)
        rw [hds] at hcon
        refine hcon.mono ?_
        rintro e w' ⟨rfl, d', n', os, ⟨hps, _, hpp⟩, hss, rfl⟩
        rw [hds] at hps
        have hpp' : d'.toList.Perm d.toList := by
          have e1 : d'.extract 0 X.length = d' := extract_all hps
          have e2 : d.extract 0 X.length = d := extract_all hds
          rwa [e1, e2] at hpp
        obtain ⟨S, hSd⟩ : ∃ S : List (List Int), S = d'.toList.map fun k => X.getD k.1 [] := ⟨_, rfl⟩
        have hSl : S.length = X.length := by rw [hSd, List.length_map, Array.length_toList, hps]
        have hdX : (d.toList.map fun k => X.getD k.1 []) = X := by
          refine List.ext_getElem (by rw [List.length_map, Array.length_toList, hds]) fun i hi1 hi2 => ?_
          subst hd
          simp
        have hSX : S.Perm X := by
          have := hpp'.map fun k : Fin X.length => X.getD k.1 []
          rwa [hdX, ← hSd] at this
        have hSm : ∀ m (hm : m < X.length), S.getD m [] = X.getD (d'[m]!).1 [] := fun m hm => by
          rw [hSd, getElem!_pos d' m (by omega)]
          simp [hps, hm]
        have hSA : Asc S := by
          refine List.pairwise_iff_getElem.2 fun i j hi hj hij => ?_
          have h5 := hss i j (Nat.zero_le _) hij (by omega)
          rw [cmpR_lt] at h5
          have e1 := hSm i (by omega)
          have e2 := hSm j (by omega)
          rw [← e1, ← e2] at h5
          simpa [hi, hj] using h5
        have hhb := heapE_at (enc := enc) (w := w) (n := n') (os := os) (off := base + 0) d' hb
        have hoth := fun k (hk : k < w.heap.size) (hne : k ≠ b) => heapE_other (enc := enc) (w := w) (b := b) (off := base + 0) (n := n') (os := os) d' hk hne
        have hsize : w.heap.size ≤ (sortWorld enc w b (base + 0) n' d' os).heap.size := by simp [sortWorld, grow, putRow, mapBlock, Sort.ahead]
        have hos : (sortWorld enc w b (base + 0) n' d' os).os = w.os := rfl
        have htp : TapeOk w (sortWorld enc w b (base + 0) n' d' os) := ⟨rfl, Nat.le_add_right _ _⟩
        have hou : (sortWorld enc w b (base + 0) n' d' os).output = w.output := rfl
        generalize sortWorld enc w b (base + 0) n' d' os = w' at *
        have hilY : (S.map ints).length = X.length := by rw [List.length_map, hSl]
        have hnotO : ∀ k, ¬ k ∈ g.ob 0 → k ≠ b := fun k hk e => hk (by rw [hob, e]; simp)
        have htr : ∀ o d, g.tr [some (X.map ints)] o = some d → g.tr [some (S.map ints)] o = some d := fun o d hd => by
          have hlt := tr_lt hd
          obtain rfl : o = 0 := by simpa using hlt
          unfold Gh.tr at *
          simp only [List.getElem?_cons_zero, hil, hilY] at *
          exact hd
        have hfr : ∀ k, g.G k → w'.heap[k]? = w.heap[k]? := fun k hk => hoth k (hp.low k hk) fun e => hGb (e ▸ hk)
        have lift : ∀ x v, Rd w (g.tr [some (X.map ints)]) g.G x v [] → Rd w' (g.tr [some (S.map ints)]) g.G x v [] := fun x v hx =>
          hx.mono (fun _ h => h) hfr (fun o d h => .inl (htr o d h)) (by simp)
        have one : ∀ o cs, [some (S.map ints)][o]? = some (some cs) → o = 0 ∧ cs = S.map ints := fun o cs h => by
          cases o with
          | zero => simp at h; exact ⟨rfl, h.symm⟩
          | succ o => simp at h
        have hp' : HeapR g [some (S.map ints)] w' := by
          refine ⟨?_, ?_, ?_, ?_, fun k hk => Nat.lt_of_lt_of_le (hp.low k hk) hsize⟩
          · intro o cs h5
            obtain ⟨rfl, rfl⟩ := one o cs h5
            rw [hρ]
            refine .ofCells ⟨_, elem, fun m => enc d'[m]!, fun _ => [], hhb, by simp [putCells, hsz], by omega, fun m hm => ?_, fun m hm => ?_, ?_⟩
            · rw [hilY] at hm
              have hm2 : base + m < arr.size := by omega
              simp [putCells, hm2, hps, hm]
            · rw [hilY] at hm
              have e : (S.map ints)[m]'(by omega) = ints (X.getD (d'[m]!).1 []) := by
                rw [← hSm m hm]; simp [hSl, hm]
              rw [e, henc]
              exact rd_ints_any (fun _ h => h) hfr (hu _ (d'[m]!).2)
            · rw [hob, hilY, hil]
              congr 1
              rw [flatMap_nil]
              refine List.flatMap_eq_nil_iff.2 fun m hm => (rd_ints_nil (hu m (List.mem_range.1 hm))).1
          · intro o cs h5
            obtain ⟨rfl, rfl⟩ := one o cs h5
            exact hp.nodup 0 _ rfl
          · intro o o' cs cs' h5 h6 hne
            obtain ⟨rfl, rfl⟩ := one o cs h5
            obtain ⟨rfl, rfl⟩ := one o' cs' h6
            exact absurd rfl hne
          · intro o cs h5
            obtain ⟨rfl, rfl⟩ := one o cs h5
            exact hp.free 0 _ rfl
        refine ⟨.tuple #[], g, .tup [], _, rfl, ⟨hp', ⟨hos, htp, hou, hsize, fun k hk hO => hoth k hk (hnotO k fun hm => hO ⟨0, _, rfl, hm⟩), fun k ⟨o, cs, h5, hm⟩ => ?_, fun _ h => h, fun _ h => .inl h, fun a ha => ?_⟩, lift, fun o d h => .inl (htr o d h)⟩, .tup rfl (by simp), by simp, S, ⟨hSX, hSA⟩, rfl, rfl⟩
        · obtain ⟨rfl, rfl⟩ := one o cs h5
          exact .inl ⟨0, _, rfl, hm⟩
        · unfold World.frozen?
          by_cases e : a.block = b
          · rw [e, hb, hhb]
          · rw [hoth _ ha e]
      · omega
end Go.Proofs.YtghhlcioabdpfaaDoor
set_option maxRecDepth 100000
namespace Go.Proofs.YtghhlcioabdpfaaDoor
open Go.Gov Go.Sort Go.Shelf Go.Lib Go.Proofs

theorem rd_cI2 {w : World} {tr : Nat → Option (Option LocN)} {G : Nat → Prop} {p : Value × List Int} {v : Value} {bs : List Nat} (h : Rd w tr G (cI p) v bs) : Rd w tr G (ints p.2) v [] := by
  unfold cI at h
  cases h with
  | idn h => exact h
theorem rd_cI_mk {w : World} {tr : Nat → Option (Option LocN)} {G : Nat → Prop} {p : Value × List Int} {v : Value} (e : v = p.1) (h : Rd w tr G (ints p.2) v []) : Rd w tr G (cI p) v [] := by
  subst e
  exact .idn h
def cmpI (X : List (Value × List Int)) (x y : Fin X.length) : Int := cmpL (X.getD x.1 (undef, [])).2 (X.getD y.1 (undef, [])).2
theorem cmpI_lt (X : List (Value × List Int)) (x y : Fin X.length) : ltOf (cmpI X) x y = lexL (X.getD x.1 (undef, [])).2 (X.getD y.1 (undef, [])).2 := by
  unfold ltOf cmpI
  have h := cmpL_lt (X.getD x.1 (undef, [])).2 (X.getD y.1 (undef, [])).2
  cases hh : lexL (X.getD x.1 (undef, [])).2 (X.getD y.1 (undef, [])).2 with
  | true => exact decide_eq_true (h.2 hh)
  | false => exact decide_eq_false fun h2 => by rw [h.1 h2] at hh; cases hh
theorem cmpI_swo (X : List (Value × List Int)) : SWO (ltOf (cmpI X)) where
  irrefl x := by rw [cmpI_lt]; exact lexL_irr _
  trans x y z h1 h2 := by rw [cmpI_lt] at *; exact lexL_trans h1 h2
  ntrans x y z h1 h2 := by
    rw [cmpI_lt] at *
    cases h3 : lexL (X.getD x.1 (undef, [])).2 (X.getD z.1 (undef, [])).2 with
    | false => rfl
    | true =>
      cases h4 : lexL (X.getD y.1 (undef, [])).2 (X.getD x.1 (undef, [])).2 with
      | true => rw [lexL_trans h4 h3] at h2; cases h2
      | false =>
        rw [lexL_tri h1 h4] at h3
        rw [h2] at h3; cases h3
theorem sortF_i (X : List (Value × List Int)) (hl : X.length ≤ 1099511627776) (hrl : ∀ x ∈ X, x.2.length ≤ 1099511627776) :
    WriE Tryd.prog 122 [.sl 0 1 0 X.length, .clo 82 [] []] [some (X.map cI)] (fun S : List (Value × List Int) => S.Perm X ∧ Asc (S.map (·.2))) (fun _ => .tup []) (fun S => [some (S.map cI)]) := by
  intro g w vals hp hl1 hr
  have h0 := hr 0 (by simp)
  have h1 := hr 1 (by simp)
  simp only [List.getElem_cons_zero, List.getElem_cons_succ] at h0 h1
  have hv : vals = #[vals.getD 0 undef, .func (.func 82) #[] #[]] := by
    refine Array.ext (by simpa using hl1) fun i h2 h3 => ?_
    simp only [List.length_cons, List.length_nil] at hl1
    match i, h3 with
    | 0, _ => simp [h2]
    | 1, _ =>
      have e1 : vals.getD 1 undef = .func (.func 82) #[] #[] := by
        generalize vals.getD 1 undef = v1 at h1
        cases h1 with
        | @clo _ _ _ vf vc hf _ hc _ =>
          obtain rfl : vf = #[] := Array.size_eq_zero_iff.1 (by simpa using hf.symm)
          obtain rfl : vc = #[] := Array.size_eq_zero_iff.1 (by simpa using hc.symm)
          rfl
      simpa [h2] using e1
  have ho := hp.obj 0 (X.map cI) rfl
  generalize vals.getD 0 undef = v at h0 hv
  subst hv
  have none_case : ∀ a cap, X = [] → Calls Tryd.prog 122 #[.slice a 0 cap, .func (.func 82) #[] #[]] w fun e w' => ∃ v g' av H', e = .returned v ∧ Mv g [some (X.map cI)] w g' H' w' ∧ Rd w' (g'.tr H') g'.G av v [] ∧ (false = true → Ext w w') ∧ ∃ S : List (Value × List Int), (S.Perm X ∧ Asc (S.map (·.2))) ∧ av = .tup [] ∧ H' = [some (S.map cI)] := by
    rintro a cap rfl
    refine (AnyF.slices_SortFunc_none { Tryd.sortF with } a cap _ w).mono ?_
    rintro e w' ⟨rfl, rfl⟩
    exact ⟨.tuple #[], g, .tup [], _, rfl, Mv.refl hp, .tup rfl (by simp), by simp, [], ⟨.refl _, List.Pairwise.nil⟩, rfl, rfl⟩
  have hil : (X.map cI).length = X.length := List.length_map ..
  cases h0 with
  | sl h00 hv0 h =>
    obtain ⟨hle, hS⟩ := h _ (Gh.tr_some (g := g) (H := [some (X.map cI)]) (o := 0) rfl)
    dsimp only at hS hle
    cases hρ : g.ρ 0 with
    | none =>
      rw [hρ] at hS
      obtain ⟨hn, a, rfl⟩ := hS
      have hx := List.eq_nil_of_length_eq_zero hn
      exact none_case a 0 hx
    | some l =>
      obtain ⟨b, base, sz⟩ := l
      rw [hρ] at hS ho
      obtain ⟨cap, h1, h2, h3, h4⟩ := hS
      obtain ⟨arr, elem, u, bss, hb, hsz, hbase, hc, hr2, hob⟩ := ho.cells (by omega)
      rw [hil] at hbase
      have hu : ∀ m (hm : m < X.length), Rd w (g.tr [some (X.map cI)]) g.G (cI (X.getD m (undef, []))) (u m) (bss m) := fun m hm => by
        have h5 := hr2 m (by omega)
        have e : (X.map cI)[m]'(by omega) = cI (X.getD m (undef, [])) := by simp [hm]
        rwa [e] at h5
      by_cases hX : X.length = 0
      · have hx := List.eq_nil_of_length_eq_zero hX
        rcases h4 with rfl | ⟨rfl, a, rfl⟩
        · rw [hX]; exact none_case _ cap hx
        · exact none_case a 0 hx
      rcases h4 with rfl | ⟨rfl, a, rfl⟩
      · letI inst : Inhabited (Fin X.length) := ⟨⟨0, by omega⟩⟩
        have hblk : b < w.heap.size := (Array.getElem?_eq_some_iff.1 hb).1
        have hGb : ¬ g.G b := hp.free 0 _ rfl b (by rw [hob]; simp)
        obtain ⟨enc, henc⟩ : ∃ enc : Fin X.length → Value, enc = fun k => u k.1 := ⟨_, rfl⟩
        obtain ⟨d, hd⟩ : ∃ d : Array (Fin X.length), d = Array.ofFn fun i => i := ⟨_, rfl⟩
        have hds : d.size = X.length := by rw [hd, Array.size_ofFn]
        have hdj : ∀ j (hj : j < X.length), d[j]! = ⟨j, hj⟩ := fun j hj => by
          rw [getElem!_pos d j (by omega)]
          subst hd
          simp
        have h1c : OneCell enc := fun k => by rw [henc]; exact (rd_ints_nil (rd_cI2 (hu k.1 k.2))).2
        have hH : Holds enc w b (base + 0) d := fun j hj => by
          have hj' : j < X.length := by omega
          have hcj := hc j (by omega)
          refine ⟨?_, by have h9 : elem.1.2.2 ≤ elem.1.2.1 ∨ sz ≤ elem.1.2.1 := elem.2; have h11 : base + j < sz := (by omega); simp [World.frozen?, hb]; intro h10; rcases h9 with h9 | h9; exact Nat.le_trans h9 h10; exact absurd (Nat.le_trans h9 h10) (by omega)⟩
          rw [hdj j hj', henc]
          simp only [World.cell?, hb, Nat.add_zero]
          exact hcj
        have hcmp : CmpLays1 Tryd.prog 82 #[] enc (cmpI X) b (base + 0) d.size w := by
          intro m os dk hdk x y
          have hoth := fun k (hk : k < w.heap.size) (hne : k ≠ b) => heapE_other (enc := enc) (w := w) (b := b) (off := base + 0) (n := m) (os := os) dk hk hne
          have hsize : w.heap.size ≤ (sortWorld enc w b (base + 0) m dk os).heap.size := by simp [sortWorld, grow, putRow, mapBlock, Sort.ahead]
          generalize sortWorld enc w b (base + 0) m dk os = W at *
          have hfr : ∀ k, g.G k → W.heap[k]? = w.heap[k]? := fun k hk => hoth k (hp.low k hk) fun e => hGb (e ▸ hk)
          have hk := compare_c (X.getD x.1 (undef, [])).2 (X.getD y.1 (undef, [])).2 (hrl _ (by simp)) (hrl _ (by simp)) ⟨fun _ => none, fun _ => [], g.G⟩ W #[enc x, enc y] ⟨by simp, by simp, by simp, by simp, fun k hk => Nat.lt_of_lt_of_le (hp.low k hk) hsize⟩ rfl (fun i hi => by
            match i, hi with
            | 0, _ => rw [henc]; exact rd_ints_any (fun _ h => h) hfr (rd_cI2 (hu x.1 x.2))
            | 1, _ => rw [henc]; exact rd_ints_any (fun _ h => h) hfr (rd_cI2 (hu y.1 y.2)))
          have e : (#[enc x, enc y] ++ #[] : Array Value) = #[enc x, enc y] := by simp
          rw [e]
          refine hk.mono ?_
          rintro e w' ⟨v, g', av, H', rfl, hmv, hrd, hext, rfl, rfl⟩
          exact ⟨by rw [hrd.val_inv.1]; rfl, grow_of hmv.stp.os hmv.stp.tape hmv.stp.output hmv.stp.size (hext rfl)⟩
        have eg : ∀ args w, (callFunc 82 args).run Tryd.prog w = .ok (.enter 82 args) w := fun args w => callFunc_run (by kernel_rfl) w
        have hcon := Any.slices_SortFunc Tryd.sortF enc h1c (cmpI X) (cmpI_swo X) 82 #[] b (base + 0) cap d w eg hcmp hH hblk (by omega)
        rw [hds] at hcon
        refine hcon.mono ?_
        rintro e w' ⟨rfl, d', n', os, ⟨hps, _, hpp⟩, hss, rfl⟩
        rw [hds] at hps
        have hpp' : d'.toList.Perm d.toList := by
          have e1 : d'.extract 0 X.length = d' := extract_all hps
          have e2 : d.extract 0 X.length = d := extract_all hds
          rwa [e1, e2] at hpp
        obtain ⟨S, hSd⟩ : ∃ S : List (Value × List Int), S = d'.toList.map fun k => X.getD k.1 (undef, []) := ⟨_, rfl⟩
        have hSl : S.length = X.length := by rw [hSd, List.length_map, Array.length_toList, hps]
        have hdX : (d.toList.map fun k => X.getD k.1 (undef, [])) = X := by
          refine List.ext_getElem (by rw [List.length_map, Array.length_toList, hds]) fun i hi1 hi2 => ?_
          subst hd
          simp
        have hSX : S.Perm X := by
          have := hpp'.map fun k : Fin X.length => X.getD k.1 (undef, [])
          rwa [hdX, ← hSd] at this
        have hSm : ∀ m (hm : m < X.length), S.getD m (undef, []) = X.getD (d'[m]!).1 (undef, []) := fun m hm => by
          rw [hSd, getElem!_pos d' m (by omega)]
          simp [hps, hm]
        have hSA : Asc (S.map (·.2)) := by
          refine List.pairwise_iff_getElem.2 fun i j hi hj hij => ?_
          have hl2 : (S.map (·.2)).length = S.length := List.length_map ..
          have h5 := hss i j (Nat.zero_le _) hij (by omega)
          rw [cmpI_lt] at h5
          have hi' : i < S.length := by simpa using hi
          have hj' : j < S.length := by simpa using hj
          have e1 := hSm i (by omega)
          have e2 := hSm j (by omega)
          rw [← e1, ← e2] at h5
          simpa [hi', hj'] using h5
        have hhb := heapE_at (enc := enc) (w := w) (n := n') (os := os) (off := base + 0) d' hb
        have hoth := fun k (hk : k < w.heap.size) (hne : k ≠ b) => heapE_other (enc := enc) (w := w) (b := b) (off := base + 0) (n := n') (os := os) d' hk hne
        have hsize : w.heap.size ≤ (sortWorld enc w b (base + 0) n' d' os).heap.size := by simp [sortWorld, grow, putRow, mapBlock, Sort.ahead]
        have hos : (sortWorld enc w b (base + 0) n' d' os).os = w.os := rfl
        have htp : TapeOk w (sortWorld enc w b (base + 0) n' d' os) := ⟨rfl, Nat.le_add_right _ _⟩
        have hou : (sortWorld enc w b (base + 0) n' d' os).output = w.output := rfl
        generalize sortWorld enc w b (base + 0) n' d' os = w' at *
        have hilY : (S.map cI).length = X.length := by rw [List.length_map, hSl]
        have hnotO : ∀ k, ¬ k ∈ g.ob 0 → k ≠ b := fun k hk e => hk (by rw [hob, e]; simp)
        have htr : ∀ o d, g.tr [some (X.map cI)] o = some d → g.tr [some (S.map cI)] o = some d := fun o d hd => by
          have hlt := tr_lt hd
          obtain rfl : o = 0 := by simpa using hlt
          unfold Gh.tr at *
          simp only [List.getElem?_cons_zero, hil, hilY] at *
          exact hd
        have hfr : ∀ k, g.G k → w'.heap[k]? = w.heap[k]? := fun k hk => hoth k (hp.low k hk) fun e => hGb (e ▸ hk)
        have lift : ∀ x v, Rd w (g.tr [some (X.map cI)]) g.G x v [] → Rd w' (g.tr [some (S.map cI)]) g.G x v [] := fun x v hx =>
          hx.mono (fun _ h => h) hfr (fun o d h => .inl (htr o d h)) (by simp)
        have one : ∀ o cs, [some (S.map cI)][o]? = some (some cs) → o = 0 ∧ cs = S.map cI := fun o cs h => by
          cases o with
          | zero => simp at h; exact ⟨rfl, h.symm⟩
          | succ o => simp at h
        have hp' : HeapR g [some (S.map cI)] w' := by
          refine ⟨?_, ?_, ?_, ?_, fun k hk => Nat.lt_of_lt_of_le (hp.low k hk) hsize⟩
          · intro o cs h5
            obtain ⟨rfl, rfl⟩ := one o cs h5
            rw [hρ]
            refine .ofCells ⟨_, elem, fun m => enc d'[m]!, fun _ => [], hhb, by simp [putCells, hsz], by omega, fun m hm => ?_, fun m hm => ?_, ?_⟩
            · rw [hilY] at hm
              have hm2 : base + m < arr.size := by omega
              simp [putCells, hm2, hps, hm]
            · rw [hilY] at hm
              have e : (S.map cI)[m]'(by omega) = cI (X.getD (d'[m]!).1 (undef, [])) := by
                rw [← hSm m hm]; simp [hSl, hm]
              rw [e, henc]
              exact rd_cI_mk (rd_cI (hu _ (d'[m]!).2)).1 (rd_ints_any (fun _ h => h) hfr (rd_cI2 (hu _ (d'[m]!).2)))
            · rw [hob, hilY, hil]
              congr 1
              rw [flatMap_nil]
              refine List.flatMap_eq_nil_iff.2 fun m hm => (rd_cI (hu m (List.mem_range.1 hm))).2
          · intro o cs h5
            obtain ⟨rfl, rfl⟩ := one o cs h5
            exact hp.nodup 0 _ rfl
          · intro o o' cs cs' h5 h6 hne
            obtain ⟨rfl, rfl⟩ := one o cs h5
            obtain ⟨rfl, rfl⟩ := one o' cs' h6
            exact absurd rfl hne
          · intro o cs h5
            obtain ⟨rfl, rfl⟩ := one o cs h5
            exact hp.free 0 _ rfl
        refine ⟨.tuple #[], g, .tup [], _, rfl, ⟨hp', ⟨hos, htp, hou, hsize, fun k hk hO => hoth k hk (hnotO k fun hm => hO ⟨0, _, rfl, hm⟩), fun k ⟨o, cs, h5, hm⟩ => ?_, fun _ h => h, fun _ h => .inl h, fun a ha => ?_⟩, lift, fun o d h => .inl (htr o d h)⟩, .tup rfl (by simp), by simp, S, ⟨hSX, hSA⟩, rfl, rfl⟩
        · obtain ⟨rfl, rfl⟩ := one o cs h5
          exact .inl ⟨0, _, rfl, hm⟩
        · unfold World.frozen?
          by_cases e : a.block = b
          · rw [e, hb, hhb]
          · rw [hoth _ ha e]
      · omega
end Go.Proofs.YtghhlcioabdpfaaDoor
set_option maxRecDepth 100000
namespace Go.Proofs.YtghhlcioabdpfaaDoor
open Go.Gov
open Classical
theorem nilOf_val (H : Heap) (a : Option Addr) (n c : Nat) : nilOf H (.val (.slice a n c)) = some a.isNone := rfl
theorem cloneR0 (b : Option Addr) (cap : Nat) : Pure Tryd.prog 119 [.val (.slice b 0 cap)] (.sl 0 1 0 0) [some []] := by
  cases b with
  | none =>
    refine pureRV ok119 rfl ?_; unfold c119
    (repeat first | simp only [go_sem, ↓reduceIte, Nat.reduceEqDiff, Nat.reduceAdd, reduceCtorEq] | with_reducible refine V_W ?_ | (with_reducible refine And.intro ?_ ?_; focus first | assumption | omega | decide | grind) | (with_reducible refine Br.mk ?_ ?_; focus (intros; omega)) | decide)
    simp only [nilOf_val, Option.isNone_none, Option.isNone_some, Option.isSome_some, Option.getD_some, true_and]
    (repeat first | simp only [go_sem, ↓reduceIte, Nat.reduceEqDiff, Nat.reduceAdd, reduceCtorEq] | with_reducible refine V_W ?_ | (with_reducible refine And.intro ?_ ?_; focus first | assumption | omega | decide | grind) | (with_reducible refine Br.mk ?_ ?_; focus (intros; omega)) | decide)
    exact (Ref.nil 0 1 rfl).trans (Ref.to rfl (by simp [sub, fget]))
  | some b =>
    refine pureRV ok119 rfl ?_; unfold c119
    (repeat first | simp only [go_sem, ↓reduceIte, Nat.reduceEqDiff, Nat.reduceAdd, reduceCtorEq] | with_reducible refine V_W ?_ | (with_reducible refine And.intro ?_ ?_; focus first | assumption | omega | decide | grind) | (with_reducible refine Br.mk ?_ ?_; focus (intros; omega)) | decide)
    simp only [nilOf_val, Option.isNone_none, Option.isNone_some, Option.isSome_some, Option.getD_some, true_and]
    (repeat first | simp only [go_sem, ↓reduceIte, Nat.reduceEqDiff, Nat.reduceAdd, reduceCtorEq] | with_reducible refine V_W ?_ | (with_reducible refine And.intro ?_ ?_; focus first | assumption | omega | decide | grind) | (with_reducible refine Br.mk ?_ ?_; focus (intros; omega)) | decide)
    exact Ref.gc [1] rfl (by simp only [go_sem, ↓reduceIte, Nat.reduceEqDiff, Nat.reduceAdd, reduceCtorEq] <;> rfl) (by simp [sub, fget, go_sem, ↓reduceIte, Nat.reduceEqDiff, Nat.reduceAdd, reduceCtorEq])
theorem plain_cI (L : List Rw) : (L.map cI).all plainC = true := List.all_eq_true.2 fun x hx => by
  obtain ⟨y, _, rfl⟩ := List.mem_map.1 hx
  rfl
theorem one_cI (L : List Rw) : (L.map cI).all oneA = true := List.all_eq_true.2 fun x hx => by
  obtain ⟨y, _, rfl⟩ := List.mem_map.1 hx
  rfl
theorem cloneR1 (F : List Rw) (h0 : 0 < F.length) (hl : F.length ≤ 1048576) : Pure Tryd.prog 119 [.slc 1 F.length (F.map cI)] (.sl 0 1 0 F.length) [some (F.map cI)] := by
  obtain ⟨r, R, rfl⟩ : ∃ r R, F = r :: R := by cases F with | nil => simp at h0 | cons r R => exact ⟨r, R, rfl⟩
  generalize hM : r :: R = M at *
  have hlen : M.length = R.length + 1 := by rw [← hM]; rfl
  refine pureVg [1] ok119 rfl ?_; unfold c119
  rw [show AV.slc 1 M.length (M.map cI) = .slc 1 (R.length + 1) (M.map cI) by rw [hlen]]
  have hn : ∀ H, nilOf H (.slc 1 (R.length + 1) (M.map cI)) = some false := fun _ => rfl
  (repeat first | simp only [go_sem, ↓reduceIte, Nat.reduceEqDiff, Nat.reduceAdd, reduceCtorEq] | with_reducible refine V_W ?_ | (with_reducible refine And.intro ?_ ?_; focus first | assumption | omega | decide | grind) | (with_reducible refine Br.mk ?_ ?_; focus (intros; omega)) | decide)
  simp only [hn, Option.isSome_some, Option.getD_some, true_and]
  (repeat first | simp only [go_sem, ↓reduceIte, Nat.reduceEqDiff, Nat.reduceAdd, reduceCtorEq] | with_reducible refine V_W ?_ | (with_reducible refine And.intro ?_ ?_; focus first | assumption | omega | decide | grind) | (with_reducible refine Br.mk ?_ ?_; focus (intros; omega)) | decide)
  refine ⟨one_cI M, AppK_pl (plain_cI M) ?_⟩
  (repeat first | simp only [go_sem, ↓reduceIte, Nat.reduceEqDiff, Nat.reduceAdd, reduceCtorEq] | with_reducible refine V_W ?_ | (with_reducible refine And.intro ?_ ?_; focus first | assumption | omega | decide | grind) | (with_reducible refine Br.mk ?_ ?_; focus (intros; omega)) | decide)
  (try simp only [hlen, go_sem, ↓reduceIte, Nat.reduceEqDiff, Nat.reduceAdd, reduceCtorEq])
theorem cloneR_i (F : List Rw) (hl : F.length ≤ 1048576) : Pure Tryd.prog 119 [.slc 1 F.length (F.map cI)] (.sl 0 1 0 F.length) [some (F.map cI)] := by
  cases F with
  | nil => exact CallsX.slc0 fun b cap => cloneR0 b cap
  | cons x F => exact cloneR1 (x :: F) (by simp) hl
end Go.Proofs.YtghhlcioabdpfaaDoor
set_option maxRecDepth 100000
namespace Go.Proofs.YtghhlcioabdpfaaDoor
open Go.Gov
open Classical

def Grt (F G : List (List Int)) : Prop := G.Nodup ∧ ∀ x, x ∈ G ↔ x ∈ F ∧ x ≠ [] ∧ ∀ y ∈ F, x.Sublist y → y = x
theorem Grt.perm {F F' G G' : List (List Int)} (h : Grt F G) (hF : F.Perm F') (hG : G.Perm G') : Grt F' G' := by
  refine ⟨hG.nodup_iff.1 h.1, fun x => ?_⟩
  rw [← hG.mem_iff, h.2 x, hF.mem_iff]
  exact ⟨fun ⟨h1, h2, h3⟩ => ⟨h1, h2, fun y hy => h3 y (hF.mem_iff.2 hy)⟩, fun ⟨h1, h2, h3⟩ => ⟨h1, h2, fun y hy => h3 y (hF.mem_iff.1 hy)⟩⟩
def DescL (l : List (List Int)) : Prop := l.Pairwise fun a b => b.length ≤ a.length
structure GrI (T : List (List Int)) (j : Nat) (O : List (List Int)) : Prop where
  mem : ∀ x ∈ O, x ≠ [] ∧ x ∈ T.take j
  cov : ∀ x ∈ T.take j, x ≠ [] → ∃ y ∈ O, x.Sublist y
  apart : O.Pairwise fun a b => b.length ≤ a.length ∧ ¬ b.Sublist a
theorem GrI.start (T : List (List Int)) : GrI T 0 [] := ⟨by simp, by simp, List.Pairwise.nil⟩
theorem take_one {T : List (List Int)} {j : Nat} (hj : j < T.length) : T.take (j + 1) = T.take j ++ [T.getD j []] := by
  rw [List.take_succ_eq_append_getElem hj]
  simp [hj]
theorem GrI.skip {T O : List (List Int)} {j : Nat} (h : GrI T j O) (hj : j < T.length) (hs : T.getD j [] = [] ∨ ∃ y ∈ O, (T.getD j []).Sublist y) : GrI T (j + 1) O := by
  refine ⟨fun x hx => ⟨(h.mem x hx).1, ?_⟩, fun x hx hx0 => ?_, h.apart⟩
  · rw [take_one hj]; exact List.mem_append_left _ (h.mem x hx).2
  · rw [take_one hj] at hx
    rcases List.mem_append.1 hx with hx | hx
    · exact h.cov x hx hx0
    · obtain rfl := List.mem_singleton.1 hx
      rcases hs with hs | hs
      · exact absurd hs hx0
      · exact hs
theorem desc_take {T : List (List Int)} (hD : DescL T) {j : Nat} (hj : j < T.length) {x : List Int} (hx : x ∈ T.take j) : (T.getD j []).length ≤ x.length := by
  obtain ⟨i, hi, rfl⟩ := List.mem_iff_getElem.1 hx
  have hil : i < j := by rw [List.length_take] at hi; omega
  have := (List.pairwise_iff_getElem.1 hD) i j (by omega) hj hil
  rw [List.getElem_take]
  simpa [hj] using this
theorem GrI.put {T O : List (List Int)} {j : Nat} (h : GrI T j O) (hD : DescL T) (hj : j < T.length) (h0 : T.getD j [] ≠ []) (hs : ¬ ∃ y ∈ O, (T.getD j []).Sublist y) : GrI T (j + 1) (O ++ [T.getD j []]) := by
  refine ⟨fun x hx => ?_, fun x hx hx0 => ?_, ?_⟩
  · rw [take_one hj]
    rcases List.mem_append.1 hx with hx | hx
    · exact ⟨(h.mem x hx).1, List.mem_append_left _ (h.mem x hx).2⟩
    · obtain rfl := List.mem_singleton.1 hx
      exact ⟨h0, List.mem_append_right _ (by simp)⟩
  · rw [take_one hj] at hx
    rcases List.mem_append.1 hx with hx | hx
    · obtain ⟨y, hy, hxy⟩ := h.cov x hx hx0
      exact ⟨y, List.mem_append_left _ hy, hxy⟩
    · obtain rfl := List.mem_singleton.1 hx
      exact ⟨_, List.mem_append_right _ (by simp), List.Sublist.refl _⟩
  · refine List.pairwise_append.2 ⟨h.apart, by simp, fun a ha b hb => ?_⟩
    obtain rfl := List.mem_singleton.1 hb
    exact ⟨desc_take hD hj (h.mem a ha).2, fun hab => hs ⟨a, ha, hab⟩⟩
theorem GrI.done {T O : List (List Int)} (h : GrI T T.length O) : Grt T O := by
  have hm := h.mem
  have hc := h.cov
  rw [List.take_length] at hm hc
  have hanti : ∀ a ∈ O, ∀ b ∈ O, a.Sublist b → a = b := by
    have hp : O.Pairwise fun a b => (a.Sublist b → a = b) ∧ (b.Sublist a → b = a) := h.apart.imp fun {a b} ⟨h1, h2⟩ => ⟨fun hab => hab.eq_of_length_le h1, fun hba => absurd hba h2⟩
    intro a ha b hb
    obtain ⟨i, hi, rfl⟩ := List.mem_iff_getElem.1 ha
    obtain ⟨k, hk, rfl⟩ := List.mem_iff_getElem.1 hb
    rcases Nat.lt_trichotomy i k with h5 | h5 | h5
    · exact (List.pairwise_iff_getElem.1 hp i k hi hk h5).1
    · subst h5; exact fun _ => rfl
    · exact (List.pairwise_iff_getElem.1 hp k i hk hi h5).2
  refine ⟨h.apart.imp fun {a b} ⟨_, h2⟩ e => h2 (e ▸ List.Sublist.refl _), fun x => ⟨fun hx => ⟨(hm x hx).2, (hm x hx).1, fun y hy hxy => ?_⟩, fun ⟨h1, h2, h3⟩ => ?_⟩⟩
  · have hy0 : y ≠ [] := fun e => (hm x hx).1 (by subst e; exact List.sublist_nil.1 hxy)
    obtain ⟨z, hz, hyz⟩ := hc y hy hy0
    have := hanti x hx z hz (hxy.trans hyz)
    subst this
    exact hyz.eq_of_length_le hxy.length_le
  · obtain ⟨y, hy, hxy⟩ := hc x h1 h2
    exact h3 y (hm y hy).2 hxy ▸ hy
theorem len_of_sub : ∀ {G F : List (List Int)}, G.Nodup → (∀ x ∈ G, x ∈ F) → G.length ≤ F.length
  | [], F, _, _ => Nat.zero_le _
  | x :: G, F, hG, hs => by
    obtain ⟨h1, h2⟩ := List.nodup_cons.1 hG
    have hp := List.perm_cons_erase (hs x List.mem_cons_self)
    have hlen := hp.length_eq
    have := len_of_sub h2 (F := F.erase x) fun z hz => by
      rcases List.mem_cons.1 (hp.mem_iff.1 (hs z (List.mem_cons_of_mem _ hz))) with e | e
      · exact absurd (e ▸ hz) h1
      · exact e
    simp only [List.length_cons] at *
    omega
theorem GrI.len {T O : List (List Int)} {j : Nat} (h : GrI T j O) : O.length ≤ T.length :=
  len_of_sub (h.apart.imp fun {a b} ⟨_, h2⟩ e => h2 (e ▸ List.Sublist.refl _)) fun x hx => List.mem_of_mem_take (h.mem x hx).2
def Seen (O : List (List Int)) (n : ByteArray) : Prop := ∃ x ∈ O, ∃ p : List Int, p.Sublist x ∧ n = kT p
theorem seen_iff {O : List (List Int)} {x : List Int} (hO : ∀ y ∈ O, Sml y) (hx : Sml x) : Seen O (kT x) ↔ ∃ y ∈ O, x.Sublist y := by
  constructor
  · rintro ⟨y, hy, p, hp, e⟩
    exact ⟨y, hy, by rw [kT_inj hx ((hO y hy).sub hp) e]; exact hp⟩
  · rintro ⟨y, hy, h⟩
    exact ⟨y, hy, x, h, rfl⟩
def SeenK (O : List (List Int)) (x : List Int) (k i : Nat) (n : ByteArray) : Prop := Seen O n ∨ (∃ p : List Int, p.Sublist x ∧ p.length < k ∧ n = kT p) ∨ ∃ p ∈ (prt k x).take i, n = kT p
theorem SeenK.zero (O : List (List Int)) (x : List Int) (n : ByteArray) : Seen O n ↔ SeenK O x 0 0 n := by simp [SeenK]
theorem SeenK.step {O : List (List Int)} {x : List Int} {k i : Nat} (hi : i < (prt k x).length) (n : ByteArray) : (SeenK O x k i n ∨ n = kT ((prt k x).getD i [])) ↔ SeenK O x k (i + 1) n := by
  unfold SeenK
  rw [take_one hi]
  simp only [List.mem_append, List.mem_singleton]
  constructor
  · rintro ((h | h | ⟨p, hp, h⟩) | h)
    · exact .inl h
    · exact .inr (.inl h)
    · exact .inr (.inr ⟨p, .inl hp, h⟩)
    · exact .inr (.inr ⟨_, .inr rfl, h⟩)
  · rintro (h | h | ⟨p, hp | hp, h⟩)
    · exact .inl (.inl h)
    · exact .inl (.inr (.inl h))
    · exact .inl (.inr (.inr ⟨p, hp, h⟩))
    · exact .inr (by rw [h, hp])
theorem SeenK.next {O : List (List Int)} {x : List Int} {k : Nat} (n : ByteArray) : SeenK O x k (prt k x).length n ↔ SeenK O x (k + 1) 0 n := by
  unfold SeenK
  rw [List.take_length]
  simp only [List.take_zero, List.not_mem_nil, false_and, exists_const, or_false]
  constructor
  · rintro (h | ⟨p, h1, h2, h3⟩ | ⟨p, h1, h2⟩)
    · exact .inl h
    · exact .inr ⟨p, h1, by omega, h3⟩
    · obtain ⟨h3, h4⟩ := (prt_mem _ _ _).1 h1
      exact .inr ⟨p, h3, by omega, h2⟩
  · rintro (h | ⟨p, h1, h2, h3⟩)
    · exact .inl h
    · by_cases e : p.length = k
      · exact .inr (.inr ⟨p, (prt_mem _ _ _).2 ⟨h1, e⟩, h3⟩)
      · exact .inr (.inl ⟨p, h1, by omega, h3⟩)
theorem SeenK.all {O : List (List Int)} {x : List Int} (n : ByteArray) : SeenK O x (x.length + 1) 0 n ↔ Seen (O ++ [x]) n := by
  unfold SeenK Seen
  simp only [List.take_zero, List.not_mem_nil, false_and, exists_const, or_false, List.mem_append, List.mem_singleton]
  constructor
  · rintro (⟨y, hy, h⟩ | ⟨p, h1, h2, h3⟩)
    · exact ⟨y, .inl hy, h⟩
    · exact ⟨x, .inr rfl, p, h1, h3⟩
  · rintro ⟨y, hy | rfl, p, h1, h2⟩
    · exact .inl ⟨y, hy, p, h1, h2⟩
    · exact .inr ⟨p, h1, Nat.lt_succ_of_le h1.length_le, h2⟩
end Go.Proofs.YtghhlcioabdpfaaDoor
set_option maxRecDepth 100000
namespace Go.Proofs.YtghhlcioabdpfaaDoor
open Go.Gov
open Classical

def Rise (m : Int) (x : List Int) : Prop := ∀ i, i < x.length → (0 ≤ x.getD i 0 ∧ x.getD i 0 ≤ m) ∧ (0 < i → x.getD (i - 1) 0 < x.getD i 0)
def Rk (v : Int) (F : List (List Int)) (i : Nat) : Prop := (1 ≤ (F.getD i []).length ∧ (F.getD i []).length ≤ 6) ∧ Rise (v - 1) (F.getD i []) ∧ (0 < i → lexL (F.getD (i - 1) []) (F.getD i []) = true)
def Met (F : List (List Int)) (i : Nat) (n : Nat) : Prop := ∃ x ∈ F.take i, (n : Int) ∈ x
def CxA (v : Int) (F : List (List Int)) : Prop := (0 ≤ v ∧ v ≤ 60) ∧ F.length ≤ 400
def CxB (v : Int) (F : List (List Int)) : Prop := ∀ i, i < F.length → Rk v F i
def CxC (v : Int) (F : List (List Int)) : Prop := ∀ n, n < v.toNat → Met F F.length n
def CxD (F : List (List Int)) : Prop := ∀ i k, i < F.length → k < F.length → i ≠ k → ¬ Win (F.getD i []) (F.getD k [])
def CxOk (v : Int) (F : List (List Int)) : Prop := CxA v F ∧ CxB v F ∧ CxC v F ∧ CxD F

theorem Rise.lt {m : Int} {x : List Int} (h : Rise m x) : x.Pairwise (· < ·) := by
  have step : ∀ (k i : Nat), i + k + 1 < x.length → x.getD i 0 < x.getD (i + k + 1) 0 := by
    intro k
    induction k with
    | zero =>
      intro i hi
      have := (h (i + 1) (by omega)).2 (by omega)
      simpa using this
    | succ k ih =>
      intro i hi
      have h1 := ih i (by omega)
      have h2 := (h (i + (k + 1) + 1) (by omega)).2 (by omega)
      rw [show i + (k + 1) + 1 - 1 = i + k + 1 by omega] at h2
      omega
  refine List.pairwise_iff_getElem.2 fun i j hi hj hij => ?_
  have := step (j - i - 1) i (by omega)
  rw [show i + (j - i - 1) + 1 = j by omega] at this
  simpa [hi, hj] using this
theorem Rise.sml {m : Int} {x : List Int} (h : Rise m x) (hm : m < 100) : Sml x := fun y hy => by
  obtain ⟨i, hi, rfl⟩ := List.mem_iff_getElem.1 hy
  have := (h i hi).1
  rw [show x.getD i 0 = x[i] by simp [hi]] at this
  omega
theorem sub_of_win : ∀ {b a : List Int}, a.Pairwise (· < ·) → b.Pairwise (· < ·) → Win a b → a.Sublist b
  | [], [], _, _, _ => List.Sublist.refl _
  | [], x :: a, _, _, h => absurd (h x List.mem_cons_self) (by simp)
  | y :: b, [], _, _, _ => List.nil_sublist _
  | y :: b, x :: a, ha, hb, h => by
    obtain ⟨ha1, ha2⟩ := List.pairwise_cons.1 ha
    obtain ⟨hb1, hb2⟩ := List.pairwise_cons.1 hb
    by_cases e : x = y
    · subst e
      refine List.Sublist.cons_cons x (sub_of_win ha2 hb2 fun z hz => ?_)
      rcases List.mem_cons.1 (h z (List.mem_cons_of_mem _ hz)) with e | e
      · have := ha1 z hz; omega
      · exact e
    · refine List.Sublist.cons y (sub_of_win ha hb2 fun z hz => ?_)
      have hx : x ∈ b := by
        rcases List.mem_cons.1 (h x List.mem_cons_self) with e2 | e2
        · exact absurd e2 e
        · exact e2
      have hyx := hb1 x hx
      rcases List.mem_cons.1 (h z hz) with e2 | e2
      · rcases List.mem_cons.1 hz with e3 | e3
        · omega
        · have := ha1 z e3; omega
      · exact e2
theorem getD_mem {F : List (List Int)} {i : Nat} (h : i < F.length) : F.getD i [] ∈ F := by
  rw [List.getD_eq_getElem?_getD, List.getElem?_eq_getElem h]
  exact List.getElem_mem h
theorem CxB.asc {v : Int} {F : List (List Int)} (h : CxB v F) : F.Pairwise fun a b => lexL a b = true := by
  have step : ∀ (k i : Nat), i + k + 1 < F.length → lexL (F.getD i []) (F.getD (i + k + 1) []) = true := by
    intro k
    induction k with
    | zero =>
      intro i hi
      have := (h (i + 1) (by omega)).2.2 (by omega)
      simpa using this
    | succ k ih =>
      intro i hi
      have h1 := ih i (by omega)
      have h2 := (h (i + (k + 1) + 1) (by omega)).2.2 (by omega)
      rw [show i + (k + 1) + 1 - 1 = i + k + 1 by omega] at h2
      exact lexL_trans h1 h2
  refine List.pairwise_iff_getElem.2 fun i j hi hj hij => ?_
  have := step (j - i - 1) i (by omega)
  rw [show i + (j - i - 1) + 1 = j by omega] at this
  simpa [hi, hj] using this
theorem CxB.nodup {v : Int} {F : List (List Int)} (h : CxB v F) : F.Nodup := h.asc.imp fun {a b} hab e => by
  subst e; rw [lexL_irr] at hab; cases hab
theorem CxB.row {v : Int} {F : List (List Int)} (h : CxB v F) {x : List Int} (hx : x ∈ F) : (1 ≤ x.length ∧ x.length ≤ 6) ∧ Rise (v - 1) x := by
  obtain ⟨i, hi, rfl⟩ := List.mem_iff_getElem.1 hx
  have := h i hi
  rw [Rk, show F.getD i [] = F[i] by simp [hi]] at this
  exact ⟨this.1, this.2.1⟩
theorem perm_of_sub : ∀ {G F : List (List Int)}, G.Nodup → (∀ x ∈ G, x ∈ F) → F.length ≤ G.length → G.Perm F
  | [], F, _, _, hl => by rw [List.eq_nil_of_length_eq_zero (Nat.le_zero.1 hl)]
  | x :: G, F, hG, hs, hl => by
    obtain ⟨h1, h2⟩ := List.nodup_cons.1 hG
    have hx := hs x List.mem_cons_self
    have hp := List.perm_cons_erase hx
    have hlen := hp.length_eq
    refine ((perm_of_sub h2 (fun z hz => ?_) (by simp only [List.length_cons] at hl hlen; omega)).cons x).trans hp.symm
    rcases List.mem_cons.1 (hp.mem_iff.1 (hs z (List.mem_cons_of_mem _ hz))) with e | e
    · exact absurd (e ▸ hz) h1
    · exact e
theorem grt_len {v : Int} {F G : List (List Int)} (h : CxB v F) (hG : Grt F G) : G.length = F.length ↔ CxD F := by
  have hsub : ∀ x ∈ G, x ∈ F := fun x hx => ((hG.2 x).1 hx).1
  constructor
  · intro hl i k hi hk hik hw
    have hp := perm_of_sub hG.1 hsub (by omega)
    have hm : F.getD i [] ∈ G := hp.mem_iff.2 (getD_mem hi)
    have hS := sub_of_win (h.row (getD_mem hi)).2.lt (h.row (getD_mem hk)).2.lt hw
    have he := ((hG.2 _).1 hm).2.2 _ (getD_mem hk) hS
    have hne : ∀ {i k : Nat} (_ : i < F.length) (_ : k < F.length), i < k → F.getD i [] ≠ F.getD k [] := fun {i k} hi hk hik e => by
      have := List.pairwise_iff_getElem.1 h.asc i k hi hk hik
      rw [show F.getD i [] = F[i] by simp [hi], show F.getD k [] = F[k] by simp [hk]] at e
      rw [e, lexL_irr] at this
      cases this
    rcases Nat.lt_or_gt_of_ne hik with h5 | h5
    · exact hne hi hk h5 he.symm
    · exact hne hk hi h5 he
  · intro hD
    refine List.Perm.length_eq ((List.perm_ext_iff_of_nodup hG.1 h.nodup).2 fun x => ⟨hsub x, fun hx => (hG.2 x).2 ⟨hx, fun e => ?_, fun y hy hxy => ?_⟩⟩)
    · have := (h.row hx).1.1
      rw [e] at this
      simp at this
    · obtain ⟨i, hi, rfl⟩ := List.mem_iff_getElem.1 hx
      obtain ⟨k, hk, rfl⟩ := List.mem_iff_getElem.1 hy
      by_cases e : i = k
      · subst e; rfl
      · exfalso
        refine hD i k hi hk e ?_
        rw [show F.getD i [] = F[i] by simp [hi], show F.getD k [] = F[k] by simp [hk]]
        exact fun z hz => hxy.subset hz
end Go.Proofs.YtghhlcioabdpfaaDoor
set_option maxRecDepth 100000
namespace Go.Proofs.YtghhlcioabdpfaaDoor
open Go.Gov
open Classical

theorem shf_rows (n d : Nat) (L : List (List Int)) : (L.map ints).map (shf n (d + 2)) = L.map ints := by
  rw [List.map_map]
  refine List.map_congr_left fun x _ => ?_
  simp [shf, intsC]
theorem shr_rows (σ : Nat → Nat) (d : Nat) (L : List (List Int)) : (L.map ints).map (shr σ (d + 2)) = L.map ints := by
  rw [List.map_map]
  refine List.map_congr_left fun x _ => ?_
  simp [shr, intsC]
theorem rnm_bV (τ : Nat → Option Nat) (l : List (ByteArray × Bool)) : smap (fun x => rnm τ (bV x)) l = smap bV l := rfl
attribute [go_sem] shf_rows shr_rows rnm_bV
theorem getI_mem {S : List Rw} {i : Nat} (h : i < S.length) : S.getD i rw0 ∈ S := by
  rw [List.getD_eq_getElem?_getD, List.getElem?_eq_getElem h]
  exact List.getElem_mem h
theorem idx_trans {α : Type} (d : α) {A B C : List α} (h : ∃ ks : List Nat, ks.Nodup ∧ (∀ k ∈ ks, k < B.length) ∧ A = ks.map fun k => B.getD k d) (h' : ∃ ks : List Nat, ks.Nodup ∧ (∀ k ∈ ks, k < C.length) ∧ B = ks.map fun k => C.getD k d) : ∃ ks : List Nat, ks.Nodup ∧ (∀ k ∈ ks, k < C.length) ∧ A = ks.map fun k => C.getD k d := by
  obtain ⟨ks, h1, h2, h3⟩ := h
  obtain ⟨k2, k3, k4, k5⟩ := h'
  have hlt : ∀ k ∈ ks, k < k2.length := fun k hk => by
    have := h2 k hk
    rw [k5, List.length_map] at this
    exact this
  refine ⟨ks.map fun k => k2.getD k 0, ?_, fun k hk => ?_, ?_⟩
  · refine List.pairwise_map.2 (h1.imp_of_mem fun {a b} ha hb h e => h ?_)
    have h5 := hlt a ha
    have h6 := hlt b hb
    have e2 : k2[a] = k2[b] := by simpa [h5, h6] using e
    exact (List.getElem_inj k3).1 e2
  · obtain ⟨i, hi, rfl⟩ := List.mem_map.1 hk
    refine k4 _ ?_
    have := hlt i hi
    simp [this]
  · rw [h3, List.map_map]
    refine List.map_congr_left fun i hi => ?_
    have := hlt i hi
    rw [k5]
    simp [this]
set_option maxHeartbeats 4000000 in
theorem greatestOf_i (F : List Rw) (hl : F.length ≤ 1048576) (hr : ∀ x ∈ F, x.2.length ≤ 6 ∧ Sml x.2) :
    PureE Tryd.prog 84 [.slc 1 F.length (F.map cI)] (fun S : List Rw => (Grt (F.map (·.2)) (S.map (·.2)) ∧ Asc (S.map (·.2))) ∧ ∃ ks : List Nat, ks.Nodup ∧ (∀ k ∈ ks, k < F.length) ∧ S = ks.map fun k => F.getD k rw0) (fun S => .sl 0 1 0 S.length) (fun S => [some (S.map cI)]) := by
  have hst := sortStable_i F hl fun x hx => by have := (hr x hx).1; unfold Rw.length; omega
  have hcl : Wri Tryd.prog 119 [.slc 1 F.length (F.map cI)] [] (.sl 0 1 0 F.length) [some (F.map cI)] := (cloneR_i F hl).weak
  refine pureREV ok84 rfl ?_; unfold c84
  (repeat first | simp only [go_sem, ↓reduceIte, Nat.reduceEqDiff, Nat.reduceAdd, reduceCtorEq] | with_reducible refine V_W ?_ | (with_reducible refine And.intro ?_ ?_; focus first | assumption | omega | decide | grind) | (with_reducible refine Br.mk ?_ ?_; focus (intros; omega)) | decide)
  refine wriCF (hcl) [] (by first | rfl | simp) (by simp only [go_sem, ↓reduceIte, Nat.reduceEqDiff, Nat.reduceAdd, reduceCtorEq] <;> rfl) (by simp only [go_sem, ↓reduceIte, Nat.reduceEqDiff, Nat.reduceAdd, reduceCtorEq] <;> rfl) ?_
  (repeat first | simp only [go_sem, ↓reduceIte, Nat.reduceEqDiff, Nat.reduceAdd, reduceCtorEq] | with_reducible refine V_W ?_ | (with_reducible refine And.intro ?_ ?_; focus first | assumption | omega | decide | grind) | (with_reducible refine Br.mk ?_ ?_; focus (intros; omega)) | decide)
  refine wriEF (hst) [0] (by first | rfl | simp) (by simp only [go_sem, ↓reduceIte, Nat.reduceEqDiff, Nat.reduceAdd, reduceCtorEq] <;> rfl) (by simp only [go_sem, ↓reduceIte, Nat.reduceEqDiff, Nat.reduceAdd, reduceCtorEq] <;> rfl) fun o ho => ?_
  (repeat first | simp only [go_sem, ↓reduceIte, Nat.reduceEqDiff, Nat.reduceAdd, reduceCtorEq] | with_reducible refine V_W ?_ | (with_reducible refine And.intro ?_ ?_; focus first | assumption | omega | decide | grind) | (with_reducible refine Br.mk ?_ ?_; focus (intros; omega)) | decide)
  obtain ⟨hp, hd⟩ := ho
  generalize o = T at *
  have hTl := hp.length_eq
  have hrT : ∀ x ∈ T, x.2.length ≤ 6 ∧ Sml x.2 := fun x hx => hr x (hp.mem_iff.1 hx)
  have htk : ∀ Hx : Heap, (List.take F.length (T.map cI)).map (frz Hx 5) = T.map cI := fun Hx => by
    rw [List.take_of_length_le (by simp; omega), map_frz_cI]
  have hdL : DescL (T.map (·.2)) := List.pairwise_map.2 hd
  refine V_ref (Ref.sel [1] (F' := [(4, .mp 0), (16, .slc 1 T.length (T.map cI)), (17, i64 (T.length : Int)), (18, i64 0), (5, nilS)]) (H' := [some [.mpc [i64 0]]]) rfl ?_ ?_) ?_
  · simp only [vwH, go_sem, ↓reduceIte, Nat.reduceEqDiff, Nat.reduceAdd, reduceCtorEq]
  · simp only [vwF, go_sem, ↓reduceIte, Nat.reduceEqDiff, Nat.reduceAdd, reduceCtorEq]
    simp only [htk]
    simp [sub, fget, hTl]
  refine V_loop (α := Nat × List Rw × List (ByteArray × Bool)) (S := fun q => ([(4, .mp 0), (5, .sl 1 1 0 q.2.1.length), (16, .slc 1 T.length (T.map cI)), (17, i64 (T.length : Int)), (18, i64 (q.1 : Int))], [some [.mpc (smap bV q.2.2)], some (q.2.1.map cI)])) (C := fun q => q.1 ≤ T.length ∧ GrI (T.map (·.2)) q.1 (q.2.1.map (·.2)) ∧ MapIs q.2.2 (Seen (q.2.1.map (·.2))) ∧ q.2.1.Sublist (T.take q.1)) (μ := fun q => T.length - q.1) (0, [], []) ⟨Nat.zero_le _, GrI.start _, MapIs.nil.same fun n => by simp [Seen], by simp⟩ ?_ ?_
  · refine (Ref.nil 5 1 rfl).trans (Ref.to (by simp [smap, mpC, entsF]) (by simp [sub, fget]))
  rintro ⟨j, O, l⟩ ⟨h1, h2, h3, hsub⟩
  dsimp only at h1 h2 h3 hsub ⊢
  have hmT : (T.map (·.2)).length = T.length := List.length_map ..
  (repeat first | simp only [go_sem, ↓reduceIte, Nat.reduceEqDiff, Nat.reduceAdd, reduceCtorEq] | with_reducible refine V_W ?_ | (with_reducible refine And.intro ?_ ?_; focus first | assumption | omega | decide | grind) | (with_reducible refine Br.mk ?_ ?_; focus (intros; omega)) | decide)
  refine ⟨fun hc => ?_, fun hc => ?_⟩
  · have hj : j < T.length := by omega
    have hkT := hrT _ (getI_mem hj)
    have hTj : (T.map (·.2)).getD j [] = (T.getD j rw0).2 := by simp [hj]
    have hput := h2.put hdL (by omega)
    have hskip := h2.skip (by omega)
    have hseen := seen_iff (O := O.map (·.2)) (x := (T.getD j rw0).2) (fun y hy => by
      obtain ⟨p, hp, rfl⟩ := List.mem_map.1 hy
      exact (hrT p (List.mem_of_mem_take (hsub.subset hp))).2) hkT.2
    have hlk := h3 (kT (T.getD j rw0).2)
    have hgT := getI T j hj
    have hsub1 : O.Sublist (T.take (j + 1)) := hsub.trans (by rw [takeI_one hj]; exact List.sublist_append_left _ _)
    have hsub2 : (O ++ [T.getD j rw0]).Sublist (T.take (j + 1)) := by rw [takeI_one hj]; exact List.Sublist.append_right hsub _
    rw [hTj] at hput hskip
    obtain ⟨px, hpx⟩ : ∃ px, px = T.getD j rw0 := ⟨_, rfl⟩
    rw [← hpx] at hkT hput hskip hseen hlk hgT hsub2
    obtain ⟨pv, x⟩ := px
    dsimp only at hkT hput hskip hseen hlk
    have hk := kT_c x hkT.2 (by omega)
    (repeat first | simp only [go_sem, ↓reduceIte, Nat.reduceEqDiff, Nat.reduceAdd, reduceCtorEq] | with_reducible refine V_W ?_ | (with_reducible refine And.intro ?_ ?_; focus first | assumption | omega | decide | grind) | (with_reducible refine Br.mk ?_ ?_; focus (intros; omega)) | decide)
    simp only [hgT, ← hpx, go_sem, ↓reduceIte, Nat.reduceEqDiff, Nat.reduceAdd, reduceCtorEq]
    refine GCall.mk (.val (.string (kT x)) ) (fun hg => by first | exact pureC ( hk) (by simp only [go_sem, ↓reduceIte, Nat.reduceEqDiff, Nat.reduceAdd, reduceCtorEq] <;> rfl) (by first | rfl | simp only [go_sem, ↓reduceIte, Nat.reduceEqDiff, Nat.reduceAdd, reduceCtorEq]) (by first | exact ⟨rfl, rfl⟩ | simp only [go_sem, ↓reduceIte, Nat.reduceEqDiff, Nat.reduceAdd, reduceCtorEq]) | exact ⟨hg, pureC ( hk) (by simp only [go_sem, ↓reduceIte, Nat.reduceEqDiff, Nat.reduceAdd, reduceCtorEq] <;> rfl) (by first | rfl | simp only [go_sem, ↓reduceIte, Nat.reduceEqDiff, Nat.reduceAdd, reduceCtorEq]) (by first | exact ⟨rfl, rfl⟩ | simp only [go_sem, ↓reduceIte, Nat.reduceEqDiff, Nat.reduceAdd, reduceCtorEq])⟩ | exact ⟨by grind, pureC ( hk) (by simp only [go_sem, ↓reduceIte, Nat.reduceEqDiff, Nat.reduceAdd, reduceCtorEq] <;> rfl) (by first | rfl | simp only [go_sem, ↓reduceIte, Nat.reduceEqDiff, Nat.reduceAdd, reduceCtorEq]) (by first | exact ⟨rfl, rfl⟩ | simp only [go_sem, ↓reduceIte, Nat.reduceEqDiff, Nat.reduceAdd, reduceCtorEq])⟩) ?_
    (repeat first | simp only [go_sem, ↓reduceIte, Nat.reduceEqDiff, Nat.reduceAdd, reduceCtorEq] | with_reducible refine V_W ?_ | (with_reducible refine And.intro ?_ ?_; focus first | assumption | omega | decide | grind) | (with_reducible refine Br.mk ?_ ?_; focus (intros; omega)) | decide)
    simp only [hlk, go_sem, ↓reduceIte, Nat.reduceEqDiff, Nat.reduceAdd, reduceCtorEq]
    by_cases hs : Seen (O.map (·.2)) (kT x)
    · have hex := hseen.1 hs
      simp only [if_pos hs, Option.map_some, bV, go_sem, ↓reduceIte, Nat.reduceEqDiff, Nat.reduceAdd, reduceCtorEq]
      (repeat first | simp only [go_sem, ↓reduceIte, Nat.reduceEqDiff, Nat.reduceAdd, reduceCtorEq] | with_reducible refine V_W ?_ | (with_reducible refine And.intro ?_ ?_; focus first | assumption | omega | decide | grind) | (with_reducible refine Br.mk ?_ ?_; focus (intros; omega)) | decide)
      exact ⟨(j + 1, O, l), ⟨by simp only; omega, hskip (.inr hex), h3, hsub1⟩, by simp only; omega, Ref.to rfl (by simp [sub, fget])⟩
    · have hex := fun h => hs (hseen.2 h)
      simp only [if_neg hs, Option.map_none, go_sem, ↓reduceIte, Nat.reduceEqDiff, Nat.reduceAdd, reduceCtorEq]
      (repeat first | simp only [go_sem, ↓reduceIte, Nat.reduceEqDiff, Nat.reduceAdd, reduceCtorEq] | with_reducible refine V_W ?_ | (with_reducible refine And.intro ?_ ?_; focus first | assumption | omega | decide | grind) | (with_reducible refine Br.mk ?_ ?_; focus (intros; omega)) | decide)
      refine ⟨fun hz => ?_, fun hz => ?_⟩
      · (repeat first | simp only [go_sem, ↓reduceIte, Nat.reduceEqDiff, Nat.reduceAdd, reduceCtorEq] | with_reducible refine V_W ?_ | (with_reducible refine And.intro ?_ ?_; focus first | assumption | omega | decide | grind) | (with_reducible refine Br.mk ?_ ?_; focus (intros; omega)) | decide)
        exact ⟨(j + 1, O, l), ⟨by simp only; omega, hskip (.inl (List.length_eq_zero_iff.1 (by omega))), h3, hsub1⟩, by simp only; omega, Ref.to rfl (by simp [sub, fget])⟩
      have hO2 := hput (fun e => hz (by rw [e]; rfl)) hex
      have hO2l := hO2.len
      rw [List.length_append, List.length_singleton, List.length_map, hmT] at hO2l
      (repeat first | simp only [go_sem, ↓reduceIte, Nat.reduceEqDiff, Nat.reduceAdd, reduceCtorEq] | with_reducible refine V_W ?_ | (with_reducible refine And.intro ?_ ?_; focus first | assumption | omega | decide | grind) | (with_reducible refine Br.mk ?_ ?_; focus (intros; omega)) | decide)
      refine pureC (size_c x (by omega)) (by simp only [go_sem, ↓reduceIte, Nat.reduceEqDiff, Nat.reduceAdd, reduceCtorEq] <;> rfl) (by first | rfl | simp only [go_sem, ↓reduceIte, Nat.reduceEqDiff, Nat.reduceAdd, reduceCtorEq]) ?_
      (repeat first | simp only [go_sem, ↓reduceIte, Nat.reduceEqDiff, Nat.reduceAdd, reduceCtorEq] | with_reducible refine V_W ?_ | (with_reducible refine And.intro ?_ ?_; focus first | assumption | omega | decide | grind) | (with_reducible refine Br.mk ?_ ?_; focus (intros; omega)) | decide)
      obtain ⟨E, hE⟩ : ∃ E, E = O ++ [(pv, x)] := ⟨_, rfl⟩
      have hEm : E.map (·.2) = O.map (·.2) ++ [x] := by rw [hE]; simp
      have hEl : E.length = O.length + 1 := by rw [hE]; simp
      refine V_loop (α := Nat × List (ByteArray × Bool)) (S := fun q => ([(4, .mp 0), (5, .sl 1 1 0 E.length), (7, cI (pv, x)), (16, .slc 1 T.length (T.map cI)), (17, i64 (T.length : Int)), (18, i64 (j : Int)), (37, i64 ((x.length : Int) + 1)), (38, i64 (q.1 : Int))], [some [.mpc (smap bV q.2)], some (E.map cI)])) (C := fun q => q.1 ≤ x.length + 1 ∧ MapIs q.2 (SeenK (O.map (·.2)) x q.1 0)) (μ := fun q => x.length + 1 - q.1) (0, l) ⟨Nat.zero_le _, h3.same (SeenK.zero (O.map (·.2)) x)⟩ ?_ ?_
      · exact Ref.gc [0, 3] rfl (by simp only [go_sem, ↓reduceIte, Nat.reduceEqDiff, Nat.reduceAdd, reduceCtorEq] <;> simp [hE]) (by simp [sub, fget, go_sem, ↓reduceIte, Nat.reduceEqDiff, Nat.reduceAdd, reduceCtorEq, hEl])
      rintro ⟨k, l2⟩ ⟨k1, k2⟩
      dsimp only at k1 k2 ⊢
      (repeat first | simp only [go_sem, ↓reduceIte, Nat.reduceEqDiff, Nat.reduceAdd, reduceCtorEq] | with_reducible refine V_W ?_ | (with_reducible refine And.intro ?_ ?_; focus first | assumption | omega | decide | grind) | (with_reducible refine Br.mk ?_ ?_; focus (intros; omega)) | decide)
      refine ⟨fun hc2 => ?_, fun hc2 => ?_⟩
      · have hpp := partsOf_p k x hkT.1 (by omega)
        have hpl := prt_len x k
        have h64 : 2 ^ x.length ≤ 2 ^ 6 := Nat.pow_le_pow_right (by decide) hkT.1
        have hnx := SeenK.next (O := O.map (·.2)) (x := x) (k := k)
        have hstp := fun i (hi : i < (prt k x).length) => SeenK.step (O := O.map (·.2)) (x := x) (k := k) hi
        have hRm : ∀ p ∈ prt k x, p.length ≤ 6 ∧ Sml p := fun p hp => by
          have := ((prt_mem _ _ _).1 hp).1
          exact ⟨by have := this.length_le; omega, hkT.2.sub this⟩
        obtain ⟨R, hR⟩ : ∃ R, R = prt k x := ⟨_, rfl⟩
        rw [← hR] at hpp hpl hnx hstp hRm
        (repeat first | simp only [go_sem, ↓reduceIte, Nat.reduceEqDiff, Nat.reduceAdd, reduceCtorEq] | with_reducible refine V_W ?_ | (with_reducible refine And.intro ?_ ?_; focus first | assumption | omega | decide | grind) | (with_reducible refine Br.mk ?_ ?_; focus (intros; omega)) | decide)
        refine pureC (hpp) (by simp only [go_sem, ↓reduceIte, Nat.reduceEqDiff, Nat.reduceAdd, reduceCtorEq] <;> rfl) (by first | rfl | simp only [go_sem, ↓reduceIte, Nat.reduceEqDiff, Nat.reduceAdd, reduceCtorEq]) ?_
        (repeat first | simp only [go_sem, ↓reduceIte, Nat.reduceEqDiff, Nat.reduceAdd, reduceCtorEq] | with_reducible refine V_W ?_ | (with_reducible refine And.intro ?_ ?_; focus first | assumption | omega | decide | grind) | (with_reducible refine Br.mk ?_ ?_; focus (intros; omega)) | decide)
        have htk2 : ∀ Hx : Heap, (List.take R.length (R.map oints)).map (frz Hx 5) = R.map ints := fun Hx => by
          rw [List.take_of_length_le (by simp), List.map_map]
          refine List.map_congr_left fun z _ => ?_
          simp [frz, intsC]
        refine V_ref (Ref.sel [0, 1] (F' := [(4, .mp 0), (5, .sl 1 1 0 E.length), (7, cI (pv, x)), (16, .slc 1 T.length (T.map cI)), (17, i64 (T.length : Int)), (18, i64 (j : Int)), (37, i64 ((x.length : Int) + 1)), (38, i64 (k : Int)), (43, mat R), (44, i64 (R.length : Int)), (45, i64 0)]) (H' := [some [.mpc (smap bV l2)], some (E.map cI)]) rfl ?_ ?_) ?_
        · simp only [vwH, go_sem, ↓reduceIte, Nat.reduceEqDiff, Nat.reduceAdd, reduceCtorEq]
          rw [List.map_map]
          exact congrArg (fun z => [some [AV.mpc (smap bV l2)], some z]) (List.map_congr_left fun z _ => vwC_cI _ _ z)
        · simp only [vwF, go_sem, ↓reduceIte, Nat.reduceEqDiff, Nat.reduceAdd, reduceCtorEq]
          simp [sub, fget]
        refine V_loop (α := Nat × List (ByteArray × Bool)) (S := fun q => ([(4, .mp 0), (5, .sl 1 1 0 E.length), (7, cI (pv, x)), (16, .slc 1 T.length (T.map cI)), (17, i64 (T.length : Int)), (18, i64 (j : Int)), (37, i64 ((x.length : Int) + 1)), (38, i64 (k : Int)), (43, mat R), (44, i64 (R.length : Int)), (45, i64 (q.1 : Int))], [some [.mpc (smap bV q.2)], some (E.map cI)])) (C := fun q => q.1 ≤ R.length ∧ MapIs q.2 (SeenK (O.map (·.2)) x k q.1)) (μ := fun q => R.length - q.1) (0, l2) ⟨Nat.zero_le _, k2⟩ ?_ ?_
        · exact Ref.to rfl (by simp [sub, fget])
        rintro ⟨i, l3⟩ ⟨i1, i2⟩
        dsimp only at i1 i2 ⊢
        (repeat first | simp only [go_sem, ↓reduceIte, Nat.reduceEqDiff, Nat.reduceAdd, reduceCtorEq] | with_reducible refine V_W ?_ | (with_reducible refine And.intro ?_ ?_; focus first | assumption | omega | decide | grind) | (with_reducible refine Br.mk ?_ ?_; focus (intros; omega)) | decide)
        refine ⟨fun hc3 => ?_, fun hc3 => ?_⟩
        · have hiR : i < R.length := by omega
          have hst3 := hstp i hiR
          have hRp := hRm _ (getD_mem hiR)
          obtain ⟨p, hpe⟩ : ∃ p, p = R.getD i [] := ⟨_, rfl⟩
          rw [← hpe] at hst3 hRp
          have hkp := kT_c p hRp.2 (by omega)
          (repeat first | simp only [go_sem, ↓reduceIte, Nat.reduceEqDiff, Nat.reduceAdd, reduceCtorEq] | with_reducible refine V_W ?_ | (with_reducible refine And.intro ?_ ?_; focus first | assumption | omega | decide | grind) | (with_reducible refine Br.mk ?_ ?_; focus (intros; omega)) | decide)
          simp only [← hpe, go_sem, ↓reduceIte, Nat.reduceEqDiff, Nat.reduceAdd, reduceCtorEq]
          refine pureC (hkp) (by simp only [go_sem, ↓reduceIte, Nat.reduceEqDiff, Nat.reduceAdd, reduceCtorEq] <;> rfl) (by first | rfl | simp only [go_sem, ↓reduceIte, Nat.reduceEqDiff, Nat.reduceAdd, reduceCtorEq]) ?_
          (repeat first | simp only [go_sem, ↓reduceIte, Nat.reduceEqDiff, Nat.reduceAdd, reduceCtorEq] | with_reducible refine V_W ?_ | (with_reducible refine And.intro ?_ ?_; focus first | assumption | omega | decide | grind) | (with_reducible refine Br.mk ?_ ?_; focus (intros; omega)) | decide)
          exact ⟨(i + 1, iput (kT p) true l3), ⟨by simp only; omega, (i2.put (kT p)).same hst3⟩, by simp only; omega, Ref.to rfl (by simp [sub, fget])⟩
        · obtain rfl : i = R.length := by omega
          (repeat first | simp only [go_sem, ↓reduceIte, Nat.reduceEqDiff, Nat.reduceAdd, reduceCtorEq] | with_reducible refine V_W ?_ | (with_reducible refine And.intro ?_ ?_; focus first | assumption | omega | decide | grind) | (with_reducible refine Br.mk ?_ ?_; focus (intros; omega)) | decide)
          exact ⟨(k + 1, l3), ⟨by simp only; omega, i2.same hnx⟩, by simp only; omega, Ref.to rfl (by simp [sub, fget])⟩
      · obtain rfl : k = x.length + 1 := by omega
        (repeat first | simp only [go_sem, ↓reduceIte, Nat.reduceEqDiff, Nat.reduceAdd, reduceCtorEq] | with_reducible refine V_W ?_ | (with_reducible refine And.intro ?_ ?_; focus first | assumption | omega | decide | grind) | (with_reducible refine Br.mk ?_ ?_; focus (intros; omega)) | decide)
        refine ⟨(j + 1, E, l2), ⟨by simp only; omega, by dsimp only; rw [hEm]; exact hO2, by dsimp only; rw [hEm]; exact k2.same fun n => SeenK.all n, by dsimp only; rw [hE]; exact hsub2⟩, by simp only; omega, Ref.to rfl (by simp [sub, fget])⟩
  · obtain rfl : j = T.length := by omega
    rw [← hmT] at h2
    have hg := h2.done.perm (hp.map (·.2)) (.refl _)
    rw [List.take_length] at hsub
    have hOl : O.length ≤ T.length := hsub.length_le
    have hsf := sortF_i O (by omega) (fun x hx => by have := (hrT x (hsub.subset hx)).1; omega)
    (repeat first | simp only [go_sem, ↓reduceIte, Nat.reduceEqDiff, Nat.reduceAdd, reduceCtorEq] | with_reducible refine V_W ?_ | (with_reducible refine And.intro ?_ ?_; focus first | assumption | omega | decide | grind) | (with_reducible refine Br.mk ?_ ?_; focus (intros; omega)) | decide)
    refine wriEF (hsf) [1] (by first | rfl | simp) (by simp only [go_sem, ↓reduceIte, Nat.reduceEqDiff, Nat.reduceAdd, reduceCtorEq] <;> rfl) (by simp only [go_sem, ↓reduceIte, Nat.reduceEqDiff, Nat.reduceAdd, reduceCtorEq] <;> rfl) fun o ho => ?_
    (repeat first | simp only [go_sem, ↓reduceIte, Nat.reduceEqDiff, Nat.reduceAdd, reduceCtorEq] | with_reducible refine V_W ?_ | (with_reducible refine And.intro ?_ ?_; focus first | assumption | omega | decide | grind) | (with_reducible refine Br.mk ?_ ?_; focus (intros; omega)) | decide)
    have hol := ho.1.length_eq
    refine ⟨o, ⟨⟨hg.perm (.refl _) (ho.1.symm.map (·.2)), ho.2⟩, ?_⟩, Ref.gc [1] rfl (by simp only [go_sem, ↓reduceIte, Nat.reduceEqDiff, Nat.reduceAdd, reduceCtorEq] <;> rfl) (by simp [sub, fget, go_sem, ↓reduceIte, Nat.reduceEqDiff, Nat.reduceAdd, reduceCtorEq, hol])⟩
    obtain ⟨k1, a1, a2, a3⟩ := perm_idx rw0 ho.1
    obtain ⟨k2, b1, b2, b3⟩ := sub_idx rw0 hsub
    obtain ⟨k3, c1, c2, c3⟩ := perm_idx rw0 hp
    exact idx_trans rw0 ⟨k1, a1, a2, a3⟩ (idx_trans rw0 ⟨k2, b1, b2, b3⟩ ⟨k3, c1, c2, c3⟩)
end Go.Proofs.YtghhlcioabdpfaaDoor
set_option maxRecDepth 100000
namespace Go.Proofs.YtghhlcioabdpfaaDoor
open Go.Gov
open Classical

theorem zip_at {vs : List Value} {X : List (List Int)} (h : vs.length = X.length) {k : Nat} (hk : k < X.length) : (vs.zip X).getD k rw0 = (vs.getD k undef, X.getD k []) := by
  simp [h, hk]
theorem zip_snd {vs : List Value} {X : List (List Int)} (h : vs.length = X.length) : (vs.zip X).map (·.2) = X := by
  rw [List.map_snd_zip]
  omega
theorem sub_zip {vs : List Value} {X : List (List Int)} (h : vs.length = X.length) {R : List Rw} (hs : ∃ ks : List Nat, ks.Nodup ∧ (∀ k ∈ ks, k < (vs.zip X).length) ∧ R = ks.map fun k => (vs.zip X).getD k rw0) : ∃ ks : List Nat, ks.Nodup ∧ (∀ k ∈ ks, k < X.length) ∧ R = ks.map fun k => (vs.getD k undef, X.getD k []) := by
  obtain ⟨ks, h1, h2, h3⟩ := hs
  have hz : (vs.zip X).length = X.length := by simp [h]
  exact ⟨ks, h1, fun k hk => by rw [← hz]; exact h2 k hk, h3.trans (List.map_congr_left fun k hk => zip_at h (by rw [← hz]; exact h2 k hk))⟩
theorem greatestOf_z (F : List (List Int)) (hl : F.length ≤ 1048576) (hr : ∀ x ∈ F, x.length ≤ 6 ∧ Sml x) (vs : List Value) (hv : vs.length = F.length) :
    PureE Tryd.prog 84 [.slc 1 F.length ((vs.zip F).map cI)] (fun R : List Rw => (Grt F (R.map (·.2)) ∧ Asc (R.map (·.2))) ∧ ∃ ks : List Nat, ks.Nodup ∧ (∀ k ∈ ks, k < F.length) ∧ R = ks.map fun k => (vs.getD k undef, F.getD k [])) (fun S => .sl 0 1 0 S.length) (fun S => [some (S.map cI)]) := by
  have hz : (vs.zip F).length = F.length := by simp [hv]
  have h := greatestOf_i (vs.zip F) (by omega) (fun x hx => hr _ (List.of_mem_zip hx).2)
  rw [hz, zip_snd hv] at h
  refine CallsX.mono h ?_
  rintro av H' ⟨R, ⟨h1, h2⟩, h3, h4⟩
  exact ⟨R, ⟨h1, sub_zip hv (by rw [hz]; exact h2)⟩, h3, h4⟩
theorem greatestOf_p (F : List (List Int)) (hl : F.length ≤ 1048576) (hr : ∀ x ∈ F, x.length ≤ 6 ∧ Sml x) :
    PureE Tryd.prog 84 [mat F] (fun S : List (List Int) => Grt F S ∧ Asc S) (fun S => .sl 0 1 0 S.length) (fun S => [some (S.map ints)]) := by
  refine CallsX.mono (PureE.idn (Q := fun _ R => Grt F (R.map (·.2)) ∧ Asc (R.map (·.2))) fun vs hv => CallsX.mono (greatestOf_z F hl hr vs hv) ?_) ?_
  · rintro av H' ⟨R, ⟨h1, _⟩, h3, h4⟩
    exact ⟨R, h1, h3, h4⟩
  · rintro av H' ⟨S, ⟨vs, R, _, h1, rfl⟩, h3, h4⟩
    exact ⟨_, h1, h3, h4⟩
end Go.Proofs.YtghhlcioabdpfaaDoor
