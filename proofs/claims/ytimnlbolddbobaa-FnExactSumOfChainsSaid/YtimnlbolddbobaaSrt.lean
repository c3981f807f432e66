/- The library's sort of a slice that the caller owns, its growth of a nil slice: the shelf's contracts told in our words. -/
import Derived.Test.YtimnlbolddbobaaShf
import Derived.Test.YtimnlbolddbobaaGov16
import Derived.Test.YtimnlbolddbobaaLst
set_option linter.unusedSimpArgs false
set_option linter.unusedVariables false
namespace Go.Proofs.Ytimnlbolddbobaa
open Go.Gov Go.Sort

theorem heap_sorted_at {w : World} {b off n : Nat} {os : Array Obj} {cur : Array Value} {e : TypeId} {fr : Nat × Nat} (d : Array Int) (hb : w.heap[b]? = some (.cells cur e fr)) :
    (grow (putRow (Value.int .i64) (Sort.ahead w n) b off d) os).heap[b]? = some (.cells (putCells (Value.int .i64) off d cur) e fr) := by
  have hg : b < w.heap.size := (Array.getElem?_eq_some_iff.1 hb).1
  rw [heap_grow_old _ _ (by simpa using hg)]
  simp [putRow, mapBlock, Sort.ahead, Array.getElem?_modify, hb, onCells]
theorem heap_other_at {w : World} {b off n : Nat} {os : Array Obj} (d : Array Int) {k : Nat} (hk : k < w.heap.size) (hne : k ≠ b) : (grow (putRow (Value.int .i64) (Sort.ahead w n) b off d) os).heap[k]? = w.heap[k]? := by
  rw [heap_grow_old _ _ (by simpa using hk)]
  simp [putRow, mapBlock, Sort.ahead, Array.getElem?_modify, Ne.symm hne]

theorem sort_c (xs : List Int) (hl : xs.length ≤ 1099511627776) : Wri Try.prog 103 [.sl 0 1 0 xs.length] [some (intsC xs)] (.tup []) [some (intsC (srtL xs))] := by
  intro g w vals hp hl1 hr
  have h0 := hr 0 (by simp)
  simp only [List.getElem_cons_zero] at h0
  have hv : vals = #[vals.getD 0 undef] := by
    refine Array.ext (by simpa using hl1) fun i h1 h2 => ?_
    obtain rfl : i = 0 := by simp at h2; exact h2
    simp [h1]
  have ho := hp.obj 0 (intsC xs) rfl
  generalize vals.getD 0 undef = v at h0 hv
  subst hv
  have none_case : ∀ a cap, xs = [] → Calls Try.prog 103 #[.slice a 0 cap] w fun e w' => ∃ v g' av H', e = .returned v ∧ Mv g [some (intsC xs)] w g' H' w' ∧ Rd w' (g'.tr H') g'.G av v [] ∧ (false = true → Ext w w') ∧ av = .tup [] ∧ H' = [some (intsC (srtL xs))] := by
    rintro a cap rfl
    refine (AnyM.slices_Sort_int_none Try.sortL a cap w).mono ?_
    rintro e w' ⟨rfl, rfl⟩
    exact ⟨.tuple #[], g, .tup [], _, rfl, Mv.refl hp, .tup rfl (by simp), by simp, rfl, by simp [srtL]⟩
  cases h0 with
  | sl h00 hv0 h =>
    obtain ⟨hle, hS⟩ := h _ (Gh.tr_some (g := g) (H := [some (intsC xs)]) (o := 0) rfl)
    dsimp only at hS hle
    cases hρ : g.ρ 0 with
    | none =>
      rw [hρ] at hS
      obtain ⟨hn, a, rfl⟩ := hS
      have hx := List.eq_nil_of_length_eq_zero hn
      exact none_case a 0 hx
    | some l =>
      obtain ⟨b, base, sz⟩ := l
      rw [hρ] at hS ho
      obtain ⟨cap, h1, h2, h3, h4⟩ := hS
      obtain ⟨arr, elem, u, bss, hb, hsz, hbase, hc, hr2, hob⟩ := ho
      have hil : (intsC xs).length = xs.length := by simp [intsC]
      rw [hil] at hbase
      have hu : ∀ m, m < xs.length → u m = .int .i64 (xs.getD m 0) ∧ bss m = [] := fun m hm => by
        have h5 := hr2 m (by omega)
        have e : (intsC xs)[m]'(by omega) = i64 (xs.getD m 0) := by simp [intsC, hm]
        rw [e] at h5
        exact h5.val_inv
      rcases h4 with rfl | ⟨rfl, a, rfl⟩
      · have hblk : b < w.heap.size := (Array.getElem?_eq_some_iff.1 hb).1
        have hH : Holds (Value.int .i64) w b (base + 0) xs.toArray := fun j hj => by
          have hj' : j < xs.length := by simpa using hj
          obtain ⟨hu1, _⟩ := hu j hj'
          have hcj := hc j (by omega)
          refine ⟨?_, by simp [World.frozen?, hb]⟩
          simp only [World.cell?, hb, Nat.add_zero]
          rw [show (if (none : Option Nat).isSome = true then none else arr[base + j]?) = arr[base + j]? by simp, hcj, hu1]
          simp [hj']
        refine (AnyM.slices_Sort_int Try.sortL b (base + 0) cap xs w hH hblk (by omega)).mono ?_
        rintro e w' ⟨rfl, n, os, rfl⟩
        have hys : (xs.mergeSort fun x y => decide (x ≤ y)) = srtL xs := rfl
        rw [hys]
        have hyl := srtL_len xs
        have hhb := heap_sorted_at (w := w) (n := n) (os := os) (off := base + 0) (srtL xs).toArray hb
        have hoth := fun k (hk : k < w.heap.size) (hne : k ≠ b) => heap_other_at (w := w) (b := b) (off := base + 0) (n := n) (os := os) (srtL xs).toArray hk hne
        have hsize : w.heap.size ≤ (grow (putRow (Value.int .i64) (Sort.ahead w n) b (base + 0) (srtL xs).toArray) os).heap.size := by simp [grow, putRow, mapBlock, Sort.ahead]
        have hos : (grow (putRow (Value.int .i64) (Sort.ahead w n) b (base + 0) (srtL xs).toArray) os).os = w.os := rfl
        have htp : (grow (putRow (Value.int .i64) (Sort.ahead w n) b (base + 0) (srtL xs).toArray) os).tape = w.tape := rfl
        have hou : (grow (putRow (Value.int .i64) (Sort.ahead w n) b (base + 0) (srtL xs).toArray) os).output = w.output := rfl
        generalize grow (putRow (Value.int .i64) (Sort.ahead w n) b (base + 0) (srtL xs).toArray) os = w' at *
        have hilY : (intsC (srtL xs)).length = xs.length := by simp [intsC, hyl]
        have hnotO : ∀ k, ¬ k ∈ g.ob 0 → k ≠ b := fun k hk e => hk (by rw [hob, e]; simp)
        have hGb : ¬ g.G b := hp.free 0 _ rfl b (by rw [hob]; simp)
        have htr : ∀ o d, g.tr [some (intsC xs)] o = some d → g.tr [some (intsC (srtL xs))] o = some d := fun o d hd => by
          have hlt := tr_lt hd
          obtain rfl : o = 0 := by simpa using hlt
          unfold Gh.tr at *
          simp only [List.getElem?_cons_zero, hil, hilY] at *
          exact hd
        have lift : ∀ x v, Rd w (g.tr [some (intsC xs)]) g.G x v [] → Rd w' (g.tr [some (intsC (srtL xs))]) g.G x v [] := fun x v hx =>
          hx.mono (fun _ h => h) (fun k hk => hoth k (hp.low k hk) (fun e => hGb (e ▸ hk))) (fun o d h => .inl (htr o d h)) (by simp)
        have one : ∀ o cs, [some (intsC (srtL xs))][o]? = some (some cs) → o = 0 ∧ cs = intsC (srtL xs) := fun o cs h => by
          cases o with
          | zero => simp at h; exact ⟨rfl, h.symm⟩
          | succ o => simp at h
        have hp' : HeapR g [some (intsC (srtL xs))] w' := by
          refine ⟨?_, ?_, ?_, ?_, fun k hk => Nat.lt_of_lt_of_le (hp.low k hk) hsize⟩
          · intro o cs h5
            obtain ⟨rfl, rfl⟩ := one o cs h5
            rw [hρ]
            refine ⟨_, elem, fun m => .int .i64 ((srtL xs).getD m 0), fun _ => [], hhb, by simp [putCells, hsz], by omega, fun m hm => ?_, fun m hm => ?_, ?_⟩
            · rw [hilY] at hm
              have hm2 : base + m < arr.size := by omega
              simp [putCells, hm2, hyl, hm, show m < (srtL xs).length by omega]
            · have e : (intsC (srtL xs))[m] = i64 ((srtL xs).getD m 0) := by
                rw [hilY] at hm
                simp [intsC, show m < (srtL xs).length by omega]
              rw [e]; exact .val
            · rw [hob, hilY, hil]
              congr 1
              rw [flatMap_nil]
              refine List.flatMap_eq_nil_iff.2 fun m hm => (hu m (List.mem_range.1 hm)).2
          · intro o cs h5
            obtain ⟨rfl, rfl⟩ := one o cs h5
            exact hp.nodup 0 _ rfl
          · intro o o' cs cs' h5 h6 hne
            obtain ⟨rfl, rfl⟩ := one o cs h5
            obtain ⟨rfl, rfl⟩ := one o' cs' h6
            exact absurd rfl hne
          · intro o cs h5
            obtain ⟨rfl, rfl⟩ := one o cs h5
            exact hp.free 0 _ rfl
        refine ⟨.tuple #[], g, .tup [], _, rfl, ⟨hp', ⟨hos, htp, hou, hsize, fun k hk hO => hoth k hk (hnotO k fun hm => hO ⟨0, _, rfl, hm⟩), fun k ⟨o, cs, h5, hm⟩ => ?_, fun _ h => h, fun _ h => .inl h, fun a ha => ?_⟩, lift, fun o d h => .inl (htr o d h)⟩, .tup rfl (by simp), by simp, rfl, rfl⟩
        · obtain ⟨rfl, rfl⟩ := one o cs h5
          exact .inl ⟨0, _, rfl, hm⟩
        · unfold World.frozen?
          by_cases e : a.block = b
          · rw [e, hb, hhb]
          · rw [hoth _ ha e]
      · have hx : xs = [] := List.eq_nil_of_length_eq_zero (by omega)
        exact none_case a 0 hx

theorem grow_c (n : Nat) (hn : n ≤ 1099511627776) : Pure Try.prog 104 [nilS, i64 n] (.sl 0 1 0 0) [some []] := by
  intro g w vals hp hl1 hr
  have h0 := hr 0 (by simp)
  have h1 := hr 1 (by simp)
  simp only [List.getElem_cons_zero, List.getElem_cons_succ] at h0 h1
  have hv : vals = #[.slice none 0 0, .int .i64 n] := by
    refine Array.ext (by simpa using hl1) fun i h2 h3 => ?_
    have e0 := h0.val_inv.1
    have e1 := h1.val_inv.1
    simp only [List.length_cons, List.length_nil] at hl1
    match i, h3 with
    | 0, _ => simpa [h2] using e0
    | 1, _ => simpa [h2] using e1
  subst hv
  have hsl : ∀ (g' : Gh) (w' : World) (l : Go.Gov.Loc) (v : Value), g'.ρ 0 = l → SlAt l 1 0 0 v → v.oneCell' = true → Rd w' (g'.tr [some []]) g'.G (.sl 0 1 0 0) v [] := fun g' w' l v hl hS h1 => by
    have e1 : g'.tr [some ([] : List AV)] 0 = some (some (l, 0)) := by rw [Gh.tr_some (cs := []) rfl, hl]; rfl
    refine .sl (by rw [e1]; rfl) h1 fun l' hl' => ?_
    rw [e1] at hl'
    obtain rfl := Option.some.inj (Option.some.inj hl')
    exact ⟨by dsimp only; omega, hS⟩
  rcases Nat.eq_zero_or_pos n with rfl | hpos
  · refine (Any8.slices_Grow_room Try.growL none 0 0 0 w (by omega) (by omega) (by omega) (by omega)).mono ?_
    rintro e w' ⟨rfl, rfl⟩
    have hm2 := nil_obj hp
    exact ⟨_, _, _, _, rfl, hm2, hsl _ _ none _ (by simp [Gh.add]) ⟨rfl, none, rfl⟩ rfl, fun _ _ _ => rfl, rfl, rfl⟩
  · have hinfo : (Try.prog.info? (Try.growL_ren.t 25)).bind (fun i => i.zero.map fun z => (i.size, i.bytes, z.cells.toList)) = some (1, 8, [.int .i64 0]) := by kernel_rfl
    simp only [Option.bind_eq_some_iff, Option.map_eq_some_iff, Prod.mk.injEq] at hinfo
    obtain ⟨i0, hi, z, hz, hsz, hby, hzc⟩ := hinfo
    have hzs : z.cells.size = 1 := by rw [← Array.length_toList, hzc]; rfl
    refine (Any8.slices_Grow_grow Try.growL i0 z hi hz (by omega) none 0 0 n [] w (by omega) (by omega) (by rw [hby]; omega) (by omega) (by simp) (fun _ => rfl) (by simp)).mono ?_
    rintro e w' ⟨rfl, rfl⟩
    obtain ⟨ha1, ha2, ha3⟩ := alloc_drew w (.cells (([] : List Value).toArray ++ Builtin.zeroCells z.cells (0 + n - 0) ++ Builtin.zeroCells z.cells (grownCap w (0 + n) 0 (Try.growL_ren.t 25) - (0 + n))) (Try.growL_ren.t 25))
    obtain ⟨g', hm', hρ⟩ := new_plain hp ha3 (by omega) rfl rfl rfl (fun a => frozen_alloc w.drew _ _ a) (Nat.le_refl _) (cs := []) (fun _ => undef) ha2 (by simp) (fun m hm => by simp at hm) (fun m hm => by simp at hm)
    refine ⟨_, g', _, _, rfl, hm', hsl g' _ _ _ hρ ⟨grownCap w (0 + n) 0 (Try.growL_ren.t 25), by omega, grownCap_le_maxLen w (0 + n) 0 _ (by unfold maxLen; omega), ?_, .inl (by simp)⟩ rfl, fun _ k hk => ha3 k hk, rfl, rfl⟩
    have hge := grownCap_ge w (0 + n) 0 (Try.growL_ren.t 25)
    simp only [Array.size_append, List.size_toArray, List.length_nil, size_zeroCells, hzs]
    omega

end Go.Proofs.Ytimnlbolddbobaa
