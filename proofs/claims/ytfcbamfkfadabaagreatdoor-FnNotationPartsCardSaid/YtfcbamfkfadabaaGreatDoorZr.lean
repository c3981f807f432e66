/- Texts that belong together. -/
import Derived.Test.YtfcbamfkfadabaaGreatDoorZe
import Derived.Test.YtfcbamfkfadabaaGreatDoorZj
set_option linter.unusedSimpArgs false
set_option linter.unusedVariables false
set_option maxRecDepth 100000
namespace Go.Proofs.YtfcbamfkfadabaaGreatDoor
open Go.Gov
open Classical

def fidx (p : Int → Bool) (xs : List Int) : Int := if xs.any p then xs.findIdx p else -1

theorem fidx_at {p : Int → Bool} {xs : List Int} {i : Nat} (h : ∀ j, j < i → p (xs.getD j 0) = false) (hi : i < xs.length) (he : p (xs.getD i 0) = true) : fidx p xs = i := by
  have he' : p xs[i] = true := by simpa [hi] using he
  unfold fidx
  rw [if_pos (List.any_eq_true.2 ⟨_, List.getElem_mem hi, he'⟩)]
  congr 1
  have h1 : xs.findIdx p ≤ i := by
    rcases Nat.lt_or_ge i (xs.findIdx p) with h2 | h2
    · have := List.not_of_lt_findIdx h2
      simp [he'] at this
    · exact h2
  rcases Nat.lt_or_ge (xs.findIdx p) i with h2 | h2
  · have h3 := h _ h2
    have h4 : p xs[xs.findIdx p] = true := List.findIdx_getElem (w := by omega)
    simp [show xs.findIdx p < xs.length by omega, h4] at h3
  · omega
theorem fidx_no {p : Int → Bool} {xs : List Int} (h : ∀ j, j < xs.length → p (xs.getD j 0) = false) : fidx p xs = -1 := by
  unfold fidx
  rw [if_neg]
  intro ha
  obtain ⟨x, hx, hp⟩ := List.any_eq_true.1 ha
  obtain ⟨j, hj, rfl⟩ := List.mem_iff_getElem.1 hx
  have := h j hj
  simp [hj, hp] at this
theorem fidx_ge (p : Int → Bool) (xs : List Int) : decide (0 ≤ fidx p xs) = xs.any p := by
  unfold fidx
  by_cases h : xs.any p = true <;> simp [h]

end Go.Proofs.YtfcbamfkfadabaaGreatDoor
set_option maxRecDepth 100000
namespace Go.Proofs.YtfcbamfkfadabaaGreatDoor
open Go.Gov Go.Sort

theorem heap_sorted_at {w : World} {b off n : Nat} {os : Array Obj} {cur : Array Value} {e : TypeId} {fr : Nat × Nat} (d : Array Int) (hb : w.heap[b]? = some (.cells cur e fr)) :
    (grow (putRow (Value.int .i64) (Sort.ahead w n) b off d) os).heap[b]? = some (.cells (putCells (Value.int .i64) off d cur) e fr) := by
  have hg : b < w.heap.size := (Array.getElem?_eq_some_iff.1 hb).1
  rw [heap_grow_old _ _ (by simpa using hg)]
  simp [putRow, mapBlock, Sort.ahead, Array.getElem?_modify, hb, onCells]
theorem heap_other_at {w : World} {b off n : Nat} {os : Array Obj} (d : Array Int) {k : Nat} (hk : k < w.heap.size) (hne : k ≠ b) : (grow (putRow (Value.int .i64) (Sort.ahead w n) b off d) os).heap[k]? = w.heap[k]? := by
  rw [heap_grow_old _ _ (by simpa using hk)]
  simp [putRow, mapBlock, Sort.ahead, Array.getElem?_modify, Ne.symm hne]

theorem sort_c (xs : List Int) (hl : xs.length ≤ 1099511627776) : Wri Tryz.prog 176 [.sl 0 1 0 xs.length] [some (intsC xs)] (.tup []) [some (intsC (srtL xs))] := by
  intro g w vals hp hl1 hr
  have h0 := hr 0 (by simp)
  simp only [List.getElem_cons_zero] at h0
  have hv : vals = #[vals.getD 0 undef] := by
    refine Array.ext (by simpa using hl1) fun i h1 h2 => ?_
    obtain rfl : i = 0 := by simp at h2; exact h2
    simp [h1]
  have ho := hp.obj 0 (intsC xs) rfl
  generalize vals.getD 0 undef = v at h0 hv
  subst hv
  have none_case : ∀ a cap, xs = [] → Calls Tryz.prog 176 #[.slice a 0 cap] w fun e w' => ∃ v g' av H', e = .returned v ∧ Mv g [some (intsC xs)] w g' H' w' ∧ Rd w' (g'.tr H') g'.G av v [] ∧ (false = true → Ext w w') ∧ av = .tup [] ∧ H' = [some (intsC (srtL xs))] := by
    rintro a cap rfl
    refine (AnyM.slices_Sort_int_none Tryz.sortL a cap w).mono ?_
    rintro e w' ⟨rfl, rfl⟩
    exact ⟨.tuple #[], g, .tup [], _, rfl, Mv.refl hp, .tup rfl (by simp), by simp, rfl, by simp [srtL]⟩
  cases h0 with
  | sl h00 hv0 h =>
    obtain ⟨hle, hS⟩ := h _ (Gh.tr_some (g := g) (H := [some (intsC xs)]) (o := 0) rfl)
    dsimp only at hS hle
    cases hρ : g.ρ 0 with
    | none =>
      rw [hρ] at hS
      obtain ⟨hn, a, rfl⟩ := hS
      have hx := List.eq_nil_of_length_eq_zero hn
      exact none_case a 0 hx
    | some l =>
      obtain ⟨b, base, sz⟩ := l
      rw [hρ] at hS ho
      obtain ⟨cap, h1, h2, h3, h4⟩ := hS
      obtain ⟨arr, elem, u, bss, hb, hsz, hbase, hc, hr2, hob⟩ := ho.cells (by omega)
      have hil : (intsC xs).length = xs.length := by simp [intsC]
      rw [hil] at hbase
      have hu : ∀ m, m < xs.length → u m = .int .i64 (xs.getD m 0) ∧ bss m = [] := fun m hm => by
        have h5 := hr2 m (by omega)
        have e : (intsC xs)[m]'(by omega) = i64 (xs.getD m 0) := by simp [intsC, hm]
        rw [e] at h5
        exact h5.val_inv
      rcases h4 with rfl | ⟨rfl, a, rfl⟩
      · have hblk : b < w.heap.size := (Array.getElem?_eq_some_iff.1 hb).1
        have hH : Holds (Value.int .i64) w b (base + 0) xs.toArray := fun j hj => by
          have hj' : j < xs.length := by simpa using hj
          obtain ⟨hu1, _⟩ := hu j hj'
          have hcj := hc j (by omega)
          refine ⟨?_, by have h9 : elem.1.2.2 ≤ elem.1.2.1 ∨ sz ≤ elem.1.2.1 := elem.2; have h11 : base + j < sz := (by omega); simp [World.frozen?, hb]; intro h10; rcases h9 with h9 | h9; exact Nat.le_trans h9 h10; exact absurd (Nat.le_trans h9 h10) (by omega)⟩
          simp only [World.cell?, hb, Nat.add_zero]
          rw [show (if (none : Option Nat).isSome = true then none else arr[base + j]?) = arr[base + j]? by simp, hcj, hu1]
          simp [hj']
        refine (AnyM.slices_Sort_int Tryz.sortL b (base + 0) cap xs w hH hblk (by omega)).mono ?_
        rintro e w' ⟨rfl, n, os, rfl⟩
        have hys : (xs.mergeSort fun x y => decide (x ≤ y)) = srtL xs := rfl
        rw [hys]
        have hyl := srtL_len xs
        have hhb := heap_sorted_at (w := w) (n := n) (os := os) (off := base + 0) (srtL xs).toArray hb
        have hoth := fun k (hk : k < w.heap.size) (hne : k ≠ b) => heap_other_at (w := w) (b := b) (off := base + 0) (n := n) (os := os) (srtL xs).toArray hk hne
        have hsize : w.heap.size ≤ (grow (putRow (Value.int .i64) (Sort.ahead w n) b (base + 0) (srtL xs).toArray) os).heap.size := by simp [grow, putRow, mapBlock, Sort.ahead]
        have hos : (grow (putRow (Value.int .i64) (Sort.ahead w n) b (base + 0) (srtL xs).toArray) os).os = w.os := rfl
        have htp : (grow (putRow (Value.int .i64) (Sort.ahead w n) b (base + 0) (srtL xs).toArray) os).tape = w.tape ∧ w.drawn ≤ (grow (putRow (Value.int .i64) (Sort.ahead w n) b (base + 0) (srtL xs).toArray) os).drawn := ⟨rfl, Nat.le_add_right _ _⟩
        have hou : (grow (putRow (Value.int .i64) (Sort.ahead w n) b (base + 0) (srtL xs).toArray) os).output = w.output := rfl
        generalize grow (putRow (Value.int .i64) (Sort.ahead w n) b (base + 0) (srtL xs).toArray) os = w' at *
        have hilY : (intsC (srtL xs)).length = xs.length := by simp [intsC, hyl]
        have hnotO : ∀ k, ¬ k ∈ g.ob 0 → k ≠ b := fun k hk e => hk (by rw [hob, e]; simp)
        have hGb : ¬ g.G b := hp.free 0 _ rfl b (by rw [hob]; simp)
        have htr : ∀ o d, g.tr [some (intsC xs)] o = some d → g.tr [some (intsC (srtL xs))] o = some d := fun o d hd => by
          have hlt := tr_lt hd
          obtain rfl : o = 0 := by simpa using hlt
          unfold Gh.tr at *
          simp only [List.getElem?_cons_zero, hil, hilY] at *
          exact hd
        have lift : ∀ x v, Rd w (g.tr [some (intsC xs)]) g.G x v [] → Rd w' (g.tr [some (intsC (srtL xs))]) g.G x v [] := fun x v hx =>
          hx.mono (fun _ h => h) (fun k hk => hoth k (hp.low k hk) (fun e => hGb (e ▸ hk))) (fun o d h => .inl (htr o d h)) (by simp)
        have one : ∀ o cs, [some (intsC (srtL xs))][o]? = some (some cs) → o = 0 ∧ cs = intsC (srtL xs) := fun o cs h => by
          cases o with
          | zero => simp at h; exact ⟨rfl, h.symm⟩
          | succ o => simp at h
        have hp' : HeapR g [some (intsC (srtL xs))] w' := by
          refine ⟨?_, ?_, ?_, ?_, fun k hk => Nat.lt_of_lt_of_le (hp.low k hk) hsize⟩
          · intro o cs h5
            obtain ⟨rfl, rfl⟩ := one o cs h5
            rw [hρ]
            refine .ofCells ⟨_, elem, fun m => .int .i64 ((srtL xs).getD m 0), fun _ => [], hhb, by simp [putCells, hsz], by omega, fun m hm => ?_, fun m hm => ?_, ?_⟩
            · rw [hilY] at hm
              have hm2 : base + m < arr.size := by omega
              simp [putCells, hm2, hyl, hm, show m < (srtL xs).length by omega]
            · have e : (intsC (srtL xs))[m] = i64 ((srtL xs).getD m 0) := by
                rw [hilY] at hm
                simp [intsC, show m < (srtL xs).length by omega]
              rw [e]; exact .val
            · rw [hob, hilY, hil]
              congr 1
              rw [flatMap_nil]
              refine List.flatMap_eq_nil_iff.2 fun m hm => (hu m (List.mem_range.1 hm)).2
          · intro o cs h5
            obtain ⟨rfl, rfl⟩ := one o cs h5
            exact hp.nodup 0 _ rfl
          · intro o o' cs cs' h5 h6 hne
            obtain ⟨rfl, rfl⟩ := one o cs h5
            obtain ⟨rfl, rfl⟩ := one o' cs' h6
            exact absurd rfl hne
          · intro o cs h5
            obtain ⟨rfl, rfl⟩ := one o cs h5
            exact hp.free 0 _ rfl
        refine ⟨.tuple #[], g, .tup [], _, rfl, ⟨hp', ⟨hos, ⟨htp.1, by first | exact htp.2 | exact Nat.le_refl _⟩, hou, hsize, fun k hk hO => hoth k hk (hnotO k fun hm => hO ⟨0, _, rfl, hm⟩), fun k ⟨o, cs, h5, hm⟩ => ?_, fun _ h => h, fun _ h => .inl h, fun a ha => ?_⟩, lift, fun o d h => .inl (htr o d h)⟩, .tup rfl (by simp), by simp, rfl, rfl⟩
        · obtain ⟨rfl, rfl⟩ := one o cs h5
          exact .inl ⟨0, _, rfl, hm⟩
        · unfold World.frozen?
          by_cases e : a.block = b
          · rw [e, hb, hhb]
          · rw [hoth _ ha e]
      · have hx : xs = [] := List.eq_nil_of_length_eq_zero (by omega)
        exact none_case a 0 hx

end Go.Proofs.YtfcbamfkfadabaaGreatDoor
