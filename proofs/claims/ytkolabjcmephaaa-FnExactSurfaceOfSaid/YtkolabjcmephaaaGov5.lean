/- The loud operations: what they ask; a fresh object, a store. -/
import Derived.Test.YtkolabjcmephaaaGov4
set_option linter.unusedSimpArgs false
set_option linter.unusedVariables false
namespace Go.Gov
variable {P : Program} {N : Nat} {g : Gh} {F : Frame} {H : Heap} {a : Act} {w : World}

def mkCells (z : List Value) (n : Nat) : List AV := match z with
  | [v] => List.replicate n (.val v)
  | z => (List.range (n * z.length)).map fun i => .val (z.getD (i % z.length) undef)

def srcOf (H : Heap) (k : Nat) : AV → Option (Nat × List AV)
  | .slc k' n cs => if k' = k then some (n, cs) else none
  | .sl o k' off len => if k' = k then match H[o]? with
    | some (some cs) => some (len, (cs.drop off).take (len * k))
    | _ => none
    else none
  | .val (.slice none 0 0) => some (0, [])
  | _ => none

def dstOf (H : Heap) (k : Nat) : AV → Option (Nat × List AV × Heap)
  | .val (.slice none 0 0) => some (0, [], H)
  | .sl o k' off len => if k' = k then match H[o]? with
    | some (some cs) => some (len, (cs.drop off).take (len * k), H.set o none)
    | _ => none
    else none
  | _ => none

def evLoud (x : AOp) (F : Frame) (H : Heap) (K : AV → Heap → Prop) : Prop := match x with
  | .alloc z => K (.ref H.length 0) (H ++ [some (z.map .val)])
  | .box x => match cellsOf (ax F x) with
    | some cs => K (.ref H.length 0) (H ++ [some cs])
    | none => False
  | .store n y x => stOk (ax F y) ∧ match st (ax F y), cellsOf (ax F x) with
    | .ref o j, some vs => match H[o]? with
      | some (some cs) => vs.length = n ∧ j + n ≤ cs.length ∧ vs.all oneA = true ∧ K .any (H.set o (some (splice cs j vs)))
      | _ => False
    | _, _ => False
  | .mk k bytes z l => stOk (ax F l) ∧ match st (ax F l) with
    | .val (.int _ n) => 0 ≤ n ∧ (bytes : Int) * n ≤ 281474976710656 ∧ n ≤ 9223372036854775807 ∧ K (.sl H.length k 0 n.toNat) (H ++ [some (mkCells z n.toNat)])
    | _ => False
  | .app k bytes s x => stOk (ax F s) ∧ stOk (ax F x) ∧ match dstOf H k (st (ax F s)), srcOf H k (st (ax F x)) with
    | some (n, old, H1), some (m, new) => n + m ≤ 140737488355328 ∧ (n + m) * bytes ≤ 140737488355328 ∧ new.all plainC = true ∧ new.all oneA = true ∧ K (.sl H.length k 0 (n + m)) (H1 ++ [some (old ++ new)])
    | _, _ => False
  | .cpy s x => stOk (ax F s) ∧ stOk (ax F x) ∧ match st (ax F s), srcOf H 1 (st (ax F x)) with
    | .sl o 1 off n, some (m, new) => match H[o]? with
      | some (some cs) => off + n ≤ cs.length ∧ new.all plainC = true ∧ new.all oneA = true ∧ K (.val (.int .i64 (Nat.min m n : Nat))) (H.set o (some (cs.take off ++ new.take (Nat.min m n) ++ cs.drop (off + Nat.min m n))))
      | _ => False
    | _, _ => False
  | .bsl n parts => parts.map (·.1) = List.range n ∧ n ≤ 16777216 ∧ parts.all (fun p => oneA (ax F p.2)) = true ∧ K (.sl H.length 1 0 n) (H ++ [some (parts.map fun p => ax F p.2)])
  | _ => False

/-- Operations that write nothing that was there. -/
def isExt : AOp → Bool
  | .alloc _ | .box _ | .mk .. | .bsl .. => true
  | _ => false

def Loud (P : Program) (a : Act) (w : World) (g : Gh) (H : Heap) (o : Oper) (ext : Bool) (K : AV → Heap → Prop) : Prop :=
  ∃ v w' g' av H', ((execOp a.eval o).run P w = .ok (.value v) w' ∨ ((execOp a.eval o).run P w = .ok .skip w' ∧ v = undef)) ∧ Mv g H w g' H' w' ∧ Rd w' (g'.tr H') g'.G av v [] ∧ (ext = true → Ext w w') ∧ K av H'

theorem getD_some {α : Type} {l : Array α} {m : Nat} {d : α} (h : m < l.size) : l[m]? = some (l.getD m d) := by simp [h]
theorem getDL_some {α : Type} {l : List α} {m : Nat} {d : α} (h : m < l.length) : l[m]? = some (l.getD m d) := by simp [h]

theorem frozen_alloc (w : World) (arr : Array Value) (elem : TypeId) : ∀ a, (w.alloc (.cells arr elem)).frozen? a = w.frozen? a :=
  frozen_new (b := w.heap.size) (by simp) (heap_alloc_new w _) fun k hk => by
    show (w.heap.push _)[k]? = w.heap[k]?
    rw [Array.getElem?_push, if_neg hk]
/-- A fresh block, told plainly. -/
theorem loud_new {K : AV → Heap → Prop} {o : Oper} {ext : Bool} (hp : HeapR g H w) {v : Value} {av : AV} {arr : Array Value} {elem : TypeId} {cs : List AV} (hrun : (execOp a.eval o).run P w = .ok (.value v) (w.alloc (.cells arr elem)))
    (hsz : arr.size = cs.length) (hr : ∀ m (h : m < cs.length), Rd w (g.tr H) g.G cs[m] (arr.getD m undef) [])
    (hav : ∀ (g' : Gh), g'.ρ H.length = some (w.heap.size, 0, arr.size) → Rd (w.alloc (.cells arr elem)) (g'.tr (H ++ [some cs])) g'.G av v []) (hK : K av (H ++ [some cs])) : Loud P a w g H o ext K := by
  obtain ⟨g', hm, hρ⟩ := new_plain hp (w' := w.alloc (.cells arr elem)) (fun k hk => heap_alloc_old w _ k hk) (by show w.heap.size ≤ (w.heap.push _).size; simp) rfl rfl rfl (frozen_alloc w arr elem) (Nat.le_refl _) (cs := cs) (fun m => arr.getD m undef)
    (heap_alloc_new w _) (by omega) (fun m hm => getD_some (by omega)) hr
  exact ⟨v, _, g', av, _, .inl hrun, hm, hav g' hρ, fun _ k hk => heap_alloc_old w _ k hk, hK⟩

theorem ref_new {g' : Gh} {cs : List AV} {l : Loc} {v : Value} {w' : World} {G : Nat → Prop} (hρ : g'.ρ H.length = l) (hv : RefAt l 0 v) : Rd w' (g'.tr (H ++ [some cs])) G (.ref H.length 0) v [] := by
  have htr : g'.tr (H ++ [some cs]) H.length = some (some (l, cs.length)) := by rw [← hρ]; exact Gh.tr_some (by simp)
  refine .ref (by simp [htr]) ?_ fun l' hl' => ?_
  · cases l with
    | none => exact hv.elim
    | some l => obtain ⟨b, base, sz⟩ := l; simp only [RefAt] at hv; subst hv; rfl
  · rw [htr] at hl'
    obtain rfl := Option.some.inj (Option.some.inj hl')
    exact hv

theorem sl_new {g' : Gh} {cs : List AV} {l : Loc} {v : Value} {w' : World} {G : Nat → Prop} {k n : Nat} (hρ : g'.ρ H.length = l) (hn : n * k ≤ cs.length) (hv : SlAt l k 0 n v) : Rd w' (g'.tr (H ++ [some cs])) G (.sl H.length k 0 n) v [] := by
  have htr : g'.tr (H ++ [some cs]) H.length = some (some (l, cs.length)) := by rw [← hρ]; exact Gh.tr_some (by simp)
  refine .sl (by simp [htr]) ?_ fun l' hl' => ?_
  · cases l with
    | none => obtain ⟨_, a, rfl⟩ := hv; rfl
    | some l =>
      obtain ⟨b, base, sz⟩ := l
      obtain ⟨cap, _, _, _, h⟩ := hv
      rcases h with rfl | ⟨_, a, rfl⟩ <;> rfl
  · rw [htr] at hl'
    obtain rfl := Option.some.inj (Option.some.inj hl')
    exact ⟨by dsimp only; omega, hv⟩

theorem l_alloc {o : Oper} {t : TypeId} {z : Value} {K : AV → Heap → Prop} {ext : Bool} (hR : R N g F H a w) (hop : o.op = .alloc t) (hz : (P.info? t).bind (·.zero) = some z) (hE : evLoud (.alloc z.cells.toList) F H K) : Loud P a w g H o ext K := by
  obtain ⟨i, hi, hz'⟩ := Option.bind_eq_some_iff.1 hz
  refine loud_new (cs := z.cells.toList.map .val) (arr := z.cells) (elem := t) hR.hp (v := .pointer (some ⟨w.heap.size, 0, none⟩)) ?_ (by simp) (fun m hm => ?_) (fun g' hρ => ref_new hρ (by simp [RefAt])) hE
  · simp [execOp, hop, Instr.alloc, zeroValue, typeInfo, hi, hz', newVar, newRow]
  · simp only [List.length_map, Array.length_toList] at hm
    simp [hm]
    exact .val

theorem l_box {o : Oper} {t : TypeId} {x : Operand} {K : AV → Heap → Prop} {ext : Bool} (hR : R N g F H a w) (hop : o.op = .box t x) (hE : evLoud (.box (cX x)) F H K) : Loud P a w g H o ext K := by
  simp only [evLoud] at hE
  split at hE
  · rename_i cs hcs
    obtain ⟨h1, h2⟩ := cellsOf_ok (ax_rd hR x) hcs
    refine loud_new (cs := cs) (arr := (a.eval x).cells) (elem := t) hR.hp (v := .pointer (some ⟨w.heap.size, 0, none⟩)) ?_ h1 h2 (fun g' hρ => ref_new hρ (by simp [RefAt])) hE
    simp [execOp, hop, Instr.box, newVar, newRow]
  · exact hE.elim

theorem elemZero_inv {t : TypeId} {z : List Value} (h : elemZero P t = some z) : ∃ e i zv, P.underlying t = some (.slice e) ∧ P.info? e = some i ∧ i.zero = some zv ∧ zv.cells.toList = z := by
  unfold elemZero at h
  split at h
  · rename_i e he
    rw [Option.map_eq_some_iff] at h
    obtain ⟨zv, hz, hs⟩ := h
    obtain ⟨i, hi, hz'⟩ := Option.bind_eq_some_iff.1 hz
    exact ⟨e, i, zv, he, hi, hz', hs⟩
  · cases h

theorem elemBytes_eq {t e : TypeId} {i : TypeInfo} (he : P.underlying t = some (.slice e)) (hi : P.info? e = some i) : elemBytes P t = i.bytes := by simp [elemBytes, he, Program.bytesOf, hi]

theorem mkCells_length (z : List Value) (n : Nat) : (mkCells z n).length = n * z.length := by
  unfold mkCells
  split <;> simp

theorem l_mk {o : Oper} {t : TypeId} {l c : Operand} {k : Nat} {z : List Value} {K : AV → Heap → Prop} {ext : Bool} (hR : R N g F H a w) (hop : o.op = .makeSlice t l c) (hlc : a.eval l = a.eval c) (hk : elemSize P t = some k) (hz : elemZero P t = some z) (hzk : z.length = k)
    (hE : evLoud (.mk k (elemBytes P t) z (cX l)) F H K) : Loud P a w g H o ext K := by
  obtain ⟨h1, hE⟩ := hE
  have hl := sx_rd hR l h1
  split at hE
  · rename_i kk n hn
    rw [hn] at hl
    have hv := hl.val_inv.1
    obtain ⟨h0, hb, h63, hK⟩ := hE
    obtain ⟨e, i, zv, he, hi, hz', hzl⟩ := elemZero_inv hz
    obtain ⟨e', i', he', hi', hsz⟩ := elemSize_inv hk
    obtain rfl : e = e' := by rw [he] at he'; simpa using he'
    obtain rfl : i = i' := by rw [hi] at hi'; simpa using hi'
    rw [elemBytes_eq he hi] at hb
    have hrun := run_make (P := P) w t e i zv he hi hz' kk kk n n h0 (Int.le_refl _) hb h63
    rw [hsz] at hrun
    have hzs : zv.cells.size = z.length := by rw [← hzl]; simp
    refine loud_new (cs := mkCells z n.toNat) (arr := madeCells zv.cells (n.toNat * k)) (elem := e) hR.hp (v := .slice (some ⟨w.heap.size, 0, none⟩) n.toNat n.toNat) ?_ (by rw [size_madeCells, mkCells_length, hzk]) (fun m hm => ?_) (fun g' hρ => sl_new hρ (by rw [mkCells_length, hzk]; omega) ?_) hK
    · simp [execOp, hop, ← hlc, hv, hrun]
    · rw [mkCells_length, hzk] at hm
      have e1 : (madeCells zv.cells (n.toNat * k)).getD m undef = z.getD (m % z.length) undef := by
        have hpos : 0 < k := Nat.pos_of_mul_pos_left (by omega : 0 < n.toNat * k)
        have hmod : m % z.length < z.length := Nat.mod_lt _ (by omega)
        have hmod' : m % zv.cells.size < zv.cells.size := by rw [hzs]; exact hmod
        have : zv.cells[m % zv.cells.size]! = z.getD (m % z.length) undef := by
          subst hzl
          rw [getElem!_pos zv.cells _ hmod']
          simp [hmod', List.getD]
        simp only [madeCells]
        rw [← this]
        simp [hm]
      rw [e1]
      have e2 : (mkCells z n.toNat)[m]'(by rw [mkCells_length, hzk]; exact hm) = .val (z.getD (m % z.length) undef) := by
        unfold mkCells
        split
        · simp [Nat.mod_one]
        · simp
      rw [e2]
      exact .val
    · refine ⟨n.toNat, Nat.le_refl _, by unfold maxLen; omega, by rw [size_madeCells]; omega, .inl (by simp)⟩
  · exact hE.elim

theorem l_store {o : Oper} {t : TypeId} {x y : Operand} {i : TypeInfo} {K : AV → Heap → Prop} (hR : R N g F H a w) (hop : o.op = .store t y x) (hi : P.info? t = some i) (hE : evLoud (.store i.size (cX y) (cX x)) F H K) : Loud P a w g H o false K := by
  obtain ⟨h1, hE⟩ := hE
  have hy := sx_rd hR y h1
  have hx := ax_rd hR x
  split at hE
  · rename_i o' j vs hy' hvs
    split at hE
    · rename_i cs ho'
      obtain ⟨h2, h3, h4, hK⟩ := hE
      obtain ⟨h5, h6⟩ := cellsOf_ok hx hvs
      rw [hy'] at hy
      cases hy with
      | ref h00 hv0 h7 =>
        have h8 := h7 _ (Gh.tr_some (g := g) ho')
        dsimp only at h8
        cases hl : g.ρ o' with
        | none => rw [hl] at h8; exact h8.elim
        | some l =>
          obtain ⟨b, base, sz⟩ := l
          rw [hl] at h8
          simp only [RefAt] at h8
          obtain ⟨arr, elem, u, bss, hb, hsz, hbase, hc, hrr, hob⟩ := hl ▸ hR.hp.obj o' cs ho'
          have hvl : (a.eval x).cells.toList.length = vs.length := by simpa using h5
          obtain ⟨g', hm⟩ := set_obj hR.hp ho' hl (j := j) (vs := vs) (by omega) (us := (a.eval x).cells.toList) hvl (fun m hm => by
            have := h6 m hm
            rwa [show (a.eval x).cells.getD m undef = (a.eval x).cells.toList.getD m undef by simp [List.getD]] at this) hb
          rw [← splice_eq (by omega)] at hm
          refine ⟨undef, _, g', .any, _, .inr ⟨?_, rfl⟩, hm, .any, fun h => (by cases h), hK⟩
          have h1c : ∀ v ∈ (a.eval x).cells.toList, v.oneCell' = true := fun v hv => by
            obtain ⟨m, hm, rfl⟩ := List.mem_iff_getElem.1 hv
            have := h6 m (by omega)
            rw [show (a.eval x).cells.getD m undef = (a.eval x).cells.toList[m] by simp [show m < (a.eval x).cells.size by simpa using hm]] at this
            exact oneA_ok this (List.all_eq_true.1 h4 _ (List.getElem_mem _))
          have hst := run_storeCells_at P b (base + j) elem (a.eval x).cells.toList 0 arr w hb (by omega) h1c
          simp only [Nat.add_zero] at hst
          simp [execOp, hop, h8, Instr.storeAt, Instr.sureAddr, storeVar, sizeOf, typeInfo, hi, h5, h2, hst]
    · exact hE.elim
  · exact hE.elim

end Go.Gov
