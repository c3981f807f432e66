/- The loud operations: a slice's literal, append. -/
import Derived.Test.YtkolabjcmephaaaGov5
set_option linter.unusedSimpArgs false
set_option linter.unusedVariables false
namespace Go.Gov
variable {P : Program} {N : Nat} {g : Gh} {F : Frame} {H : Heap} {a : Act} {w : World}

theorem fill_ones : ∀ (parts : List (Nat × Value)) (s : Nat) (cells : Array Value), parts.map (·.1) = List.range' s parts.length → (∀ p ∈ parts, p.2.cells = #[p.2]) → cells.size = s + parts.length →
    Instr.fill (fun i => some (i * 1, 1)) cells parts = some ((cells.toList.take s ++ parts.map (·.2)).toArray)
  | [], s, cells, _, _, hs => by
    simp only [List.length_nil, Nat.add_zero] at hs
    simp only [Instr.fill, List.map_nil, List.append_nil]
    rw [List.take_of_length_le (by simp [hs])]
  | (i, v) :: rest, s, cells, hi, h1, hs => by
    simp only [List.map_cons, List.length_cons, List.range'_succ, List.cons.injEq] at hi
    obtain ⟨rfl, hi⟩ := hi
    have hv := h1 (i, v) (by simp)
    dsimp only at hv
    simp only [List.length_cons] at hs
    have e : (v.cells.zipIdx.foldl (fun cs (c, j) => cs.setIfInBounds (i * 1 + j) c) cells) = cells.setIfInBounds i v := by
      rw [hv]
      simp
    have ih := fill_ones rest (i + 1) (cells.setIfInBounds i v) hi (fun p hp => h1 p (List.mem_cons_of_mem _ hp)) (by simp; omega)
    have hg : ¬ (v.cells.size ≠ 1 ∨ i * 1 + v.cells.size > cells.size) := by rw [hv]; simp; omega
    simp only [Instr.fill]
    rw [if_neg (by simpa using hg), e, ih]
    congr 2
    rw [List.take_succ_eq_append_getElem (by simp; omega)]
    simp [List.take_set_of_le]

theorem l_bsl {o : Oper} {t : TypeId} {n : Nat} {parts : Array (Nat × Operand)} {K : AV → Heap → Prop} {ext : Bool} (hR : R N g F H a w) (hop : o.op = .buildSlice t n parts) (hk : elemSize P t = some 1) (hz : (elemZero P t).isSome = true)
    (hE : evLoud (.bsl n (parts.toList.map fun (i, x) => (i, cX x))) F H K) : Loud P a w g H o ext K := by
  obtain ⟨h1, h2, h3, hK⟩ := hE
  obtain ⟨e, i, he, hi, hsz⟩ := elemSize_inv hk
  obtain ⟨z, hz⟩ := Option.isSome_iff_exists.1 hz
  obtain ⟨e', i', zv, he', hi', hz', hzl⟩ := elemZero_inv hz
  obtain rfl : e = e' := by rw [he] at he'; simpa using he'
  obtain rfl : i = i' := by rw [hi] at hi'; simpa using hi'
  have hpl : parts.toList.length = n := by have := congrArg List.length h1; simpa using this
  have hones : ∀ p ∈ parts.toList, (a.eval p.2).oneCell' = true := fun p hp => by
    have := List.all_eq_true.1 h3 (p.1, cX p.2) (List.mem_map.2 ⟨p, hp, rfl⟩)
    exact oneA_ok (ax_rd hR p.2) this
  let vals := parts.toList.map fun p => (p.1, a.eval p.2)
  let c0 : Array Value := (Array.range (n * 1)).map fun m => (if n * 1 = 0 then #[] else zv.cells)[m % (if n * 1 = 0 then (#[] : Array Value) else zv.cells).size]!
  have hf := fill_ones vals 0 c0 (by
      have : vals.map (·.1) = parts.toList.map (·.1) := by simp [vals]
      rw [this]
      simp only [List.map_map] at h1
      rw [List.range_eq_range'] at h1
      simpa [vals, hpl, Function.comp_def] using h1) (fun p hp => by
      obtain ⟨q, hq, rfl⟩ := List.mem_map.1 hp
      exact one_cells (hones q hq)) (by simp [c0, vals, hpl])
  simp only [List.take_zero, List.nil_append] at hf
  refine loud_new (cs := (parts.toList.map fun (i, x) => (i, cX x)).map fun p => ax F p.2) (arr := (vals.map (·.2)).toArray) (elem := e) hR.hp (v := .slice (some ⟨w.heap.size, 0, none⟩) n n) ?_ (by simp [vals]) (fun m hm => ?_) (fun g' hρ => sl_new hρ (by simp [hpl]) ?_) hK
  · have hparts : (parts.map fun (i, x) => (i, a.eval x)).toList = vals := by simp [vals]
    simp only [execOp, hop, Instr.buildSlice, Sem.run_bind, run_underlying he, Result.andThen_ok]
    have hs : ∀ w', (sizeOf e).run P w' = .ok 1 w' := fun w' => by simp [sizeOf, typeInfo, hi, hsz]
    rw [hs, Result.andThen_ok, if_neg (by omega)]
    simp only [hparts]
    have hf' : Instr.fill (fun i => some (i * 1, 1)) ((Array.range (n * 1)).map fun m => (if n * 1 = 0 then #[] else zv.cells)[m % (if n * 1 = 0 then (#[] : Array Value) else zv.cells).size]!) vals = some (vals.map (·.2)).toArray := hf
    by_cases h0 : n * 1 = 0
    · simp only [h0, if_true] at hf' ⊢
      simp only [Sem.run_bind, Sem.run_pure, Result.andThen_ok, hf']
      simp [newRow]
    · simp only [h0, if_false] at hf' ⊢
      have hz0 : ∀ w', (zeroValue e).run P w' = .ok zv w' := fun w' => by simp [zeroValue, typeInfo, hi, hz']
      simp only [Sem.run_bind, Sem.run_pure, Result.andThen_ok, hz0, hf']
      simp [newRow]
  · simp only [List.length_map, Array.length_toList] at hm
    simp [vals, hm]
    exact ax_rd hR _
  · refine ⟨n, Nat.le_refl _, by unfold maxLen; omega, by simp [vals, hpl], .inl (by simp)⟩

end Go.Gov
