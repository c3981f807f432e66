/- Texts that belong together. -/
import Derived.Test.YtfcbamfkfadabaaGreatDoorRs
import Derived.Test.YtfcbamfkfadabaaGreatDoorS6
set_option linter.unusedSimpArgs false
set_option linter.unusedVariables false
set_option maxRecDepth 100000
namespace Go.Proofs.YtfcbamfkfadabaaGreatDoor
section
open Go.Ce Go.Nt
open Classical
def seedsT : List (List UInt8) := [[84], [67], [79], [68], [73]] ++ ((List.range 29).map fun v => 72 :: tx (v + 2)) ++ ((List.range 29).map fun v => 90 :: tx (v + 2))
def opN : List UInt8 := [97, 98, 99, 100, 101, 106, 107, 109, 110, 111, 116, 122]
def opT : Nat → List (List UInt8)
 | 0 => [[]]
 | n + 1 => (opT n).flatMap fun o => opN.map fun c => o ++ [c]
theorem seedsT_len : seedsT.length = 63 := rfl
theorem seedsT_ok : ∀ s ∈ seedsT, SeedOk s ∧ s.length ≤ 3 ∧ ntO s = [] := fun s hs => by
 unfold seedsT at hs
 have hv : ∀ b : UInt8, (b = 72 ∨ b = 90) → ∀ v, v < 29 → SeedOk (b :: tx (v + 2)) ∧ (b :: tx (v + 2)).length ≤ 3 ∧ ntO (b :: tx (v + 2)) = [] := fun b hb v hv => by
  have h1 := valS_tx (v + 2) (by omega) (by omega)
  refine ⟨.inr ⟨b, tx (v + 2), rfl, hb, by omega, by omega⟩, ?_, ?_⟩
  ·unfold tx; split <;> simp
  ·unfold ntO
   rw [List.takeWhile_cons_of_neg]
   rcases hb with rfl | rfl <;> decide
 rcases List.mem_append.1 hs with hs | hs
 ·rcases List.mem_append.1 hs with hs | hs
  ·simp only [List.mem_cons, List.not_mem_nil, or_false] at hs
   rcases hs with rfl | rfl | rfl | rfl | rfl
   all_goals exact ⟨.inl ⟨_, rfl, by decide⟩, by decide, by decide⟩
  ·obtain ⟨v, hv1, rfl⟩ := List.mem_map.1 hs
   exact hv 72 (.inl rfl) v (List.mem_range.1 hv1)
 ·obtain ⟨v, hv1, rfl⟩ := List.mem_map.1 hs
  exact hv 90 (.inr rfl) v (List.mem_range.1 hv1)
theorem opN_op : ∀ c ∈ opN, opB c = true := by decide
theorem opT_ok : ∀ n, ∀ o ∈ opT n, o.length = n ∧ ∀ b ∈ o, opB b = true
 | 0, o, ho => by
  simp only [opT, List.mem_cons, List.not_mem_nil, or_false] at ho
  subst ho
  exact ⟨rfl, fun b hb => by cases hb⟩
 | n + 1, o, ho => by
  simp only [opT, List.mem_flatMap, List.mem_map] at ho
  obtain ⟨q, hq, c, hc, rfl⟩ := ho
  obtain ⟨h1, h2⟩ := opT_ok n q hq
  refine ⟨by simp [h1], fun b hb => ?_⟩
  rcases List.mem_append.1 hb with h | h
  ·exact h2 b h
  ·rw [List.mem_singleton.1 h]; exact opN_op c hc
theorem nt_os {o s : List UInt8} (ho : ∀ b ∈ o, opB b = true) (hs : ntO s = []) : ntO (o ++ s) = o ∧ ntS (o ++ s) = s := by
 have h1 : ntO (o ++ s) = o ++ ntO s := by
  unfold ntO
  exact List.takeWhile_append_of_pos ho
 have h2 := nt_app (o ++ s)
 rw [h1, hs, List.append_nil] at h2
 refine ⟨by rw [h1, hs, List.append_nil], List.append_cancel_left h2⟩
theorem nt_ok2 {o s : List UInt8} {n : Nat} (hn : n ≤ 12) (ho : o ∈ opT n) (hs : s ∈ seedsT) : NtOk (o ++ s) ∧ ntO (o ++ s) = o ∧ ntS (o ++ s) = s := by
 obtain ⟨h1, h2⟩ := opT_ok n o ho
 obtain ⟨h3, _, h5⟩ := seedsT_ok s hs
 obtain ⟨e1, e2⟩ := nt_os h2 h5
 refine ⟨⟨?_, ?_⟩, e1, e2⟩
 ·rw [e1]; omega
 ·rw [e2]; exact h3
noncomputable def cL (l : List UInt8) : List Int := [(cnt (basL (ntO l)) (seedC (ntS l))).1, (cnt (basL (ntO l)) (seedC (ntS l))).2.1, (cnt (basL (ntO l)) (seedC (ntS l))).2.2]
noncomputable def recP (M : List (List Int)) (l : List UInt8) : Bool := decide (cL l = fcV (fl M) M 3) && (decide (moC l = 0) && decide (lsF (moM l) = lsF M))
def rs1 (o : List UInt8) (k : Nat) : List (List UInt8) := (seedsT.drop k).map fun s => o ++ s
def rs2 (L : List (List UInt8)) (i : Nat) : List (List UInt8) := (L.drop i).flatMap fun o => rs1 o 0
def rs3 : Nat → List (List UInt8)
 | 0 => rs2 (opT 0) 0 ++ (rs2 (opT 1) 0 ++ rs2 (opT 2) 0)
 | 1 => rs2 (opT 1) 0 ++ rs2 (opT 2) 0
 | 2 => rs2 (opT 2) 0
 | _ => []
theorem rs3_s {n : Nat} (h : n < 3) : rs3 n = rs2 (opT n) 0 ++ rs3 (n + 1) := by
 match n, h with
 | 0, _ => rfl
 | 1, _ => rfl
 | 2, _ => exact (List.append_nil _).symm
theorem rs2_s {L : List (List UInt8)} {i : Nat} (h : i < L.length) : rs2 L i = rs1 (L.getD i []) 0 ++ rs2 L (i + 1) := by
 unfold rs2
 rw [List.drop_eq_getElem_cons h, List.flatMap_cons]
 simp [h]
theorem rs2_e (L : List (List UInt8)) : rs2 L L.length = [] := by unfold rs2; simp
theorem rs1_s (o : List UInt8) {k : Nat} (h : k < 63) : rs1 o k = (o ++ seedsT.getD k []) :: rs1 o (k + 1) := by
 unfold rs1
 have h2 : k < seedsT.length := h
 rw [List.drop_eq_getElem_cons h2, List.map_cons]
 simp [h2]
theorem rs1_e (o : List UInt8) : rs1 o 63 = [] := by unfold rs1; rw [← seedsT_len]; simp
noncomputable def recV (M : List (List Int)) : Option (List UInt8) := (rs3 0).find? (recP M)
theorem recV_some {M : List (List Int)} {l : List UInt8} (h : recV M = some l) : recP M l = true ∧ ∃ n o s, n < 3 ∧ o ∈ opT n ∧ s ∈ seedsT ∧ l = o ++ s := by
 have h1 := List.find?_some h
 have h2 := List.mem_of_find?_eq_some h
 refine ⟨h1, ?_⟩
 have key : ∀ n, l ∈ rs2 (opT n) 0 → ∃ o s, o ∈ opT n ∧ s ∈ seedsT ∧ l = o ++ s := fun n hn => by
  simp only [rs2, rs1, List.drop_zero, List.mem_flatMap, List.mem_map] at hn
  obtain ⟨o, ho, s, hs, rfl⟩ := hn
  exact ⟨o, s, ho, hs, rfl⟩
 unfold rs3 at h2
 rcases List.mem_append.1 h2 with h | h
 ·obtain ⟨o, s, q⟩ := key 0 h; exact ⟨0, o, s, by omega, q⟩
 ·rcases List.mem_append.1 h with h | h
  ·obtain ⟨o, s, q⟩ := key 1 h; exact ⟨1, o, s, by omega, q⟩
  ·obtain ⟨o, s, q⟩ := key 2 h; exact ⟨2, o, s, by omega, q⟩
theorem opT_len : ∀ n, (opT n).length = 12 ^ n
 | 0 => rfl
 | n + 1 => by
  rw [opT, List.length_flatMap, Nat.pow_succ, ← opT_len n]
  generalize opT n = L
  induction L with
  | nil => rfl
  | cons o L ih =>
   have e : ((o :: L).map fun o => (opN.map fun c => o ++ [c]).length).sum = 12 + (L.map fun o => (opN.map fun c => o ++ [c]).length).sum := by
    rw [List.map_cons, List.sum_cons, List.length_map]; rfl
   rw [List.length_cons, Nat.succ_mul, ← ih]
   exact e.trans (Nat.add_comm _ _)
def opM (L : List (List UInt8)) (i : Nat) : List (List UInt8) := (L.take i).flatMap fun o => opN.map fun c => o ++ [c]
def opK (o : List UInt8) (k : Nat) : List (List UInt8) := (opN.take k).map fun c => o ++ [c]
theorem opM_s {L : List (List UInt8)} {i : Nat} (h : i < L.length) : opM L (i + 1) = opM L i ++ opK (L.getD i []) 12 := by
 unfold opM opK
 rw [List.take_succ_eq_append_getElem h, List.flatMap_append, List.take_of_length_le (show opN.length ≤ 12 from Nat.le_refl _)]
 simp [h]
theorem opM_e (n : Nat) : opM (opT n) (opT n).length = opT (n + 1) := by unfold opM; rw [List.take_length]; rfl
theorem opM_len (L : List (List UInt8)) (i : Nat) (h : i ≤ L.length) : (opM L i).length = 12 * i := by
 have key : ∀ K : List (List UInt8), (K.flatMap fun o => opN.map fun c => o ++ [c]).length = 12 * K.length := fun K => by
  induction K with
  | nil => rfl
  | cons o K ih =>
   rw [List.flatMap_cons, List.length_append, ih, List.length_map, List.length_cons, show opN.length = 12 from rfl]
   omega
 unfold opM
 rw [key, List.length_take]
 omega
theorem opK_s (o : List UInt8) {k : Nat} (h : k < 12) : opK o (k + 1) = opK o k ++ [o ++ [opN.getD k 0]] := by
 unfold opK
 rw [List.take_succ_eq_append_getElem (show k < opN.length from h), List.map_append]
 simp [show k < opN.length from h]
theorem opK_len (o : List UInt8) {k : Nat} (h : k ≤ 12) : (opK o k).length = k := by
 unfold opK
 rw [List.length_map, List.length_take, show opN.length = 12 from rfl]
 omega
end
section
open Go.Gov Go.Nt
open Classical
theorem u8w (n : Nat) (h : n < 256) : IntKind.u8.wrap (n : Int) = (n : Int) := by
 simp only [IntKind.wrap, IntKind.bits, IntKind.signed]
 simp
 omega
theorem l01Dec1_c (v : Nat) (h : v < 10) : Pure Tryz.prog 107 [i64 (v : Int)] (sV (tx v)) [] := by
 have e1 : (48 : Int) + (v : Int) = ((48 + v : Nat) : Int) := by omega
 have e2 := u8w (48 + v) (by omega)
 have e3 : tx v = [UInt8.ofNat (48 + v)] := by unfold tx; rw [if_pos h]
 rw [e3]
 refine pureV0 ok107 rfl rfl ?_; unfold c107
 refine RN ?_
 refine ⟨fun hc => ?_, fun hc => absurd hc (by omega)⟩
 (repeat first | simp only [e1, e2, go_sem, ↓reduceIte, Nat.reduceEqDiff, Nat.reduceAdd, reduceCtorEq] | refine RX ?_ | decide)
 all_goals first | done | rfl
set_option maxHeartbeats 1000000 in
theorem l01Dec_c (v : Nat) (h : v < 100) : Pure Tryz.prog 107 [i64 (v : Int)] (sV (tx v)) [] := by
 by_cases h1 : v < 10
 ·exact l01Dec1_c v h1
 ·have hmx : 1099511627776000 ≤ maxLen := by decide
  have hd := l01Dec1_c (v / 10) (by omega)
  have e0 : tx (v / 10) = [UInt8.ofNat (48 + v / 10)] := by unfold tx; rw [if_pos (by omega)]
  rw [e0] at hd
  have e1 : (48 : Int) + ((v % 10 : Nat) : Int) = ((48 + v % 10 : Nat) : Int) := by omega
  have e2 := u8w (48 + v % 10) (by omega)
  have e3 : tx v = [UInt8.ofNat (48 + v / 10), UInt8.ofNat (48 + v % 10)] := by unfold tx; rw [if_neg h1]
  have e4 : (v : Int).tdiv 10 = ((v / 10 : Nat) : Int) := (Int.ofNat_tdiv v 10).symm
  have e5 : (v : Int).tmod 10 = ((v % 10 : Nat) : Int) := (Int.ofNat_tmod v 10).symm
  rw [e3]
  refine pureV0 ok107 rfl rfl ?_; unfold c107
  refine RN ?_
  intro _
  refine V_W ?_
  refine V_altsS [(2, sV [UInt8.ofNat (48 + v / 10), UInt8.ofNat (48 + v % 10)])] [] ?_ ?_
  ·(repeat' first | simp only [go_sem, ↓reduceIte, Nat.reduceEqDiff, Nat.reduceAdd, reduceCtorEq] | with_reducible refine LT_reg ?_ | with_reducible refine LT_regz (by simp only [zAd_load, zAd_loads, zPt_pto, go_sem, ↓reduceIte, Nat.reduceEqDiff, Nat.reduceAdd, reduceCtorEq]) ?_ | with_reducible refine LT_fin ?_ | with_reducible exact LT_tt | with_reducible refine LT_alt ?_ ?_ | (with_reducible refine And.intro ?_ ?_; focus first | assumption | omega | grind))
   all_goals simp only [e4, e5, e1, e2, go_sem, ↓reduceIte, Nat.reduceEqDiff, Nat.reduceAdd, reduceCtorEq]
   all_goals refine pureC1 (hd) ?_
   all_goals (repeat' first | simp only [go_sem, ↓reduceIte, Nat.reduceEqDiff, Nat.reduceAdd, reduceCtorEq] | with_reducible refine LT_reg ?_ | with_reducible refine LT_regz (by simp only [zAd_load, zAd_loads, zPt_pto, go_sem, ↓reduceIte, Nat.reduceEqDiff, Nat.reduceAdd, reduceCtorEq]) ?_ | with_reducible refine LT_fin ?_ | with_reducible exact LT_tt | with_reducible refine LT_alt ?_ ?_ | (with_reducible refine And.intro ?_ ?_; focus first | assumption | omega | grind))
   all_goals exact Ref.gc1 []
  (refine RN ?_; try with_reducible exact trivial)
def sdA (i : Nat) : List (List UInt8) := [[84], [67], [79], [68], [73]] ++ (List.range i).map fun v => 72 :: tx (v + 2)
def sdB (i : Nat) : List (List UInt8) := sdA 29 ++ (List.range i).map fun v => 90 :: tx (v + 2)
theorem sdA_s (i : Nat) : sdA (i + 1) = sdA i ++ [72 :: tx (i + 2)] := by simp [sdA, List.range_succ]
theorem sdB_s (i : Nat) : sdB (i + 1) = sdB i ++ [90 :: tx (i + 2)] := by simp [sdB, List.range_succ]
theorem sdA_len (i : Nat) : (sdA i).length = 5 + i := by simp [sdA]; omega
theorem sdB_len (i : Nat) : (sdB i).length = 34 + i := by simp [sdB, sdA_len]
theorem sdB_end : sdB 29 = seedsT := rfl
theorem sdB_zero : sdB 0 = sdA 29 := by simp [sdB]
theorem tx_len (v : Nat) : (tx v).length ≤ 2 := by unfold tx; split <;> simp
set_option maxHeartbeats 2000000 in
theorem l15Seeds_p : Pure Tryz.prog 51 [] (.sl 0 1 0 63) [some (sVs seedsT)] := by
 have hmx : 1099511627776000 ≤ maxLen := by decide
 refine pureRV ok51 rfl ?_; unfold c51
 refine RN ?_
 refine V_loop (α := Nat) (S := fun i => ([(1, .sl 0 1 0 (sdA i).length), (2, i64 ((i + 2 : Nat) : Int))], [some (sVs (sdA i))])) (C := fun i => i ≤ 29) (μ := fun i => 29 - i) 0 (by omega) ?_ ?_
 ·exact Ref.to (by simp [sVs, sdA]) (by simp [sub, fget, sdA_len])
 intro i hi
 have hs := sdA_s i
 have hl := sdA_len i
 refine RN ?_
 refine ⟨fun hc => ?_, fun hc => ?_⟩
 ·have hd := l01Dec_c (i + 2) (by omega)
  have ht := tx_len (i + 2)
  generalize tx (i + 2) = t at hd hs ht
  generalize sdA i = L at hs hl ⊢
  refine RN ?_
  refine pureC1 (hd) ?_
  refine RN ?_
  refine ⟨i + 1, by omega, by omega, ?_⟩
  rw [hs]
  exact Ref.gc [2] rfl (by simp only [go_sem, ↓reduceIte, Nat.reduceEqDiff, Nat.reduceAdd, reduceCtorEq] <;> rfl) (by simp [sub, fget, go_sem, ↓reduceIte, Nat.reduceEqDiff, Nat.reduceAdd, reduceCtorEq]; omega)
 ·obtain rfl : i = 29 := by omega
  rw [← sdB_zero]
  refine RN ?_
  refine V_loop (α := Nat) (S := fun i => ([(1, .sl 0 1 0 (sdB i).length), (3, i64 ((i + 2 : Nat) : Int))], [some (sVs (sdB i))])) (C := fun i => i ≤ 29) (μ := fun i => 29 - i) 0 (by omega) ?_ ?_
  ·exact Ref.to1
  intro i hi
  have hs := sdB_s i
  have hl := sdB_len i
  refine RN ?_
  refine ⟨fun hc => ?_, fun hc => ?_⟩
  ·have hd := l01Dec_c (i + 2) (by omega)
   have ht := tx_len (i + 2)
   generalize tx (i + 2) = t at hd hs ht
   generalize sdB i = L at hs hl ⊢
   refine RN ?_
   refine pureC1 (hd) ?_
   refine RN ?_
   refine ⟨i + 1, by omega, by omega, ?_⟩
   rw [hs]
   exact Ref.gc [2] rfl (by simp only [go_sem, ↓reduceIte, Nat.reduceEqDiff, Nat.reduceAdd, reduceCtorEq] <;> rfl) (by simp [sub, fget, go_sem, ↓reduceIte, Nat.reduceEqDiff, Nat.reduceAdd, reduceCtorEq]; omega)
  ·obtain rfl : i = 29 := by omega
   rw [sdB_end]
   refine RN ?_
   exact Ref.to rfl (by simp [sub, fget, seedsT_len])
def op26 (c : Nat) : List UInt8 := ((List.range c).map fun k => UInt8.ofNat (97 + k)).filter opB
theorem op26_s (c : Nat) : op26 (c + 1) = op26 c ++ if opB (UInt8.ofNat (97 + c)) then [UInt8.ofNat (97 + c)] else [] := by
 unfold op26
 rw [List.range_succ, List.map_append, List.filter_append]
 congr 1
 show List.filter opB [UInt8.ofNat (97 + c)] = _
 rw [List.filter_cons]
 rfl
theorem op26_end : op26 26 = opN := by decide
theorem op26_len (c : Nat) : (op26 c).length ≤ c := by
 unfold op26
 exact Nat.le_trans (List.length_filter_le _ _) (by simp)
def opC (o : List UInt8) (c : Nat) : List (List UInt8) := (op26 c).map fun c => o ++ [c]
theorem opC_len (o : List UInt8) (c : Nat) : (opC o c).length ≤ c := by unfold opC; rw [List.length_map]; exact op26_len c
theorem opC_end (o : List UInt8) : opC o 26 = opK o 12 := by unfold opC opK; rw [op26_end]; rfl
def opX (L : List (List UInt8)) (i c : Nat) : List (List UInt8) := opM L i ++ opC (L.getD i []) c
theorem opX_zero (L : List (List UInt8)) (i : Nat) : opX L i 0 = opM L i := by simp [opX, opC, op26]
theorem opX_s (L : List (List UInt8)) (i c : Nat) : opX L i (c + 1) = opX L i c ++ if opB (UInt8.ofNat (97 + c)) then [L.getD i [] ++ [UInt8.ofNat (97 + c)]] else [] := by
 unfold opX opC
 rw [op26_s, List.map_append, List.append_assoc]
 congr 2
 split <;> rfl
theorem opX_end {L : List (List UInt8)} {i : Nat} (h : i < L.length) : opX L i 26 = opM L (i + 1) := by
 unfold opX
 rw [opC_end, opM_s h]
theorem opX_len (L : List (List UInt8)) {i : Nat} (h : i ≤ L.length) (c : Nat) : (opX L i c).length ≤ 12 * i + c := by
 have := opM_len L i h
 have := opC_len (L.getD i []) c
 unfold opX
 rw [List.length_append]
 omega
set_option maxHeartbeats 4000000 in
theorem l15Operators_p (n : Nat) (hn : n ≤ 2) : Pure Tryz.prog 52 [i64 (n : Int)] (.sl 0 1 0 (opT n).length) [some (sVs (opT n))] := by
 have hmx : 1099511627776000 ≤ maxLen := by decide
 refine pureRV ok52 rfl ?_; unfold c52
 refine RN ?_
 refine V_loop (α := Nat) (S := fun t => ([(0, i64 ((n : Int) - t)), (3, .sl 0 1 0 (opT t).length)], [some (sVs (opT t))])) (C := fun t => t ≤ n) (μ := fun t => n - t) 0 (by omega) ?_ ?_
 ·exact Ref.to (by simp [sVs, opT]) (by simp [sub, fget, opT])
 intro t ht
 have hTl := opT_len t
 have hT12 : 12 ^ t ≤ 12 ^ 2 := Nat.pow_le_pow_right (by omega) (by omega)
 have hTo := fun o ho => (opT_ok t o ho).1
 have hTe := opM_e t
 refine RN ?_
 refine ⟨fun hc => ?_, fun hc => ?_⟩
 ·generalize opT t = L at hTl hTo hTe ⊢
  refine RN ?_
  refine V_loop (α := Nat) (S := fun i => ([(0, i64 ((n : Int) - t)), (3, .sl 0 1 0 L.length), (4, .sl 1 1 0 (opM L i).length), (5, i64 (i : Int))], [some (sVs L), some (sVs (opM L i))])) (C := fun i => i ≤ L.length) (μ := fun i => L.length - i) 0 (by omega) ?_ ?_
  ·exact Ref.to (by simp [sVs, opM]) (by simp [sub, fget, opM])
  intro i hi
  have hMl := opM_len L i hi
  refine RN ?_
  refine ⟨fun hc1 => ?_, fun hc1 => ?_⟩
  ·have hil : i < L.length := by omega
   have hol : (L.getD i []).length = t := hTo _ (by
    rw [List.getD_eq_getElem?_getD, List.getElem?_eq_getElem hil]; exact List.getElem_mem hil)
   have hMs := opM_s hil
   have hlt : 12 * i ≤ 12 * 12 ^ 2 := Nat.mul_le_mul_left _ (by omega)
   refine RN ?_
   refine V_loop (α := Nat) (S := fun c => ([(0, i64 ((n : Int) - t)), (3, .sl 0 1 0 L.length), (4, .sl 1 1 0 (opX L i c).length), (5, i64 (i : Int)), (6, .val (.int .u8 ((97 + c : Nat) : Int)))], [some (sVs L), some (sVs (opX L i c))])) (C := fun c => c ≤ 26) (μ := fun c => 26 - c) 0 (by omega) ?_ ?_
   ·exact Ref.to (by rw [opX_zero]) (by rw [opX_zero]; simp [sub, fget])
   intro c hc2
   have hXs := opX_s L i c
   have hXl := opX_len L hi c
   have hXe := opX_end hil
   refine RN ?_
   refine ⟨fun hc3 => ?_, fun hc3 => ?_⟩
   ·have hc26 : c < 26 := by omega
    have hb : (UInt8.ofNat (97 + c)).toNat = 97 + c := by simp; omega
    have hw := l14Word_c (UInt8.ofNat (97 + c))
    rw [u8, hb] at hw
    have hwo := word_op (UInt8.ofNat (97 + c))
    have e1 : ((97 + c : Nat) : Int) + 1 = ((97 + (c + 1) : Nat) : Int) := by omega
    have e2 := u8w (97 + (c + 1)) (by omega)
    have e3 : UInt8.ofNat ((97 + c : Nat) : Int).toNat = UInt8.ofNat (97 + c) := by rw [Int.toNat_natCast]
    generalize opX L i c = K at hXs hXl ⊢
    refine RN ?_
    refine pureC1 (hw) ?_
    (repeat first | simp only [hwo, Bool.not_not, go_sem, ↓reduceIte, Nat.reduceEqDiff, Nat.reduceAdd, reduceCtorEq] | refine RX ?_ | decide)
    refine ⟨fun hc4 => ?_, fun hc4 => ?_⟩
    ·rw [if_pos hc4] at hXs
     generalize L.getD i [] = o at *
     (repeat first | simp only [e3, e1, e2, go_sem, ↓reduceIte, Nat.reduceEqDiff, Nat.reduceAdd, reduceCtorEq] | refine RX ?_ | decide)
     refine ⟨c + 1, by omega, by omega, ?_⟩
     rw [hXs]
     exact Ref.gc2 [0, 4]
    ·rw [if_neg (fun h => by rw [hc4] at h; cases h), List.append_nil] at hXs
     (repeat first | simp only [e1, e2, go_sem, ↓reduceIte, Nat.reduceEqDiff, Nat.reduceAdd, reduceCtorEq] | refine RX ?_ | decide)
     refine ⟨c + 1, by omega, by omega, ?_⟩
     rw [hXs]
     exact Ref.to1
   ·obtain rfl : c = 26 := by omega
    rw [hXe]
    refine RN ?_
    refine ⟨i + 1, by omega, by omega, ?_⟩
    exact Ref.to1
  ·obtain rfl : i = L.length := by omega
   rw [hTe]
   refine RN ?_
   refine ⟨t + 1, by omega, by omega, ?_⟩
   exact Ref.gc [1] rfl (by simp only [go_sem, ↓reduceIte, Nat.reduceEqDiff, Nat.reduceAdd, reduceCtorEq] <;> rfl) (by simp [sub, fget, go_sem, ↓reduceIte, Nat.reduceEqDiff, Nat.reduceAdd, reduceCtorEq]; omega)
 ·obtain rfl : t = n := by omega
  refine RN ?_
  exact Ref.to1
end
section
open Go.Gov Go.Nt
open Classical
variable (tp tq : TypeId) (p q : Value)
set_option maxHeartbeats 2000000 in
theorem seedTexts_p : PureG Tryz.prog (LV tp tq p q) 111 [] (.sl 0 1 0 63) [some (sVs seedsT)] := by
 have hmx : 1099511627776000 ≤ maxLen := by decide
 refine pureGV ok111 rfl ?_; unfold c111
 refine RN ?_
 refine V_loop (α := Nat) (S := fun k => ([(1, .sl 1 1 0 (if k = 0 then 5 else if k = 1 then 34 else 63)), (6, .slc 1 2 (sVs [[72], [90]])), (7, i64 2), (8, i64 (k : Int))], [some (gvs (LV tp tq p q)), some (sVs (if k = 0 then sdA 0 else if k = 1 then sdA 29 else seedsT))])) (C := fun k => k ≤ 2) (μ := fun k => 2 - k) 0 (by omega) ?_ ?_
 ·refine Ref.sel [0, 1] rfl ?_ ?_
  ·simp [go_sem, ↓reduceIte, Nat.reduceEqDiff, Nat.reduceAdd, reduceCtorEq, sVs, sdA]
  ·simp [sub, fget, go_sem, ↓reduceIte, Nat.reduceEqDiff, Nat.reduceAdd, reduceCtorEq, sVs]
 intro k hk
 refine RN ?_
 refine ⟨fun hc => ?_, fun hc => ?_⟩
 ·have hk2 : k = 0 ∨ k = 1 := by omega
  rcases hk2 with rfl | rfl
  ·simp only [if_true, go_sem, ↓reduceIte, Nat.reduceEqDiff, Nat.reduceAdd, reduceCtorEq]
   refine RN ?_
   refine V_loop (α := Nat) (S := fun i => ([(1, .sl 1 1 0 (sdA i).length), (3, sV [72]), (4, i64 ((i + 2 : Nat) : Int)), (6, .slc 1 2 (sVs [[72], [90]])), (7, i64 2), (8, i64 0)], [some (gvs (LV tp tq p q)), some (sVs (sdA i))])) (C := fun i => i ≤ 29) (μ := fun i => 29 - i) 0 (by omega) ?_ ?_
   ·exact Ref.to rfl (by simp [sub, fget, sdA_len])
   intro i hi
   have hs := sdA_s i
   have hl := sdA_len i
   refine RN ?_
   refine ⟨fun hc => ?_, fun hc => ?_⟩
   ·have hd := decimal_c tp tq p q ((i + 2 : Nat) : Int) (by omega) (by omega)
    rw [itoa_tx (by omega)] at hd
    have ht := tx_len (i + 2)
    generalize tx (i + 2) = t at hd hs ht
    generalize sdA i = L at hs hl ⊢
    refine RN ?_
    refine pureGC1 (hd) ?_
    refine RN ?_
    refine ⟨i + 1, by omega, by omega, ?_⟩
    rw [hs]
    exact Ref.gc [0, 3] rfl (by simp only [go_sem, ↓reduceIte, Nat.reduceEqDiff, Nat.reduceAdd, reduceCtorEq] <;> rfl) (by simp [sub, fget, go_sem, ↓reduceIte, Nat.reduceEqDiff, Nat.reduceAdd, reduceCtorEq]; omega)
   ·obtain rfl : i = 29 := by omega
    refine RN ?_
    refine ⟨1, by omega, by omega, ?_⟩
    exact Ref.to rfl (by simp [sub, fget, sdA_len])
  ·simp only [if_true, if_neg (show ¬ (1 : Nat) = 0 by decide), go_sem, ↓reduceIte, Nat.reduceEqDiff, Nat.reduceAdd, reduceCtorEq]
   rw [← sdB_zero]
   refine RN ?_
   refine V_loop (α := Nat) (S := fun i => ([(1, .sl 1 1 0 (sdB i).length), (3, sV [90]), (4, i64 ((i + 2 : Nat) : Int)), (6, .slc 1 2 (sVs [[72], [90]])), (7, i64 2), (8, i64 1)], [some (gvs (LV tp tq p q)), some (sVs (sdB i))])) (C := fun i => i ≤ 29) (μ := fun i => 29 - i) 0 (by omega) ?_ ?_
   ·exact Ref.to rfl (by simp [sub, fget, sdB_len])
   intro i hi
   have hs := sdB_s i
   have hl := sdB_len i
   refine RN ?_
   refine ⟨fun hc => ?_, fun hc => ?_⟩
   ·have hd := decimal_c tp tq p q ((i + 2 : Nat) : Int) (by omega) (by omega)
    rw [itoa_tx (by omega)] at hd
    have ht := tx_len (i + 2)
    generalize tx (i + 2) = t at hd hs ht
    generalize sdB i = L at hs hl ⊢
    refine RN ?_
    refine pureGC1 (hd) ?_
    refine RN ?_
    refine ⟨i + 1, by omega, by omega, ?_⟩
    rw [hs]
    exact Ref.gc [0, 3] rfl (by simp only [go_sem, ↓reduceIte, Nat.reduceEqDiff, Nat.reduceAdd, reduceCtorEq] <;> rfl) (by simp [sub, fget, go_sem, ↓reduceIte, Nat.reduceEqDiff, Nat.reduceAdd, reduceCtorEq]; omega)
   ·obtain rfl : i = 29 := by omega
    refine RN ?_
    refine ⟨2, by omega, by omega, ?_⟩
    exact Ref.to (by rw [sdB_end]; rfl) (by simp [sub, fget, sdB_len])
 ·obtain rfl : k = 2 := by omega
  refine RN ?_
  exact Ref.gc2 [1]
end
end Go.Proofs.YtfcbamfkfadabaaGreatDoor
