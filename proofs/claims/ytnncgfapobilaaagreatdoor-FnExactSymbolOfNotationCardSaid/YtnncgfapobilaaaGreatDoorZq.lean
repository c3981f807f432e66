/- Texts that belong together. -/
import Derived.Test.YtnncgfapobilaaaGreatDoorZo
set_option linter.unusedSimpArgs false
set_option linter.unusedVariables false
set_option maxRecDepth 100000
namespace Go.Proofs.YtnncgfapobilaaaGreatDoor
section
open Classical
def lexL : List Int → List Int → Bool
 | [], [] => false
 | [], _ :: _ => true
 | _ :: _, [] => false
 | x :: xs, y :: ys => if x < y then true else if y < x then false else lexL xs ys
theorem lexL_irr : ∀ a, lexL a a = false
 | [] => rfl
 | x :: xs => by simp [lexL, lexL_irr xs]
theorem lexL_trans : ∀ {a b c : List Int}, lexL a b = true → lexL b c = true → lexL a c = true
 | _, [], [], _, h => by cases h
 | [], [], _ :: _, h, _ => by cases h
 | [], _ :: _, [], _, h => by cases h
 | [], _ :: _, _ :: _, _, _ => rfl
 | _ :: _, [], _, h, _ => by cases h
 | _ :: _, _ :: _, [], _, h => by cases h
 | x :: xs, y :: ys, z :: zs, h, k => by
   unfold lexL at *
   have ih := @lexL_trans xs ys zs
   split at h <;> split at k <;> (try split at h) <;> (try split at k) <;> (try (cases h; done)) <;> (try (cases k; done)) <;> grind
theorem lexL_tri : ∀ {a b : List Int}, lexL a b = false → lexL b a = false → a = b
 | [], [], _, _ => rfl
 | [], _ :: _, h, _ => by cases h
 | _ :: _, [], _, h => by cases h
 | x :: xs, y :: ys, h, k => by
   unfold lexL at *
   have ih := @lexL_tri xs ys
   split at h <;> split at k <;> (try split at h) <;> (try split at k) <;> (try (cases h; done)) <;> (try (cases k; done)) <;> grind
def Lst (S : List Int → Prop) (b : List Int) : Prop := S b ∧ ∀ x, S x → lexL x b = false
theorem Lst.uniq {S : List Int → Prop} {a b : List Int} (h : Lst S a) (k : Lst S b) : a = b := lexL_tri (k.2 a h.1) (h.2 b k.1)
theorem lex_low {x b c : List Int} (h : lexL x b = false) (hc : lexL c b = true) : lexL x c = false := by
 cases h2 : lexL x c with
 | false => rfl
 | true => rw [lexL_trans h2 hc] at h; cases h
theorem Lst.add {S : List Int → Prop} {b c : List Int} (h : Lst S b) : Lst (fun x => S x ∨ x = c) (if lexL c b = true then c else b) := by
 by_cases hc : lexL c b = true
 · rw [if_pos hc]
   refine ⟨.inr rfl, fun x hx => ?_⟩
   rcases hx with hx | rfl
   · exact lex_low (h.2 x hx) hc
   · exact lexL_irr _
 · rw [if_neg hc]
   refine ⟨.inl h.1, fun x hx => ?_⟩
   rcases hx with hx | rfl
   · exact h.2 x hx
   · simpa using hc
theorem Lst.same {S T : List Int → Prop} {b : List Int} (h : Lst S b) (hs : ∀ x, S x ↔ T x) : Lst T b := ⟨(hs b).1 h.1, fun x hx => h.2 x ((hs x).2 hx)⟩
def rotL (L : List Int) (i : Nat) : List Int := L.drop i ++ L.take i
theorem rotL_len (L : List Int) (i : Nat) : (rotL L i).length = L.length := by simp [rotL]; omega
theorem rotL_zero (L : List Int) : rotL L 0 = L := by simp [rotL]
theorem rotL_rev (L : List Int) {i : Nat} (h : i ≤ L.length) : (rotL L i).reverse = rotL L.reverse (L.length - i) := by
 unfold rotL
 rw [List.reverse_append, List.reverse_take, List.reverse_drop]
theorem rotL_all (L : List Int) : rotL L L.length = L := by simp [rotL]
def Rnd (L x : List Int) : Prop := ∃ i, i < L.length ∧ (x = rotL L i ∨ x = (rotL L i).reverse)
theorem Rnd_rev {L x : List Int} (h0 : 0 < L.length) : Rnd L x ↔ (∃ i, i < L.length ∧ x = rotL L i) ∨ ∃ i, i < L.length ∧ x = rotL L.reverse i := by
 constructor
 · rintro ⟨i, hi, rfl | rfl⟩
   · exact .inl ⟨i, hi, rfl⟩
   · right
     rw [rotL_rev L (by omega)]
     rcases Nat.eq_zero_or_pos i with h | h
     · subst h
       refine ⟨0, h0, ?_⟩
       rw [Nat.sub_zero, rotL_zero, show L.length = L.reverse.length by simp, rotL_all]
     · exact ⟨L.length - i, by omega, rfl⟩
 · rintro (⟨i, hi, rfl⟩ | ⟨i, hi, rfl⟩)
   · exact ⟨i, hi, .inl rfl⟩
   · rcases Nat.eq_zero_or_pos i with h | h
     · subst h
       exact ⟨0, h0, .inr (by rw [rotL_zero, rotL_zero])⟩
     · refine ⟨L.length - i, by omega, .inr ?_⟩
       rw [rotL_rev L (by omega)]
       congr 1; omega
noncomputable def lround (L : List Int) : List Int := if h : ∃ b, Lst (Rnd L) b then Classical.choose h else []
theorem lround_eq {L b : List Int} (h : Lst (Rnd L) b) : lround L = b := by
 have hE : ∃ b, Lst (Rnd L) b := ⟨b, h⟩
 unfold lround
 rw [dif_pos hE]
 exact (Classical.choose_spec hE).uniq h
theorem Lst.len {L b : List Int} (h : Lst (Rnd L) b) : b.length = L.length := by
 obtain ⟨i, hi, e | e⟩ := h.1
 · rw [e, rotL_len]
 · rw [e, List.length_reverse, rotL_len]
end
section
open Go.Gov
open Classical
theorem clone_c (xs : List Int) (h0 : 0 < xs.length) (hl : xs.length ≤ 1099511627776) : Pure Tryz.prog 123 [ints xs] (.sl 0 1 0 xs.length) [some (intsC xs)] := by
 obtain ⟨r, R, rfl⟩ : ∃ r R, xs = r :: R := by cases xs with | nil => simp at h0 | cons r R => exact ⟨r, R, rfl⟩
 generalize hM : r :: R = M at *
 have hlen : M.length = R.length + 1 := by rw [← hM]; rfl
 refine pureVg [1] ok123 rfl ?_; unfold c123
 rw [show ints M = .slc 1 (R.length + 1) (intsC M) by rw [ints, hlen]]
 have hn : ∀ H, nilOf H (.slc 1 (R.length + 1) (intsC M)) = some false := fun _ => rfl
 refine RN ?_
 simp only [hn, Option.isSome_some, Option.getD_some, true_and]
 (refine RN ?_; try with_reducible exact trivial)
 (try simp only [hlen, go_sem, ↓reduceIte, Nat.reduceEqDiff, Nat.reduceAdd, reduceCtorEq])
theorem own_c (xs : List Int) (hl : xs.length ≤ 1099511627776) : Pure Tryz.prog 100 [ints xs] (.sl 0 1 0 xs.length) [some (intsC xs)] := by
 refine pureVg [1] ok100 rfl ?_; unfold c100
 (refine RN ?_; try with_reducible exact trivial)
theorem lexL_drop {a b : List Int} {i : Nat} (ha : i < a.length) (hb : i < b.length) (he : a.getD i 0 = b.getD i 0) : lexL (a.drop i) (b.drop i) = lexL (a.drop (i + 1)) (b.drop (i + 1)) := by
 rw [List.drop_eq_getElem_cons ha, List.drop_eq_getElem_cons hb]
 have : a[i] = b[i] := by simpa [ha, hb] using he
 rw [lexL, if_neg (by omega), if_neg (by omega)]
theorem lexL_dropN {a b : List Int} {i : Nat} (ha : i < a.length) (hb : i < b.length) (he : a.getD i 0 ≠ b.getD i 0) : lexL (a.drop i) (b.drop i) = decide (a.getD i 0 < b.getD i 0) := by
 rw [List.drop_eq_getElem_cons ha, List.drop_eq_getElem_cons hb]
 have e1 : a.getD i 0 = a[i] := by simp [ha]
 have e2 : b.getD i 0 = b[i] := by simp [hb]
 have he' : a[i] ≠ b[i] := by rw [← e1, ← e2]; exact he
 rw [e1, e2, lexL]
 by_cases h : a[i] < b[i]
 · rw [if_pos h, decide_eq_true h]
 · rw [if_neg h, if_pos (by omega), decide_eq_false h]
theorem lexL_end {a b : List Int} {i : Nat} (h : a.length ≤ i ∨ b.length ≤ i) (hi : i ≤ a.length) (hj : i ≤ b.length) : lexL (a.drop i) (b.drop i) = decide ((a.length : Int) < b.length) := by
 rcases h with h | h
 · have : i = a.length := by omega
   subst this
   rw [List.drop_length]
   by_cases h2 : a.length < b.length
   · rw [List.drop_eq_getElem_cons h2, decide_eq_true (by omega)]; rfl
   · rw [show b.drop a.length = [] from List.drop_eq_nil_of_le (by omega), decide_eq_false (by omega)]; rfl
 · have : i = b.length := by omega
   subst this
   rw [List.drop_length, decide_eq_false (by omega)]
   cases a.drop b.length <;> rfl
theorem less_c (a b : List Int) (ha : a.length ≤ 1099511627776) (hb : b.length ≤ 1099511627776) : Pure Tryz.prog 85 [ints a, ints b] (bl (lexL a b)) [] := by
 refine pureV ok85 rfl ?_; unfold c85
 refine RN ?_
 refine V_loop (α := Nat) (S := fun i => ([(0, ints a), (1, ints b), (5, i64 i)], [])) (C := fun i => i ≤ a.length ∧ i ≤ b.length ∧ lexL (a.drop i) (b.drop i) = lexL a b) (μ := fun i => a.length - i) 0 ⟨by omega, by omega, rfl⟩ (by exact Ref.frame (by simp [sub, fget])) ?_
 rintro i ⟨h1, h2, h3⟩
 refine RN ?_
 refine ⟨fun hc => ?_, fun hc => ?_⟩
 · (refine RN ?_; try with_reducible exact trivial)
   refine ⟨fun hc2 => ?_, fun hc2 => ?_⟩
   · rw [← h3, lexL_dropN (by omega) (by omega) hc2]
     (refine RN ?_; try with_reducible exact trivial)
   · rw [lexL_drop (by omega) (by omega) (by omega)] at h3
     refine RN ?_
     exact ⟨i + 1, ⟨by omega, by omega, h3⟩, by omega, by exact Ref.frame (by simp [sub, fget])⟩
 · rw [← h3, lexL_end (by omega) h1 h2]
   (refine RN ?_; try with_reducible exact trivial)
theorem cmpC_c (x y : Int) : Pure Tryz.prog 129 [i64 x, i64 y] (i64 (if x < y then -1 else if y < x then 1 else 0)) [] := by
 refine pureV ok129 rfl ?_; unfold c129
 refine RN ?_
 refine pureC1 (isNaN2_c x) ?_
 refine RN ?_
 refine pureC1 (isNaN2_c y) ?_
 refine RN ?_
 refine ⟨fun hc => ?_, fun hc => ?_⟩
 · rw [if_pos hc]
   (refine RN ?_; try with_reducible exact trivial)
 · rw [if_neg (by omega)]
   refine RN ?_
   refine ⟨fun hc2 => ?_, fun hc2 => ?_⟩
   · rw [if_pos hc2]
     (refine RN ?_; try with_reducible exact trivial)
   · rw [if_neg (by omega)]
     (refine RN ?_; try with_reducible exact trivial)
def cmpL (a b : List Int) : Int := if lexL a b then -1 else if lexL b a then 1 else 0
theorem cmpL_lt (a b : List Int) : (cmpL a b < 0) ↔ lexL a b = true := by
 unfold cmpL
 split
 · simp [*]
 · split <;> simp [*]
theorem compare_c (a b : List Int) (ha : a.length ≤ 1099511627776) (hb : b.length ≤ 1099511627776) : Pure Tryz.prog 89 [ints a, ints b] (i64 (cmpL a b)) [] := by
 refine pureV ok89 rfl ?_; unfold c89
 refine RN ?_
 refine V_loop (α := Nat) (S := fun i => ([(0, ints a), (1, ints b), (9, ints a), (10, i64 a.length), (11, i64 i)], [])) (C := fun i => i ≤ a.length ∧ i ≤ b.length ∧ lexL (a.drop i) (b.drop i) = lexL a b ∧ lexL (b.drop i) (a.drop i) = lexL b a) (μ := fun i => a.length - i) 0 ⟨by omega, by omega, rfl, rfl⟩ (by exact Ref.frame (by simp [sub, fget])) ?_
 rintro i ⟨h1, h2, h3, h4⟩
 refine RN ?_
 refine ⟨fun hc => ?_, fun hc => ?_⟩
 · (refine RN ?_; try with_reducible exact trivial)
   refine ⟨fun hc2 => ?_, fun hc2 => ?_⟩
   · rw [lexL_end (by omega) h1 h2] at h3
     rw [lexL_end (by omega) h2 h1] at h4
     unfold cmpL
     rw [← h3, ← h4, decide_eq_false (by omega), decide_eq_true (show (b.length : Int) < a.length by omega)]
     (refine RN ?_; try with_reducible exact trivial)
     try rfl
   · (refine RN ?_; try with_reducible exact trivial)
     refine pureC1 (cmpC_c (a.getD i 0) (b.getD i 0)) ?_
     refine RN ?_
     refine ⟨fun hc3 => ?_, fun hc3 => ?_⟩
     · have hne : a.getD i 0 ≠ b.getD i 0 := fun e => hc3 (by rw [e, if_neg (by omega), if_neg (by omega)])
       rw [lexL_dropN (by omega) (by omega) hne] at h3
       rw [lexL_dropN (by omega) (by omega) hne.symm] at h4
       unfold cmpL
       rw [← h3, ← h4]
       simp only [decide_eq_true_eq]
       (refine RN ?_; try with_reducible exact trivial)
     · have he : a.getD i 0 = b.getD i 0 := by
         rcases Int.lt_trichotomy (a.getD i 0) (b.getD i 0) with h | h | h
         · rw [if_pos h] at hc3; omega
         · exact h
         · rw [if_neg (by omega), if_pos h] at hc3; omega
       rw [lexL_drop (by omega) (by omega) he] at h3
       rw [lexL_drop (by omega) (by omega) he.symm] at h4
       refine RN ?_
       exact ⟨i + 1, ⟨by omega, by omega, h3, h4⟩, by omega, by exact Ref.frame (by simp [sub, fget])⟩
 · rw [lexL_end (by omega) h1 h2] at h3
   rw [lexL_end (by omega) h2 h1] at h4
   unfold cmpL
   rw [← h3, ← h4]
   simp only [decide_eq_true_eq]
   refine RN ?_
   refine ⟨fun hc2 => ?_, fun hc2 => ?_⟩
   · rw [if_pos (by omega)]
     (refine RN ?_; try with_reducible exact trivial)
   · rw [if_neg (by omega), if_neg (by omega)]
     (refine RN ?_; try with_reducible exact trivial)
theorem same_c (xs ys : List Int) (hx : xs.length ≤ 1099511627776) (hy : ys.length ≤ 1099511627776) : Pure Tryz.prog 56 [ints xs, ints ys] (bl (decide (xs = ys))) [] := by
 refine pureV ok56 rfl ?_; unfold c56
 refine RN ?_
 refine ⟨fun hc => ?_, fun hc => ?_⟩
 · (refine RN ?_; try with_reducible exact trivial)
   rw [decide_eq_false (fun h => hc (by rw [h]))]
 · have hl : xs.length = ys.length := by omega
   refine RN ?_
   refine V_loop (α := Nat) (S := fun i => ([(0, ints xs), (1, ints ys), (5, i64 i)], [])) (C := fun i => i ≤ xs.length ∧ ∀ j, j < i → xs.getD j 0 = ys.getD j 0) (μ := fun i => xs.length - i) 0 ⟨by omega, by omega⟩ (by exact Ref.frame (by simp [sub, fget])) ?_
   rintro i ⟨hi, hall⟩
   refine RN ?_
   refine ⟨fun hc1 => ?_, fun hc1 => ?_⟩
   · (refine RN ?_; try with_reducible exact trivial)
     refine ⟨fun hc2 => ?_, fun hc2 => ?_⟩
     · (refine RN ?_; try with_reducible exact trivial)
       rw [decide_eq_false (fun h => hc2 (by rw [h]))]
     · (refine RN ?_; try with_reducible exact trivial)
       refine ⟨i + 1, ⟨by omega, fun j hj => ?_⟩, by omega, by exact Ref.frame (by simp [sub, fget])⟩
       rcases Nat.lt_or_ge j i with h | h
       · exact hall j h
       · obtain rfl : j = i := by omega
         simpa using hc2
   · (refine RN ?_; try with_reducible exact trivial)
     rw [decide_eq_true]
     refine List.ext_getElem hl fun j h1 h2 => ?_
     have := hall j (by omega)
     simpa [h1, h2] using this
theorem equal_c (xs ys : List Int) (hx : xs.length ≤ 1099511627776) (hy : ys.length ≤ 1099511627776) : Pure Tryz.prog 48 [ints xs, ints ys] (bl (decide (xs = ys))) [] := by
 refine pureV ok48 rfl ?_; unfold c48
 refine RN ?_
 refine ⟨fun hc => ?_, fun hc => ?_⟩
 · (refine RN ?_; try with_reducible exact trivial)
   rw [decide_eq_false (fun h => hc (by rw [h]))]
 · have hl : xs.length = ys.length := by omega
   refine RN ?_
   refine V_loop (α := Nat) (S := fun i => ([(0, ints xs), (1, ints ys), (12, i64 xs.length), (13, i64 i)], [])) (C := fun i => i ≤ xs.length ∧ ∀ j, j < i → xs.getD j 0 = ys.getD j 0) (μ := fun i => xs.length - i) 0 ⟨by omega, by omega⟩ (by exact Ref.frame (by simp [sub, fget])) ?_
   rintro i ⟨hi, hall⟩
   refine RN ?_
   refine ⟨fun hc1 => ?_, fun hc1 => ?_⟩
   · (refine RN ?_; try with_reducible exact trivial)
     refine ⟨fun hc2 => ?_, fun hc2 => ?_⟩
     · (refine RN ?_; try with_reducible exact trivial)
       rw [decide_eq_false (fun h => hc2 (by rw [h]))]
     · (refine RN ?_; try with_reducible exact trivial)
       refine ⟨i + 1, ⟨by omega, fun j hj => ?_⟩, by omega, by exact Ref.frame (by simp [sub, fget])⟩
       rcases Nat.lt_or_ge j i with h | h
       · exact hall j h
       · obtain rfl : j = i := by omega
         simpa using hc2
   · (refine RN ?_; try with_reducible exact trivial)
     rw [decide_eq_true]
     refine List.ext_getElem hl fun j h1 h2 => ?_
     have := hall j (by omega)
     simpa [h1, h2] using this
end
section
open Go.Gov
open Classical
def revI (xs : List Int) (i : Nat) : List Int := (List.range xs.length).map fun k => if k < i ∨ xs.length - i ≤ k then xs.getD (xs.length - 1 - k) 0 else xs.getD k 0
theorem revI_len (xs : List Int) (i : Nat) : (revI xs i).length = xs.length := by simp [revI]
theorem revI_zero (xs : List Int) : revI xs 0 = xs := by
 refine List.ext_getElem (by simp [revI]) fun j h1 h2 => ?_
 simp only [revI, List.getElem_map, List.getElem_range]
 rw [if_neg (by omega)]
 simp [h2]
theorem revI_end {xs : List Int} {i : Nat} (h : xs.length ≤ 2 * i + 1) : revI xs i = xs.reverse := by
 refine List.ext_getElem (by simp [revI]) fun j h1 h2 => ?_
 simp only [List.length_reverse] at h2
 simp only [revI, List.getElem_map, List.getElem_range, List.getElem_reverse]
 by_cases hc : j < i ∨ xs.length - i ≤ j
 · rw [if_pos hc]; simp [show xs.length - 1 - j < xs.length by omega]
 · rw [if_neg hc]
   have : xs.length - 1 - j = j := by omega
   simp [this, h2]
theorem revI_at {xs : List Int} {i k : Nat} (h1 : i ≤ k) (h2 : k < xs.length - i) : (revI xs i).getD k 0 = xs.getD k 0 := by
 unfold revI
 rw [rmap_at (by omega), if_neg (by omega)]
theorem revI_step {xs : List Int} {i j : Nat} (hj : i + j + 1 = xs.length) (h : i < j) : ((revI xs i).set i (xs.getD j 0)).set j (xs.getD i 0) = revI xs (i + 1) := by
 have e1 : (revI xs i).set i (xs.getD j 0) = (List.range xs.length).map fun k => if k = i then xs.getD j 0 else if k < i ∨ xs.length - i ≤ k then xs.getD (xs.length - 1 - k) 0 else xs.getD k 0 :=
   rmap_set (by simp) fun k hk hne => by simp [hne]
 rw [e1]
 refine rmap_set ?_ fun k hk hne => ?_
 · rw [if_pos (by omega), show xs.length - 1 - j = i by omega]
 · by_cases h2 : k = i
   · subst h2
     rw [if_pos (by omega), if_pos rfl, show xs.length - 1 - k = j by omega]
   · rw [if_neg h2]
     by_cases h3 : k < i ∨ xs.length - i ≤ k
     · rw [if_pos h3, if_pos (by omega)]
     · rw [if_neg h3, if_neg (by omega)]
theorem reverse_c (xs : List Int) (hl : xs.length ≤ 1099511627776) : Wri Tryz.prog 134 [.sl 0 1 0 xs.length] [some (intsC xs)] (.tup []) [some (intsC xs.reverse)] := by
 refine wriV ok134 rfl ?_; unfold c134
 refine RN ?_
 refine V_loop (α := Nat) (S := fun i => ([(0, .sl 0 1 0 xs.length), (2, i64 i), (3, i64 ((xs.length : Int) - 1 - i))], [some (intsC (revI xs i))])) (C := fun i => 2 * i ≤ xs.length + 1) (μ := fun i => xs.length + 1 - i) 0 (by omega) (Ref.to (by rw [revI_zero]) (by simp [sub, fget])) ?_
 intro i hi
 have hlen := revI_len xs i
 refine RN ?_
 refine ⟨fun hc => ?_, fun hc => ?_⟩
 · obtain ⟨j, hj⟩ : ∃ j : Nat, (xs.length : Int) - 1 - i = (j : Int) := ⟨xs.length - 1 - i, by omega⟩
   have a1 := revI_at (xs := xs) (i := i) (k := i) (by omega) (by omega)
   have a2 := revI_at (xs := xs) (i := i) (k := j) (by omega) (by omega)
   have hst := revI_step (xs := xs) (i := i) (j := j) (by omega) (by omega)
   have hji : ((j : Nat) : Int).toNat = j := by omega
   rw [hj] at hc ⊢
   refine RN ?_
   refine V_altsB [(0, .sl 0 1 0 xs.length), (2, i64 i), (3, i64 j)] [some (intsC (revI xs (i + 1)))] ?_ ?_
   · rw [← hst]
     (repeat' first | simp only [go_sem, ↓reduceIte, Nat.reduceEqDiff, Nat.reduceAdd, reduceCtorEq] | with_reducible refine LT_reg ?_ | with_reducible refine LT_regz (by simp only [zAd_load, zAd_loads, zPt_pto, go_sem, ↓reduceIte, Nat.reduceEqDiff, Nat.reduceAdd, reduceCtorEq]) ?_ | with_reducible refine LT_fin ?_ | with_reducible exact LT_tt | with_reducible refine LT_alt ?_ ?_ | (with_reducible refine And.intro ?_ ?_; focus first | assumption | omega | grind))
     all_goals (simp only [a1, a2, hji, go_sem, ↓reduceIte, Nat.reduceEqDiff, Nat.reduceAdd, reduceCtorEq]; exact Ref.frame (by simp [sub, fget]))
   · (refine RN ?_; try with_reducible exact trivial)
     exact ⟨i + 1, by omega, by omega, Ref.frame (by simp [sub, fget]; omega)⟩
 · rw [revI_end (by omega)]
   (repeat  first | simp only [go_sem, ↓reduceIte, Nat.reduceEqDiff, Nat.reduceAdd, reduceCtorEq] | with_reducible refine V_W ?_ | (with_reducible refine And.intro ?_ ?_; focus first | assumption | omega | decide | grind) | (with_reducible refine Br.mk ?_ ?_; focus (intros; omega)) | decide)
end
section
open Go.Gov
theorem grow_c (n : Nat) (hn : n ≤ 1099511627776) : Pure Tryz.prog 161 [nilS, i64 n] (.sl 0 1 0 0) [some []] := by
 intro g w vals hp hl1 hr
 have h0 := hr 0 (by simp)
 have h1 := hr 1 (by simp)
 simp only [List.getElem_cons_zero, List.getElem_cons_succ] at h0 h1
 have hv : vals = #[.slice none 0 0, .int .i64 n] := by
   refine Array.ext (by simpa using hl1) fun i h2 h3 => ?_
   have e0 := h0.val_inv.1
   have e1 := h1.val_inv.1
   simp only [List.length_cons, List.length_nil] at hl1
   match i, h3 with
   | 0, _ => simpa [h2] using e0
   | 1, _ => simpa [h2] using e1
 subst hv
 have hsl : ∀ (g' : Gh) (w' : World) (l : Go.Gov.Loc) (v : Value), g'.ρ 0 = l → SlAt l 1 0 0 v → v.oneCell' = true → Rd w' (g'.tr [some []]) g'.G (.sl 0 1 0 0) v [] := fun g' w' l v hl hS h1 => by
   have e1 : g'.tr [some ([] : List AV)] 0 = some (some (l, 0)) := by rw [Gh.tr_some (cs := []) rfl, hl]; rfl
   refine .sl (by rw [e1]; rfl) h1 fun l' hl' => ?_
   rw [e1] at hl'
   obtain rfl := Option.some.inj (Option.some.inj hl')
   exact ⟨by dsimp only; omega, hS⟩
 rcases Nat.eq_zero_or_pos n with rfl | hpos
 · refine (Any8.slices_Grow_room Tryz.growL none 0 0 0 w (by omega) (by omega) (by omega) (by omega)).mono ?_
   rintro e w' ⟨rfl, rfl⟩
   have hm2 := nil_obj hp
   exact ⟨_, _, _, _, rfl, hm2, hsl _ _ none _ (by simp [Gh.add]) ⟨rfl, none, rfl⟩ rfl, fun _ _ _ => rfl, rfl, rfl⟩
 · have hinfo : (Tryz.prog.info? (Tryz.growL_ren.t 25)).bind (fun i => i.zero.map fun z => (i.size, i.bytes, z.cells.toList)) = some (1, 8, [.int .i64 0]) := by kernel_rfl
   simp only [Option.bind_eq_some_iff, Option.map_eq_some_iff, Prod.mk.injEq] at hinfo
   obtain ⟨i0, hi, z, hz, hsz, hby, hzc⟩ := hinfo
   have hzs : z.cells.size = 1 := by rw [← Array.length_toList, hzc]; rfl
   refine (Any8.slices_Grow_grow Tryz.growL i0 z hi hz (by omega) none 0 0 n [] w (by omega) (by omega) (by rw [hby]; omega) (by omega) (by simp) (fun _ => rfl) (by simp)).mono ?_
   rintro e w' ⟨rfl, rfl⟩
   obtain ⟨ha1, ha2, ha3⟩ := alloc_drew w (.cells (([] : List Value).toArray ++ Builtin.zeroCells z.cells (0 + n - 0) ++ Builtin.zeroCells z.cells (grownCap w (0 + n) 0 (Tryz.growL_ren.t 25) - (0 + n))) (Tryz.growL_ren.t 25))
   obtain ⟨g', hm', hρ⟩ := new_plain hp ha3 (by omega) rfl ⟨rfl, by first | exact Nat.le_refl _ | exact Nat.le_succ _⟩ rfl (fun a => frozen_alloc w.drew _ _ a) (Nat.le_refl _) (cs := []) (fun _ => undef) ha2 (by simp) (fun m hm => by simp at hm) (fun m hm => by simp at hm)
   refine ⟨_, g', _, _, rfl, hm', hsl g' _ _ _ hρ ⟨grownCap w (0 + n) 0 (Tryz.growL_ren.t 25), by omega, grownCap_le_maxLen w (0 + n) 0 _ (by unfold maxLen; omega), ?_, .inl (by simp)⟩ rfl, fun _ k hk => ha3 k hk, rfl, rfl⟩
   have hge := grownCap_ge w (0 + n) 0 (Tryz.growL_ren.t 25)
   simp only [Array.size_append, List.size_toArray, List.length_nil, size_zeroCells, hzs]
   omega
theorem take_len (xs : List Int) : (intsC xs).take xs.length = intsC xs := List.take_of_length_le (by simp [intsC])
theorem concat_c (xss : List (List Int)) (hl : xss.length ≤ 1048576) (ht : tot xss ≤ 1099511627776) : Pure Tryz.prog 133 [mat xss] (.sl 0 1 0 xss.flatten.length) [some (intsC xss.flatten)] := by
 refine pureVg [0] ok133 rfl ?_; unfold c133
 refine RN ?_
 refine V_loop (α := Nat) (S := fun k => ([(0, mat xss), (9, mat xss), (10, i64 xss.length), (11, i64 k), (3, i64 (tot (xss.take k)))], [])) (C := fun k => k ≤ xss.length) (μ := fun k => xss.length - k) 0 (by omega) (Ref.frame (by simp [sub, fget, tot])) ?_
 intro k hk
 have h1 := tot_take_le xss k
 refine RN ?_
 refine ⟨fun hc => ?_, fun hc => ?_⟩
 · have h2 := tot_take xss k (by omega)
   have h3 := tot_take_le xss (k + 1)
   refine RN ?_
   refine fun hc2 => ?_
   refine RN ?_
   exact ⟨k + 1, by omega, by omega, Ref.frame (by simp [sub, fget, h2])⟩
 · obtain rfl : k = xss.length := by omega
   rw [List.take_length]
   refine RN ?_
   refine pureC1 (grow_c (tot xss) ht) ?_
   refine RN ?_
   refine V_loop (α := Nat) (S := fun k => ([(25, mat xss), (26, i64 xss.length), (27, i64 k), (6, .sl 0 1 0 (xss.take k).flatten.length)], [some (intsC (xss.take k).flatten)])) (C := fun k => k ≤ xss.length) (μ := fun k => xss.length - k) 0 (by omega) (Ref.to (by simp [intsC]) (by simp [sub, fget])) ?_
   intro k hk
   have hf : (xss.take k).flatten.length = tot (xss.take k) := by simp [tot, List.length_flatten]
   have h1 := tot_take_le xss k
   refine RN ?_
   refine ⟨fun hc => ?_, fun hc => ?_⟩
   · have h2 := tot_take xss k (by omega)
     have h3 := tot_take_le xss (k + 1)
     have he : (xss.take (k + 1)).flatten = (xss.take k).flatten ++ xss.getD k [] := by
       rw [List.take_succ_eq_append_getElem (by omega), List.flatten_append]
       simp [show k < xss.length by omega]
     refine RN ?_
     refine ⟨k + 1, by omega, by omega, ?_⟩
     rw [he]
     refine Ref.gc [1] rfl ?_ (by simp [sub, fget, go_sem, ↓reduceIte, Nat.reduceEqDiff, Nat.reduceAdd, reduceCtorEq])
     (try simp only [go_sem, ↓reduceIte, Nat.reduceEqDiff, Nat.reduceAdd, reduceCtorEq, take_len, app_intsC])
   · obtain rfl : k = xss.length := by omega
     (refine RN ?_; try with_reducible exact trivial)
     (try simp only [go_sem, ↓reduceIte, Nat.reduceEqDiff, Nat.reduceAdd, reduceCtorEq, List.take_length, and_self])
end
section
open Go.Gov
open Classical
theorem cat2_c (a b : List Int) (ha : a.length ≤ 1048576) (hb : b.length ≤ 1048576) : Pure Tryz.prog 133 [.slc 1 2 [ints a, ints b]] (.sl 0 1 0 (a ++ b).length) [some (intsC (a ++ b))] := by
 have h := concat_c [a, b] (by simp) (by simp [tot]; omega)
 rw [show [a, b].flatten = a ++ b by simp] at h
 exact h
def RdS (L : List Int) (i j : Nat) (t : Prop) (x : List Int) : Prop := x = L ∨ (t ∧ x = L.reverse) ∨ (∃ k, k < i ∧ x = rotL L k) ∨ ∃ k, k < j ∧ x = rotL L.reverse k
theorem RdS_all {L : List Int} {t : Prop} (h0 : 0 < L.length) (x : List Int) : RdS L L.length L.length t x ↔ Rnd L x := by
 rw [Rnd_rev h0]
 constructor
 · rintro (rfl | ⟨_, rfl⟩ | h | h)
   · exact .inl ⟨0, h0, (rotL_zero x).symm⟩
   · exact .inr ⟨0, h0, (rotL_zero _).symm⟩
   · exact .inl h
   · exact .inr h
 · rintro (h | h)
   · exact .inr (.inr (.inl h))
   · exact .inr (.inr (.inr h))
theorem RdS_one {L : List Int} : Lst (RdS L 0 0 False) L := ⟨.inl rfl, fun x hx => by
 rcases hx with rfl | ⟨h, _⟩ | ⟨k, hk, _⟩ | ⟨k, hk, _⟩
 · exact lexL_irr _
 · exact h.elim
 · omega
 · omega⟩
theorem RdS_i {L : List Int} {i j : Nat} {t : Prop} (x : List Int) : (RdS L i j t x ∨ x = rotL L i) ↔ RdS L (i + 1) j t x := by
 unfold RdS
 constructor
 · rintro ((h | h | ⟨k, hk, h⟩ | h) | h)
   · exact .inl h
   · exact .inr (.inl h)
   · exact .inr (.inr (.inl ⟨k, by omega, h⟩))
   · exact .inr (.inr (.inr h))
   · exact .inr (.inr (.inl ⟨i, by omega, h⟩))
 · rintro (h | h | ⟨k, hk, h⟩ | h)
   · exact .inl (.inl h)
   · exact .inl (.inr (.inl h))
   · rcases Nat.lt_or_ge k i with h2 | h2
     · exact .inl (.inr (.inr (.inl ⟨k, h2, h⟩)))
     · obtain rfl : k = i := by omega
       exact .inr h
   · exact .inl (.inr (.inr (.inr h)))
theorem RdS_j {L : List Int} {i j : Nat} {t : Prop} (x : List Int) : (RdS L i j t x ∨ x = rotL L.reverse j) ↔ RdS L i (j + 1) t x := by
 unfold RdS
 constructor
 · rintro ((h | h | h | ⟨k, hk, h⟩) | h)
   · exact .inl h
   · exact .inr (.inl h)
   · exact .inr (.inr (.inl h))
   · exact .inr (.inr (.inr ⟨k, by omega, h⟩))
   · exact .inr (.inr (.inr ⟨j, by omega, h⟩))
 · rintro (h | h | h | ⟨k, hk, h⟩)
   · exact .inl (.inl h)
   · exact .inl (.inr (.inl h))
   · exact .inl (.inr (.inr (.inl h)))
   · rcases Nat.lt_or_ge k j with h2 | h2
     · exact .inl (.inr (.inr (.inr ⟨k, h2, h⟩)))
     · obtain rfl : k = j := by omega
       exact .inr h
theorem RdS_t {L : List Int} {i j : Nat} {t t' : Prop} (ht : ¬ t) (ht' : t') (x : List Int) : (RdS L i j t x ∨ x = L.reverse) ↔ RdS L i j t' x := by
 unfold RdS; grind
theorem RdS_l {L : List Int} {i j : Nat} {t t' : Prop} (ht : t) (ht' : t') (x : List Int) : (RdS L i j t x ∨ x = L) ↔ RdS L i j t' x := by
 unfold RdS; grind
theorem RdS_len {L : List Int} {i j : Nat} {t : Prop} {b : List Int} (h : RdS L i j t b) : b.length = L.length := by
 rcases h with rfl | ⟨_, rfl⟩ | ⟨k, _, rfl⟩ | ⟨k, _, rfl⟩
 · rfl
 · simp
 · rw [rotL_len]
 · rw [rotL_len, List.length_reverse]
set_option maxHeartbeats 4000000 in
theorem leastRound_c (L : List Int) (h0 : 0 < L.length) (hl : L.length ≤ 1048576) : Pure Tryz.prog 96 [ints L] (.sl 0 1 0 L.length) [some (intsC (lround L))] := by
 refine pureVg [0] ok96 rfl ?_; unfold c96
 refine RN ?_
 refine V_loop (α := Nat × List Int) (S := fun p => ([(0, ints (if p.1 = 1 then L.reverse else L)), (3, ints p.2), (7, i64 p.1)], [])) (C := fun p => p.1 ≤ 2 ∧ Lst (RdS L (if p.1 = 0 then 0 else L.length) (if p.1 = 2 then L.length else 0) (1 ≤ p.1)) p.2) (μ := fun p => 2 - p.1) (0, L) ⟨by omega, by simpa using RdS_one⟩ (by exact Ref.frame (by simp [sub, fget])) ?_
 rintro ⟨r, b⟩ ⟨hr, hb⟩
 dsimp only at hr hb ⊢
 refine RN ?_
 refine ⟨fun hc => ?_, fun hc => ?_⟩
 · obtain ⟨X, hX⟩ : ∃ X, X = if r = 1 then L.reverse else L := ⟨_, rfl⟩
   have hXl : X.length = L.length := by rw [hX]; split <;> simp
   have hXr : X.reverse = if r + 1 = 1 then L.reverse else L := by rw [hX]; rcases (show r = 0 ∨ r = 1 by omega) with rfl | rfl <;> simp
   rw [← hX]
   have hstep : ∀ i b, i < L.length → Lst (RdS L (if r = 0 then i else L.length) (if r = 0 then 0 else i) (1 ≤ r)) b → Lst (RdS L (if r = 0 then i + 1 else L.length) (if r = 0 then 0 else i + 1) (1 ≤ r)) (if lexL (rotL X i) b = true then rotL X i else b) := fun i b hi h => by
     rcases (show r = 0 ∨ r = 1 by omega) with rfl | rfl
     · rw [show X = L by simpa using hX]
       exact (h.add (c := rotL L i)).same RdS_i
     · rw [show X = L.reverse by simpa using hX]
       exact (h.add (c := rotL L.reverse i)).same RdS_j
   have hb0 : Lst (RdS L (if r = 0 then 0 else L.length) (if r = 0 then 0 else 0) (1 ≤ r)) b := by
     rcases (show r = 0 ∨ r = 1 by omega) with rfl | rfl <;> simpa using hb
   refine RN ?_
   refine V_loop (α := Nat × List Int) (S := fun p => ([(0, ints X), (3, ints p.2), (7, i64 r), (10, i64 L.length), (11, i64 p.1)], [])) (C := fun p => p.1 ≤ L.length ∧ Lst (RdS L (if r = 0 then p.1 else L.length) (if r = 0 then 0 else p.1) (1 ≤ r)) p.2) (μ := fun p => L.length - p.1) (0, b) ⟨by omega, hb0⟩ (by exact Ref.frame (by simp [sub, fget, hXl])) ?_
   rintro ⟨i, c⟩ ⟨hi, hcb⟩
   dsimp only at hi hcb ⊢
   have hcl := RdS_len hcb.1
   refine RN ?_
   refine ⟨fun hc2 => ?_, fun hc2 => ?_⟩
   · have hadd := hstep i c (by omega) hcb
     have hrl := rotL_len X i
     have hcat := cat2_c (X.drop i) (X.take i) (by rw [List.length_drop]; omega) (by rw [List.length_take]; omega)
     rw [show X.drop i ++ X.take i = rotL X i from rfl] at hcat
     have hcm := compare_c (rotL X i) c (by omega) (by omega)
     have hlt := cmpL_lt (rotL X i) c
     have d1 : AV.slc 1 ((X.length : Int) - i).toNat (List.take ((X.length : Int) - i).toNat (List.drop i (intsC X))) = ints (X.drop i) := by
       rw [show ((X.length : Int) - i).toNat = (X.drop i).length by rw [List.length_drop]; omega, drop_intsC, take_ints_len]
     have d2 : AV.slc 1 ((i : Int) - 0).toNat (List.take ((i : Int) - 0).toNat (intsC X)) = ints (X.take i) := by
       rw [show ((i : Int) - 0).toNat = (X.take i).length by rw [List.length_take]; omega, show intsC X = intsC (X.take i ++ X.drop i) by rw [List.take_append_drop], take_ints_app]
     generalize X.drop i = D at d1 hcat
     generalize X.take i = T at d2 hcat
     refine RN ?_
     simp only [d1, d2]
     refine pureC1 (hcat) ?_
     refine RN ?_
     refine pureC1 (hcm) ?_
     refine RN ?_
     refine ⟨fun hc3 => ?_, fun hc3 => ?_⟩
     · have hye : lexL (rotL X i) c = true := hlt.1 hc3
       rw [if_pos hye] at hadd
       refine RN ?_
       refine ⟨(i + 1, rotL X i), ⟨by dsimp only; omega, hadd⟩, by dsimp only; omega, ?_⟩
       refine (Ref.dead (F' := [(0, ints X), (3, ints (rotL X i)), (7, i64 r), (10, i64 L.length), (11, i64 (i + 1 : Nat))]) (by simp [sub, fget, frzF, go_sem, ↓reduceIte, Nat.reduceEqDiff, Nat.reduceAdd, reduceCtorEq])).trans (Ref.gc [] rfl rfl (by simp [sub, fget, go_sem, ↓reduceIte, Nat.reduceEqDiff, Nat.reduceAdd, reduceCtorEq]))
     · have hne : ¬ lexL (rotL X i) c = true := fun h => by have := hlt.2 h; omega
       rw [if_neg hne] at hadd
       refine RN ?_
       refine ⟨(i + 1, c), ⟨by dsimp only; omega, hadd⟩, by dsimp only; omega, ?_⟩
       refine (Ref.dead (F' := [(0, ints X), (3, ints c), (7, i64 r), (10, i64 L.length), (11, i64 (i + 1 : Nat))]) (by simp [sub, fget, frzF, go_sem, ↓reduceIte, Nat.reduceEqDiff, Nat.reduceAdd, reduceCtorEq])).trans (Ref.gc [] rfl rfl (by simp [sub, fget, go_sem, ↓reduceIte, Nat.reduceEqDiff, Nat.reduceAdd, reduceCtorEq]))
   · obtain rfl : i = L.length := by omega
     have hadd : Lst (RdS L (if r + 1 = 0 then 0 else L.length) (if r + 1 = 2 then L.length else 0) (1 ≤ r + 1)) (if lexL X.reverse c = true then X.reverse else c) := by
       rcases (show r = 0 ∨ r = 1 by omega) with rfl | rfl
       · rw [show X.reverse = L.reverse by simpa using hXr]
         exact (hcb.add (c := L.reverse)).same (RdS_t (by omega) (by omega))
       · rw [show X.reverse = L by simpa using hXr]
         exact (hcb.add (c := L)).same (RdS_l (by omega) (by omega))
     have hcm := compare_c X.reverse c (by rw [List.length_reverse]; omega) (by omega)
     have hlt := cmpL_lt X.reverse c
     have hrv := reverse_c X (by omega)
     have hrl : X.reverse.length = X.length := List.length_reverse
     have htk : (intsC X.reverse).take X.length = intsC X.reverse := by rw [← hrl, take_ints_len]
     rw [show ints X = .slc 1 L.length (intsC X) by rw [ints, hXl]]
     refine RN ?_
     refine pureC (clone_c X (by omega) (by omega)) (by simp only [go_sem, ↓reduceIte, Nat.reduceEqDiff, Nat.reduceAdd, reduceCtorEq, ints, hXl]) (by simp only [go_sem, ↓reduceIte, Nat.reduceEqDiff, Nat.reduceAdd, reduceCtorEq]) ?_
     refine RN ?_
     refine wriC1 (hrv) [0] ?_
     refine RN ?_
     refine pureC hcm (by simp only [go_sem, ↓reduceIte, Nat.reduceEqDiff, Nat.reduceAdd, reduceCtorEq, ints, hrl, htk]) (by simp only [go_sem, ↓reduceIte, Nat.reduceEqDiff, Nat.reduceAdd, reduceCtorEq]) ?_
     refine RN ?_
     refine ⟨fun hc3 => ?_, fun hc3 => ?_⟩
     · have hye : lexL X.reverse c = true := hlt.1 hc3
       rw [if_pos hye] at hadd
       refine RN ?_
       refine ⟨(r + 1, X.reverse), ⟨by dsimp only; omega, hadd⟩, by dsimp only; omega, ?_⟩
       refine (Ref.dead (F' := [(0, ints X.reverse), (3, ints X.reverse), (7, i64 (r + 1 : Nat))]) (by simp [sub, fget, frzF, go_sem, ↓reduceIte, Nat.reduceEqDiff, Nat.reduceAdd, reduceCtorEq, hrl, htk, ints])).trans (Ref.gc [] rfl rfl ?_)
       dsimp only
       rw [← hXr]
       simp [sub, fget, go_sem, ↓reduceIte, Nat.reduceEqDiff, Nat.reduceAdd, reduceCtorEq]
     · have hne : ¬ lexL X.reverse c = true := fun h => by have := hlt.2 h; omega
       rw [if_neg hne] at hadd
       refine RN ?_
       refine ⟨(r + 1, c), ⟨by dsimp only; omega, hadd⟩, by dsimp only; omega, ?_⟩
       refine (Ref.dead (F' := [(0, ints X.reverse), (3, ints c), (7, i64 (r + 1 : Nat))]) (by simp [sub, fget, frzF, go_sem, ↓reduceIte, Nat.reduceEqDiff, Nat.reduceAdd, reduceCtorEq, hrl, htk, ints])).trans (Ref.gc [] rfl rfl ?_)
       dsimp only
       rw [← hXr]
       simp [sub, fget, go_sem, ↓reduceIte, Nat.reduceEqDiff, Nat.reduceAdd, reduceCtorEq]
 · obtain rfl : r = 2 := by omega
   have hfin : Lst (Rnd L) b := by
     have : Lst (RdS L L.length L.length (1 ≤ 2)) b := by simpa using hb
     exact this.same (RdS_all h0)
   rw [lround_eq hfin]
   have hbl := hfin.len
   refine RN ?_
   refine pureC (clone_c b (by omega) (by omega)) (by simp only [go_sem, ↓reduceIte, Nat.reduceEqDiff, Nat.reduceAdd, reduceCtorEq]) (by simp only [go_sem, ↓reduceIte, Nat.reduceEqDiff, Nat.reduceAdd, reduceCtorEq]) ?_
   rw [hbl]
   (refine RN ?_; try with_reducible exact trivial)
end
section
open Go.Gov
open Classical
def Rd2 (L : List Int) (i : Nat) (x : List Int) : Prop := x = L ∨ ∃ k, k < i ∧ (x = rotL L k ∨ x = (rotL L k).reverse)
theorem Rd2_all {L : List Int} (h0 : 0 < L.length) (x : List Int) : Rd2 L L.length x ↔ Rnd L x := by
 constructor
 · rintro (rfl | h)
   · exact ⟨0, h0, .inl (rotL_zero x).symm⟩
   · exact h
 · exact .inr
theorem Rd2_one {L : List Int} : Lst (Rd2 L 0) L := ⟨.inl rfl, fun x hx => by
 rcases hx with rfl | ⟨k, hk, _⟩
 · exact lexL_irr _
 · omega⟩
theorem Rd2_i {L : List Int} {i : Nat} (x : List Int) : ((Rd2 L i x ∨ x = rotL L i) ∨ x = (rotL L i).reverse) ↔ Rd2 L (i + 1) x := by
 unfold Rd2
 constructor
 · rintro (((h | ⟨k, hk, h⟩) | h) | h)
   · exact .inl h
   · exact .inr ⟨k, by omega, h⟩
   · exact .inr ⟨i, by omega, .inl h⟩
   · exact .inr ⟨i, by omega, .inr h⟩
 · rintro (h | ⟨k, hk, h⟩)
   · exact .inl (.inl (.inl h))
   · rcases Nat.lt_or_ge k i with h2 | h2
     · exact .inl (.inl (.inr ⟨k, h2, h⟩))
     · obtain rfl : k = i := by omega
       rcases h with h | h
       · exact .inl (.inr h)
       · exact .inr h
theorem Rd2_len {L : List Int} {i : Nat} {b : List Int} (h : Rd2 L i b) : b.length = L.length := by
 rcases h with rfl | ⟨k, _, rfl | rfl⟩
 · rfl
 · rw [rotL_len]
 · rw [List.length_reverse, rotL_len]
set_option maxHeartbeats 4000000 in
theorem l14Round_c (L : List Int) (h0 : 0 < L.length) (hl : L.length ≤ 1048576) : Pure Tryz.prog 93 [ints L] (.sl 0 1 0 L.length) [some (intsC (lround L))] := by
 refine pureVg [0] ok93 rfl ?_; unfold c93
 refine RN ?_
 refine pureC1 (own_c L (by omega)) ?_
 refine RN ?_
 refine V_loop (α := Nat × List Int) (S := fun p => ([(0, ints L), (3, .sl 0 1 0 L.length), (4, i64 p.1)], [some (intsC p.2)])) (C := fun p => p.1 ≤ L.length ∧ Lst (Rd2 L p.1) p.2) (μ := fun p => L.length - p.1) (0, L) ⟨by omega, Rd2_one⟩ (by exact Ref.frame (by simp [sub, fget])) ?_
 rintro ⟨i, b⟩ ⟨hi, hb⟩
 dsimp only at hi hb ⊢
 have hbl := Rd2_len hb.1
 refine RN ?_
 refine ⟨fun hc => ?_, fun hc => ?_⟩
 · have hi' : i < L.length := by omega
   have hadd := ((hb.add (c := rotL L i)).add (c := (rotL L i).reverse)).same Rd2_i
   have hrl := rotL_len L i
   have hrr : (rotL L i).reverse.length = L.length := by rw [List.length_reverse, hrl]
   have hon := own_c (L.drop i) (by rw [List.length_drop]; omega)
   have hdl : (L.drop i).length = L.length - i := List.length_drop
   have htl : (L.take i).length = i := by rw [List.length_take]; omega
   have d1 : AV.slc 1 ((L.length : Int) - i).toNat (List.take ((L.length : Int) - i).toNat (List.drop i (intsC L))) = ints (L.drop i) := by
     rw [show ((L.length : Int) - i).toNat = (L.drop i).length by omega, drop_intsC, take_ints_len]
   have d2 : AV.slc 1 ((i : Int) - 0).toNat (List.take ((i : Int) - 0).toNat (intsC L)) = ints (L.take i) := by
     rw [show ((i : Int) - 0).toNat = (L.take i).length by omega, show intsC L = intsC (L.take i ++ L.drop i) by rw [List.take_append_drop], take_ints_app]
   have hO : rotL L i = L.drop i ++ L.take i := rfl
   have d3 : List.take ((i : Int) - 0).toNat (intsC L) = intsC (L.take i) := by rw [show ((i : Int) - 0).toNat = i by omega, take_intsC]
   generalize L.drop i = D at d1 hon hdl hO
   generalize L.take i = T at d2 d3 htl hO
   have htk : (intsC D).take (L.length - i) = intsC D := by rw [← hdl, take_ints_len]
   refine RN ?_
   simp only [d1, d2]
   refine pureC1 (hon) ?_
   refine RN ?_
   simp only [d3, all_plain_intsC, all_one_intsC, true_and]
   refine RN ?_
   generalize hOO : rotL L i = O at hadd hrl hrr hO
   have hDT : D.length + ((i : Int) - 0).toNat = L.length := by omega
   simp only [hDT]
   refine V_loop (α := Nat) (S := fun m => ([(0, ints L), (3, .sl 0 1 0 L.length), (4, i64 i), (5, .sl 1 1 0 L.length), (6, .sl 2 1 0 m), (7, i64 ((L.length : Int) - 1 - m))], [some (intsC b), some (intsC O), some (intsC (O.reverse.take m))])) (C := fun m => m ≤ L.length) (μ := fun m => L.length - m) 0 (by omega) (Ref.gc [0, 2, 3] rfl ?_ (by simp [sub, fget, go_sem, ↓reduceIte, Nat.reduceEqDiff, Nat.reduceAdd, reduceCtorEq])) ?_
   · simp only [go_sem, ↓reduceIte, Nat.reduceEqDiff, Nat.reduceAdd, reduceCtorEq, app_intsC, hO, List.take_zero]; rfl
   intro m hm
   have hml : (O.reverse.take m).length = m := by rw [List.length_take]; omega
   refine RN ?_
   refine ⟨fun hc2 => ?_, fun hc2 => ?_⟩
   · obtain ⟨j, hj⟩ : ∃ j : Nat, (L.length : Int) - 1 - m = (j : Int) := ⟨L.length - 1 - m, by omega⟩
     have hsu : O.reverse.take (m + 1) = O.reverse.take m ++ [O.getD j 0] := by
       rw [List.take_succ_eq_append_getElem (by omega), List.getElem_reverse]
       congr 2
       simp [show O.length - 1 - m = j by omega, show j < O.length by omega]
     rw [hj]
     refine RN ?_
     refine ⟨m + 1, by omega, by omega, Ref.gc [0, 1, 4] rfl ?_ (by simp [sub, fget, go_sem, ↓reduceIte, Nat.reduceEqDiff, Nat.reduceAdd, reduceCtorEq]; omega)⟩
     have htk2 : (intsC (O.reverse.take m)).take m = intsC (O.reverse.take m) := List.take_of_length_le (by simp [intsC]; omega)
     simp only [go_sem, ↓reduceIte, Nat.reduceEqDiff, Nat.reduceAdd, reduceCtorEq, htk2, one_intsC, app_intsC, hsu]
   · obtain rfl : m = L.length := by omega
     rw [List.take_of_length_le (show O.reverse.length ≤ L.length by omega)]
     have htO : (intsC O).take L.length = intsC O := by rw [← hrl, take_ints_len]
     have htb : (intsC b).take L.length = intsC b := by rw [← hbl, take_ints_len]
     have htR : (intsC O.reverse).take L.length = intsC O.reverse := by rw [← hrr, take_ints_len]
     have hl1 := less_c O b (by omega) (by omega)
     refine RN ?_
     refine pureC hl1 (by simp only [go_sem, ↓reduceIte, Nat.reduceEqDiff, Nat.reduceAdd, reduceCtorEq, ints, hrl, hbl, htO, htb]) (by simp only [go_sem, ↓reduceIte, Nat.reduceEqDiff, Nat.reduceAdd, reduceCtorEq]) ?_
     generalize O.reverse = R at *
     refine RN ?_
     refine ⟨fun hc3 => ?_, fun hc3 => ?_⟩
     · have hl2 := less_c R O (by omega) (by omega)
       simp only [hc3, if_true] at hadd
       refine RN ?_
       refine pureC hl2 (by simp only [go_sem, ↓reduceIte, Nat.reduceEqDiff, Nat.reduceAdd, reduceCtorEq, ints, hrl, hrr, htO, htR]) (by simp only [go_sem, ↓reduceIte, Nat.reduceEqDiff, Nat.reduceAdd, reduceCtorEq]) ?_
       refine RN ?_
       refine ⟨fun hc4 => ?_, fun hc4 => ?_⟩
       · simp only [hc4, if_true] at hadd
         refine RN ?_
         refine ⟨(i + 1, R), ⟨by dsimp only; omega, hadd⟩, by dsimp only; omega, Ref.gc [2] rfl ?_ (by simp [sub, fget, go_sem, ↓reduceIte, Nat.reduceEqDiff, Nat.reduceAdd, reduceCtorEq])⟩
         simp only [go_sem, ↓reduceIte, Nat.reduceEqDiff, Nat.reduceAdd, reduceCtorEq]
       · simp only [hc4, Bool.false_eq_true, if_false] at hadd
         refine RN ?_
         refine ⟨(i + 1, O), ⟨by dsimp only; omega, hadd⟩, by dsimp only; omega, Ref.gc [1] rfl ?_ (by simp [sub, fget, go_sem, ↓reduceIte, Nat.reduceEqDiff, Nat.reduceAdd, reduceCtorEq])⟩
         simp only [go_sem, ↓reduceIte, Nat.reduceEqDiff, Nat.reduceAdd, reduceCtorEq]
     · have hl2 := less_c R b (by omega) (by omega)
       simp only [hc3, Bool.false_eq_true, if_false] at hadd
       refine RN ?_
       refine pureC hl2 (by simp only [go_sem, ↓reduceIte, Nat.reduceEqDiff, Nat.reduceAdd, reduceCtorEq, ints, hbl, hrr, htb, htR]) (by simp only [go_sem, ↓reduceIte, Nat.reduceEqDiff, Nat.reduceAdd, reduceCtorEq]) ?_
       refine RN ?_
       refine ⟨fun hc4 => ?_, fun hc4 => ?_⟩
       · simp only [hc4, if_true] at hadd
         refine RN ?_
         refine ⟨(i + 1, R), ⟨by dsimp only; omega, hadd⟩, by dsimp only; omega, Ref.gc [2] rfl ?_ (by simp [sub, fget, go_sem, ↓reduceIte, Nat.reduceEqDiff, Nat.reduceAdd, reduceCtorEq])⟩
         simp only [go_sem, ↓reduceIte, Nat.reduceEqDiff, Nat.reduceAdd, reduceCtorEq]
       · simp only [hc4, Bool.false_eq_true, if_false] at hadd
         refine RN ?_
         refine ⟨(i + 1, b), ⟨by dsimp only; omega, hadd⟩, by dsimp only; omega, Ref.gc [0] rfl ?_ (by simp [sub, fget, go_sem, ↓reduceIte, Nat.reduceEqDiff, Nat.reduceAdd, reduceCtorEq])⟩
         simp only [go_sem, ↓reduceIte, Nat.reduceEqDiff, Nat.reduceAdd, reduceCtorEq]
 · obtain rfl : i = L.length := by omega
   rw [lround_eq (hb.same (Rd2_all h0))]
   (refine RN ?_; try with_reducible exact trivial)
end
section
open Go.Gov
open Classical
def itr (s : Nat → Nat) (x : Nat) : Nat → Nat
 | 0 => x
 | k + 1 => s (itr s x k)
theorem itr_lt {s : Nat → Nat} {n x : Nat} (hs : ∀ y, y < n → s y < n) (hx : x < n) : ∀ k, itr s x k < n
 | 0 => hx
 | k + 1 => hs _ (itr_lt hs hx k)
theorem itr_add (s : Nat → Nat) (x a : Nat) : ∀ b, itr s x (a + b) = itr s (itr s x a) b
 | 0 => rfl
 | b + 1 => by rw [← Nat.add_assoc, itr, itr_add s x a b, itr]
theorem itr_inj {s : Nat → Nat} {n : Nat} (hs : ∀ y, y < n → s y < n) (hi : ∀ y z, y < n → z < n → s y = s z → y = z) : ∀ k y z, y < n → z < n → itr s y k = itr s z k → y = z
 | 0, _, _, _, _, h => h
 | k + 1, y, z, hy, hz, h => itr_inj hs hi k y z hy hz (hi _ _ (itr_lt hs hy k) (itr_lt hs hz k) h)
theorem itr_back {s : Nat → Nat} {n x : Nat} (hs : ∀ y, y < n → s y < n) (hi : ∀ y z, y < n → z < n → s y = s z → y = z) (hx : x < n) : ∃ p, 0 < p ∧ p ≤ n ∧ itr s x p = x := by
 refine Classical.byContradiction fun hno => ?_
 have hnd : ((List.range (n + 1)).map (itr s x)).Nodup := by
   refine nodup_map List.nodup_range fun i hi' j hj' e => ?_
   have hi' := List.mem_range.1 hi'
   have hj' := List.mem_range.1 hj'
   rcases Nat.lt_trichotomy i j with h | h | h
   · refine absurd ⟨j - i, by omega, by omega, ?_⟩ hno
     have e2 : itr s x j = itr s (itr s x (j - i)) i := by rw [← itr_add]; congr 1; omega
     exact itr_inj hs hi i _ _ (itr_lt hs hx _) hx (by rw [← e2, e])
   · exact h
   · refine absurd ⟨i - j, by omega, by omega, ?_⟩ hno
     have e2 : itr s x i = itr s (itr s x (i - j)) j := by rw [← itr_add]; congr 1; omega
     exact itr_inj hs hi j _ _ (itr_lt hs hx _) hx (by rw [← e2, ← e])
 have := nodup_len (n := n) hnd fun y hy => by
   obtain ⟨k, _, rfl⟩ := List.mem_map.1 hy
   exact itr_lt hs hx k
 simp at this
 omega
noncomputable def per (s : Nat → Nat) (n x : Nat) : Nat := ((List.range (n + 1)).find? fun k => decide (0 < k ∧ itr s x k = x)).getD 0
theorem per_spec {s : Nat → Nat} {n x : Nat} (hs : ∀ y, y < n → s y < n) (hi : ∀ y z, y < n → z < n → s y = s z → y = z) (hx : x < n) : 0 < per s n x ∧ per s n x ≤ n ∧ itr s x (per s n x) = x ∧ ∀ j, 0 < j → j < per s n x → itr s x j ≠ x := by
 obtain ⟨p, h1, h2, h3⟩ := itr_back hs hi hx
 unfold per
 cases hf : (List.range (n + 1)).find? fun k => decide (0 < k ∧ itr s x k = x) with
 | none =>
   have := List.find?_eq_none.1 hf p (List.mem_range.2 (by omega))
   simp [h1, h3] at this
 | some q =>
   obtain ⟨a1, a2, a3⟩ := (find_least _ _ _).1 hf
   simp only [decide_eq_true_eq] at a2
   refine ⟨by simpa using a2.1, by simp; omega, by simpa using a2.2, fun j hj hlt e => ?_⟩
   have := a3 j (by simpa using hlt)
   simp [hj, e] at this
abbrev mvM (M : List (List Int)) (i : Nat) (x : Nat) : Nat := ((M.getD i []).getD x 0).toNat
abbrev sg (M : List (List Int)) (x : Nat) : Nat := mvM M 2 (mvM M 1 x)
noncomputable abbrev szV (M : List (List Int)) : List Int := hlvs (cntL (ncnt (oth M 2 M.length) (fl M)) (labs (fl M) (oth M 2 M.length)) (fl M))
noncomputable def sv (M : List (List Int)) (x : Nat) : Int := (szV M).getD (lab (oth M 2 M.length) x) 0
noncomputable def syL (M : List (List Int)) (f k : Nat) : List Int := (List.range k).map fun i => sv M (itr (sg M) f i)
noncomputable abbrev pr (M : List (List Int)) (f : Nat) : Nat := per (sg M) (fl M) f
noncomputable def syV (M : List (List Int)) (f : Nat) : List Int := lround (syL M f (pr M f))
theorem syL_len (M : List (List Int)) (f k : Nat) : (syL M f k).length = k := by simp [syL]
theorem syL_succ (M : List (List Int)) (f k : Nat) : syL M f (k + 1) = syL M f k ++ [sv M (itr (sg M) f k)] := by simp [syL, List.range_succ]
theorem szV_len (M : List (List Int)) : (szV M).length = ncnt (oth M 2 M.length) (fl M) := by simp [hlvs, cntL]
theorem IsMan.mvM {M : List (List Int)} (h : IsMan M) {i x : Nat} (hi : i < M.length) (hx : x < fl M) : 0 ≤ (M.getD i []).getD x 0 ∧ (M.getD i []).getD x 0 < (fl M : Int) ∧ (M.getD i []).getD x 0 = ((mvM M i x : Nat) : Int) ∧ mvM M i x < fl M ∧ mvM M i (mvM M i x) = x := by
 obtain ⟨h1, h2⟩ := h.mv _ (row_mem (L := M) (k := i) hi)
 obtain ⟨a1, a2, a3⟩ := h2 x hx
 unfold Go.Proofs.YtnncgfapobilaaaGreatDoor.mvM
 refine ⟨a1, a2, by omega, by omega, by rw [a3]; omega⟩
theorem sg_lt {M : List (List Int)} (h : IsMap M) {x : Nat} (hx : x < fl M) : sg M x < fl M := by
 have h3 := h.2
 have h1 := (h.1.mvM (i := 1) (by omega) hx).2.2.2.1
 exact (h.1.mvM (i := 2) (by omega) h1).2.2.2.1
theorem sg_inj {M : List (List Int)} (h : IsMap M) {x y : Nat} (hx : x < fl M) (hy : y < fl M) (e : sg M x = sg M y) : x = y := by
 have h3 := h.2
 have a1 := h.1.mvM (i := 1) (by omega) hx
 have b1 := h.1.mvM (i := 1) (by omega) hy
 have a2 := h.1.mvM (i := 2) (by omega) a1.2.2.2.1
 have b2 := h.1.mvM (i := 2) (by omega) b1.2.2.2.1
 have e1 := congrArg (Go.Proofs.YtnncgfapobilaaaGreatDoor.mvM M 2) e
 rw [a2.2.2.2.2, b2.2.2.2.2] at e1
 have e2 := congrArg (Go.Proofs.YtnncgfapobilaaaGreatDoor.mvM M 1) e1
 rwa [a1.2.2.2.2, b1.2.2.2.2] at e2
theorem pr_spec {M : List (List Int)} (h : IsMap M) {f : Nat} (hf : f < fl M) : 0 < pr M f ∧ pr M f ≤ fl M ∧ itr (sg M) f (pr M f) = f ∧ ∀ j, 0 < j → j < pr M f → itr (sg M) f j ≠ f :=
 per_spec (fun _ => sg_lt h) (fun _ _ hy hz => sg_inj h hy hz) hf
theorem rd2_ex (L : List Int) : ∀ i, ∃ b, Lst (Rd2 L i) b
 | 0 => ⟨_, Rd2_one⟩
 | i + 1 => by
   obtain ⟨b, hb⟩ := rd2_ex L i
   exact ⟨_, ((hb.add (c := rotL L i)).add (c := (rotL L i).reverse)).same Rd2_i⟩
theorem lround_len {L : List Int} (h0 : 0 < L.length) : (lround L).length = L.length := by
 obtain ⟨b, hb⟩ := rd2_ex L L.length
 have h := hb.same (Rd2_all h0)
 rw [lround_eq h, h.len]
theorem syV_len {M : List (List Int)} (h : IsMap M) {f : Nat} (hf : f < fl M) : (syV M f).length = pr M f := by
 have hL := pr_spec h hf
 have hlen := syL_len M f (pr M f)
 unfold syV
 rw [lround_len (by omega), hlen]
set_option maxHeartbeats 4000000 in
theorem symbolAt_c (M : List (List Int)) (h : IsMap M) (f : Nat) (hf : f < fl M) (hl : M.length ≤ 1048576) : Pure Tryz.prog 57 [maniP M, i64 f] (.sl 0 1 0 (syV M f).length) [some (intsC (syV M f))] := by
 have hn := h.1.f4
 have h3 := h.2
 have hp := pr_spec h hf
 have hmo := h.1.mv.oth 2 M.length
 have hll := labs_len (fl M) (oth M 2 M.length)
 have hzl := szV_len M
 have hfa := faces_c (fl M) M 2 h.1.mv (by omega) rfl (by omega) hl
 have hsz := sizesOf_c (fl M) M 2 h.1.mv (by omega) rfl (by omega) hl
 rw [show ((2 : Nat) : Int) = 2 from rfl] at hfa hsz
 have hlr := leastRound_c (syL M f (pr M f)) (by rw [syL_len]; omega) (by rw [syL_len]; omega)
 have hsl := syV_len h hf
 rw [show lround (syL M f (pr M f)) = syV M f from rfl, syL_len] at hlr
 rw [hsl]
 refine pureVg [3] ok57 rfl ?_; unfold c57
 refine RN ?_
 refine pureC1 (hfa) ?_
 refine RN ?_
 refine pureC1 (hsz) ?_
 refine RN ?_
 refine V_loop (α := Nat) (S := fun k => ([(0, maniP M), (1, i64 f), (5, .sl 0 1 0 (fl M)), (7, .sl 1 1 0 (szV M).length), (8, .sl 2 1 0 k), (9, i64 (itr (sg M) f k))], [some (intsC (labs (fl M) (oth M 2 M.length))), some (intsC (szV M)), some (intsC (syL M f k))])) (C := fun k => k ≤ pr M f) (μ := fun k => pr M f - k) 0 (by omega) ((Ref.nil 8 1 (by simp [fget])).trans (Ref.to (by simp [syL, intsC]) (by simp [sub, fget, itr, hzl]))) ?_
 intro k hk
 have hkl := syL_len M f k
 refine RN ?_
 refine ⟨fun hc => ?_, fun hc => ?_⟩
 · have hk' : k < pr M f := by
     rcases Nat.lt_or_ge k (pr M f) with h4 | h4
     · exact h4
     · obtain rfl : k = pr M f := by omega
       rw [hp.2.2.1] at hc
       rcases hc with hc | hc <;> omega
   have hx : itr (sg M) f k < fl M := itr_lt (fun _ => sg_lt h) hf k
   have hsu := syL_succ M f k
   have hit : itr (sg M) f (k + 1) = sg M (itr (sg M) f k) := rfl
   generalize itr (sg M) f k = x at hx hsu hit
   have hat := labs_at (L := oth M 2 M.length) hx
   have hlt := lab_lt hmo hx
   have hli : ((lab (oth M 2 M.length) x : Nat) : Int).toNat = lab (oth M 2 M.length) x := by omega
   have hsv : (szV M).getD (lab (oth M 2 M.length) x) 0 = sv M x := rfl
   obtain ⟨m1, m2, m3, m4, _⟩ := h.1.mvM (i := 1) (x := x) (by omega) hx
   obtain ⟨n1, n2, n3, n4, _⟩ := h.1.mvM (i := 2) (x := mvM M 1 x) (by omega) m4
   have r1 := (h.1.rows 1 (by omega)).1
   have r2 := (h.1.rows 2 (by omega)).1
   refine RN ?_
   simp only [hat, hli, hsv, go_sem, ↓reduceIte, Nat.reduceEqDiff, Nat.reduceAdd, reduceCtorEq]
   refine RN ?_
   refine ⟨k + 1, by omega, by omega, Ref.gc [0, 1, 4] rfl ?_ (by simp only [sub, fget, go_sem, ↓reduceIte, Nat.reduceEqDiff, Nat.reduceAdd, reduceCtorEq, hit]; rw [← n3])⟩
   have htk : (intsC (syL M f k)).take k = intsC (syL M f k) := List.take_of_length_le (by simp [intsC, syL])
   simp only [go_sem, ↓reduceIte, Nat.reduceEqDiff, Nat.reduceAdd, reduceCtorEq, htk, one_intsC, app_intsC, hsu]
 · have hk' : k = pr M f := by
     rcases Nat.lt_or_ge k (pr M f) with h4 | h4
     · exact absurd (by have := hc.2; omega) (hp.2.2.2 k (by omega) h4)
     · omega
   subst hk'
   refine RN ?_
   have htk : (intsC (syL M f (pr M f))).take (pr M f) = intsC (syL M f (pr M f)) := List.take_of_length_le (by simp [intsC, syL])
   refine pureC hlr (by simp only [go_sem, ↓reduceIte, Nat.reduceEqDiff, Nat.reduceAdd, reduceCtorEq, ints, syL_len, htk]) (by simp only [go_sem, ↓reduceIte, Nat.reduceEqDiff, Nat.reduceAdd, reduceCtorEq]) ?_
   (refine RN ?_; try with_reducible exact trivial)
set_option maxHeartbeats 4000000 in
theorem l14Symbol_c (M : List (List Int)) (h : IsMap M) (f : Nat) (hf : f < fl M) (hl : M.length ≤ 1048576) : Pure Tryz.prog 55 [maniA M, ints (labs (fl M) (oth M 2 M.length)), ints (szV M), i64 f] (.sl 0 1 0 (syV M f).length) [some (intsC (syV M f))] := by
 have hn := h.1.f4
 have h3 := h.2
 have hp := pr_spec h hf
 have hmo := h.1.mv.oth 2 M.length
 have hll := labs_len (fl M) (oth M 2 M.length)
 have hzl := szV_len M
 have hlr := l14Round_c (syL M f (pr M f)) (by rw [syL_len]; omega) (by rw [syL_len]; omega)
 have hsl := syV_len h hf
 rw [show lround (syL M f (pr M f)) = syV M f from rfl, syL_len] at hlr
 rw [hsl]
 have r1 := (h.1.rows 1 (by omega)).1
 have r2 := (h.1.rows 2 (by omega)).1
 have hat := labs_at (L := oth M 2 M.length) hf
 have hlt := lab_lt hmo hf
 have hli : ((lab (oth M 2 M.length) f : Nat) : Int).toNat = lab (oth M 2 M.length) f := by omega
 have hsv : (szV M).getD (lab (oth M 2 M.length) f) 0 = sv M f := rfl
 obtain ⟨m1, m2, m3, m4, _⟩ := h.1.mvM (i := 1) (x := f) (by omega) hf
 obtain ⟨n1, n2, n3, n4, _⟩ := h.1.mvM (i := 2) (x := mvM M 1 f) (by omega) m4
 refine pureVg [2] ok55 rfl ?_; unfold c55
 refine RN ?_
 simp only [hat, hli, hsv, go_sem, ↓reduceIte, Nat.reduceEqDiff, Nat.reduceAdd, reduceCtorEq]
 refine RN ?_
 refine V_loop (α := Nat) (S := fun k => ([(1, ints (labs (fl M) (oth M 2 M.length))), (2, ints (szV M)), (3, i64 f), (4, .ref 0 0), (9, .sl 1 1 0 k), (10, i64 (itr (sg M) f k))], [some [mat M], some (intsC (syL M f k))])) (C := fun k => 1 ≤ k ∧ k ≤ pr M f) (μ := fun k => pr M f - k) 1 ⟨by omega, by omega⟩ (Ref.to (by simp [syL, intsC, itr]) (by simp only [sub, fget, go_sem, ↓reduceIte, Nat.reduceEqDiff, Nat.reduceAdd, reduceCtorEq]; rw [show itr (sg M) f 1 = sg M f from rfl, ← n3])) ?_
 rintro k ⟨hk1, hk⟩
 clear m1 m2 m3 m4 n1 n2 n3 n4 hat hlt hli hsv
 have hkl := syL_len M f k
 refine RN ?_
 refine ⟨fun hc => ?_, fun hc => ?_⟩
 · have hk' : k < pr M f := by
     rcases Nat.lt_or_ge k (pr M f) with h4 | h4
     · exact h4
     · obtain rfl : k = pr M f := by omega
       rw [hp.2.2.1] at hc
       omega
   have hx : itr (sg M) f k < fl M := itr_lt (fun _ => sg_lt h) hf k
   have hsu := syL_succ M f k
   have hit : itr (sg M) f (k + 1) = sg M (itr (sg M) f k) := rfl
   generalize itr (sg M) f k = x at hx hsu hit hc
   have hat := labs_at (L := oth M 2 M.length) hx
   have hlt := lab_lt hmo hx
   have hli : ((lab (oth M 2 M.length) x : Nat) : Int).toNat = lab (oth M 2 M.length) x := by omega
   have hsv : (szV M).getD (lab (oth M 2 M.length) x) 0 = sv M x := rfl
   obtain ⟨m1, m2, m3, m4, _⟩ := h.1.mvM (i := 1) (x := x) (by omega) hx
   obtain ⟨n1, n2, n3, n4, _⟩ := h.1.mvM (i := 2) (x := mvM M 1 x) (by omega) m4
   refine RN ?_
   simp only [hat, hli, hsv, go_sem, ↓reduceIte, Nat.reduceEqDiff, Nat.reduceAdd, reduceCtorEq]
   refine RN ?_
   refine ⟨k + 1, ⟨by omega, by omega⟩, by omega, Ref.gc [0, 3] rfl ?_ (by simp only [sub, fget, go_sem, ↓reduceIte, Nat.reduceEqDiff, Nat.reduceAdd, reduceCtorEq, hit]; rw [← n3])⟩
   have htk : (intsC (syL M f k)).take k = intsC (syL M f k) := List.take_of_length_le (by simp [intsC, syL])
   simp only [go_sem, ↓reduceIte, Nat.reduceEqDiff, Nat.reduceAdd, reduceCtorEq, htk, one_intsC, app_intsC, hsu]
 · have hk' : k = pr M f := by
     rcases Nat.lt_or_ge k (pr M f) with h4 | h4
     · exact absurd (by omega) (hp.2.2.2 k (by omega) h4)
     · omega
   subst hk'
   refine RN ?_
   have htk : (intsC (syL M f (pr M f))).take (pr M f) = intsC (syL M f (pr M f)) := List.take_of_length_le (by simp [intsC, syL])
   refine pureC hlr (by simp only [go_sem, ↓reduceIte, Nat.reduceEqDiff, Nat.reduceAdd, reduceCtorEq, ints, syL_len, htk]) (by simp only [go_sem, ↓reduceIte, Nat.reduceEqDiff, Nat.reduceAdd, reduceCtorEq]) ?_
   (refine RN ?_; try with_reducible exact trivial)
end
section
open Go.Gov
open Classical
def csP (M : List (List Int)) : Prop := ∀ x, x < fl M → syV M x = syV M 0
noncomputable def csV (M : List (List Int)) : List Int := if IsMap M ∧ csP M then syV M 0 else []
noncomputable def csC (M : List (List Int)) : Int := if IsMap M then if csP M then 0 else 4 else 1
theorem csV_len (M : List (List Int)) : (csV M).length ≤ 400 := by
 unfold csV
 split
 · rename_i h
   have h4 := h.1.1.f4
   have h2 := h.1.1.f2
   have hp := pr_spec h.1 (f := 0) (by omega)
   rw [syV_len h.1 (by omega)]
   omega
 · simp
set_option maxHeartbeats 4000000 in
theorem commonSymbol_c (M : List (List Int)) (h : IsMap M) (hl : M.length ≤ 1048576) : if csP M then Pure Tryz.prog 29 [maniP M] (.sl 0 1 0 (syV M 0).length) [some (intsC (syV M 0))] else Pure Tryz.prog 29 [maniP M] nilS [] := by
 have hf := h.1.f4
 have hf2 := h.1.f2
 have h3 := h.2
 have hfl := flags_c M (by omega) hl (by unfold fl at hf; omega)
 rw [show (M.getD 0 []).length = fl M from rfl] at hfl
 have hS := fun x (hx : x < fl M) => symbolAt_c M h x hx hl
 have hS0 := hS 0 (by omega)
 rw [show ((0 : Nat) : Int) = 0 from rfl] at hS0
 have hle : ∀ x, x < fl M → (syV M x).length ≤ 400 := fun x hx => by
   have hp := pr_spec h hx
   rw [syV_len h hx]; omega
 have hle0 := hle 0 (by omega)
 have htk : (intsC (syV M 0)).take (syV M 0).length = intsC (syV M 0) := take_ints_len _
 by_cases hP : csP M
 · rw [if_pos hP]
   refine pureVg [0] ok29 rfl ?_; unfold c29
   refine RN ?_
   refine pureC1 (hS0) ?_
   refine RN ?_
   refine pureC1 (hfl) ?_
   refine RN ?_
   refine V_loop (α := Nat) (S := fun k => ([(0, maniP M), (3, .sl 0 1 0 (syV M 0).length), (8, i64 (fl M)), (9, i64 k)], [some (intsC (syV M 0))])) (C := fun k => k ≤ fl M) (μ := fun k => fl M - k) 0 (by omega) (by exact Ref.frame (by simp [sub, fget])) ?_
   intro k hk
   refine RN ?_
   refine ⟨fun hc => ?_, fun hc => ?_⟩
   · have hk' : k < fl M := by omega
     have hlk := hle k hk'
     have heq := equal_c (syV M k) (syV M 0) (by omega) (by omega)
     have hSk := hS k hk'
     have hpk := hP k hk'
     generalize syV M k = Y at hSk heq hlk hpk
     refine RN ?_
     refine pureC1 (hSk) ?_
     refine RN ?_
     refine pureC1 (heq) ?_
     simp only [hpk, go_sem, ↓reduceIte, Nat.reduceEqDiff, Nat.reduceAdd, reduceCtorEq]
     refine RN ?_
     exact ⟨k + 1, by omega, by omega, Ref.gc1 [0]⟩
   · (refine RN ?_; try with_reducible exact trivial)
 · rw [if_neg hP]
   obtain ⟨x0, hx0, hne⟩ : ∃ x, x < fl M ∧ syV M x ≠ syV M 0 := by
     unfold csP at hP
     rcases Classical.not_forall.1 hP with ⟨x, hx⟩
     exact ⟨x, Classical.byContradiction fun h => hx fun h2 => absurd h2 h, fun e => hx fun _ => e⟩
   refine pureV0 ok29 rfl rfl ?_; unfold c29
   refine RN ?_
   refine pureC1 (hS0) ?_
   refine RN ?_
   refine pureC1 (hfl) ?_
   refine RN ?_
   refine V_loop (α := Nat) (S := fun k => ([(0, maniP M), (3, .sl 0 1 0 (syV M 0).length), (8, i64 (fl M)), (9, i64 k)], [some (intsC (syV M 0))])) (C := fun k => k ≤ x0) (μ := fun k => fl M - k) 0 (by omega) (by exact Ref.frame (by simp [sub, fget])) ?_
   intro k hk
   refine RN ?_
   refine ⟨fun hc => ?_, fun hc => by omega⟩
   have hk' : k < fl M := by omega
   have hlk := hle k hk'
   have heq := equal_c (syV M k) (syV M 0) (by omega) (by omega)
   have hSk := hS k hk'
   have hk2 : syV M k = syV M 0 → k < x0 := fun e => by
     rcases Nat.lt_or_ge k x0 with h | h
     · exact h
     · obtain rfl : k = x0 := by omega
       exact absurd e hne
   generalize syV M k = Y at hSk heq hlk hk2
   refine RN ?_
   refine pureC1 (hSk) ?_
   refine RN ?_
   refine pureC1 (heq) ?_
   refine RN ?_
   refine ⟨fun hc2 => ?_, fun hc2 => ?_⟩
   · (refine RN ?_; try with_reducible exact trivial)
   · have := hk2 hc2
     refine RN ?_
     exact ⟨k + 1, by omega, by omega, Ref.gc1 [0]⟩
set_option maxHeartbeats 4000000 in
theorem specCs_c (M : List (List Int)) (hl : M.length ≤ 1048576) (hr : ∀ p ∈ M, p.length ≤ 1048576) : Pure Tryz.prog 28 [maniA M] (.tup [.sl 0 1 0 (csV M).length, i64 (csC M)]) [some (intsC (csV M))] := by
 unfold csV csC
 by_cases hp : IsMap M
 · have hf := hp.1.f4
   have hf2 := hp.1.f2
   have h3 := hp.2
   have hfl := l02Flags_c M (by omega) hl (by unfold fl at hf; omega)
   rw [show (M.getD 0 []).length = fl M from rfl] at hfl
   have hS := fun x (hx : x < fl M) => l14Symbol_c M hp x hx hl
   have hS0 := hS 0 (by omega)
   rw [show ((0 : Nat) : Int) = 0 from rfl] at hS0
   have hle : ∀ x, x < fl M → (syV M x).length ≤ 400 := fun x hx => by
     have hpr := pr_spec hp hx
     rw [syV_len hp hx]; omega
   have hle0 := hle 0 (by omega)
   have hll := labs_len (fl M) (oth M 2 M.length)
   have hzl := szV_len M
   have hfa := l02Faces_c (fl M) M 2 hp.1.mv (by omega) rfl (by omega) hl
   have hsz : Pure Tryz.prog 54 [maniA M, i64 2] (.sl 0 1 0 (szV M).length) [some (intsC (szV M))] := by
     rw [szV_len]
     exact l14Sizes_c (fl M) M 2 hp.1.mv (by omega) rfl (by omega) hl
   rw [show ((2 : Nat) : Int) = 2 from rfl] at hfa
   have htl : (intsC (labs (fl M) (oth M 2 M.length))).take (fl M) = intsC (labs (fl M) (oth M 2 M.length)) := List.take_of_length_le (by simp [intsC, hll])
   by_cases hP : csP M
   · rw [if_pos ⟨hp, hP⟩, if_pos hp, if_pos hP]
     refine pureVg [3] ok28 rfl ?_; unfold c28
     refine RN ?_
     refine pureC1 (l14Is_c M hl hr) ?_
     simp only [hp, go_sem, ↓reduceIte, Nat.reduceEqDiff, Nat.reduceAdd, reduceCtorEq]
     refine RN ?_
     refine pureC1 (hfa) ?_
     refine RN ?_
     refine pureC1 (hsz) ?_
     refine RN ?_
     refine pureC hS0 (by simp only [go_sem, ↓reduceIte, Nat.reduceEqDiff, Nat.reduceAdd, reduceCtorEq, ints, hll, htl]) (by simp only [go_sem, ↓reduceIte, Nat.reduceEqDiff, Nat.reduceAdd, reduceCtorEq]) ?_
     refine RN ?_
     refine V_loop (α := Nat) (S := fun k => ([(1, .ref 0 0), (4, .sl 1 1 0 (fl M)), (5, .sl 2 1 0 (szV M).length), (6, .sl 3 1 0 (syV M 0).length), (7, i64 k)], [some [mat M], some (intsC (labs (fl M) (oth M 2 M.length))), some (intsC (szV M)), some (intsC (syV M 0))])) (C := fun k => 1 ≤ k ∧ k ≤ fl M) (μ := fun k => fl M - k) 1 ⟨by omega, by omega⟩ (by exact Ref.frame (by simp [sub, fget])) ?_
     rintro k ⟨hk1, hk⟩
     refine RN ?_
     refine pureC1 (hfl) ?_
     refine RN ?_
     refine ⟨fun hc => ?_, fun hc => ?_⟩
     · have hk' : k < fl M := by omega
       have hlk := hle k hk'
       have heq := same_c (syV M k) (syV M 0) (by omega) (by omega)
       have hSk := hS k hk'
       have hpk := hP k hk'
       generalize syV M k = Y at hSk heq hlk hpk
       refine RN ?_
       refine pureC hSk (by simp only [go_sem, ↓reduceIte, Nat.reduceEqDiff, Nat.reduceAdd, reduceCtorEq, ints, hll, htl]) (by simp only [go_sem, ↓reduceIte, Nat.reduceEqDiff, Nat.reduceAdd, reduceCtorEq]) ?_
       refine RN ?_
       refine pureC1 (heq) ?_
       simp only [hpk, go_sem, ↓reduceIte, Nat.reduceEqDiff, Nat.reduceAdd, reduceCtorEq]
       refine RN ?_
       exact ⟨k + 1, ⟨by omega, by omega⟩, by omega, Ref.gc1 [0, 1, 2, 3]⟩
     · (refine RN ?_; try with_reducible exact trivial)
   · rw [if_neg (fun h => hP h.2), if_pos hp, if_neg hP]
     refine pure_nil 1 ?_
     obtain ⟨x0, hx0, hne⟩ : ∃ x, x < fl M ∧ syV M x ≠ syV M 0 := by
       unfold csP at hP
       rcases Classical.not_forall.1 hP with ⟨x, hx⟩
       exact ⟨x, Classical.byContradiction fun h => hx fun h2 => absurd h2 h, fun e => hx fun _ => e⟩
     have hx1 : 1 ≤ x0 := by
       rcases Nat.eq_zero_or_pos x0 with h | h
       · subst h; exact absurd rfl hne
       · exact h
     refine pureV0 ok28 rfl rfl ?_; unfold c28
     refine RN ?_
     refine pureC1 (l14Is_c M hl hr) ?_
     simp only [hp, go_sem, ↓reduceIte, Nat.reduceEqDiff, Nat.reduceAdd, reduceCtorEq]
     refine RN ?_
     refine pureC1 (hfa) ?_
     refine RN ?_
     refine pureC1 (hsz) ?_
     refine RN ?_
     refine pureC hS0 (by simp only [go_sem, ↓reduceIte, Nat.reduceEqDiff, Nat.reduceAdd, reduceCtorEq, ints, hll, htl]) (by simp only [go_sem, ↓reduceIte, Nat.reduceEqDiff, Nat.reduceAdd, reduceCtorEq]) ?_
     refine RN ?_
     refine V_loop (α := Nat) (S := fun k => ([(1, .ref 0 0), (4, .sl 1 1 0 (fl M)), (5, .sl 2 1 0 (szV M).length), (6, .sl 3 1 0 (syV M 0).length), (7, i64 k)], [some [mat M], some (intsC (labs (fl M) (oth M 2 M.length))), some (intsC (szV M)), some (intsC (syV M 0))])) (C := fun k => 1 ≤ k ∧ k ≤ x0) (μ := fun k => fl M - k) 1 ⟨by omega, by omega⟩ (by exact Ref.frame (by simp [sub, fget])) ?_
     rintro k ⟨hk1, hk⟩
     refine RN ?_
     refine pureC1 (hfl) ?_
     refine RN ?_
     refine ⟨fun hc => ?_, fun hc => by omega⟩
     have hk' : k < fl M := by omega
     have hlk := hle k hk'
     have heq := same_c (syV M k) (syV M 0) (by omega) (by omega)
     have hSk := hS k hk'
     have hk2 : syV M k = syV M 0 → k < x0 := fun e => by
       rcases Nat.lt_or_ge k x0 with h | h
       · exact h
       · obtain rfl : k = x0 := by omega
         exact absurd e hne
     generalize syV M k = Y at hSk heq hlk hk2
     refine RN ?_
     refine pureC hSk (by simp only [go_sem, ↓reduceIte, Nat.reduceEqDiff, Nat.reduceAdd, reduceCtorEq, ints, hll, htl]) (by simp only [go_sem, ↓reduceIte, Nat.reduceEqDiff, Nat.reduceAdd, reduceCtorEq]) ?_
     refine RN ?_
     refine pureC1 (heq) ?_
     refine RN ?_
     refine ⟨fun hc2 => ?_, fun hc2 => ?_⟩
     · (refine RN ?_; try with_reducible exact trivial)
     · have := hk2 hc2
       refine RN ?_
       exact ⟨k + 1, ⟨by omega, by omega⟩, by omega, Ref.gc1 [0, 1, 2, 3]⟩
 · rw [if_neg (fun h => hp h.1), if_neg hp]
   refine pure_nil 1 ?_
   refine pureV0 ok28 rfl rfl ?_; unfold c28
   refine RN ?_
   refine pureC1 (l14Is_c M hl hr) ?_
   simp only [hp, go_sem, ↓reduceIte, Nat.reduceEqDiff, Nat.reduceAdd, reduceCtorEq]
   (refine RN ?_; try with_reducible exact trivial)
end
end Go.Proofs.YtnncgfapobilaaaGreatDoor
