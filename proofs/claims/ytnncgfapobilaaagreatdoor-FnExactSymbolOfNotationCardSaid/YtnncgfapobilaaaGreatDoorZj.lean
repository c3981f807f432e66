/- Texts that belong together. -/
import Derived.Shelf.SlGeneric
import Derived.Shelf.Spec.SlicesGrow
import Derived.Ground.Names8Prog
import Derived.Shelf.SlicesE.Delete
import Derived.Ground.SlgnProg
import Derived.Shelf.Bits.Mul64
import Derived.Ground.NamesProg
import Derived.Shelf.Strings.SlTrimAscii
import Derived.Shelf.Strings.Search3
import Derived.Shelf.Strconv.ParseIntPublic10
import Derived.Shelf.Strconv.Itoa4
import Derived.Test.YtnncgfapobilaaaGreatDoorZe
import Derived.Test.YtnncgfapobilaaaGreatDoorZf
set_option linter.unusedSimpArgs false
set_option linter.unusedVariables false
set_option maxRecDepth 100000
namespace Go.Proofs.YtnncgfapobilaaaGreatDoor
section
open Go.Gov
theorem l01In_c (n lo hi : Int) : Pure Tryz.prog 97 [i64 n, i64 lo, i64 hi] (bl (decide (lo ≤ n) && decide (n ≤ hi))) [] := by
 refine pureV ok97 rfl ?_; unfold c97
 (refine RN ?_; try with_reducible exact trivial)
theorem within_c (n lo hi : Int) : Pure Tryz.prog 71 [i64 n, i64 lo, i64 hi] (bl (decide (lo ≤ n) && decide (n ≤ hi))) [] := by
 refine pureV ok71 rfl ?_; unfold c71
 (refine RN ?_; try with_reducible exact trivial)
theorem size_c (xs : List Int) (hl : xs.length ≤ 1099511627776) : Pure Tryz.prog 87 [ints xs] (i64 xs.length) [] := by
 refine pureV ok87 rfl ?_; unfold c87
 (refine RN ?_; try with_reducible exact trivial)
def idx (xs : List Int) (n : Int) : Int := if n ∈ xs then xs.idxOf n else -1
theorem idx_at {xs : List Int} {n : Int} {i : Nat} (h : ∀ j, j < i → xs.getD j 0 ≠ n) (hi : i < xs.length) (he : xs.getD i 0 = n) : idx xs n = i := by
 have hm : n ∈ xs := by rw [← he]; simp [hi]
 unfold idx
 rw [if_pos hm]
 congr 1
 induction xs generalizing i with
 | nil => cases hi
 | cons x xs ih =>
   cases i with
   | zero =>
     have hx : x = n := by simpa using he
     simp [hx]
   | succ i =>
     have hx : x ≠ n := by have := h 0 (by omega); simpa using this
     have hm' : n ∈ xs := by rcases List.mem_cons.1 hm with h' | h'; exact absurd h'.symm hx; exact h'
     have hb : (x == n) = false := by simpa using hx
     rw [List.idxOf_cons, hb, cond_false]
     rw [ih (i := i) (fun j hj => by have := h (j + 1) (by omega); simpa using this) (by simpa using hi) (by simpa using he) hm']
theorem idx_no {xs : List Int} {n : Int} (h : ∀ j, j < xs.length → xs.getD j 0 ≠ n) : idx xs n = -1 := by
 unfold idx
 rw [if_neg]
 intro hm
 obtain ⟨j, hj, he⟩ := List.mem_iff_getElem.1 hm
 exact h j hj (by simp [hj, he])
theorem idx_ge (xs : List Int) (n : Int) : decide (0 ≤ idx xs n) = decide (n ∈ xs) := by
 unfold idx
 by_cases h : n ∈ xs <;> simp [h]
theorem l01Index_c (xs : List Int) (n : Int) (hl : xs.length ≤ 1099511627776) : Pure Tryz.prog 158 [ints xs, i64 n] (i64 (idx xs n)) [] := by
 refine pureV ok158 rfl ?_; unfold c158
 refine RN ?_
 refine V_loop (α := Nat) (S := fun i => ([(0, ints xs), (1, i64 n), (5, i64 i)], [])) (C := fun i => i ≤ xs.length ∧ ∀ j, j < i → xs.getD j 0 ≠ n) (μ := fun i => xs.length - i) 0 ⟨by omega, by omega⟩ (by exact Ref.frame (by simp [sub, fget])) ?_
 rintro i ⟨hi, hall⟩
 refine RN ?_
 refine ⟨fun hc => ?_, fun hc => ?_⟩
 · (refine RN ?_; try with_reducible exact trivial)
   refine ⟨fun hc => ?_, fun hc => ?_⟩
   · (refine RN ?_; try with_reducible exact trivial)
     rw [idx_at hall (by omega) (by assumption)]
   · (refine RN ?_; try with_reducible exact trivial)
     refine ⟨i + 1, ⟨by omega, fun j hj => ?_⟩, by omega, by exact Ref.frame (by simp [sub, fget])⟩
     rcases Nat.lt_or_ge j i with h | h
     · exact hall j h
     · obtain rfl : j = i := by omega
       simpa using hc
 · (refine RN ?_; try with_reducible exact trivial)
   rw [idx_no (fun j hj => hall j (by omega))]
theorem l01Has_c (xs : List Int) (n : Int) (hl : xs.length ≤ 1099511627776) : Pure Tryz.prog 130 [ints xs, i64 n] (bl (decide (n ∈ xs))) [] := by
 refine pureV ok130 rfl ?_; unfold c130
 refine RN ?_
 refine pureC1 (l01Index_c xs n hl) ?_
 (refine RN ?_; try with_reducible exact trivial)
 try rw [idx_ge]
theorem isNaN2_c (n : Int) : Pure Tryz.prog 157 [i64 n] (bl false) [] := by
 refine pureV ok157 rfl ?_; unfold c157
 (refine RN ?_; try with_reducible exact trivial)
 try rw [show (n != n) = false by simp]
theorem eqInt64S_c (xs ys : List Int) (hx : xs.length ≤ 1099511627776) (hy : ys.length ≤ 1099511627776) : Pure Tryz.prog 15 [ints xs, ints ys] (bl (decide (xs = ys))) [] := by
 refine pureV ok15 rfl ?_; unfold c15
 refine RN ?_
 refine ⟨fun hc => ?_, fun hc => ?_⟩
 · (refine RN ?_; try with_reducible exact trivial)
   rw [decide_eq_false (fun h => hc (by rw [h]))]
 · have hl : xs.length = ys.length := by omega
   refine RN ?_
   refine V_loop (α := Nat) (S := fun i => ([(0, ints xs), (1, ints ys), (5, i64 i)], [])) (C := fun i => i ≤ xs.length ∧ ∀ j, j < i → xs.getD j 0 = ys.getD j 0) (μ := fun i => xs.length - i) 0 ⟨by omega, by omega⟩ (by exact Ref.frame (by simp [sub, fget])) ?_
   rintro i ⟨hi, hall⟩
   refine RN ?_
   refine ⟨fun hc1 => ?_, fun hc1 => ?_⟩
   · (refine RN ?_; try with_reducible exact trivial)
     refine ⟨fun hc2 => ?_, fun hc2 => ?_⟩
     · (refine RN ?_; try with_reducible exact trivial)
       rw [decide_eq_false (fun h => hc2 (by rw [h]))]
     · (refine RN ?_; try with_reducible exact trivial)
       refine ⟨i + 1, ⟨by omega, fun j hj => ?_⟩, by omega, by exact Ref.frame (by simp [sub, fget])⟩
       rcases Nat.lt_or_ge j i with h | h
       · exact hall j h
       · obtain rfl : j = i := by omega
         simpa using hc2
   · (refine RN ?_; try with_reducible exact trivial)
     rw [decide_eq_true]
     refine List.ext_getElem hl fun j h1 h2 => ?_
     have := hall j (by omega)
     simpa [h1, h2] using this
end
section
open Go.Gov
def left (b : Int) (n : Nat) : Int := if (n : Int) ≤ b then b - n else -1
def tot (xss : List (List Int)) : Nat := (xss.map List.length).sum
theorem tot_app (a b : List (List Int)) : tot (a ++ b) = tot a + tot b := by simp [tot]
theorem tot_take (xss : List (List Int)) (i : Nat) (h : i < xss.length) : tot (xss.take (i + 1)) = tot (xss.take i) + (xss.getD i []).length := by
 rw [List.take_succ_eq_append_getElem h, tot_app]
 simp [tot, h]
theorem tot_take_le (xss : List (List Int)) (i : Nat) : tot (xss.take i) ≤ tot xss := by
 have := congrArg tot (List.take_append_drop i xss)
 rw [tot_app] at this
 omega
end
section
open Go.Gov
def up (k : Int) (n : Nat) : List Int := (List.range n).map fun (i : Nat) => k + (i : Int)
theorem up_len (k : Int) (n : Nat) : (up k n).length = n := by simp [up]
theorem up_at (k : Int) (n i : Nat) (h : i < n) : (up k n).getD i 0 = k + i := by simp [up, h]
theorem up_succ (k : Int) (n : Nat) : up k (n + 1) = up k n ++ [k + n] := by simp [up, List.range_succ]
theorem up_step (k : Int) (xs : List Int) (i : Nat) (h : i < xs.length) : (up k i ++ xs.drop i).set i (k + i) = up k (i + 1) ++ xs.drop (i + 1) := by
 rw [List.set_append_right _ _ (by rw [up_len]; exact Nat.le_refl _), up_len, Nat.sub_self, List.drop_eq_getElem_cons h, List.set_cons_zero, up_succ, List.append_assoc]
 rfl
theorem markInt64S_c (xs : List Int) (k : Int) (hl : xs.length ≤ 1099511627776) (h0 : 0 ≤ k) (hk : k ≤ 1125899906842624) : Wri Tryz.prog 16 [.sl 0 1 0 xs.length, i64 k] [some (intsC xs)] (i64 (k + xs.length)) [some (intsC (up k xs.length))] := by
 refine wriV ok16 rfl ?_; unfold c16
 refine RN ?_
 refine V_loop (α := Nat) (S := fun i => ([(0, .sl 0 1 0 xs.length), (1, i64 (k + i)), (5, i64 i)], [some (intsC (up k i ++ xs.drop i))])) (C := fun i => i ≤ xs.length) (μ := fun i => xs.length - i) 0 (by omega) (Ref.to (by simp [up]) (by simp [sub, fget])) ?_
 intro i hi
 have hlen : (up k i ++ xs.drop i).length = xs.length := by simp [up_len]; omega
 refine RN ?_
 refine ⟨fun hc => ?_, fun hc => ?_⟩
 · (refine RN ?_; try with_reducible exact trivial)
   rw [up_step k xs i (by omega)]
   exact ⟨i + 1, by omega, by omega, Ref.frame (by simp [sub, fget]; omega)⟩
 · (refine RN ?_; try with_reducible exact trivial)
   obtain rfl : i = xs.length := by omega
   simp
theorem heldInt64S_c (n : Nat) (k : Int) (hl : n ≤ 1099511627776) (h0 : 0 ≤ k) (hk : k ≤ 1125899906842624) : Pure Tryz.prog 17 [ints (up k n), i64 k] (i64 (k + n)) [] := by
 refine pureV ok17 rfl ?_; unfold c17
 have hlen := up_len k n
 refine RN ?_
 refine V_loop (α := Nat) (S := fun i => ([(0, ints (up k n)), (1, i64 (k + i)), (5, i64 i)], [])) (C := fun i => i ≤ n) (μ := fun i => n - i) 0 (by omega) (by exact Ref.frame (by simp [sub, fget])) ?_
 intro i hi
 refine RN ?_
 refine ⟨fun hc => ?_, fun hc => ?_⟩
 · have hat := up_at k n i (by omega)
   refine RN ?_
   refine fun hc2 => ?_
   refine RN ?_
   exact ⟨i + 1, by omega, by omega, Ref.frame (by simp [sub, fget]; omega)⟩
 · (refine RN ?_; try with_reducible exact trivial)
   obtain rfl : i = n := by omega
   rfl
def upR : Int → List (List Int) → List (List Int)
 | _, [] => []
 | k, x :: xs => up k x.length :: upR (k + x.length) xs
theorem upR_len : ∀ (k : Int) (xss : List (List Int)), (upR k xss).length = xss.length
 | _, [] => rfl
 | k, x :: xs => by simp [upR, upR_len]
theorem take_up (k : Int) (n : Nat) : (intsC (up k n)).take n = intsC (up k n) := by exact List.take_of_length_le (by simp [intsC, up])
theorem take_upR (k : Int) (xss : List (List Int)) : ((upR k xss).map oints).take xss.length = (upR k xss).map oints := by exact List.take_of_length_le (by simp [upR_len])
theorem heldS_c (n : Nat) (k : Int) (hl : n ≤ 1099511627776) (h0 : 0 ≤ k) (hk : k ≤ 1125899906842624) : Pure Tryz.prog 17 [.slc 1 n (intsC (up k n)), i64 k] (i64 (k + n)) [] := by
 have h := heldInt64S_c n k hl h0 hk
 simpa only [ints, up_len] using h
attribute [go_sem] take_up take_upR
end
end Go.Proofs.YtnncgfapobilaaaGreatDoor
namespace Go.Proofs
open Go.Shelf
def Tryz.growL_ren : Go.Shelf.Ren := ⟨fun | 4 => 161 | n => n, fun | 22 => 33 | 25 => 2 | 3 => 3 | 4 => 4 | 9 => 9 | 20 => 20 | 0 => 0 | n => n, fun | n => n⟩
theorem Tryz.growL : Go.Proofs.Lays8.n4 Tryz.prog Tryz.growL_ren := {
 mixed := by kernel_rfl
 f4 := ⟨Tryz.f161.name, by decide, Tryz.func161.trans (congrArg some (by kernel_rfl))⟩
 t0 := Tryz.underlying0
 a0 := Tryz.isAgg0
 z0 := Tryz.sizeOf0
 v0 := Tryz.zeroValue0
 t3 := Tryz.underlying3
 a3 := Tryz.isAgg3
 z3 := Tryz.sizeOf3
 v3 := Tryz.zeroValue3
 t4 := Tryz.underlying4
 a4 := Tryz.isAgg4
 z4 := Tryz.sizeOf4
 v4 := Tryz.zeroValue4
 t9 := Tryz.underlying9
 a9 := Tryz.isAgg9
 z9 := Tryz.sizeOf9
 v9 := Tryz.zeroValue9
 t20 := Tryz.underlying20
 a20 := Tryz.isAgg20
 z20 := Tryz.sizeOf20
 v20 := Tryz.zeroValue20
 t22 := Tryz.underlying33
 a22 := Tryz.isAgg33
 z22 := Tryz.sizeOf33
 v22 := Tryz.zeroValue33 }
def Tryz.growR_ren : Go.Shelf.Ren := ⟨fun | 4 => 151 | n => n, fun | 22 => 22 | 25 => 33 | 3 => 3 | 4 => 4 | 9 => 9 | 20 => 20 | 0 => 0 | n => n, fun | n => n⟩
theorem Tryz.growR : Go.Proofs.Lays8.n4 Tryz.prog Tryz.growR_ren := {
 mixed := by kernel_rfl
 f4 := ⟨Tryz.f151.name, by decide, Tryz.func151.trans (congrArg some (by kernel_rfl))⟩
 t0 := Tryz.underlying0
 a0 := Tryz.isAgg0
 z0 := Tryz.sizeOf0
 v0 := Tryz.zeroValue0
 t3 := Tryz.underlying3
 a3 := Tryz.isAgg3
 z3 := Tryz.sizeOf3
 v3 := Tryz.zeroValue3
 t4 := Tryz.underlying4
 a4 := Tryz.isAgg4
 z4 := Tryz.sizeOf4
 v4 := Tryz.zeroValue4
 t9 := Tryz.underlying9
 a9 := Tryz.isAgg9
 z9 := Tryz.sizeOf9
 v9 := Tryz.zeroValue9
 t20 := Tryz.underlying20
 a20 := Tryz.isAgg20
 z20 := Tryz.sizeOf20
 v20 := Tryz.zeroValue20
 t22 := Tryz.underlying22
 a22 := Tryz.isAgg22
 z22 := Tryz.sizeOf22
 v22 := Tryz.zeroValue22 }
def Tryz.delL_ren : Go.Shelf.Ren := ⟨fun | 45 => 159 | n => n, fun | 22 => 22 | 23 => 33 | 3 => 3 | 4 => 4 | 0 => 0 | n => n, fun | n => n⟩
theorem Tryz.delL : Go.Proofs.SlLaysE.n45 Tryz.prog Tryz.delL_ren := {
 mixed := by kernel_rfl
 f45 := ⟨Tryz.f159.name, by decide, Tryz.func159.trans (congrArg some (by kernel_rfl))⟩
 t0 := Tryz.underlying0
 a0 := Tryz.isAgg0
 z0 := Tryz.sizeOf0
 v0 := Tryz.zeroValue0
 t3 := Tryz.underlying3
 a3 := Tryz.isAgg3
 z3 := Tryz.sizeOf3
 v3 := Tryz.zeroValue3
 t4 := Tryz.underlying4
 a4 := Tryz.isAgg4
 z4 := Tryz.sizeOf4
 v4 := Tryz.zeroValue4
 t22 := Tryz.underlying22
 a22 := Tryz.isAgg22
 z22 := Tryz.sizeOf22
 v22 := Tryz.zeroValue22
 a23 := Tryz.isAgg33
 z23 := Tryz.sizeOf33 }
def Tryz.mulL_ren : Go.Shelf.Ren := ⟨fun | 212 => 147 | 263 => 179 | 264 => 180 | n => n, fun | 46 => 141 | 51 => 173 | 146 => 174 | 53 => 167 | 148 => 176 | n => n, fun | n => n⟩
theorem Tryz.mulL : Go.Proofs.Lays.n212 Tryz.prog Tryz.mulL_ren := {
 mixed := by kernel_rfl
 f212 := Tryz.func147.trans (congrArg some (by kernel_rfl))
 f263 := Tryz.func179.trans (congrArg some (by kernel_rfl))
 f264 := Tryz.func180.trans (congrArg some (by kernel_rfl))
 t46 := Tryz.underlying141
 a46 := Tryz.isAgg141
 z46 := Tryz.sizeOf141
 v46 := Tryz.zeroValue141
 t51 := Tryz.underlying173
 a51 := Tryz.isAgg173
 z51 := Tryz.sizeOf173
 v51 := Tryz.zeroValue173
 t53 := Tryz.underlying167
 a53 := Tryz.isAgg167
 z53 := Tryz.sizeOf167
 v53 := Tryz.zeroValue167
 t146 := Tryz.underlying174
 a146 := Tryz.isAgg174
 z146 := Tryz.sizeOf174
 v146 := Tryz.zeroValue174
 t148 := Tryz.underlying176
 a148 := Tryz.isAgg176
 z148 := Tryz.sizeOf176
 v148 := Tryz.zeroValue176 }
def Tryz.trimL_ren : Go.Shelf.Ren := ⟨fun | 161 => 68 | 231 => 107 | 227 => 108 | 233 => 109 | 235 => 110 | 228 => 139 | 197 => 140 | 151 => 141 | 260 => 167 | 152 => 168 | 137 => 186 | 119 => 187 | 224 => 171 | 225 => 170 | 217 => 169 | 266 => 188 | n => n, fun | 9 => 9 | 4 => 4 | 3 => 3 | 5 => 5 | 117 => 105 | 116 => 104 | 0 => 0 | 124 => 108 | 105 => 135 | 21 => 21 | 119 => 182 | 46 => 141 | 139 => 185 | 138 => 184 | n => n, fun | 3 => 1 | 4 => 2 | n => n⟩
theorem Tryz.trimL : Go.Proofs.Lays.n161 Tryz.prog Tryz.trimL_ren := {
 mixed := by kernel_rfl
 f119 := Tryz.func187.trans (congrArg some (by kernel_rfl))
 f137 := Tryz.func186.trans (congrArg some (by kernel_rfl))
 f151 := Tryz.func141.trans (congrArg some (by kernel_rfl))
 f152 := Tryz.func168.trans (congrArg some (by kernel_rfl))
 f161 := Tryz.func68.trans (congrArg some (by kernel_rfl))
 f197 := Tryz.func140.trans (congrArg some (by kernel_rfl))
 f217 := Tryz.func169.trans (congrArg some (by kernel_rfl))
 f224 := Tryz.func171.trans (congrArg some (by kernel_rfl))
 f225 := Tryz.func170.trans (congrArg some (by kernel_rfl))
 f227 := Tryz.func108.trans (congrArg some (by kernel_rfl))
 f228 := Tryz.func139.trans (congrArg some (by kernel_rfl))
 f231 := Tryz.func107.trans (congrArg some (by kernel_rfl))
 f233 := Tryz.func109.trans (congrArg some (by kernel_rfl))
 f235 := Tryz.func110.trans (congrArg some (by kernel_rfl))
 f260 := Tryz.func167.trans (congrArg some (by kernel_rfl))
 f266 := Tryz.func188.trans (congrArg some (by kernel_rfl))
 t0 := Tryz.underlying0
 a0 := Tryz.isAgg0
 z0 := Tryz.sizeOf0
 v0 := Tryz.zeroValue0
 t3 := Tryz.underlying3
 a3 := Tryz.isAgg3
 z3 := Tryz.sizeOf3
 v3 := Tryz.zeroValue3
 t4 := Tryz.underlying4
 a4 := Tryz.isAgg4
 z4 := Tryz.sizeOf4
 v4 := Tryz.zeroValue4
 t5 := Tryz.underlying5
 a5 := Tryz.isAgg5
 z5 := Tryz.sizeOf5
 v5 := Tryz.zeroValue5
 t9 := Tryz.underlying9
 a9 := Tryz.isAgg9
 z9 := Tryz.sizeOf9
 v9 := Tryz.zeroValue9
 t21 := Tryz.underlying21
 a21 := Tryz.isAgg21
 z21 := Tryz.sizeOf21
 v21 := Tryz.zeroValue21
 t46 := Tryz.underlying141
 a46 := Tryz.isAgg141
 z46 := Tryz.sizeOf141
 v46 := Tryz.zeroValue141
 t105 := Tryz.underlying135
 a105 := Tryz.isAgg135
 z105 := Tryz.sizeOf135
 v105 := Tryz.zeroValue135
 t116 := Tryz.underlying104
 a116 := Tryz.isAgg104
 z116 := Tryz.sizeOf104
 t117 := Tryz.underlying105
 a117 := Tryz.isAgg105
 z117 := Tryz.sizeOf105
 v117 := Tryz.zeroValue105
 t119 := Tryz.underlying182
 a119 := Tryz.isAgg182
 z119 := Tryz.sizeOf182
 t124 := Tryz.underlying108
 a124 := Tryz.isAgg108
 z124 := Tryz.sizeOf108
 v124 := Tryz.zeroValue108
 t138 := Tryz.underlying184
 a138 := Tryz.isAgg184
 z138 := Tryz.sizeOf184
 v138 := Tryz.zeroValue184
 t139 := Tryz.underlying185
 a139 := Tryz.isAgg185
 z139 := Tryz.sizeOf185
 v139 := Tryz.zeroValue185
 g3 := by kernel_rfl
 g4 := by kernel_rfl }
def Tryz.contL_ren : Go.Shelf.Ren := ⟨fun | 144 => 69 | 143 => 111 | 219 => 142 | 217 => 169 | 225 => 170 | 224 => 171 | 267 => 172 | 266 => 188 | 314 => 189 | n => n, fun | 9 => 9 | 4 => 4 | 3 => 3 | 5 => 5 | 46 => 141 | 146 => 174 | 51 => 173 | n => n, fun | 1 => 0 | n => n⟩
theorem Tryz.contL : Go.Proofs.Lays.n144 Tryz.prog Tryz.contL_ren := {
 mixed := by kernel_rfl
 f143 := Tryz.func111.trans (congrArg some (by kernel_rfl))
 f144 := Tryz.func69.trans (congrArg some (by kernel_rfl))
 f217 := Tryz.func169.trans (congrArg some (by kernel_rfl))
 f219 := Tryz.func142.trans (congrArg some (by kernel_rfl))
 f224 := Tryz.func171.trans (congrArg some (by kernel_rfl))
 f225 := Tryz.func170.trans (congrArg some (by kernel_rfl))
 f266 := Tryz.func188.trans (congrArg some (by kernel_rfl))
 f267 := Tryz.func172.trans (congrArg some (by kernel_rfl))
 f314 := Tryz.func189.trans (congrArg some (by kernel_rfl))
 t3 := Tryz.underlying3
 a3 := Tryz.isAgg3
 z3 := Tryz.sizeOf3
 v3 := Tryz.zeroValue3
 t4 := Tryz.underlying4
 a4 := Tryz.isAgg4
 z4 := Tryz.sizeOf4
 v4 := Tryz.zeroValue4
 t5 := Tryz.underlying5
 a5 := Tryz.isAgg5
 z5 := Tryz.sizeOf5
 v5 := Tryz.zeroValue5
 t9 := Tryz.underlying9
 a9 := Tryz.isAgg9
 z9 := Tryz.sizeOf9
 v9 := Tryz.zeroValue9
 t46 := Tryz.underlying141
 a46 := Tryz.isAgg141
 z46 := Tryz.sizeOf141
 v46 := Tryz.zeroValue141
 t51 := Tryz.underlying173
 a51 := Tryz.isAgg173
 z51 := Tryz.sizeOf173
 v51 := Tryz.zeroValue173
 t146 := Tryz.underlying174
 a146 := Tryz.isAgg174
 z146 := Tryz.sizeOf174
 v146 := Tryz.zeroValue174
 g1 := by kernel_rfl }
def Tryz.parL_ren : Go.Shelf.Ren := ⟨fun | 174 => 112 | 247 => 143 | 245 => 144 | 287 => 173 | 279 => 174 | 280 => 175 | 281 => 176 | 282 => 177 | 321 => 190 | 322 => 191 | 316 => 192 | 171 => 194 | 205 => 193 | 243 => 199 | 246 => 178 | 283 => 195 | 284 => 196 | 285 => 197 | 286 => 198 | 129 => 201 | 317 => 200 | 318 => 202 | 319 => 203 | 320 => 204 | 337 => 205 | 338 => 206 | n => n, fun | 9 => 9 | 3 => 3 | 2 => 2 | 75 => 111 | 85 => 112 | 4 => 4 | 167 => 166 | 5 => 5 | 53 => 167 | 175 => 168 | 46 => 141 | 168 => 170 | 37 => 97 | 0 => 0 | 210 => 191 | 21 => 21 | 127 => 201 | 145 => 204 | 143 => 202 | 171 => 194 | 173 => 197 | 212 => 206 | 51 => 173 | 20 => 20 | 213 => 207 | 232 => 211 | 233 => 212 | 80 => 85 | n => n, fun | 15 => 3 | 16 => 4 | 17 => 5 | 18 => 6 | 19 => 7 | n => n⟩
theorem Tryz.parL : Go.Proofs.LaysC.n174 Tryz.prog Tryz.parL_ren := {
 mixed := by kernel_rfl
 f129 := Tryz.func201.trans (congrArg some (by kernel_rfl))
 f171 := Tryz.func194.trans (congrArg some (by kernel_rfl))
 f174 := Tryz.func112.trans (congrArg some (by kernel_rfl))
 f205 := Tryz.func193.trans (congrArg some (by kernel_rfl))
 f243 := Tryz.func199.trans (congrArg some (by kernel_rfl))
 f245 := Tryz.func144.trans (congrArg some (by kernel_rfl))
 f246 := Tryz.func178.trans (congrArg some (by kernel_rfl))
 f247 := Tryz.func143.trans (congrArg some (by kernel_rfl))
 f279 := Tryz.func174.trans (congrArg some (by kernel_rfl))
 f280 := Tryz.func175.trans (congrArg some (by kernel_rfl))
 f281 := Tryz.func176.trans (congrArg some (by kernel_rfl))
 f282 := Tryz.func177.trans (congrArg some (by kernel_rfl))
 f283 := Tryz.func195.trans (congrArg some (by kernel_rfl))
 f284 := Tryz.func196.trans (congrArg some (by kernel_rfl))
 f285 := Tryz.func197.trans (congrArg some (by kernel_rfl))
 f286 := Tryz.func198.trans (congrArg some (by kernel_rfl))
 f287 := Tryz.func173.trans (congrArg some (by kernel_rfl))
 f316 := Tryz.func192.trans (congrArg some (by kernel_rfl))
 f317 := Tryz.func200.trans (congrArg some (by kernel_rfl))
 f318 := Tryz.func202.trans (congrArg some (by kernel_rfl))
 f319 := Tryz.func203.trans (congrArg some (by kernel_rfl))
 f320 := Tryz.func204.trans (congrArg some (by kernel_rfl))
 f321 := Tryz.func190.trans (congrArg some (by kernel_rfl))
 f322 := Tryz.func191.trans (congrArg some (by kernel_rfl))
 f337 := Tryz.func205.trans (congrArg some (by kernel_rfl))
 f338 := Tryz.func206.trans (congrArg some (by kernel_rfl))
 t0 := Tryz.underlying0
 a0 := Tryz.isAgg0
 z0 := Tryz.sizeOf0
 v0 := Tryz.zeroValue0
 t2 := Tryz.underlying2
 a2 := Tryz.isAgg2
 z2 := Tryz.sizeOf2
 v2 := Tryz.zeroValue2
 t3 := Tryz.underlying3
 a3 := Tryz.isAgg3
 z3 := Tryz.sizeOf3
 v3 := Tryz.zeroValue3
 t4 := Tryz.underlying4
 a4 := Tryz.isAgg4
 z4 := Tryz.sizeOf4
 v4 := Tryz.zeroValue4
 t5 := Tryz.underlying5
 a5 := Tryz.isAgg5
 z5 := Tryz.sizeOf5
 v5 := Tryz.zeroValue5
 t9 := Tryz.underlying9
 a9 := Tryz.isAgg9
 z9 := Tryz.sizeOf9
 v9 := Tryz.zeroValue9
 t20 := Tryz.underlying20
 a20 := Tryz.isAgg20
 z20 := Tryz.sizeOf20
 v20 := Tryz.zeroValue20
 t21 := Tryz.underlying21
 a21 := Tryz.isAgg21
 z21 := Tryz.sizeOf21
 v21 := Tryz.zeroValue21
 t37 := Tryz.underlying97
 a37 := Tryz.isAgg97
 z37 := Tryz.sizeOf97
 v37 := Tryz.zeroValue97
 t46 := Tryz.underlying141
 a46 := Tryz.isAgg141
 z46 := Tryz.sizeOf141
 v46 := Tryz.zeroValue141
 t51 := Tryz.underlying173
 a51 := Tryz.isAgg173
 z51 := Tryz.sizeOf173
 v51 := Tryz.zeroValue173
 t53 := Tryz.underlying167
 a53 := Tryz.isAgg167
 z53 := Tryz.sizeOf167
 v53 := Tryz.zeroValue167
 t75 := Tryz.underlying111
 a75 := Tryz.isAgg111
 z75 := Tryz.sizeOf111
 v75 := Tryz.zeroValue111
 t85 := Tryz.underlying112
 a85 := Tryz.isAgg112
 z85 := Tryz.sizeOf112
 v85 := Tryz.zeroValue112
 t127 := Tryz.underlying201
 a127 := Tryz.isAgg201
 z127 := Tryz.sizeOf201
 v127 := Tryz.zeroValue201
 t143 := Tryz.underlying202
 a143 := Tryz.isAgg202
 z143 := Tryz.sizeOf202
 v143 := Tryz.zeroValue202
 t145 := Tryz.underlying204
 a145 := Tryz.isAgg204
 z145 := Tryz.sizeOf204
 v145 := Tryz.zeroValue204
 t167 := Tryz.underlying166
 a167 := Tryz.isAgg166
 z167 := Tryz.sizeOf166
 v167 := Tryz.zeroValue166
 t168 := Tryz.underlying170
 a168 := Tryz.isAgg170
 z168 := Tryz.sizeOf170
 v168 := Tryz.zeroValue170
 t171 := Tryz.underlying194
 a171 := Tryz.isAgg194
 z171 := Tryz.sizeOf194
 v171 := Tryz.zeroValue194
 t173 := Tryz.underlying197
 a173 := Tryz.isAgg197
 z173 := Tryz.sizeOf197
 v173 := Tryz.zeroValue197
 t175 := Tryz.underlying168
 a175 := Tryz.isAgg168
 z175 := Tryz.sizeOf168
 v175 := Tryz.zeroValue168
 t210 := Tryz.underlying191
 a210 := Tryz.isAgg191
 z210 := Tryz.sizeOf191
 v210 := Tryz.zeroValue191
 t212 := Tryz.underlying206
 a212 := Tryz.isAgg206
 z212 := Tryz.sizeOf206
 v212 := Tryz.zeroValue206
 t213 := Tryz.underlying207
 a213 := Tryz.isAgg207
 z213 := Tryz.sizeOf207
 t232 := Tryz.underlying211
 a232 := Tryz.isAgg211
 z232 := Tryz.sizeOf211
 v232 := Tryz.zeroValue211
 t233 := Tryz.underlying212
 a233 := Tryz.isAgg212
 z233 := Tryz.sizeOf212
 v233 := Tryz.zeroValue212
 g15 := by kernel_rfl
 g16 := by kernel_rfl
 g17 := by kernel_rfl
 g18 := by kernel_rfl
 g19 := by kernel_rfl
 t80 := Tryz.underlying85
 a80 := Tryz.isAgg85
 z80 := Tryz.sizeOf85
 v80 := Tryz.zeroValue85
 i0 := by kernel_rfl
 i2 := by kernel_rfl
 i3 := by kernel_rfl
 i4 := by kernel_rfl
 i5 := by kernel_rfl
 i9 := by kernel_rfl
 i20 := by kernel_rfl
 i21 := by kernel_rfl
 i37 := by kernel_rfl
 i46 := by kernel_rfl
 i51 := by kernel_rfl
 i53 := by kernel_rfl
 i75 := by kernel_rfl
 i80 := by kernel_rfl
 i85 := by kernel_rfl
 i127 := by kernel_rfl
 i143 := by kernel_rfl
 i145 := by kernel_rfl
 i167 := by kernel_rfl
 i168 := by kernel_rfl
 i171 := by kernel_rfl
 i173 := by kernel_rfl
 i175 := by kernel_rfl
 i210 := by kernel_rfl
 i212 := by kernel_rfl
 i232 := by kernel_rfl
 i233 := by kernel_rfl
 m15 := by kernel_rfl
 m16 := by kernel_rfl
 m17 := by kernel_rfl
 m18 := by kernel_rfl
 m19 := by kernel_rfl
 c0 := by kernel_rfl
 c2 := by kernel_rfl
 c3 := by kernel_rfl
 c4 := by kernel_rfl
 c5 := by kernel_rfl
 c9 := by kernel_rfl
 c20 := by kernel_rfl
 c21 := by kernel_rfl
 c37 := by kernel_rfl
 c46 := by kernel_rfl
 c51 := by kernel_rfl
 c53 := by kernel_rfl
 c75 := by kernel_rfl
 c80 := by kernel_rfl
 c85 := by kernel_rfl
 c127 := by kernel_rfl
 c143 := by kernel_rfl
 c145 := by kernel_rfl
 c167 := by kernel_rfl
 c168 := by kernel_rfl
 c171 := by kernel_rfl
 c173 := by kernel_rfl
 c175 := by kernel_rfl
 c210 := by kernel_rfl
 c212 := by kernel_rfl
 c213 := by kernel_rfl
 c232 := by kernel_rfl
 c233 := by kernel_rfl }
def Tryz.fmtL_ren : Go.Shelf.Ren := ⟨fun | 173 => 145 | 246 => 178 | 283 => 195 | 284 => 196 | 285 => 197 | 286 => 198 | 129 => 201 | 317 => 200 | 318 => 202 | 319 => 203 | 320 => 204 | 337 => 205 | 338 => 206 | n => n, fun | 2 => 2 | 3 => 3 | 9 => 9 | 4 => 4 | 171 => 194 | 0 => 0 | 53 => 167 | 37 => 97 | 5 => 5 | 173 => 197 | 212 => 206 | 51 => 173 | 20 => 20 | 213 => 207 | 46 => 141 | 232 => 211 | 233 => 212 | n => n, fun | 17 => 5 | 18 => 6 | 19 => 7 | n => n⟩
theorem Tryz.fmtL : Go.Proofs.LaysM.n173 Tryz.prog Tryz.fmtL_ren := {
 mixed := by kernel_rfl
 f129 := Tryz.func201.trans (congrArg some (by kernel_rfl))
 f173 := Tryz.func145.trans (congrArg some (by kernel_rfl))
 f246 := Tryz.func178.trans (congrArg some (by kernel_rfl))
 f283 := Tryz.func195.trans (congrArg some (by kernel_rfl))
 f284 := Tryz.func196.trans (congrArg some (by kernel_rfl))
 f285 := Tryz.func197.trans (congrArg some (by kernel_rfl))
 f286 := Tryz.func198.trans (congrArg some (by kernel_rfl))
 f317 := Tryz.func200.trans (congrArg some (by kernel_rfl))
 f318 := Tryz.func202.trans (congrArg some (by kernel_rfl))
 f319 := Tryz.func203.trans (congrArg some (by kernel_rfl))
 f320 := Tryz.func204.trans (congrArg some (by kernel_rfl))
 f337 := Tryz.func205.trans (congrArg some (by kernel_rfl))
 f338 := Tryz.func206.trans (congrArg some (by kernel_rfl))
 t0 := Tryz.underlying0
 a0 := Tryz.isAgg0
 z0 := Tryz.sizeOf0
 v0 := Tryz.zeroValue0
 t2 := Tryz.underlying2
 a2 := Tryz.isAgg2
 z2 := Tryz.sizeOf2
 v2 := Tryz.zeroValue2
 t3 := Tryz.underlying3
 a3 := Tryz.isAgg3
 z3 := Tryz.sizeOf3
 v3 := Tryz.zeroValue3
 t4 := Tryz.underlying4
 a4 := Tryz.isAgg4
 z4 := Tryz.sizeOf4
 v4 := Tryz.zeroValue4
 t5 := Tryz.underlying5
 a5 := Tryz.isAgg5
 z5 := Tryz.sizeOf5
 v5 := Tryz.zeroValue5
 t9 := Tryz.underlying9
 a9 := Tryz.isAgg9
 z9 := Tryz.sizeOf9
 v9 := Tryz.zeroValue9
 t20 := Tryz.underlying20
 a20 := Tryz.isAgg20
 z20 := Tryz.sizeOf20
 v20 := Tryz.zeroValue20
 t37 := Tryz.underlying97
 a37 := Tryz.isAgg97
 z37 := Tryz.sizeOf97
 v37 := Tryz.zeroValue97
 t46 := Tryz.underlying141
 a46 := Tryz.isAgg141
 z46 := Tryz.sizeOf141
 v46 := Tryz.zeroValue141
 t51 := Tryz.underlying173
 a51 := Tryz.isAgg173
 z51 := Tryz.sizeOf173
 v51 := Tryz.zeroValue173
 t53 := Tryz.underlying167
 a53 := Tryz.isAgg167
 z53 := Tryz.sizeOf167
 v53 := Tryz.zeroValue167
 t171 := Tryz.underlying194
 a171 := Tryz.isAgg194
 z171 := Tryz.sizeOf194
 v171 := Tryz.zeroValue194
 t173 := Tryz.underlying197
 a173 := Tryz.isAgg197
 z173 := Tryz.sizeOf197
 v173 := Tryz.zeroValue197
 t212 := Tryz.underlying206
 a212 := Tryz.isAgg206
 z212 := Tryz.sizeOf206
 v212 := Tryz.zeroValue206
 t213 := Tryz.underlying207
 a213 := Tryz.isAgg207
 z213 := Tryz.sizeOf207
 t232 := Tryz.underlying211
 a232 := Tryz.isAgg211
 z232 := Tryz.sizeOf211
 v232 := Tryz.zeroValue211
 t233 := Tryz.underlying212
 a233 := Tryz.isAgg212
 z233 := Tryz.sizeOf212
 v233 := Tryz.zeroValue212
 g17 := by kernel_rfl
 g18 := by kernel_rfl
 g19 := by kernel_rfl
 i0 := by kernel_rfl
 i2 := by kernel_rfl
 i3 := by kernel_rfl
 i4 := by kernel_rfl
 i5 := by kernel_rfl
 i9 := by kernel_rfl
 i20 := by kernel_rfl
 i37 := by kernel_rfl
 i46 := by kernel_rfl
 i51 := by kernel_rfl
 i53 := by kernel_rfl
 i171 := by kernel_rfl
 i173 := by kernel_rfl
 i212 := by kernel_rfl
 i232 := by kernel_rfl
 i233 := by kernel_rfl
 m17 := by kernel_rfl
 m18 := by kernel_rfl
 m19 := by kernel_rfl }
end Go.Proofs
