/- One state told as another; a call met by its contract; small lemmas for the evaluation. -/
import Derived.Test.YtkolabjcmephaaaGov12
set_option linter.unusedSimpArgs false
set_option linter.unusedVariables false
namespace Go.Gov
variable {P : Program} {N : Nat} {g : Gh} {F : Frame} {H : Heap} {a : Act} {w : World} {M : List Nat} {n0 : Nat}

theorem Ref.refl : Ref n0 F H F H := fun _ g _ _ hR => ⟨g, hR, .refl hR.hp⟩
theorem Ref.trans {F' F'' : Frame} {H' H'' : Heap} (h : Ref n0 F H F' H') (k : Ref n0 F' H' F'' H'') : Ref n0 F H F'' H'' := fun N g a w hR => by
  obtain ⟨g', hR', hm⟩ := h N g a w hR
  obtain ⟨g'', hR'', hm'⟩ := k N g' a w hR'
  exact ⟨g'', hR'', hm.trans hm'⟩

/-- Each slot that is told is told truly. -/
def sub (F : Frame) : Frame → Prop
  | [] => True
  | (j, x) :: l => fget F j = x ∧ sub F l

theorem sub_get : ∀ {F' : Frame}, sub F F' → ∀ j, fget F' j = .any ∨ fget F' j = fget F j
  | [], _, _ => .inl rfl
  | (i, x) :: l, h, j => by
    simp only [get_put]
    by_cases e : i = j
    · rw [if_pos e]; right; rw [← e]; exact h.1.symm
    · rw [if_neg e]; exact sub_get h.2 j

theorem Ref.frame {F' : Frame} (h : sub F F') : Ref n0 F H F' H := fun N g a w hR => by
  refine ⟨g, ⟨fun j => ?_, hR.hp, hR.size, hR.defers⟩, .refl hR.hp⟩
  rcases sub_get h j with e | e
  · rw [e]; exact .any
  · rw [e]; exact hR.fr j

def condQ (F : Frame) (c : AX) (X Y : Prop) : Prop := match st (ax F c) with
  | .val (.bool b) => stOk (ax F c) ∧ (b = true → X) ∧ (b = false → Y)
  | _ => False

theorem W_cond2 {Q : Exit → Frame → Heap → Prop} {c : AX} {x y : ACode} (h : condQ F c (W P M N n0 x Q F H) (W P M N n0 y Q F H)) : W P M N n0 (.cond c x y) Q F H := by
  unfold condQ at h
  split at h
  · rename_i b hb; exact W_cond hb h.1 h.2.1 h.2.2
  · exact h.elim

theorem inI64_mk {n : Int} (h1 : -9223372036854775808 ≤ n) (h2 : n ≤ 9223372036854775807) : inI64 n := ⟨h1, h2⟩
theorem toNat_pred (x : Nat) : ((x : Int) - 1).toNat = x - 1 := by omega
theorem toNat_succ (x : Nat) : ((x : Int) + 1).toNat = x + 1 := by omega
theorem beqT (b : Bool) : (b == true) = b := by cases b <;> rfl
theorem beqF (b : Bool) : (b == false) = !b := by cases b <;> rfl

theorem retQ_none (K : AV → Heap → Prop) : retQ [] K F H = K (.tup []) H := by simp [retQ]
theorem retQ_one (a : AOp) (K : AV → Heap → Prop) : retQ [a] K F H = (qOk a F H ∧ K (qVal a F H) H) := rfl
theorem retQ_two (a b : AOp) (K : AV → Heap → Prop) : retQ [a, b] K F H = (qOk a F H ∧ qOk b F H ∧ K (.tup [qVal a F H, qVal b F H]) H) := by simp [retQ, and_assoc]
theorem retQ_three (a b c : AOp) (K : AV → Heap → Prop) : retQ [a, b, c] K F H = (qOk a F H ∧ qOk b F H ∧ qOk c F H ∧ K (.tup [qVal a F H, qVal b F H, qVal c F H]) H) := by simp [retQ, and_assoc]
/-- The operations to come, told a few at a time. -/
def Later (P : Program) (ext : Bool) (l : List GOp) (K : Frame → Heap → Prop) (F : Frame) (H : Heap) : Prop := EvOps P ext l K F H
@[congr] theorem Later_congr {ext : Bool} {l : List GOp} {K : Frame → Heap → Prop} {F' : Frame} {H' : Heap} (hF : F = F') (hH : H = H') : Later P ext l K F H = Later P ext l K F' H' := by rw [hF, hH]
theorem W_ops2 {Q : Exit → Frame → Heap → Prop} {h t : List GOp} (hE : Later P true h (Later P false t (Q .normal)) F H) : W P M N n0 (.ops h t) Q F H := W_ops hE
theorem Later_nil {ext : Bool} {K : Frame → Heap → Prop} (h : K F H) : Later P ext [] K F H := h
theorem Later_five {ext : Bool} {K : Frame → Heap → Prop} {x1 x2 x3 x4 x5 x6 : GOp} {l : List GOp} (h : EvOps P ext [x1, x2, x3, x4, x5] (Later P ext (x6 :: l) K) F H) : Later P ext (x1 :: x2 :: x3 :: x4 :: x5 :: x6 :: l) K F H := h
theorem Later_all {ext : Bool} {K : Frame → Heap → Prop} {l : List GOp} (h : EvOps P ext l K F H) : Later P ext l K F H := h

/-- A contract that knows no heap. -/
def Pure (P : Program) (f : FuncId) (args : List AV) (x : AV) (H0 : Heap) : Prop := CallsX P true f args [] fun av H' => av = x ∧ H' = H0

theorem pure_of_W {f : FuncId} {ac : ACode} {rs : List AOp} {args : List AV} {x : AV} {H0 : Heap} (hc : compileFn P M f = some (N, ac, rs)) (hl : decide (args.length ≤ N) = true) (hW : W P M N 0 ac (endQ rs fun av H' => av = x ∧ H' = H0) (mkF 0 args) []) : Pure P f args x H0 :=
  (calls_of_W hc (of_decide_eq_true hl) hW).ext_nil

theorem call_pure {ext : Bool} {f : FuncId} {args args' : List AV} {x : AV} {H0 : Heap} {K : AV → Heap → Prop} (h : Pure P f args x H0) (ha : args'.map (frz H 6) = args) (hx : nf 6 x = true) (hH : nfH 6 H0 = true) (hK : K (shf H.length 6 x) (H ++ shfH H.length 6 H0)) : CallsX P ext f args' H K :=
  ((CallsX.lift h 6 6 ha.symm (by rintro av H' ⟨rfl, rfl⟩; exact ⟨hx, hH⟩)).weak).mono (by rintro av H' ⟨av0, H0', ⟨rfl, rfl⟩, rfl, rfl⟩; exact hK)

/-! ### Small lemmas for the evaluation -/

theorem map_frz_ints (H : Heap) (d : Nat) (xs : List Int) : (intsC xs).map (frz H (d + 1)) = intsC xs := by simp [intsC, frz]
theorem map_frz_bools (H : Heap) (d : Nat) (xs : List Bool) : (boolsC xs).map (frz H (d + 1)) = boolsC xs := by simp [boolsC, frz]
theorem frz_ints (H : Heap) (d : Nat) (xs : List Int) : frz H (d + 2) (ints xs) = ints xs := by simp only [ints, frz]; rw [map_frz_ints]
theorem frz_bools (H : Heap) (d : Nat) (xs : List Bool) : frz H (d + 2) (bools xs) = bools xs := by simp only [bools, frz]; rw [map_frz_bools]
theorem map_frz_rows (H : Heap) (d : Nat) (xss : List (List Int)) : (xss.map ints).map (frz H (d + 2)) = xss.map ints := by
  rw [List.map_map]; exact List.map_congr_left fun xs _ => frz_ints H d xs
theorem frz_mat (H : Heap) (d : Nat) (xss : List (List Int)) : frz H (d + 3) (mat xss) = mat xss := by simp only [mat, frz]; rw [map_frz_rows]
theorem frz_oints (H : Heap) (d : Nat) (xs : List Int) : frz H (d + 2) (oints xs) = ints xs := by simp only [oints, frz]; rw [map_frz_ints]
theorem map_frz_orows (H : Heap) (d : Nat) (xss : List (List Int)) : (xss.map oints).map (frz H (d + 2)) = xss.map ints := by
  rw [List.map_map]; exact List.map_congr_left fun xs _ => frz_oints H d xs

theorem map_shf_ints (n d : Nat) (xs : List Int) : (intsC xs).map (shf n d) = intsC xs := by cases d <;> simp [intsC, shf]
theorem map_shf_bools (n d : Nat) (xs : List Bool) : (boolsC xs).map (shf n d) = boolsC xs := by cases d <;> simp [boolsC, shf]
theorem shf_oints (n d : Nat) (xs : List Int) : shf n d (oints xs) = oints xs := by
  cases d with
  | zero => rfl
  | succ d => simp only [oints, shf]; rw [map_shf_ints]
theorem map_shf_orows (n d : Nat) (xss : List (List Int)) : (xss.map oints).map (shf n d) = xss.map oints := by
  rw [List.map_map]; exact List.map_congr_left fun xs _ => shf_oints n d xs
theorem all_nf_ints (d : Nat) (xs : List Int) : (intsC xs).all (nf (d + 1)) = true := by simp [intsC, nf]
theorem all_nf_bools (d : Nat) (xs : List Bool) : (boolsC xs).all (nf (d + 1)) = true := by simp [boolsC, nf]
theorem nf_oints (d : Nat) (xs : List Int) : nf (d + 2) (oints xs) = true := by simp only [oints, nf]; exact all_nf_ints d xs
theorem all_nf_orows (d : Nat) (xss : List (List Int)) : (xss.map oints).all (nf (d + 2)) = true := by
  rw [List.all_map]; exact List.all_eq_true.2 fun xs _ => nf_oints d xs

theorem len_intsC (xs : List Int) : (intsC xs).length = xs.length := by simp [intsC]
theorem len_boolsC (xs : List Bool) : (boolsC xs).length = xs.length := by simp [boolsC]
theorem getD_intsC (xs : List Int) (i : Nat) : (intsC xs).getD i (.val (.int .i64 0)) = i64 (xs.getD i 0) := by
  by_cases h : i < xs.length <;> simp [intsC, h]
theorem getD_boolsC (xs : List Bool) (i : Nat) : (boolsC xs).getD i (bl false) = bl (xs.getD i false) := by
  by_cases h : i < xs.length <;> simp [boolsC, h]
theorem getD_rows (xss : List (List Int)) (i : Nat) : (xss.map ints).getD i (.slc 1 0 []) = ints (xss.getD i []) := by
  by_cases h : i < xss.length
  · simp [h]
  · simp [h, ints, intsC]
theorem plain_intsC (xs : List Int) (i : Nat) : plainC ((intsC xs).getD i .any) = true := by
  by_cases h : i < xs.length
  · simp [intsC, h, plainC]
  · simp [intsC, h, plainC]
theorem plain_boolsC (xs : List Bool) (i : Nat) : plainC ((boolsC xs).getD i .any) = true := by
  by_cases h : i < xs.length
  · simp [boolsC, h, plainC]
  · simp [boolsC, h, plainC]
theorem plain_rows (xss : List (List Int)) (i : Nat) : plainC ((xss.map ints).getD i .any) = true := by
  by_cases h : i < xss.length
  · simp [h, plainC, ints]
  · simp [h, plainC]
theorem plain_val (v : Value) : plainC (.val v) = true := rfl
theorem plain_slc (k n : Nat) (cs : List AV) : plainC (.slc k n cs) = true := rfl
theorem plain_pto (cs : List AV) (j : Nat) : plainC (.pto cs j) = true := rfl
theorem plain_sl (o k off len : Nat) : plainC (.sl o k off len) = true := rfl
theorem plain_ref (o j : Nat) : plainC (.ref o j) = true := rfl
theorem plain_any : plainC .any = true := rfl
theorem take_all_intsC (xs : List Int) : (intsC xs).take (xs.length * 1) = intsC xs := by rw [Nat.mul_one, ← len_intsC xs, List.take_length]
theorem set_intsC (xs : List Int) (i : Nat) (n : Int) : (intsC xs).set i (i64 n) = intsC (xs.set i n) := by simp [intsC, List.map_set]
theorem set_boolsC (xs : List Bool) (i : Nat) (n : Bool) : (boolsC xs).set i (bl n) = boolsC (xs.set i n) := by simp [boolsC, List.map_set]
theorem app_intsC (xs ys : List Int) : intsC xs ++ intsC ys = intsC (xs ++ ys) := by simp [intsC]
theorem one_intsC (n : Int) : [i64 n] = intsC [n] := rfl
theorem rep_intsC (n : Nat) (k : Int) : List.replicate n (AV.val (.int .i64 k)) = intsC (List.replicate n k) := by simp [intsC]
theorem rep_boolsC (n : Nat) (k : Bool) : List.replicate n (AV.val (.bool k)) = boolsC (List.replicate n k) := by simp [boolsC]
theorem drop_intsC (xs : List Int) (n : Nat) : (intsC xs).drop n = intsC (xs.drop n) := by simp [intsC]
theorem take_intsC (xs : List Int) (n : Nat) : (intsC xs).take n = intsC (xs.take n) := by simp [intsC]
theorem all_plain_intsC (xs : List Int) : (intsC xs).all plainC = true := by simp [intsC, plainC]
theorem all_one_intsC (xs : List Int) : (intsC xs).all oneA = true := by simp [intsC, oneA, Value.oneCell']
theorem cond_f (b x : Bool) : (bif b then x else false) = (b && x) := by cases b <;> rfl
theorem cond_t (b x : Bool) : (bif b then true else x) = (b || x) := by cases b <;> rfl
theorem gcond_bl (b w : Bool) : gcond (bl b) w = some (b == w) := rfl

end Go.Gov
