/- Texts that belong together. -/
import Derived.Test.YtghhlcioabdpfaaDoorZe
import Derived.Test.YtghhlcioabdpfaaDoorZj
import Derived.Test.YtghhlcioabdpfaaDoorX5
set_option linter.unusedSimpArgs false
set_option linter.unusedVariables false
set_option maxRecDepth 100000
namespace Go.Proofs.YtghhlcioabdpfaaDoor
open Go.Gov
open Classical

def bC (bs : List UInt8) : List AV := bs.map fun b => .val (.int .u8 (b.toNat : Int))
theorem bytA_of (bs : List UInt8) : bytA ⟨bs.toArray⟩ = bC bs := by simp [bytA, bC]
theorem bC_app (a b : List UInt8) : bC a ++ bC b = bC (a ++ b) := by simp [bC]
theorem bC_len (bs : List UInt8) : (bC bs).length = bs.length := by simp [bC]
theorem strA_bC : ∀ bs : List UInt8, strA (bC bs) = some bs
  | [] => rfl
  | b :: bs => by
    have ih := strA_bC bs
    show (strA (bC bs)).map (UInt8.ofNat (b.toNat : Int).toNat :: ·) = _
    rw [ih]
    simp
theorem bC_take (bs : List UInt8) : (bC bs).take bs.length = bC bs := List.take_of_length_le (by rw [bC_len]; exact Nat.le_refl _)
theorem bC_plain (bs : List UInt8) : (bC bs).all plainC = true := List.all_eq_true.2 fun x hx => by
  obtain ⟨y, _, rfl⟩ := List.mem_map.1 hx
  rfl
theorem bC_one (bs : List UInt8) : (bC bs).all oneA = true := List.all_eq_true.2 fun x hx => by
  obtain ⟨y, _, rfl⟩ := List.mem_map.1 hx
  rfl
theorem bC_rnm (τ : Nat → Option Nat) (bs : List UInt8) : rnmL τ (bC bs) = bC bs := by
  rw [rnmL_map]
  exact (List.map_congr_left fun x hx => by
    obtain ⟨y, _, rfl⟩ := List.mem_map.1 hx
    rfl).trans (List.map_id _)
theorem size_of (bs : List UInt8) : (⟨bs.toArray⟩ : ByteArray).size = bs.length := by
  show bs.toArray.size = _
  simp
theorem bC_nf (d : Nat) (bs : List UInt8) : (bC bs).all (nf (d + 1)) = true := List.all_eq_true.2 fun x hx => by
  obtain ⟨y, _, rfl⟩ := List.mem_map.1 hx
  rfl
theorem bC_shr (σ : Nat → Nat) (d : Nat) (bs : List UInt8) : (bC bs).map (shr σ (d + 1)) = bC bs := (List.map_congr_left fun x hx => by
  obtain ⟨y, _, rfl⟩ := List.mem_map.1 hx
  rfl).trans (List.map_id _)
theorem bC_frz (H : Heap) (d : Nat) (bs : List UInt8) : (bC bs).map (frz H (d + 1)) = bC bs := (List.map_congr_left fun x hx => by
  obtain ⟨y, _, rfl⟩ := List.mem_map.1 hx
  rfl).trans (List.map_id _)
attribute [go_sem] bC_nf bC_shr bC_frz bytA_of bC_app bC_len strA_bC bC_take bC_plain bC_one bC_rnm size_of

def smB (n : Nat) : List UInt8 := if n < 10 then [UInt8.ofNat (48 + n)] else [UInt8.ofNat (48 + n / 10), UInt8.ofNat (48 + n % 10)]
def keyB (xs : List Int) : List UInt8 := xs.flatMap fun n => smB n.toNat ++ [32]
theorem smB_len (n : Nat) : (smB n).length ≤ 2 := by
  unfold smB
  split <;> simp

theorem small_c (n : Nat) (hn : n < 100) : Pure Tryd.prog 180 [i64 (n : Int)] (.val (.string ⟨(smB n).toArray⟩)) [] := by
  refine pureV0 ok180 rfl rfl ?_; unfold c180
  (repeat first | simp only [go_sem, ↓reduceIte, Nat.reduceEqDiff, Nat.reduceAdd, reduceCtorEq] | with_reducible refine V_W ?_ | (with_reducible refine And.intro ?_ ?_; focus first | assumption | omega | decide | grind) | (with_reducible refine Br.mk ?_ ?_; focus (intros; omega)) | decide)
  refine ⟨fun hc => ?_, fun hc => ?_⟩
  · refine ⟨by omega, by first | omega | (simp only [List.size_toArray, List.length_cons, List.length_nil, Nat.reduceAdd]; omega), ?_⟩
    (repeat first | simp only [go_sem, ↓reduceIte, Nat.reduceEqDiff, Nat.reduceAdd, reduceCtorEq] | with_reducible refine V_W ?_ | (with_reducible refine And.intro ?_ ?_; focus first | assumption | omega | decide | grind) | (with_reducible refine Br.mk ?_ ?_; focus (intros; omega)) | decide)
    refine congrArg (fun b => AV.val (.string b)) ?_
    have h10 : n < 10 := by omega
    clear hn hc
    revert n
    decide +kernel
  · (repeat first | simp only [go_sem, ↓reduceIte, Nat.reduceEqDiff, Nat.reduceAdd, reduceCtorEq, List.size_toArray, List.length_cons, List.length_nil] | with_reducible refine V_W ?_ | (with_reducible refine And.intro ?_ ?_; focus first | assumption | omega | decide | grind) | (with_reducible refine Br.mk ?_ ?_; focus (intros; omega)) | decide)
    refine congrArg (fun b => AV.val (.string b)) ?_
    rw [show ((n : Int) * 2).toNat = n * 2 by omega, show ((n : Int) * 2 + 2).toNat = n * 2 + 2 by omega]
    have h10 : 10 ≤ n := by omega
    clear hc
    revert n
    decide +kernel

theorem appendUint_w (n : Nat) (bs : List UInt8) (hn : n < 100) (hl : bs.length ≤ 1099511627776) : Wri Tryd.prog 170 [.sl 0 1 0 bs.length, .val (.int .u64 (n : Int)), i64 10] [some (bC bs)] (.sl 1 1 0 (bs ++ smB n).length) [none, some (bC (bs ++ smB n))] := by
  have hs := smB_len n
  refine wriRV ok170 rfl ?_; unfold c170
  (repeat first | simp only [go_sem, ↓reduceIte, Nat.reduceEqDiff, Nat.reduceAdd, reduceCtorEq] | with_reducible refine V_W ?_ | (with_reducible refine And.intro ?_ ?_; focus first | assumption | omega | decide | grind) | (with_reducible refine Br.mk ?_ ?_; focus (intros; omega)) | decide)
  refine ⟨fun hc => ?_, fun hc => by omega⟩
  refine ⟨by omega, ?_⟩
  refine pureC (small_c n hn) (by simp only [go_sem, ↓reduceIte, Nat.reduceEqDiff, Nat.reduceAdd, reduceCtorEq] <;> rfl) (by first | rfl | simp only [go_sem, ↓reduceIte, Nat.reduceEqDiff, Nat.reduceAdd, reduceCtorEq]) ?_
  (repeat first | simp only [go_sem, ↓reduceIte, Nat.reduceEqDiff, Nat.reduceAdd, reduceCtorEq] | with_reducible refine V_W ?_ | (with_reducible refine And.intro ?_ ?_; focus first | assumption | omega | decide | grind) | (with_reducible refine Br.mk ?_ ?_; focus (intros; omega)) | decide)
  exact Ref.to rfl (by simp [sub, fget])
theorem wrap_u64 (n : Nat) (hn : n < 100) : IntKind.u64.wrap (n : Int) = n := by
  show (if (false && decide ((n : Int) % 2 ^ 64 ≥ 2 ^ (64 - 1))) = true then (n : Int) % 2 ^ 64 - 2 ^ 64 else (n : Int) % 2 ^ 64) = (n : Int)
  rw [Bool.false_and, if_neg (by decide)]
  omega
theorem appendInt1_w (n : Nat) (bs : List UInt8) (hn : n < 100) (hl : bs.length ≤ 1099511627776) : Wri Tryd.prog 151 [.sl 0 1 0 bs.length, i64 (n : Int), i64 10] [some (bC bs)] (.sl 1 1 0 (bs ++ smB n).length) [none, some (bC (bs ++ smB n))] := by
  have hu := appendUint_w n bs hn hl
  generalize bs ++ smB n = b2 at hu ⊢
  have hw := wrap_u64 n hn
  refine wriRV ok151 rfl ?_; unfold c151
  (repeat first | simp only [go_sem, ↓reduceIte, Nat.reduceEqDiff, Nat.reduceAdd, reduceCtorEq] | with_reducible refine V_W ?_ | (with_reducible refine And.intro ?_ ?_; focus first | assumption | omega | decide | grind) | (with_reducible refine Br.mk ?_ ?_; focus (intros; omega)) | decide)
  refine fun _ => ?_
  (repeat first | simp only [go_sem, ↓reduceIte, Nat.reduceEqDiff, Nat.reduceAdd, reduceCtorEq] | with_reducible refine V_W ?_ | (with_reducible refine And.intro ?_ ?_; focus first | assumption | omega | decide | grind) | (with_reducible refine Br.mk ?_ ?_; focus (intros; omega)) | decide)
  simp only [hw, go_sem, ↓reduceIte, Nat.reduceEqDiff, Nat.reduceAdd, reduceCtorEq]
  refine wriC (hu) [0] (by first | rfl | simp) (by simp only [go_sem, ↓reduceIte, Nat.reduceEqDiff, Nat.reduceAdd, reduceCtorEq] <;> rfl) (by simp only [go_sem, ↓reduceIte, Nat.reduceEqDiff, Nat.reduceAdd, reduceCtorEq] <;> rfl) (by first | rfl | simp only [go_sem, ↓reduceIte, Nat.reduceEqDiff, Nat.reduceAdd, reduceCtorEq]) ?_
  (repeat first | simp only [go_sem, ↓reduceIte, Nat.reduceEqDiff, Nat.reduceAdd, reduceCtorEq] | with_reducible refine V_W ?_ | (with_reducible refine And.intro ?_ ?_; focus first | assumption | omega | decide | grind) | (with_reducible refine Br.mk ?_ ?_; focus (intros; omega)) | decide)
  exact Ref.to rfl (by simp [sub, fget])
theorem appendInt_w (n : Nat) (bs : List UInt8) (hn : n < 100) (hl : bs.length ≤ 1099511627776) : Wri Tryd.prog 127 [.sl 0 1 0 bs.length, i64 (n : Int), i64 10] [some (bC bs)] (.sl 1 1 0 (bs ++ smB n).length) [none, some (bC (bs ++ smB n))] := by
  have hu := appendInt1_w n bs hn hl
  generalize bs ++ smB n = b2 at hu ⊢
  refine wriRV ok127 rfl ?_; unfold c127
  (repeat first | simp only [go_sem, ↓reduceIte, Nat.reduceEqDiff, Nat.reduceAdd, reduceCtorEq] | with_reducible refine V_W ?_ | (with_reducible refine And.intro ?_ ?_; focus first | assumption | omega | decide | grind) | (with_reducible refine Br.mk ?_ ?_; focus (intros; omega)) | decide)
  refine wriC (hu) [0] (by first | rfl | simp) (by simp only [go_sem, ↓reduceIte, Nat.reduceEqDiff, Nat.reduceAdd, reduceCtorEq] <;> rfl) (by simp only [go_sem, ↓reduceIte, Nat.reduceEqDiff, Nat.reduceAdd, reduceCtorEq] <;> rfl) (by first | rfl | simp only [go_sem, ↓reduceIte, Nat.reduceEqDiff, Nat.reduceAdd, reduceCtorEq]) ?_
  (repeat first | simp only [go_sem, ↓reduceIte, Nat.reduceEqDiff, Nat.reduceAdd, reduceCtorEq] | with_reducible refine V_W ?_ | (with_reducible refine And.intro ?_ ?_; focus first | assumption | omega | decide | grind) | (with_reducible refine Br.mk ?_ ?_; focus (intros; omega)) | decide)
  exact Ref.to rfl (by simp [sub, fget])
theorem keyB_take (xs : List Int) (i : Nat) (h : i < xs.length) : keyB (xs.take (i + 1)) = keyB (xs.take i) ++ smB (xs.getD i 0).toNat ++ [32] := by
  unfold keyB
  rw [List.take_succ_eq_append_getElem h, List.flatMap_append]
  simp [h]
theorem keyB_len : ∀ (xs : List Int), (keyB xs).length ≤ 3 * xs.length
  | [] => by simp [keyB]
  | x :: xs => by
    have h1 := keyB_len xs
    have h2 := smB_len x.toNat
    unfold keyB at *
    simp only [List.flatMap_cons, List.length_append, List.length_cons, List.length_nil]
    omega
theorem keyOf_c (xs : List Int) (hx : ∀ i, i < xs.length → 0 ≤ xs.getD i 0 ∧ xs.getD i 0 < 100) (hl : xs.length ≤ 1048576) : Pure Tryd.prog 89 [ints xs] (.val (.string ⟨(keyB xs).toArray⟩)) [] := by
  refine pureV0 ok89 rfl rfl ?_; unfold c89
  (repeat first | simp only [go_sem, ↓reduceIte, Nat.reduceEqDiff, Nat.reduceAdd, reduceCtorEq] | with_reducible refine V_W ?_ | (with_reducible refine And.intro ?_ ?_; focus first | assumption | omega | decide | grind) | (with_reducible refine Br.mk ?_ ?_; focus (intros; omega)) | decide)
  refine V_loop (α := Nat) (S := fun i => ([(3, .sl 0 1 0 (keyB (xs.take i)).length), (6, ints xs), (7, i64 xs.length), (8, i64 (i : Int))], [some (bC (keyB (xs.take i)))])) (C := fun i => i ≤ xs.length) (μ := fun i => xs.length - i) 0 (Nat.zero_le _) ?_ ?_
  · exact (Ref.nil 3 1 rfl).trans (Ref.to (by simp [keyB, bC]) (by simp [sub, fget, keyB]))
  intro i hi
  have hkl := keyB_len (xs.take i)
  have htl := List.length_take (i := i) (l := xs)
  (repeat first | simp only [go_sem, ↓reduceIte, Nat.reduceEqDiff, Nat.reduceAdd, reduceCtorEq] | with_reducible refine V_W ?_ | (with_reducible refine And.intro ?_ ?_; focus first | assumption | omega | decide | grind) | (with_reducible refine Br.mk ?_ ?_; focus (intros; omega)) | decide)
  refine ⟨fun hc => ?_, fun hc => ?_⟩
  · have hxi := hx i (by omega)
    obtain ⟨n, hn⟩ : ∃ n : Nat, xs.getD i 0 = n := ⟨(xs.getD i 0).toNat, by omega⟩
    have hap := appendInt_w n (keyB (xs.take i)) (by omega) (by omega)
    have hk := keyB_take xs i (by omega)
    rw [hn, Int.toNat_natCast] at hk
    generalize keyB (xs.take i) ++ smB n = b2 at hap hk
    have hb2 : b2.length + 1 = (keyB (xs.take (i + 1))).length := by rw [hk]; simp
    have hkl2 := keyB_len (xs.take (i + 1))
    have htl2 := List.length_take (i := i + 1) (l := xs)
    (repeat first | simp only [go_sem, ↓reduceIte, Nat.reduceEqDiff, Nat.reduceAdd, reduceCtorEq] | with_reducible refine V_W ?_ | (with_reducible refine And.intro ?_ ?_; focus first | assumption | omega | decide | grind) | (with_reducible refine Br.mk ?_ ?_; focus (intros; omega)) | decide)
    simp only [hn, go_sem, ↓reduceIte, Nat.reduceEqDiff, Nat.reduceAdd, reduceCtorEq]
    refine wriC (hap) [0] (by first | rfl | simp) (by simp only [go_sem, ↓reduceIte, Nat.reduceEqDiff, Nat.reduceAdd, reduceCtorEq] <;> rfl) (by simp only [go_sem, ↓reduceIte, Nat.reduceEqDiff, Nat.reduceAdd, reduceCtorEq] <;> rfl) (by first | rfl | simp only [go_sem, ↓reduceIte, Nat.reduceEqDiff, Nat.reduceAdd, reduceCtorEq]) ?_
    (repeat first | simp only [go_sem, ↓reduceIte, Nat.reduceEqDiff, Nat.reduceAdd, reduceCtorEq] | with_reducible refine V_W ?_ | (with_reducible refine And.intro ?_ ?_; focus first | assumption | omega | decide | grind) | (with_reducible refine Br.mk ?_ ?_; focus (intros; omega)) | decide)
    have hb3 : bC b2 ++ [.val (.int .u8 32)] = bC (keyB (xs.take (i + 1))) := by rw [hk]; simp [bC]
    rw [hb3, hb2]
    exact ⟨i + 1, by omega, by omega, Ref.gc [3] rfl (by simp only [go_sem, ↓reduceIte, Nat.reduceEqDiff, Nat.reduceAdd, reduceCtorEq]) (by simp [sub, fget, go_sem, ↓reduceIte, Nat.reduceEqDiff, Nat.reduceAdd, reduceCtorEq])⟩
  · obtain rfl : i = xs.length := by omega
    (repeat first | simp only [go_sem, ↓reduceIte, Nat.reduceEqDiff, Nat.reduceAdd, reduceCtorEq] | with_reducible refine V_W ?_ | (with_reducible refine And.intro ?_ ?_; focus first | assumption | omega | decide | grind) | (with_reducible refine Br.mk ?_ ?_; focus (intros; omega)) | decide)
    rw [List.take_length]
end Go.Proofs.YtghhlcioabdpfaaDoor
set_option maxRecDepth 100000
namespace Go.Proofs.YtghhlcioabdpfaaDoor
open Go.Gov
open Classical

def prt : Nat → List Int → List (List Int)
  | 0, _ => [[]]
  | _ + 1, [] => []
  | k + 1, x :: xs => (prt k xs).map (x :: ·) ++ prt (k + 1) xs
theorem prt_zero (xs : List Int) : prt 0 xs = [[]] := by cases xs <;> rfl
theorem prt_short : ∀ (xs : List Int) (k : Nat), xs.length < k → prt k xs = []
  | [], k + 1, _ => rfl
  | x :: xs, k + 1, h => by
    rw [List.length_cons] at h
    show (prt k xs).map (x :: ·) ++ prt (k + 1) xs = []
    rw [prt_short xs k (by omega), prt_short xs (k + 1) (by omega)]
    rfl
theorem prt_step (xs : List Int) (k i : Nat) (h : i < xs.length) : prt (k + 1) (xs.drop i) = (prt k (xs.drop (i + 1))).map (xs.getD i 0 :: ·) ++ prt (k + 1) (xs.drop (i + 1)) := by
  rw [List.drop_eq_getElem_cons h]
  have : xs.getD i 0 = xs[i] := by simp [h]
  rw [this]
  rfl
theorem prt_len : ∀ (xs : List Int) (k : Nat), (prt k xs).length ≤ 2 ^ xs.length
  | xs, 0 => by rw [prt_zero]; exact Nat.one_le_two_pow
  | [], k + 1 => by simp [prt]
  | x :: xs, k + 1 => by
    have h1 := prt_len xs k
    have h2 := prt_len xs (k + 1)
    have e : (prt (k + 1) (x :: xs)).length = (prt k xs).length + (prt (k + 1) xs).length := by simp [prt]
    rw [e, List.length_cons, Nat.pow_succ]
    omega
theorem prt_mem : ∀ (xs : List Int) (k : Nat) (p : List Int), p ∈ prt k xs ↔ p.Sublist xs ∧ p.length = k
  | xs, 0, p => by
    rw [prt_zero, List.mem_singleton]
    exact ⟨fun h => by subst h; exact ⟨List.nil_sublist _, rfl⟩, fun h => List.length_eq_zero_iff.1 h.2⟩
  | [], k + 1, p => by
    constructor
    · intro h; cases h
    · rintro ⟨h1, h2⟩
      rw [List.sublist_nil.1 h1] at h2
      cases h2
  | x :: xs, k + 1, p => by
    have e : prt (k + 1) (x :: xs) = (prt k xs).map (x :: ·) ++ prt (k + 1) xs := rfl
    rw [e, List.mem_append, List.mem_map, prt_mem xs (k + 1) p]
    constructor
    · rintro (⟨q, hq, rfl⟩ | ⟨h1, h2⟩)
      · obtain ⟨h1, h2⟩ := (prt_mem xs k q).1 hq
        exact ⟨List.Sublist.cons_cons x h1, by rw [List.length_cons, h2]⟩
      · exact ⟨List.Sublist.cons x h1, h2⟩
    · rintro ⟨h1, h2⟩
      cases h1 with
      | cons _ h => exact .inr ⟨h, h2⟩
      | cons_cons _ h => exact .inl ⟨_, (prt_mem xs k _).2 ⟨h, by simpa using h2⟩, rfl⟩
set_option maxHeartbeats 2000000 in
theorem partsOf_p : ∀ (k : Nat) (xs : List Int), xs.length ≤ 6 → k ≤ 100 → Pure Tryd.prog 88 [ints xs, i64 (k : Int)] (.sl 0 1 0 (prt k xs).length) [some ((prt k xs).map oints)]
  | 0, xs, _, _ => by
    refine pureRV ok88 rfl ?_; unfold c88
    (repeat first | simp only [go_sem, ↓reduceIte, Nat.reduceEqDiff, Nat.reduceAdd, reduceCtorEq] | with_reducible refine V_W ?_ | (with_reducible refine And.intro ?_ ?_; focus first | assumption | omega | decide | grind) | (with_reducible refine Br.mk ?_ ?_; focus (intros; omega)) | decide)
    refine ⟨fun _ => ⟨rfl, ?_⟩, fun h => absurd rfl h⟩
    (repeat first | simp only [go_sem, ↓reduceIte, Nat.reduceEqDiff, Nat.reduceAdd, reduceCtorEq] | with_reducible refine V_W ?_ | (with_reducible refine And.intro ?_ ?_; focus first | assumption | omega | decide | grind) | (with_reducible refine Br.mk ?_ ?_; focus (intros; omega)) | decide)
    rw [prt_zero]
    exact Ref.nils 0 1 1 rfl
  | k + 1, xs, hx, hk => by
    have ih := fun ys hy => partsOf_p k ys hy (by omega)
    have hpl := prt_len xs (k + 1)
    have h64 : 2 ^ xs.length ≤ 2 ^ 6 := Nat.pow_le_pow_right (by decide) hx
    refine pureRV ok88 rfl ?_; unfold c88
    (repeat first | simp only [go_sem, ↓reduceIte, Nat.reduceEqDiff, Nat.reduceAdd, reduceCtorEq] | with_reducible refine V_W ?_ | (with_reducible refine And.intro ?_ ?_; focus first | assumption | omega | decide | grind) | (with_reducible refine Br.mk ?_ ?_; focus (intros; omega)) | decide)
    refine fun _ => ?_
    (repeat first | simp only [go_sem, ↓reduceIte, Nat.reduceEqDiff, Nat.reduceAdd, reduceCtorEq] | with_reducible refine V_W ?_ | (with_reducible refine And.intro ?_ ?_; focus first | assumption | omega | decide | grind) | (with_reducible refine Br.mk ?_ ?_; focus (intros; omega)) | decide)
    refine V_loop (α := Nat × List (List Int)) (S := fun q => ([(0, ints xs), (1, i64 ((k + 1 : Nat) : Int)), (5, .sl 0 1 0 q.2.length), (16, i64 ((xs.length : Int) - (k : Int))), (17, i64 (q.1 : Int))], [some (q.2.map oints)])) (C := fun q => q.1 ≤ xs.length ∧ q.2 ++ prt (k + 1) (xs.drop q.1) = prt (k + 1) xs) (μ := fun q => xs.length - q.1) (0, []) ⟨Nat.zero_le _, rfl⟩ ?_ ?_
    · exact (Ref.nil 5 1 rfl).trans (Ref.to (by simp) (by simp [sub, fget]; omega))
    rintro ⟨i, D⟩ ⟨h1, h2⟩
    dsimp only at h1 h2 ⊢
    have hDl := congrArg List.length h2
    rw [List.length_append] at hDl
    (repeat first | simp only [go_sem, ↓reduceIte, Nat.reduceEqDiff, Nat.reduceAdd, reduceCtorEq] | with_reducible refine V_W ?_ | (with_reducible refine And.intro ?_ ?_; focus first | assumption | omega | decide | grind) | (with_reducible refine Br.mk ?_ ?_; focus (intros; omega)) | decide)
    refine ⟨fun hc => ?_, fun hc => ?_⟩
    · have hi : i < xs.length := by omega
      have hst := prt_step xs k i hi
      have hdl : (xs.drop (i + 1)).length = xs.length - (i + 1) := List.length_drop
      have hc := ih (xs.drop (i + 1)) (by omega)
      obtain ⟨R, hR⟩ : ∃ R, R = prt k (xs.drop (i + 1)) := ⟨_, rfl⟩
      rw [← hR] at hc hst
      have hsl : AV.slc 1 ((xs.length : Int) - ((i : Int) + 1)).toNat (List.take ((xs.length : Int) - ((i : Int) + 1)).toNat (List.drop (i + 1) (intsC xs))) = ints (xs.drop (i + 1)) := by
        rw [show ((xs.length : Int) - ((i : Int) + 1)).toNat = xs.length - (i + 1) by omega, List.take_of_length_le (by simp [intsC])]
        simp [intsC]
      have hk1 : ((k + 1 : Nat) : Int) - 1 = (k : Nat) := by omega
      obtain ⟨y, hy⟩ : ∃ y, y = xs.getD i 0 := ⟨_, rfl⟩
      rw [← hy] at hst
      rw [hst] at h2
      have hRl : R.length ≤ 64 := by
        have := congrArg List.length h2
        simp only [List.length_append, List.length_map] at this
        omega
      have hDl2 : D.length + R.length ≤ 64 := by
        have := congrArg List.length h2
        simp only [List.length_append, List.length_map] at this
        omega
      have hRm : ∀ p ∈ R, p.length ≤ 6 := fun p hp => by
        rw [hR] at hp
        have := ((prt_mem _ _ _).1 hp).1.length_le
        omega
      (repeat first | simp only [go_sem, ↓reduceIte, Nat.reduceEqDiff, Nat.reduceAdd, reduceCtorEq] | with_reducible refine V_W ?_ | (with_reducible refine And.intro ?_ ?_; focus first | assumption | omega | decide | grind) | (with_reducible refine Br.mk ?_ ?_; focus (intros; omega)) | decide)
      simp only [hsl, hk1, go_sem, ↓reduceIte, Nat.reduceEqDiff, Nat.reduceAdd, reduceCtorEq]
      refine pureC (hc) (by simp only [go_sem, ↓reduceIte, Nat.reduceEqDiff, Nat.reduceAdd, reduceCtorEq] <;> rfl) (by first | rfl | simp only [go_sem, ↓reduceIte, Nat.reduceEqDiff, Nat.reduceAdd, reduceCtorEq]) ?_
      (repeat first | simp only [go_sem, ↓reduceIte, Nat.reduceEqDiff, Nat.reduceAdd, reduceCtorEq] | with_reducible refine V_W ?_ | (with_reducible refine And.intro ?_ ?_; focus first | assumption | omega | decide | grind) | (with_reducible refine Br.mk ?_ ?_; focus (intros; omega)) | decide)
      have htk : ∀ Hx : Heap, (List.take R.length (R.map oints)).map (frz Hx 5) = R.map ints := fun Hx => by
        rw [List.take_of_length_le (by simp), List.map_map]
        refine List.map_congr_left fun z _ => ?_
        simp [frz, intsC]
      refine V_ref (Ref.sel [0] (F' := [(0, ints xs), (1, i64 ((k + 1 : Nat) : Int)), (5, .sl 0 1 0 D.length), (6, i64 (i : Int)), (16, i64 ((xs.length : Int) - (k : Int))), (17, i64 (i : Int)), (26, mat R), (27, i64 (R.length : Int)), (28, i64 0)]) (H' := [some (D.map oints)]) rfl ?_ ?_) ?_
      · simp only [vwH, go_sem, ↓reduceIte, Nat.reduceEqDiff, Nat.reduceAdd, reduceCtorEq]
        rw [List.map_map]
        exact congrArg (fun z => [some z]) (List.map_congr_left fun z _ => by simp [vwC, go_sem, ↓reduceIte, Nat.reduceEqDiff, Nat.reduceAdd, reduceCtorEq])
      · simp only [vwF, go_sem, ↓reduceIte, Nat.reduceEqDiff, Nat.reduceAdd, reduceCtorEq]
        simp [sub, fget]
      (repeat first | simp only [go_sem, ↓reduceIte, Nat.reduceEqDiff, Nat.reduceAdd, reduceCtorEq] | with_reducible refine V_W ?_ | (with_reducible refine And.intro ?_ ?_; focus first | assumption | omega | decide | grind) | (with_reducible refine Br.mk ?_ ?_; focus (intros; omega)) | decide)
      refine V_loop (α := Nat) (S := fun j => ([(0, ints xs), (1, i64 ((k + 1 : Nat) : Int)), (5, .sl 0 1 0 (D ++ (R.take j).map (y :: ·)).length), (6, i64 (i : Int)), (16, i64 ((xs.length : Int) - (k : Int))), (17, i64 (i : Int)), (26, mat R), (27, i64 (R.length : Int)), (28, i64 (j : Int))], [some ((D ++ (R.take j).map (y :: ·)).map oints)])) (C := fun j => j ≤ R.length) (μ := fun j => R.length - j) 0 (Nat.zero_le _) ?_ ?_
      · exact Ref.to (by simp) (by simp [sub, fget])
      intro j hj
      obtain ⟨E, hE⟩ : ∃ E, E = D ++ (R.take j).map (y :: ·) := ⟨_, rfl⟩
      have hEl : E.length = D.length + j := by rw [hE]; simp; omega
      rw [← hE]
      (repeat first | simp only [go_sem, ↓reduceIte, Nat.reduceEqDiff, Nat.reduceAdd, reduceCtorEq] | with_reducible refine V_W ?_ | (with_reducible refine And.intro ?_ ?_; focus first | assumption | omega | decide | grind) | (with_reducible refine Br.mk ?_ ?_; focus (intros; omega)) | decide)
      refine ⟨fun hc3 => ?_, fun hc3 => ?_⟩
      · have hjR : j < R.length := by omega
        obtain ⟨z, hz⟩ : ∃ z, z = R.getD j [] := ⟨_, rfl⟩
        have hzl : z.length ≤ 6 := hRm z (by rw [hz, List.getD_eq_getElem?_getD, List.getElem?_eq_getElem hjR]; exact List.getElem_mem hjR)
        have hE2 : D ++ (R.take (j + 1)).map (y :: ·) = E ++ [y :: z] := by
          rw [List.take_succ_eq_append_getElem hjR, hE, List.map_append]
          have : R[j] = z := by rw [hz]; simp [hjR]
          simp [this]
        (repeat first | simp only [go_sem, ↓reduceIte, Nat.reduceEqDiff, Nat.reduceAdd, reduceCtorEq] | with_reducible refine V_W ?_ | (with_reducible refine And.intro ?_ ?_; focus first | assumption | omega | decide | grind) | (with_reducible refine Br.mk ?_ ?_; focus (intros; omega)) | decide)
        simp only [← hz, ← hy, go_sem, ↓reduceIte, Nat.reduceEqDiff, Nat.reduceAdd, reduceCtorEq]
        refine ⟨j + 1, by omega, by omega, ?_⟩
        rw [hE2]
        refine (Ref.close 4 E.length 2 (k := 1) (n := 1 + z.length) (cs := E.map oints ++ [.sl 2 1 0 (1 + z.length)]) (cs2 := intsC (y :: z)) rfl (by simp) rfl (by decide) (by simp [intsC]; omega)).trans (Ref.gc [4] rfl ?_ (by simp [sub, fget, go_sem, ↓reduceIte, Nat.reduceEqDiff, Nat.reduceAdd, reduceCtorEq, hE]; omega))
        simp [go_sem, ↓reduceIte, Nat.reduceEqDiff, Nat.reduceAdd, reduceCtorEq]
        omega
      · obtain rfl : j = R.length := by omega
        rw [List.take_length] at hE
        (repeat first | simp only [go_sem, ↓reduceIte, Nat.reduceEqDiff, Nat.reduceAdd, reduceCtorEq] | with_reducible refine V_W ?_ | (with_reducible refine And.intro ?_ ?_; focus first | assumption | omega | decide | grind) | (with_reducible refine Br.mk ?_ ?_; focus (intros; omega)) | decide)
        refine ⟨(i + 1, E), ⟨by simp only; omega, by rw [← h2, hE, List.append_assoc]⟩, by simp only; omega, ?_⟩
        exact Ref.to rfl (by simp [sub, fget])
    · have hsh : prt (k + 1) (xs.drop i) = [] := prt_short _ _ (by rw [List.length_drop]; omega)
      rw [hsh, List.append_nil] at h2
      rw [← h2]
      (repeat first | simp only [go_sem, ↓reduceIte, Nat.reduceEqDiff, Nat.reduceAdd, reduceCtorEq] | with_reducible refine V_W ?_ | (with_reducible refine And.intro ?_ ?_; focus first | assumption | omega | decide | grind) | (with_reducible refine Br.mk ?_ ?_; focus (intros; omega)) | decide)
      exact Ref.to rfl (by simp [sub, fget])
end Go.Proofs.YtghhlcioabdpfaaDoor
set_option maxRecDepth 100000
namespace Go.Proofs.YtghhlcioabdpfaaDoor
open Go.Gov
open Classical

def Sml (p : List Int) : Prop := ∀ x ∈ p, 0 ≤ x ∧ x < 100
theorem Sml.at {p : List Int} (h : Sml p) (i : Nat) (hi : i < p.length) : 0 ≤ p.getD i 0 ∧ p.getD i 0 < 100 := by
  refine h _ ?_
  rw [List.getD_eq_getElem?_getD, List.getElem?_eq_getElem hi]
  exact List.getElem_mem hi
theorem Sml.sub {p q : List Int} (h : Sml q) (hs : p.Sublist q) : Sml p := fun x hx => h x (hs.subset hx)
def dec (l : List UInt8) : Nat := l.foldl (fun a b => a * 10 + (b.toNat - 48)) 0
theorem dec_smB (n : Nat) (h : n < 100) : dec (smB n) = n := by
  revert n
  decide +kernel
theorem smB_no (n : Nat) (h : n < 100) : (32 : UInt8) ∉ smB n := by
  revert n
  decide +kernel
theorem cut_inj {A A' B B' : List UInt8} (hA : (32 : UInt8) ∉ A) (hA' : (32 : UInt8) ∉ A') (h : A ++ 32 :: B = A' ++ 32 :: B') : A = A' ∧ B = B' := by
  induction A generalizing A' with
  | nil =>
    cases A' with
    | nil => exact ⟨rfl, by simpa using h⟩
    | cons a A' =>
      rw [List.nil_append, List.cons_append, List.cons.injEq] at h
      exact absurd (by rw [h.1]; exact List.mem_cons_self) hA'
  | cons a A ih =>
    cases A' with
    | nil =>
      rw [List.nil_append, List.cons_append, List.cons.injEq] at h
      exact absurd (by rw [← h.1]; exact List.mem_cons_self) hA
    | cons a' A' =>
      rw [List.cons_append, List.cons_append, List.cons.injEq] at h
      obtain ⟨h1, h2⟩ := ih (fun hm => hA (List.mem_cons_of_mem _ hm)) (fun hm => hA' (List.mem_cons_of_mem _ hm)) h.2
      exact ⟨by rw [h.1, h1], h2⟩
theorem keyB_cons (x : Int) (xs : List Int) : keyB (x :: xs) = smB x.toNat ++ 32 :: keyB xs := by simp [keyB]
theorem keyB_inj : ∀ {p q : List Int}, Sml p → Sml q → keyB p = keyB q → p = q
  | [], [], _, _, _ => rfl
  | [], y :: q, _, _, h => by rw [keyB_cons] at h; simp [keyB] at h
  | x :: p, [], _, _, h => by rw [keyB_cons] at h; simp [keyB] at h
  | x :: p, y :: q, hp, hq, h => by
    rw [keyB_cons, keyB_cons] at h
    have hx := hp x List.mem_cons_self
    have hy := hq y List.mem_cons_self
    obtain ⟨h1, h2⟩ := cut_inj (smB_no _ (by omega)) (smB_no _ (by omega)) h
    have e := congrArg dec h1
    rw [dec_smB _ (by omega), dec_smB _ (by omega)] at e
    have ih := keyB_inj (fun z hz => hp z (List.mem_cons_of_mem _ hz)) (fun z hz => hq z (List.mem_cons_of_mem _ hz)) h2
    rw [ih, show x = y by omega]
def kT (p : List Int) : ByteArray := ⟨(keyB p).toArray⟩
theorem kT_inj {p q : List Int} (hp : Sml p) (hq : Sml q) (h : kT p = kT q) : p = q := by
  refine keyB_inj hp hq ?_
  have : (keyB p).toArray = (keyB q).toArray := congrArg ByteArray.data h
  simpa using congrArg Array.toList this
theorem kT_c (xs : List Int) (hx : Sml xs) (hl : xs.length ≤ 1048576) : Pure Tryd.prog 89 [ints xs] (.val (.string (kT xs))) [] := keyOf_c xs hx.at hl
def MapIs (l : List (ByteArray × Bool)) (S : ByteArray → Prop) : Prop := ∀ n, ilook n l = if S n then some true else none
theorem MapIs.nil : MapIs [] fun _ => False := fun n => by rw [if_neg id]; rfl
theorem MapIs.put {l : List (ByteArray × Bool)} {S : ByteArray → Prop} (h : MapIs l S) (n : ByteArray) : MapIs (iput n true l) fun m => S m ∨ m = n := fun m => by
  rw [ilook_iput]
  by_cases e : m = n
  · subst e
    rw [if_pos (by simp), if_pos (.inr rfl)]
  · rw [if_neg (by simpa using e), h m]
    by_cases hs : S m
    · rw [if_pos hs, if_pos (.inl hs)]
    · rw [if_neg hs, if_neg (by rintro (h | h); exact hs h; exact e h)]
theorem MapIs.same {l : List (ByteArray × Bool)} {S T : ByteArray → Prop} (h : MapIs l S) (hs : ∀ n, S n ↔ T n) : MapIs l T := fun n => by
  rw [h n]
  by_cases hx : S n
  · rw [if_pos hx, if_pos ((hs n).1 hx)]
  · rw [if_neg hx, if_neg fun h => hx ((hs n).2 h)]
def bV (b : Bool) : AV := .val (.bool b)
theorem smap_bV (l : List (ByteArray × Bool)) : smap (fun x => .val (.bool x)) l = smap bV l := rfl
theorem mput_bV (l : List (ByteArray × Bool)) (n : ByteArray) (b : Bool) : mput (.string n) (.val (.bool b)) (smap bV l) = smap bV (iput n b l) := mput_smap bV l n b
attribute [go_sem] smap_bV mput_bV
end Go.Proofs.YtghhlcioabdpfaaDoor
