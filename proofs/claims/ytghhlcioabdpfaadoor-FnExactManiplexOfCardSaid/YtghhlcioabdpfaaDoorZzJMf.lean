/- FnExactManiplexOf: the given statement. -/
import Derived.LaidSub
import Derived.MakeChecks
import Derived.Test.YtghhlcioabdpfaaDoorRows
import Derived.Test.YtghhlcioabdpfaaDoorCards
import Derived.Test.YtghhlcioabdpfaaDoorTie
import Derived.ProofKit
import Derived.LaidMore
import Derived.SevenTiedAt
import Derived.Lib.SmallJoins
import Derived.OpenShut
import Derived.Test.YtghhlcioabdpfaaDoorZa
import Derived.Test.YtghhlcioabdpfaaDoorZh
import Derived.Test.YtghhlcioabdpfaaDoorZj
import Derived.Test.YtghhlcioabdpfaaDoorZp
import Derived.Test.YtghhlcioabdpfaaDoorZy
import Derived.Test.YtghhlcioabdpfaaDoorW1
import Derived.Test.YtghhlcioabdpfaaDoorW3
import Derived.Test.YtghhlcioabdpfaaDoorW4
import Derived.Test.YtghhlcioabdpfaaDoorW6
set_option linter.unusedSimpArgs false
set_option linter.unusedVariables false
set_option maxRecDepth 100000
namespace Go.Proofs.YtghhlcioabdpfaaDoor
open Go.Gov Go.Fl Go.Kz
open Classical

noncomputable def mvM (X : List (List Int)) (k : Nat) : List (List Int) := (List.range k).map fun i => mvL X i X.length
theorem mvM_len (X : List (List Int)) (k : Nat) : (mvM X k).length = k := by simp [mvM]
theorem mvM_succ (X : List (List Int)) (k : Nat) : mvM X (k + 1) = mvM X k ++ [mvL X k X.length] := by simp [mvM, List.range_succ]
set_option maxHeartbeats 8000000 in
theorem l03Maniplex_p (r : Int) (R : List Int) (B : List (List Int)) (X : List (List Int)) (hr1 : 1 ≤ r) (hr5 : r ≤ 5) (hX : Fs r.toNat X) (hT : Tws X r.toNat) (hN : X.length ≤ 400) : Pure Tryd.prog 56 [posetA r R B, mat X] (.agg [.sl 0 1 0 r.toNat]) [some ((mvM X r.toNat).map oints)] := by
  have hrow : ∀ a : Nat, a < X.length → (X.getD a []).length = r.toNat := fun a ha => hX.at_len ha
  refine pureRV ok56 rfl ?_; unfold c56
  (refine RN ?_; try with_reducible exact trivial)
  refine V_loop (α := Nat) (S := fun i => ([(1, mat X), (2, .ref 0 0), (4, .ref 1 0), (5, .ref 2 0), (6, i64 (i : Int))], [some [i64 r, ints R, mat B], some [nilS], some [.sl 3 1 0 i], some ((mvM X i).map oints)])) (C := fun i => i ≤ r.toNat) (μ := fun i => r.toNat - i) 0 (Nat.zero_le _) ((Ref.nilC 2 0 1 rfl rfl).trans (Ref.to (by simp [mvM]) (by simp [sub, fget]))) ?_
  intro i hi
  have hml := mvM_len X i
  (refine RN ?_; try with_reducible exact trivial)
  refine ⟨fun hc => ?_, fun hc => ?_⟩
  · have hir : i < r.toNat := by omega
    (refine RN ?_; try with_reducible exact trivial)
    refine V_loop (α := Nat) (S := fun a => ([(1, mat X), (2, .ref 0 0), (4, .ref 1 0), (5, .ref 2 0), (6, i64 (i : Int)), (7, .sl 4 1 0 (mvL X i a).length), (8, i64 (a : Int))], [some [i64 r, ints R, mat B], some [nilS], some [.sl 3 1 0 i], some ((mvM X i).map oints), some (intsC (mvL X i a))])) (C := fun a => a ≤ X.length) (μ := fun a => X.length - a) 0 (Nat.zero_le _) (Ref.to (by simp [mvL, intsC]) (by simp [sub, fget, mvL])) ?_
    intro a ha
    have hmla := mvL_len X i a
    (refine RN ?_; try with_reducible exact trivial)
    refine ⟨fun hc1 => ?_, fun hc1 => ?_⟩
    · have haX : a < X.length := by omega
      have hra := hrow a haX
      (refine RN ?_; try with_reducible exact trivial)
      refine V_loop (α := Nat) (S := fun b => ([(1, mat X), (2, .ref 0 0), (4, .ref 1 0), (5, .ref 2 0), (6, i64 (i : Int)), (7, .sl 4 1 0 (mvB X i a b).length), (8, i64 (a : Int)), (9, i64 (b : Int))], [some [i64 r, ints R, mat B], some [nilS], some [.sl 3 1 0 i], some ((mvM X i).map oints), some (intsC (mvB X i a b))])) (C := fun b => b ≤ X.length) (μ := fun b => X.length - b) 0 (Nat.zero_le _) (Ref.to (by rw [mvB_zero]) (by simp [sub, fget, mvB_zero])) ?_
      intro b hb
      have hbl := mvB_len X i a b
      (refine RN ?_; try with_reducible exact trivial)
      refine ⟨fun hc2 => ?_, fun hc2 => ?_⟩
      · have hbX : b < X.length := by omega
        have hrb := hrow b hbX
        have hdf := l03Differ_c (X.getD a []) (X.getD b []) (by omega) (by omega)
        have hdle := difK_le (X.getD a []) (X.getD b []) (X.getD a []).length
        by_cases e : a = b
        · subst e
          have e2 : (((a : Int) != (a : Int))) = false := by simp
          (refine RN ?_; try with_reducible exact trivial)
          refine GCall_no (i64 0) rfl ?_
          (refine RN ?_; try with_reducible exact trivial)
          have hno := mvB_no hT haX hir hbX (fun h => h.2.1 rfl : ¬ Adj (rowD X a) (rowD X a) i)
          exact ⟨a + 1, by omega, by omega, Ref.to (by rw [hno]) (by simp [sub, fget, hno])⟩
        · have e2 : (((a : Int) != (b : Int))) = true := by simp; omega
          (refine RN ?_; try with_reducible exact trivial)
          rw [e2]
          refine GC1 (i64 ((difK (X.getD a []) (X.getD b []) (X.getD a []).length : Nat) : Int) ) (fun hg =>  hdf) ?_
          (refine RN ?_; try with_reducible exact trivial)
          refine ⟨fun hc3 => ?_, fun hc3 => ?_⟩
          · have hadj : Adj (rowD X a) (rowD X b) i := (dif_adj (a := rowD X a) (b := rowD X b) (by unfold rowD; omega) hc3.2).1 (by unfold rowD; omega)
            have hyes := mvB_yes hT haX hir hbX hadj
            generalize mvB X i a b = Y at *
            (refine RN ?_; try with_reducible exact trivial)
            refine ⟨b + 1, by omega, by omega, ?_⟩
            rw [hyes]
            refine Ref.gc [0, 1, 2, 3, 6] rfl ?_ (by simp [sub, fget, go_sem, ↓reduceIte, Nat.reduceEqDiff, Nat.reduceAdd, reduceCtorEq])
            (try simp only [go_sem, ↓reduceIte, Nat.reduceEqDiff, Nat.reduceAdd, reduceCtorEq, take_ints_len, one_intsC, app_intsC])
          · have hno : ¬ Adj (rowD X a) (rowD X b) i := fun h => by
              have h2 := (dif_adj (a := rowD X a) (b := rowD X b) h.1 h.2.1).2 h
              unfold rowD at h2
              rcases hc3 with h3 | h3
              · omega
              · exact h.2.1 h3
            have hno := mvB_no hT haX hir hbX hno
            (refine RN ?_; try with_reducible exact trivial)
            exact ⟨b + 1, by omega, by omega, Ref.to (by rw [hno]) (by simp [sub, fget, hno])⟩
      · obtain rfl : b = X.length := by omega
        (refine RN ?_; try with_reducible exact trivial)
        exact ⟨a + 1, by omega, by omega, Ref.to (by rw [mvB_end hT haX hir]) (by simp [sub, fget, mvB_end hT haX hir])⟩
    · obtain rfl : a = X.length := by omega
      have hsu := mvM_succ X i
      have hmlX := mvL_len X i X.length
      (refine RN ?_; try with_reducible exact trivial)
      refine ⟨i + 1, by omega, by omega, ?_⟩
      rw [hsu]
      refine (Ref.close 6 i 4 (k := 1) (n := (mvL X i X.length).length) (cs2 := intsC (mvL X i X.length)) rfl (by rw [List.getElem?_append_right (by simp [hml])]; simp [hml]) rfl (by decide) (by simp [intsC])).trans (Ref.gc [0, 1, 2, 6] rfl ?_ (by simp [sub, fget, go_sem, ↓reduceIte, Nat.reduceEqDiff, Nat.reduceAdd, reduceCtorEq]))
      (try simp only [go_sem, ↓reduceIte, Nat.reduceEqDiff, Nat.reduceAdd, reduceCtorEq])
      have hset : ∀ x y : AV, ((mvM X i).map oints ++ [x]).set i y = (mvM X i).map oints ++ [y] := fun x y => by
        rw [List.set_append_right _ _ (by simp [hml])]; simp [hml]
      rw [List.take_of_length_le (by simp [hml]), rnmL_orows, hset]
      simp
  · obtain rfl : i = r.toNat := by omega
    (refine RN ?_; try with_reducible exact trivial)
    exact Ref.gc1 [3]
end Go.Proofs.YtghhlcioabdpfaaDoor
set_option maxRecDepth 100000
namespace Go.Proofs.YtghhlcioabdpfaaDoor
open Go.Gov Go.Fl Go.Kz
open Classical

def nV (n : Int) : AV := .val (.int .i64 n)
theorem smap_nV (l : List (ByteArray × Int)) : smap (fun x => .val (.int .i64 x)) l = smap nV l := rfl
theorem mput_nV (l : List (ByteArray × Int)) (n : ByteArray) (b : Int) : mput (.string n) (.val (.int .i64 b)) (smap nV l) = smap nV (iput n b l) := mput_smap nV l n b
theorem rnm_nV (τ : Nat → Option Nat) (l : List (ByteArray × Int)) : smap (fun x => rnm τ (nV x)) l = smap nV l := rfl
attribute [go_sem] smap_nV mput_nV rnm_nV
theorem iput_new {α κ : Type} [BEq κ] [LawfulBEq κ] {n : κ} {x : α} {l : List (κ × α)} (h : n ∉ l.map (·.1)) : iput n x l = l ++ [(n, x)] := by
  unfold iput
  rw [ifind_none.2 h]
set_option maxHeartbeats 8000000 in
theorem maniplexOf_p (r : Nat) (X : List (List Int)) (h0 : 0 < X.length) (hr1 : 1 ≤ r) (hr5 : r ≤ 5) (hX : Fs r X) (hS : Sm X) (hT : Tws X r) (hN : X.length ≤ 400) : PureG Tryd.prog tabZ 57 [mat X] (.agg [.sl 0 1 0 r]) [some ((mvM X r).map oints)] := by
  have hrow : ∀ a : Nat, a < X.length → (X.getD a []).length = r := fun a ha => hX.at_len ha
  have hrow0 := hrow 0 h0
  have hrow1 : (X[0]?.getD []).length = r := by simpa using hrow0
  refine pureGV ok57 rfl ?_; unfold c57
  (refine RN ?_; try with_reducible exact trivial)
  refine V_loop (α := Nat) (S := fun i => ([(0, mat X), (2, .ref 1 0), (3, .ref 2 0), (16, i64 (r : Int)), (17, i64 (i : Int))], [some (gvs tabZ), some [nilS], some [.sl 3 1 0 i], some ((mvM X i).map oints)])) (C := fun i => i ≤ r) (μ := fun i => r - i) 0 (Nat.zero_le _) ((Ref.nilC 2 0 1 rfl rfl).trans (Ref.to (by simp [mvM]) (by simp [sub, fget, hrow1]))) ?_
  intro i hi
  have hml := mvM_len X i
  (refine RN ?_; try with_reducible exact trivial)
  refine ⟨fun hc => ?_, fun hc => ?_⟩
  · have hir : i < r := by omega
    have hK : ∀ a b, a < X.length → b < X.length → (kZ (woL X a i) = kZ (woL X b i) ↔ ∀ j, j < r → j ≠ i → (rowD X a).getD j 0 = (rowD X b).getD j 0) := fun a b ha hb =>
      ⟨fun e => ((woL_eq hX ha hb hir hir).1 (kZ_inj e)).2, fun e => congrArg kZ ((woL_eq hX ha hb hir hir).2 ⟨rfl, e⟩)⟩
    (refine RN ?_; try with_reducible exact trivial)
    refine V_loop (α := Nat) (S := fun k => ([(0, mat X), (2, .ref 1 0), (3, .ref 2 0), (4, i64 (i : Int)), (5, .mp 4), (6, .sl 5 1 0 X.length), (16, i64 (r : Int)), (17, i64 (i : Int)), (24, mat X), (25, i64 (X.length : Int)), (26, i64 (k : Int))], [some (gvs tabZ), some [nilS], some [.sl 3 1 0 i], some ((mvM X i).map oints), some [.mpc (smap nV (kyL (fun m => kZ (woL X m i)) X i k))], some (intsC (wM X i k))])) (C := fun k => k ≤ X.length) (μ := fun k => X.length - k) 0 (Nat.zero_le _) ?_ ?_
    · exact Ref.to (by rw [wM_zero]; rfl) (by simp [sub, fget])
    intro k hk
    have hwl := wM_len X i k
    (refine RN ?_; try with_reducible exact trivial)
    refine ⟨fun hc1 => ?_, fun hc1 => ?_⟩
    · have hkX : k < X.length := by omega
      have hl := hrow k hkX
      have hwo := woL_len hX (i := i) hkX
      have hcl := clone_c (rowD X k) (by unfold rowD; omega) (by unfold rowD; omega)
      have hky := keyOfZ_c (woL X k i) (woL_sm hX hS hkX) (by omega)
      have hlw : (rowD X k).length = (woL X k i).length := by rw [hwo]; exact hl
      have hst : (rowD X k).set i (-1) = woL X k i := rfl
      (refine RN ?_; try with_reducible exact trivial)
      refine pureC1 (hcl) ?_
      (refine RN ?_; try with_reducible exact trivial)
      rw [hst]
      simp only [hlw]
      obtain ⟨l, hl'⟩ : ∃ l, l = kyL (fun m => kZ (woL X m i)) X i k := ⟨_, rfl⟩
      rw [← hl']
      have hfr : ∀ (H : Heap) d, (smap nV l).map (frz H (d + 1)) = smap (fun x => frz H d (nV x)) l := fun H d => frz_smap H d nV l
      refine pureGC 0 (hky) rfl (by simp only [go_sem, ↓reduceIte, Nat.reduceEqDiff, Nat.reduceAdd, reduceCtorEq] <;> rfl) (by first | rfl | simp only [go_sem, ↓reduceIte, Nat.reduceEqDiff, Nat.reduceAdd, reduceCtorEq]) ?_
      simp only [mget_smap, keysOk_smap, keyOk_str, go_sem, ↓reduceIte, Nat.reduceEqDiff, Nat.reduceAdd, reduceCtorEq]
      cases hlk : ilook (kZ (woL X k i)) l with
      | none =>
        have hni := ilook_none.1 hlk
        have hlt := kyL_miss (K := fun m => kZ (woL X m i)) hT hX hir hK hkX (by rw [← hl']; exact hni)
        have hyes := kyL_yes (X := X) (i := i) (fun m => kZ (woL X m i)) hlt
        have hno := wM_no hT hX hir hkX (by omega)
        have hin := iput_new (x := (k : Int)) hni
        rw [← hl'] at hyes
        refine V_W ?_
        simp only [mget_smap, keysOk_smap, keyOk_str, hlk, Option.map_none, go_sem, ↓reduceIte, Nat.reduceEqDiff, Nat.reduceAdd, reduceCtorEq]
        (refine RN ?_; try with_reducible exact trivial)
        refine ⟨k + 1, by omega, by omega, ?_⟩
        rw [hyes, hno]
        exact Ref.gc [0, 1, 2, 3, 4, 5] rfl (by simp only [go_sem, ↓reduceIte, Nat.reduceEqDiff, Nat.reduceAdd, reduceCtorEq, hin]) (by simp [sub, fget, go_sem, ↓reduceIte, Nat.reduceEqDiff, Nat.reduceAdd, reduceCtorEq])
      | some x =>
        have hm := ilook_mem hlk
        rw [hl'] at hm
        obtain ⟨rfl, hlt⟩ := kyL_hit (K := fun m => kZ (woL X m i)) hT hX hir hK hkX hm
        have hyes := wM_yes hT hX hir hkX hlt
        have hno := kyL_no (X := X) (i := i) (k := k) (fun m => kZ (woL X m i)) (by omega)
        rw [← hl'] at hno
        have htX := (hT.lt hkX hir).1
        refine V_W ?_
        simp only [mget_smap, keysOk_smap, keyOk_str, hlk, Option.map_some, nV, go_sem, ↓reduceIte, Nat.reduceEqDiff, Nat.reduceAdd, reduceCtorEq]
        (refine RN ?_; try with_reducible exact trivial)
        refine ⟨k + 1, by omega, by omega, ?_⟩
        rw [hyes, hno]
        exact Ref.gc1 [0, 1, 2, 3, 4, 5]
    · obtain rfl : k = X.length := by omega
      have hsu := mvM_succ X i
      have hend := wM_end hT hir
      have hmlX := mvL_len X i X.length
      rw [hend]
      (refine RN ?_; try with_reducible exact trivial)
      refine ⟨i + 1, by omega, by omega, ?_⟩
      rw [hsu]
      refine (Ref.close 7 i 5 (k := 1) (n := X.length) (cs2 := intsC (mvL X i X.length)) rfl (by rw [List.getElem?_append_right (by simp [hml])]; simp [hml]) rfl (by decide) (by simp [intsC, hmlX])).trans (Ref.gc [0, 1, 2, 7] rfl ?_ (by simp [sub, fget, go_sem, ↓reduceIte, Nat.reduceEqDiff, Nat.reduceAdd, reduceCtorEq]))
      (try simp only [go_sem, ↓reduceIte, Nat.reduceEqDiff, Nat.reduceAdd, reduceCtorEq])
      have hset : ∀ x y : AV, ((mvM X i).map oints ++ [x]).set i y = (mvM X i).map oints ++ [y] := fun x y => by
        rw [List.set_append_right _ _ (by simp [hml])]; simp [hml]
      rw [List.take_of_length_le (by simp [hml]), rnmL_orows, hset]
      simp [hmlX]
  · obtain rfl : i = r := by omega
    (refine RN ?_; try with_reducible exact trivial)
    exact Ref.gc1 [3]
end Go.Proofs.YtghhlcioabdpfaaDoor
set_option maxRecDepth 100000
namespace Go.Proofs.YtghhlcioabdpfaaDoor
open Go.Gov Go.Fl Go.Kz
open Classical

theorem pureG_nilA {P : Program} {L : List (Nat × List Value)} {f : FuncId} {args l : List AV} (k : Nat) (h : PureG P L f args (.tup (.agg [nilS] :: l)) []) : PureG P L f args (.tup (.agg [.sl 0 k 0 0] :: l)) [some []] :=
  fun w vals hv hl hr => (h w vals hv hl hr).mono fun _ w' ⟨v, g', av, H', he, hm, hx, hext, hk, hk2⟩ => by
    subst hk hk2
    have hm2 := nil_obj hm.hp
    refine ⟨v, _, _, _, he, hm.trans hm2, ?_, hext, rfl, rfl⟩
    have hx' := hm2.lift _ _ hx
    have e1 : (g'.add ([] : Heap).length none []).tr ([] ++ [some ([] : List AV)]) 0 = some (some (none, 0)) := by
      have e1 : (([] : Heap) ++ [some ([] : List AV)])[0]? = some (some []) := by simp
      rw [Gh.tr_some e1]
      simp [Gh.add]
    cases hx' with
    | tup hl' hr' =>
      refine .tup (by simpa using hl') fun m hm' => ?_
      match m, hm' with
      | 0, _ =>
        have h1 := hr' 0 (by simp)
        simp only [List.getElem_cons_zero] at h1 ⊢
        generalize Array.getD _ _ _ = u at h1 ⊢
        cases h1 with
        | agg hl2 hr2 =>
          refine .agg (by simpa using hl2) fun j hj => ?_
          simp only [List.length_cons, List.length_nil, Nat.zero_add] at hj
          obtain rfl : j = 0 := by omega
          have h2 := hr2 0 (by simp)
          simp only [List.getElem_cons_zero] at h2 ⊢
          rw [h2.val_inv.1]
          refine .sl (by rw [e1]; rfl) rfl fun l hl => ?_
          rw [e1] at hl
          obtain rfl := Option.some.inj (Option.some.inj hl)
          exact ⟨by dsimp only; omega, rfl, none, rfl⟩
      | m + 1, hm' =>
        have h1 := hr' (m + 1) (by simpa using hm')
        simp only [List.getElem_cons_succ] at h1 ⊢
        exact h1
def MfOk (r : Int) (R : List Int) (B : List (List Int)) : Prop := IsPos r R B ∧ (allF r R B).length ≤ 400 ∧ Pty r R B (allF r R B)
noncomputable def mfV (r : Int) (R : List Int) (B : List (List Int)) : List (List Int) := if MfOk r R B then mvM (allF r R B) r.toNat else []
noncomputable def mfC (r : Int) (R : List Int) (B : List (List Int)) : Int := if IsPos r R B then if (allF r R B).length ≤ 400 then if Pty r R B (allF r R B) then 0 else 5 else 3 else 1
theorem tot_le {n : Nat} : ∀ {L : List (List Int)}, (∀ p ∈ L, p.length ≤ n) → tot L ≤ L.length * n
  | [], _ => by simp [tot]
  | p :: L, h => by
    have := tot_le (L := L) fun q hq => h q (by simp [hq])
    have h1 := h p (by simp)
    have e : tot (p :: L) = p.length + tot L := by simp [tot]
    rw [e, List.length_cons, Nat.add_mul]
    omega
theorem mfV_b (r : Int) (R : List Int) (B : List (List Int)) : (mfV r R B).length ≤ 5 ∧ tot (mfV r R B) ≤ 2000 ∧ ∀ p ∈ mfV r R B, p.length ≤ 400 := by
  unfold mfV
  split
  · rename_i h
    obtain ⟨a1, a2, a3, a4, a5⟩ := h.1.rank
    have h4 := h.2.1
    have h1 : (mvM (allF r R B) r.toNat).length ≤ 5 := by rw [mvM_len]; omega
    have h2 : ∀ p ∈ mvM (allF r R B) r.toNat, p.length ≤ 400 := fun p hp => by
      obtain ⟨i, _, rfl⟩ := List.mem_map.1 hp
      rw [mvL_len]
      exact h4
    refine ⟨h1, ?_, h2⟩
    have := tot_le h2
    have h3 : (mvM (allF r R B) r.toNat).length * 400 ≤ 5 * 400 := Nat.mul_le_mul_right _ h1
    omega
  · exact ⟨by simp, by simp [tot], fun p hp => by cases hp⟩
theorem allF_tws {r : Int} {R : List Int} {B : List (List Int)} (hp : IsPos r R B) (hd : Dia r R B) : Tws (allF r R B) r.toNat := fun _ ha _ hi => twin hp.rank.1 hp.ord hd ha hi
set_option maxHeartbeats 4000000 in
theorem specMf_c (r : Int) (R : List Int) (B : List (List Int)) (h1 : R.length ≤ 1048576) (hl : B.length ≤ 1048576) (hr : ∀ xs ∈ B, xs.length ≤ 1048576) : Pure Tryd.prog 20 [posetA r R B] (.tup [.agg [.sl 0 1 0 (mfV r R B).length], i64 (mfC r R B)]) [some ((mfV r R B).map oints)] := by
  by_cases hok : MfOk r R B
  · obtain ⟨hp, hk, ht⟩ := hok
    obtain ⟨a1, a2, a3, a4, a5⟩ := hp.rank
    have e1 : mfV r R B = mvM (allF r R B) r.toNat := if_pos ⟨hp, hk, ht⟩
    have e2 : mfC r R B = 0 := by unfold mfC; rw [if_pos hp, if_pos hk, if_pos ht]
    have hpt := l03Polytope_c r R B hp (allF r R B) hk (allF_fs a1) (allF_len a2) (allF_at (r := r))
    rw [decide_eq_true ht] at hpt
    have hmx := l03Maniplex_p r R B (allF r R B) a1 a2 (allF_fs a1) (allF_tws hp ht.2.2.1) hk
    rw [e1, e2, mvM_len]
    refine pureRV ok20 rfl ?_; unfold c20
    (refine RN ?_; try with_reducible exact trivial)
    refine pureC1 (flagsOf_s2 r R B hp h1 hl hr hk) ?_
    (refine RN ?_; try with_reducible exact trivial)
    refine GC1 (bl true ) (fun hg =>  hpt) ?_
    (refine RN ?_; try with_reducible exact trivial)
    refine pureC1 (hmx) ?_
    (refine RN ?_; try with_reducible exact trivial)
    exact Ref.gc1 [3]
  · have e1 : mfV r R B = [] := if_neg hok
    rw [e1]
    refine pure_nilA 1 ?_
    unfold mfC
    by_cases hp : IsPos r R B
    · obtain ⟨a1, a2, a3, a4, a5⟩ := hp.rank
      rw [if_pos hp]
      by_cases hk : (allF r R B).length ≤ 400
      · have ht : ¬ Pty r R B (allF r R B) := fun h => hok ⟨hp, hk, h⟩
        have hpt := l03Polytope_c r R B hp (allF r R B) hk (allF_fs a1) (allF_len a2) (allF_at (r := r))
        rw [decide_eq_false ht] at hpt
        rw [if_pos hk, if_neg ht]
        refine pureV0 ok20 rfl rfl ?_; unfold c20
        (refine RN ?_; try with_reducible exact trivial)
        refine pureC1 (flagsOf_s2 r R B hp h1 hl hr hk) ?_
        (refine RN ?_; try with_reducible exact trivial)
        refine GC1 (bl false ) (fun hg =>  hpt) ?_
        (iterate 16 ((refine RN ?_; try with_reducible exact trivial); (try with_reducible refine fun _ => ?_)))
        refine ⟨fun _ => ?_, fun h => absurd h (by decide)⟩
        (refine RN ?_; try with_reducible exact trivial)
      · rw [if_neg hk]
        refine pureV0 ok20 rfl rfl ?_; unfold c20
        (refine RN ?_; try with_reducible exact trivial)
        refine pureC1 (flagsOf_s1 r R B hp h1 hl hr hk) ?_
        (refine RN ?_; try with_reducible exact trivial)
        refine GCall_no (bl false) rfl ?_
        (iterate 16 ((refine RN ?_; try with_reducible exact trivial); (try with_reducible refine fun _ => ?_)))
        refine ⟨fun _ => ?_, fun h => absurd h (by decide)⟩
        (refine RN ?_; try with_reducible exact trivial)
    · rw [if_neg hp]
      refine pureV0 ok20 rfl rfl ?_; unfold c20
      (refine RN ?_; try with_reducible exact trivial)
      refine pureC1 (flagsOf_s0 r R B hp h1 hl hr) ?_
      (refine RN ?_; try with_reducible exact trivial)
      refine GCall_no (bl false) rfl ?_
      (iterate 16 ((refine RN ?_; try with_reducible exact trivial); (try with_reducible refine fun _ => ?_)))
      refine ⟨fun _ => ?_, fun h => absurd h (by decide)⟩
      (refine RN ?_; try with_reducible exact trivial)
set_option maxHeartbeats 4000000 in
theorem implMf_c (r : Int) (R : List Int) (B : List (List Int)) (h1 : R.length ≤ 1048576) (hl : B.length ≤ 1048576) (hr : ∀ xs ∈ B, xs.length ≤ 1048576) : PureG Tryd.prog tabZ 21 [posetA r R B] (.tup [.agg [.sl 0 1 0 (mfV r R B).length], i64 (mfC r R B)]) [some ((mfV r R B).map oints)] := by
  by_cases hok : MfOk r R B
  · obtain ⟨hp, hk, ht⟩ := hok
    obtain ⟨a1, a2, a3, a4, a5⟩ := hp.rank
    have e1 : mfV r R B = mvM (allF r R B) r.toNat := if_pos ⟨hp, hk, ht⟩
    have e2 : mfC r R B = 0 := by unfold mfC; rw [if_pos hp, if_pos hk, if_pos ht]
    have hfl := flagsOf_i r R B hp h1 hl hr _ _ rfl rfl
    rw [if_pos hk, if_pos hk] at hfl
    have hpt := isPolytope_c r R B hp (allF r R B) hk (allF_fs a1) (allF_sm hp) (allF_len a2) (allF_at (r := r))
    rw [decide_eq_true ht] at hpt
    have hmx := maniplexOf_p r.toNat (allF r R B) ht.1 (by omega) (by omega) (allF_fs a1) (allF_sm hp) (allF_tws hp ht.2.2.1) hk
    rw [e1, e2, mvM_len]
    refine pureGV ok21 rfl ?_; unfold c21
    (refine RN ?_; try with_reducible exact trivial)
    refine pureC1 (hfl) ?_
    (refine RN ?_; try with_reducible exact trivial)
    refine pureGC 0 (hpt) rfl (by simp only [go_sem, ↓reduceIte, Nat.reduceEqDiff, Nat.reduceAdd, reduceCtorEq] <;> rfl) (by first | rfl | simp only [go_sem, ↓reduceIte, Nat.reduceEqDiff, Nat.reduceAdd, reduceCtorEq]) ?_
    (refine RN ?_; try with_reducible exact trivial)
    refine pureGC 0 (hmx) rfl (by simp only [go_sem, ↓reduceIte, Nat.reduceEqDiff, Nat.reduceAdd, reduceCtorEq] <;> rfl) (by first | rfl | simp only [go_sem, ↓reduceIte, Nat.reduceEqDiff, Nat.reduceAdd, reduceCtorEq]) ?_
    (refine RN ?_; try with_reducible exact trivial)
    exact Ref.gc1 [4]
  · have e1 : mfV r R B = [] := if_neg hok
    rw [e1]
    refine pureG_nilA 1 ?_
    unfold mfC
    by_cases hp : IsPos r R B
    · obtain ⟨a1, a2, a3, a4, a5⟩ := hp.rank
      rw [if_pos hp]
      have hfl := flagsOf_i r R B hp h1 hl hr _ _ rfl rfl
      by_cases hk : (allF r R B).length ≤ 400
      · have ht : ¬ Pty r R B (allF r R B) := fun h => hok ⟨hp, hk, h⟩
        have hpt := isPolytope_c r R B hp (allF r R B) hk (allF_fs a1) (allF_sm hp) (allF_len a2) (allF_at (r := r))
        rw [decide_eq_false ht] at hpt
        rw [if_pos hk, if_pos hk] at hfl
        rw [if_pos hk, if_neg ht]
        refine pureGV ok21 rfl ?_; unfold c21
        (refine RN ?_; try with_reducible exact trivial)
        refine pureC1 (hfl) ?_
        (refine RN ?_; try with_reducible exact trivial)
        refine pureGC 0 (hpt) rfl (by simp only [go_sem, ↓reduceIte, Nat.reduceEqDiff, Nat.reduceAdd, reduceCtorEq] <;> rfl) (by first | rfl | simp only [go_sem, ↓reduceIte, Nat.reduceEqDiff, Nat.reduceAdd, reduceCtorEq]) ?_
        (refine RN ?_; try with_reducible exact trivial)
        exact Ref.gc1 []
      · rw [if_neg hk, if_neg hk] at hfl
        rw [if_neg hk]
        refine pureGV ok21 rfl ?_; unfold c21
        (refine RN ?_; try with_reducible exact trivial)
        refine pureC1 (hfl) ?_
        (refine RN ?_; try with_reducible exact trivial)
        refine ⟨fun _ => ?_, fun h => absurd h (by decide)⟩
        (refine RN ?_; try with_reducible exact trivial)
        exact Ref.gc1 []
    · rw [if_neg hp]
      refine pureGV ok21 rfl ?_; unfold c21
      (refine RN ?_; try with_reducible exact trivial)
      refine pureC1 (flagsOf_i0 r R B hp h1 hl hr) ?_
      (refine RN ?_; try with_reducible exact trivial)
      refine ⟨fun _ => ?_, fun h => absurd h (by decide)⟩
      (refine RN ?_; try with_reducible exact trivial)
      exact Ref.gc1 []
end Go.Proofs.YtghhlcioabdpfaaDoor
set_option maxRecDepth 100000
namespace Go.Proofs.YtghhlcioabdpfaaDoor
open Go.Gov

abbrev maniA (M : List (List Int)) : AV := .agg [mat M]
end Go.Proofs.YtghhlcioabdpfaaDoor
set_option maxRecDepth 100000
namespace Go.Proofs.YtghhlcioabdpfaaDoor
open Go.Gov
open Classical

theorem eqMan_c (M M' : List (List Int)) (hl : M.length ≤ 1099511627776) (hr : ∀ xs ∈ M, xs.length ≤ 1099511627776) (hl' : M'.length ≤ 1099511627776) (hr' : ∀ xs ∈ M', xs.length ≤ 1099511627776) : Pure Tryd.prog 22 [maniA M, maniA M'] (bl (decide (M = M'))) [] := by
  refine pureV0 ok22 rfl rfl ?_; unfold c22
  (refine RN ?_; try with_reducible exact trivial)
  refine pureC1 (eqInt64SS_c M M' hl hl' hr hr') ?_
  (refine RN ?_; try with_reducible exact trivial)
  refine ⟨fun hc => ?_, fun hc => ?_⟩
  · (refine RN ?_; try with_reducible exact trivial)
    rw [decide_eq_false hc]
  · (refine RN ?_; try with_reducible exact trivial)
    rw [decide_eq_true hc]
theorem markMan_c (M : List (List Int)) (k : Int) (hl : M.length ≤ 1099511627776) (ht : tot M ≤ 1099511627776) (h0 : 0 ≤ k) (hk : k ≤ 281474976710656) : Wri Tryd.prog 24 [.agg [.sl 0 1 0 M.length], i64 k] [some (M.map oints)] (i64 (k + tot M)) [some ((upR k M).map oints)] := by
  refine wriVg [0] ok24 rfl ?_; unfold c24
  (refine RN ?_; try with_reducible exact trivial)
  refine wriC (markInt64SS_c M k hl ht h0 (by omega)) [0] (by first | rfl | simp) (by simp only [go_sem, ↓reduceIte, Nat.reduceEqDiff, Nat.reduceAdd, reduceCtorEq] <;> rfl) (by simp only [go_sem, ↓reduceIte, Nat.reduceEqDiff, Nat.reduceAdd, reduceCtorEq] <;> rfl) (by first | rfl | simp only [go_sem, ↓reduceIte, Nat.reduceEqDiff, Nat.reduceAdd, reduceCtorEq]) ?_
  (refine RN ?_; try with_reducible exact trivial)

theorem heldMan_c (M : List (List Int)) (k : Int) (hl : M.length ≤ 1099511627776) (ht : tot M ≤ 1099511627776) (h0 : 0 ≤ k) (hk : k ≤ 281474976710656) : Pure Tryd.prog 25 [.agg [.slc 1 M.length ((upR k M).map ints)], i64 k] (i64 (k + tot M)) [] := by
  refine pureV0 ok25 rfl rfl ?_; unfold c25
  (refine RN ?_; try with_reducible exact trivial)
  have h := heldInt64SS_c M k hl ht h0 (by omega)
  rw [show mat (upR k M) = .slc 1 M.length ((upR k M).map ints) by rw [mat, upR_len]] at h
  refine pureC1 (h) ?_
  (refine RN ?_; try with_reducible exact trivial)
  (try with_reducible refine fun _ => ?_)
  (refine RN ?_; try with_reducible exact trivial)
end Go.Proofs.YtghhlcioabdpfaaDoor
set_option maxRecDepth 100000
namespace Go.Proofs.YtghhlcioabdpfaaDoor
open Go.Gov
open Classical

set_option maxHeartbeats 8000000 in
theorem lawLMf_c (r0 : Int) (R0 : List Int) (B0 : List (List Int)) (hR0 : R0.length ≤ 9223372036854775807) (ha0 : B0.length ≤ 9223372036854775807) (hr0 : ∀ xs ∈ B0, xs.length ≤ 9223372036854775807) : PureG Tryd.prog tabZ 6 [posetA r0 R0 B0] (bl true) [] := by
  refine pureGV ok6 rfl ?_; unfold c6
  (refine RN ?_; try with_reducible exact trivial)
  refine pureC1 (szPoset_c r0 R0 B0 (1048576) (by omega) (by omega) hR0 ha0 hr0) ?_
  (refine RN ?_; try with_reducible exact trivial)
  refine ⟨fun hs0 => ?_, fun hs0 => ?_⟩
  · (refine RN ?_; try with_reducible exact trivial)
    exact Ref.gc1 []
  obtain ⟨e0, e02⟩ := left_pos (b := 1048576) (n := psz R0 B0) (by omega) (by omega)
  obtain ⟨qR0, qa0, qt0, qr0⟩ := psz_b (n := 1048576) (R := R0) (B := B0) (by omega)
  have gR0 : R0.length ≤ 1099511627776 := by omega
  have ga0 : B0.length ≤ 1099511627776 := by omega
  have gr0 : ∀ xs ∈ B0, xs.length ≤ 1099511627776 := fun xs hx => by have := qr0 xs hx; omega
  (refine RN ?_; try with_reducible exact trivial)
  obtain ⟨hb1, hb2, hb3⟩ := mfV_b r0 R0 B0
  have gl0 : (mfV r0 R0 B0).length ≤ 1099511627776 := by omega
  have gt0 : tot (mfV r0 R0 B0) ≤ 1099511627776 := by omega
  have gr_0 : ∀ xs ∈ mfV r0 R0 B0, xs.length ≤ 1099511627776 := fun xs hx => by have := hb3 xs hx; omega
  have hS := specMf_c r0 R0 B0 qR0 qa0 qr0
  have hI := implMf_c r0 R0 B0 qR0 qa0 qr0
  generalize mfV r0 R0 B0 = Z0 at hS hI gl0 gt0 gr_0
  generalize mfC r0 R0 B0 = Z1 at hS hI
  refine pureC1 (toPoset_c r0 R0 B0 gR0 ga0 gr0) ?_
  (refine RN ?_; try with_reducible exact trivial)
  refine pureC1 (hS) ?_
  (refine RN ?_; try with_reducible exact trivial)
  refine pureC1 (toPoset_c r0 R0 B0 gR0 ga0 gr0) ?_
  (refine RN ?_; try with_reducible exact trivial)
  refine pureGC 0 (hI) rfl (by simp only [go_sem, ↓reduceIte, Nat.reduceEqDiff, Nat.reduceAdd, reduceCtorEq] <;> rfl) (by first | rfl | simp only [go_sem, ↓reduceIte, Nat.reduceEqDiff, Nat.reduceAdd, reduceCtorEq]) ?_
  (refine RN ?_; try with_reducible exact trivial)
  refine pureC1 (eqMan_c Z0 Z0 gl0 gr_0 gl0 gr_0) ?_
  (refine RN ?_; try with_reducible exact trivial)
  (try with_reducible refine fun _ => ?_)
  (refine RN ?_; try with_reducible exact trivial)
  refine pureC1 (toPoset_c r0 R0 B0 gR0 ga0 gr0) ?_
  (refine RN ?_; try with_reducible exact trivial)
  refine pureC1 (eqPoset_c r0 r0 R0 R0 B0 B0 gR0 ga0 gr0 gR0 ga0 gr0) ?_
  (refine RN ?_; try with_reducible exact trivial)
  (try with_reducible refine fun _ => ?_)
  (refine RN ?_; try with_reducible exact trivial)
  refine wriC (markPoset_c r0 R0 B0 (1) gR0 ga0 (by omega) (by omega) (by omega)) [6, 7] (by first | rfl | simp) (by simp only [go_sem, ↓reduceIte, Nat.reduceEqDiff, Nat.reduceAdd, reduceCtorEq] <;> rfl) (by simp only [go_sem, ↓reduceIte, Nat.reduceEqDiff, Nat.reduceAdd, reduceCtorEq] <;> rfl) (by first | rfl | simp only [go_sem, ↓reduceIte, Nat.reduceEqDiff, Nat.reduceAdd, reduceCtorEq]) ?_
  (refine RN ?_; try with_reducible exact trivial)
  refine GC1 (bl (decide (Z0 = Z0)) ) (fun hg =>  eqMan_c Z0 Z0 gl0 gr_0 gl0 gr_0) ?_
  (refine RN ?_; try with_reducible exact trivial)
  (try with_reducible refine fun _ => ?_)
  (refine RN ?_; try with_reducible exact trivial)
  refine wriC (markMan_c Z0 (1) gl0 gt0 (by omega) (by omega)) [9] (by first | rfl | simp) (by simp only [go_sem, ↓reduceIte, Nat.reduceEqDiff, Nat.reduceAdd, reduceCtorEq] <;> rfl) (by simp only [go_sem, ↓reduceIte, Nat.reduceEqDiff, Nat.reduceAdd, reduceCtorEq] <;> rfl) (by first | rfl | simp only [go_sem, ↓reduceIte, Nat.reduceEqDiff, Nat.reduceAdd, reduceCtorEq]) ?_
  (refine RN ?_; try with_reducible exact trivial)
  refine pureC (heldMan_c Z0 (1) gl0 gt0 (by omega) (by omega)) (by simp only [go_sem, ↓reduceIte, Nat.reduceEqDiff, Nat.reduceAdd, reduceCtorEq, take_up, take_upR]) (by first | rfl | simp only [go_sem, ↓reduceIte, Nat.reduceEqDiff, Nat.reduceAdd, reduceCtorEq]) ?_
  (refine RN ?_; try with_reducible exact trivial)
  (try with_reducible refine fun _ => ?_)
  (refine RN ?_; try with_reducible exact trivial)
  (try with_reducible refine fun _ => ?_)
  (refine RN ?_; try with_reducible exact trivial)
  refine pureC1 (toPoset_c r0 R0 B0 gR0 ga0 gr0) ?_
  (refine RN ?_; try with_reducible exact trivial)
  refine pureGC 0 (hI) rfl (by simp only [go_sem, ↓reduceIte, Nat.reduceEqDiff, Nat.reduceAdd, reduceCtorEq] <;> rfl) (by first | rfl | simp only [go_sem, ↓reduceIte, Nat.reduceEqDiff, Nat.reduceAdd, reduceCtorEq]) ?_
  (refine RN ?_; try with_reducible exact trivial)
  refine pureC1 (eqMan_c Z0 Z0 gl0 gr_0 gl0 gr_0) ?_
  (refine RN ?_; try with_reducible exact trivial)
  (try with_reducible refine fun _ => ?_)
  (refine RN ?_; try with_reducible exact trivial)
  refine pureC (heldMan_c Z0 (1) gl0 gt0 (by omega) (by omega)) (by simp only [go_sem, ↓reduceIte, Nat.reduceEqDiff, Nat.reduceAdd, reduceCtorEq, take_up, take_upR]) (by first | rfl | simp only [go_sem, ↓reduceIte, Nat.reduceEqDiff, Nat.reduceAdd, reduceCtorEq]) ?_
  (refine RN ?_; try with_reducible exact trivial)
  (try with_reducible refine fun _ => ?_)
  (refine RN ?_; try with_reducible exact trivial)
  (try with_reducible refine fun _ => ?_)
  (refine RN ?_; try with_reducible exact trivial)
  exact Ref.gc1 []
end Go.Proofs.YtghhlcioabdpfaaDoor
set_option maxRecDepth 100000
namespace Go.Gov
open Go.ChangeShapes Go.WideShapes Go.ChangeAt Go.RowKit
theorem below_ofG {P : Program} {L : List (Nat × List Value)} {f : FuncId} {args : List AV} {b : Bool} {vals : Array Value} {w : World} (h : PureG P L f args (bl b) []) (hv : VarsIn w L) (hl : vals.size = args.length)
    (hr : ∀ m (h : m < args.length), Rd w ((g0 w).tr []) (g0 w).G args[m] (vals.getD m undef) []) :
    Calls P f vals w fun e w' => e = .returned (.bool b) ∧ Below w.heap.size w w' ∧ ∀ a, a.block < w.heap.size → w'.frozen? a = w.frozen? a :=
  (h w vals hv hl fun m hm => by have := hr m hm; rwa [show (g0 w).tr [] = fun _ => none by funext o; simp [Gh.tr]] at this).mono fun e w' ⟨v, g', av, H', he, hm, hx, hext, hk, _⟩ => by
    subst hk
    cases hx
    exact ⟨he, ⟨hm.stp.os, hm.stp.tape.1, hm.stp.output, hm.stp.size, fun k hk => hext k hk⟩, hm.stp.fz⟩
end Go.Gov
namespace Go.Proofs.YtghhlcioabdpfaaDoor
open Go.Gov Go.ChangeShapes Go.WideShapes Go.ChangeAt Go.RowKit
theorem var_heap {w : World} {n : String} {g : Nat} {cs : Array Value} (hg : Tryd.prog.globalNamed n = some g) (h : w.var? Tryd.prog n = some cs) : ∃ ty z, w.heap[g]? = some (.cells cs ty z) := by
  unfold World.var? at h
  rw [hg, Option.bind_some] at h
  split at h
  · rename_i cs' ty z h2
    obtain rfl := Option.some.inj h
    exact ⟨ty, z, h2⟩
  · cases h
theorem tabZ_laid {laid : List (String × DataW Unit)} {W : World} (hL : laidMetH Tryd.prog laid W)
    (h1 : laid.filter (fun x => x.1 == "internal/strconv.uint64pow10") = [("internal/strconv.uint64pow10", Go.Lib.tabData .u64 Go.Lib.pow10Tab)]) : VarsIn W tabZ := by
  have ht := hL.filter (fun x => x.1 == "internal/strconv.uint64pow10")
  rw [h1] at ht
  have ht : laidMet Tryd.prog [("internal/strconv.uint64pow10", Go.Lib.tabData .u64 Go.Lib.pow10Tab)] W := ht
  have gT : Tryd.prog.globalNamed "internal/strconv.uint64pow10" = some 0 := by kernel_rfl
  have htab := Go.Lib.tabIs_of_head (n := 20) gT (t := 198) (by kernel_rfl) Tryd.underlying198 (e := 118) Tryd.underlying118 (by kernel_rfl) (by kernel_rfl) ht
  intro x hx
  unfold tabZ at hx
  rw [gT] at hx
  simp only [Option.getD_some, List.mem_cons, List.not_mem_nil, or_false] at hx
  subst hx
  exact var_heap gT htab
end Go.Proofs.YtghhlcioabdpfaaDoor
set_option maxRecDepth 100000
namespace Go.Proofs.YtghhlcioabdpfaaDoor.JMf
open Go.Proofs.YtghhlcioabdpfaaDoor
open Go.ChangeShapes Go.WideShapes Go.ChangeAt Go.RowKit Go.Gov

theorem door_met (os : Os) (args : Array Value) : laidMetH Tryd.prog Rows.fnExactManiplexOfRow.laid ((World.doorLaid Tryd.prog 400 os).forCall (fun _ _ => 0) ⟨#[], args, []⟩).memory :=
  laidMetH_of_parts3 (fuel := 8) (laidMet_of_run' 8 (by kernel_rfl) (by kernel_rfl)) (by kernel_rfl) (by kernel_rfl)
set_option maxRecDepth 100000 in
set_option maxHeartbeats 2000000 in
theorem lifted (os : Os) (started : os.Started) (H : Type) (enc : TypeId × Value → H) :
    ReturnsInHanded {} Tryd.checked os 6 .any (fun w args => (Rows.fnExactManiplexOfSpec.pre enc Tryd.prog Tryd.f6 [] false w args ∧ laidMetH Tryd.prog Rows.fnExactManiplexOfRow.laid w) ∧ sizedMet enc Tryd.prog Tryd.f6 (OpenSpec.ofChange Rows.fnExactManiplexOfSpec) false w args) (Rows.fnExactManiplexOfSpec.post enc Tryd.prog Tryd.f6 false true false false) := by
  refine returnsInHanded_of_change_and (C := Tryd.checked) (X := fun w _ => laidMetH Tryd.prog Rows.fnExactManiplexOfRow.laid w) (fun _ _ _ hh h => h.of_heap hh) Tryd.own started (by kernel_rfl) Tryd.func6
    (ChangeSpec.witness_shaped (enc := enc) (C := Tryd.checked) (os := os) (X := fun w _ => laidMetH Tryd.prog Rows.fnExactManiplexOfRow.laid w) false (World.doorLaid Tryd.prog 400 os) #[.agg #[.int .i64 0, .slice none 0 0, .slice none 0 0]] 8 rfl (World.shaped_of_RefB (by kernel_rfl) (by kernel_rfl)) (by kernel_rfl) (by kernel_rfl) (by kernel_rfl) (door_met os _)) ?_
  intro W base args ds gs before hval0 hW hcnd _ hLaid _
  have hval : ∀ (j : Nat) t v, Tryd.f6.params[j]? = some t → args[j]? = some v → Value.okWide Tryd.prog W .any base t v := hval0
  have hW' := hW
  obtain ⟨p, q, hA0, hV, rfl, hfz, hnd⟩ := hW
  have hA : DataW.TrodAll enc Tryd.prog W 0 (fun _ => true) true Tryd.f6.params.toList args.toList ds p := hA0
  rw [Tryd.params6] at hA hval
  obtain ⟨v0, l0, d0, e0, p0, q0, ha0, rfl, rfl, h0, hA1⟩ := trodAll_cons hA
  obtain ⟨rfl, rfl, rfl⟩ := trodAll_nil hA1
  obtain rfl : args = #[v0] := by rw [← Array.toArray_toList (xs := args), ha0]
  have hv0 := hval 0 34 v0 rfl rfl
  obtain ⟨rfl, rfl⟩ := trodVars_none hV
  obtain ⟨a0, b0, c0, x0, y0, z0, m0, rfl, rfl, hp0, ta0, tb0, tc0⟩ := Go.Joins.open_agg3 Tryd.underlying34 (by kernel_rfl) (by kernel_rfl) hv0 h0
  obtain ⟨r0, hr0, _, _⟩ := DataW.trod_int Tryd.underlying2 ta0
  obtain ⟨s0, R0, hs0, hR0, rdR0⟩ := rd_ints Tryd.underlying32 Tryd.underlying2 (by kernel_rfl) tb0
  obtain ⟨u0, B0, hu0, hB0, hBr0, rdB0⟩ := rd_rows Tryd.underlying22 Tryd.underlying32 Tryd.underlying2 (by kernel_rfl) (by kernel_rfl) tc0
  simp only [List.cons.injEq, and_true] at hr0 hs0 hu0
  subst hr0 hs0 hu0
  have hrd : ∀ m (h : m < ([posetA r0 R0 B0] : List AV).length), Rd W ((g0 W).tr []) (g0 W).G ([posetA r0 R0 B0] : List AV)[m] ((#[Value.agg #[.int .i64 r0, b0, c0]] : Array Value).getD m undef) [] := fun m h => by
    match m, h with
    | 0, _ => exact .agg rfl fun k hk => match k, hk with
      | 0, _ => .val
      | 1, _ => rdR0 _
      | 2, _ => rdB0 _
  have hVs := tabZ_laid hLaid rfl
  refine (below_ofG (lawLMf_c r0 R0 B0 hR0 hB0 hBr0) hVs rfl hrd).mono fun e W' ⟨he, hb, hz⟩ => ?_
  simp only [List.append_nil] at hW'
  have hS0 : ∀ sp : Nat → Bool, (∀ x ∈ p0, sp x.block = true) → DataW.Trod enc Tryd.prog W' 0 sp true 34 (.agg #[.int .i64 r0, b0, c0]) _ p0 := fun sp hsp =>
    WideElems.Trod_stays Tryd.laidOut (by kernel_rfl) (of_decide_eq_true (by kernel_rfl)) h0 (fun x hx => hb.same (hW'.lt x (by simp [hx]))) (fun x hx => hsp x (by simp [hx]))
  have hR1 : ∀ (b : Nat) (sp : Nat → Bool) (hd : Bool), DataW.Trod enc Tryd.prog W' b sp hd 4 (.bool true) (.lit (.bool true)) [] := fun _ _ _ => shut_bool Tryd.underlying4 true
  refine ⟨_, he, post_of_new (pa := p0) (pv := []) hW' (fun b sp hd => trodAll_mk1 (hR1 b sp hd)) (fun sp hsp => trodAll_mk1 (hS0 sp hsp)) (fun _ _ => ?_) ?_ ?_ hz ?_⟩
  · rfl
  · simp
  · exact hb.frame _
  · exact ok_one (by kernel_rfl) rfl (okWide_bool_mk Tryd.underlying4 true)

theorem holds : Rows.FnExactManiplexOfSaid :=
  OpenClaim.holds_of_wide 6 Tryd.f6 rfl rfl rfl rfl rfl rfl rfl ⟨rfl, rfl, rfl, rfl, rfl⟩ rfl rfl rfl rfl rfl (by kernel_rfl) Tryd.func6 (by kernel_rfl)
    (of_decide_eq_true (by kernel_rfl)) (by unfold Func.isWrapper; first | (rw [if_pos (by decide +kernel)]; kernel_rfl) | (rw [if_neg (by decide +kernel)]; exact ⟨rfl, rfl⟩))
    (fun os started H enc _ => lifted os started H enc)

theorem card_holds : Rows.FnExactManiplexOfCardSaid :=
  Claim7.holds_tied_plain_at .later [] [.data, .data, .data] true Rows.fnExactManiplexOfCard.stood.harness Rows.fnExactManiplexOfCard.stood.looks
    holds (fun _ h => by cases h) (by kernel_rfl) (fun _ h => by cases h) fnExactManiplexOf_row_tie rfl ⟨rfl, rfl⟩ (by kernel_rfl) rfl
    (fun f fn hf hfn => by
      obtain rfl : f = 6 := Option.some.inj ((show Tryd.prog.funcNamed "loop.example/g01108/laws.FnExactManiplexOf" = some 6 by kernel_rfl).symm.trans hf) |>.symm
      obtain rfl : fn = Tryd.f6 := (Option.some.inj (Tryd.func6.symm.trans hfn)).symm
      exact ⟨by kernel_rfl, fun j t ht => by
        rw [Tryd.params6] at ht
        have hm : t ∈ [34] := by simpa using Array.mem_of_getElem? ht
        have hall : ([34].all fun u => !Tryd.prog.wantsStandIn u) = true := by kernel_rfl
        exact (show Tryd.prog.wantsStandIn t = false by simpa using List.all_eq_true.1 hall t hm)⟩)
    (by kernel_rfl)

end Go.Proofs.YtghhlcioabdpfaaDoor.JMf
