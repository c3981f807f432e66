/- The numbers of the orbits: the library's walk. -/
import Derived.Test.YtkolabjcmephaaaLb2
import Derived.Test.YtkolabjcmephaaaOrb
set_option linter.unusedSimpArgs false
set_option linter.unusedVariables false
set_option maxRecDepth 100000
namespace Go.Proofs.Ytkolabjcmephaaa
open Go.Gov
open Classical

def nz (O : List Nat) : List Int := O.map fun (x : Nat) => (x : Int)
theorem nz_len (O : List Nat) : (nz O).length = O.length := by simp [nz]
theorem nz_snoc (O : List Nat) (x : Nat) : nz (O ++ [x]) = nz O ++ [(x : Int)] := by simp [nz]

/-- What holds while the orbit of i is walked: V were met, O wait. -/
structure OrbI (L : List (List Int)) (n i : Nat) (V O : List Nat) (x : Option (Nat × Nat)) : Prop where
  nd : V.Nodup
  start : i ∈ V
  reach : ∀ y ∈ V, y < n ∧ Rch L i y
  wait : ∀ y ∈ O, y ∈ V
  done : ∀ y ∈ V, y ∉ O → (∀ q, x = some q → y ≠ q.1) → ∀ p ∈ L, (p.getD y 0).toNat ∈ V
  now : ∀ q, x = some q → q.1 ∈ V ∧ ∀ j, j < q.2 → ((L.getD j []).getD q.1 0).toNat ∈ V
  short : O.length ≤ V.length

theorem OrbI.pop {L : List (List Int)} {n i : Nat} {V O : List Nat} {x : Nat} (h : OrbI L n i V (O ++ [x]) none) : OrbI L n i V O (some (x, 0)) :=
  ⟨h.nd, h.start, h.reach, fun y hy => h.wait y (by simp [hy]), fun y hy hno hx => h.done y hy (by simp [hno, hx (x, 0) rfl]) (fun q hq => by cases hq), fun q hq => by
    cases hq
    exact ⟨h.wait x (by simp), fun j hj => absurd hj (by omega)⟩, by have := h.short; simp at this; omega⟩
theorem OrbI.skip {L : List (List Int)} {n i : Nat} {V O : List Nat} {x k : Nat} (h : OrbI L n i V O (some (x, k))) (hy : ((L.getD k []).getD x 0).toNat ∈ V) : OrbI L n i V O (some (x, k + 1)) :=
  ⟨h.nd, h.start, h.reach, h.wait, fun y hy hno hx => h.done y hy hno fun q hq => by cases hq; exact hx (x, k + 1) rfl, fun q hq => by
    cases hq
    obtain ⟨h1, h2⟩ := h.now (x, k) rfl
    refine ⟨h1, fun j hj => ?_⟩
    rcases Nat.lt_or_ge j k with h3 | h3
    · exact h2 j h3
    · obtain rfl : j = k := by dsimp only at hj; omega
      exact hy, h.short⟩
theorem OrbI.add {L : List (List Int)} {n i : Nat} {V O : List Nat} {x k : Nat} (h : OrbI L n i V O (some (x, k))) (hy : ((L.getD k []).getD x 0).toNat ∉ V) (hn : ((L.getD k []).getD x 0).toNat < n) (hr : Rch L i ((L.getD k []).getD x 0).toNat) :
    OrbI L n i (V ++ [((L.getD k []).getD x 0).toNat]) (O ++ [((L.getD k []).getD x 0).toNat]) (some (x, k + 1)) := by
  generalize hz : ((L.getD k []).getD x 0).toNat = z at hy hn hr
  refine ⟨?_, by simp [h.start], fun y hy' => ?_, fun y hy' => ?_, fun y hy' hno hx p hp => ?_, fun q hq => ?_, by have := h.short; simp; omega⟩
  · rw [List.nodup_append]
    exact ⟨h.nd, by simp, fun a ha b hb => by simp at hb; subst hb; exact fun e => hy (e ▸ ha)⟩
  · rcases List.mem_append.1 hy' with h1 | h1
    · exact h.reach y h1
    · simp at h1; subst h1; exact ⟨hn, hr⟩
  · rcases List.mem_append.1 hy' with h1 | h1
    · simp [h.wait y h1]
    · simp [List.mem_singleton.1 h1]
  · have hyO : y ∉ O := fun hm => hno (by simp [hm])
    have hyz : y ≠ z := fun e => hno (by simp [e])
    have hyV : y ∈ V := by
      rcases List.mem_append.1 hy' with h1 | h1
      · exact h1
      · exact absurd (List.mem_singleton.1 h1) hyz
    exact List.mem_append_left _ (h.done y hyV hyO (fun q hq => by cases hq; exact hx (x, k + 1) rfl) p hp)
  · cases hq
    obtain ⟨h1, h2⟩ := h.now (x, k) rfl
    refine ⟨by simp [h1], fun j hj => ?_⟩
    rcases Nat.lt_or_ge j k with h3 | h3
    · exact List.mem_append_left _ (h2 j h3)
    · obtain rfl : j = k := by dsimp only at hj; omega
      dsimp only
      rw [hz]
      exact List.mem_append_right _ (List.mem_singleton.2 rfl)
theorem OrbI.fin {L : List (List Int)} {n i : Nat} {V O : List Nat} {x : Nat} (h : OrbI L n i V O (some (x, L.length))) : OrbI L n i V O none :=
  ⟨h.nd, h.start, h.reach, h.wait, fun y hy hno _ p hp => by
    by_cases e : y = x
    · subst e
      obtain ⟨j, hj, rfl⟩ := List.mem_iff_getElem.1 hp
      have := (h.now (y, L.length) rfl).2 j hj
      simpa [hj] using this
    · exact h.done y hy hno (fun q hq => by cases hq; exact e) p hp, fun q hq => (by cases hq), h.short⟩

theorem row_mem {L : List (List Int)} {k : Nat} (h : k < L.length) : L.getD k [] ∈ L := by
  rw [show L.getD k [] = L[k] by simp [h]]; exact List.getElem_mem _

set_option maxHeartbeats 4000000 in
theorem orbitLabels_c (n : Nat) (L : List (List Int)) (hL : MvOk n L) (hn : n ≤ 1048576) (hl : L.length ≤ 1048576) : Pure Try.prog 99 [i64 n, mat L] (.tup [.sl 0 1 0 n, i64 (ncnt L n)]) [some (intsC (labs n L))] := by
  refine pureVg [0] ok99 rfl ?_; unfold c99
  (repeat first | simp only [go_sem, ↓reduceIte, Nat.reduceEqDiff, Nat.reduceAdd, reduceCtorEq] | (with_reducible refine And.intro ?_ ?_; focus first | omega | decide | grind) | (with_reducible refine Br.mk ?_ ?_; focus (intros; omega)) | decide)
  refine pureC (repeat_c (-1) n (by omega)) (by (try simp only [go_sem, ↓reduceIte, Nat.reduceEqDiff, Nat.reduceAdd, reduceCtorEq, Nat.reduceMul, List.take_succ_cons, List.take_zero, List.take_nil]); try rfl) (by first | rfl | simp only [go_sem, ↓reduceIte, Nat.reduceEqDiff, Nat.reduceAdd, reduceCtorEq]) ?_
  (repeat first | simp only [go_sem, ↓reduceIte, Nat.reduceEqDiff, Nat.reduceAdd, reduceCtorEq] | (with_reducible refine And.intro ?_ ?_; focus first | omega | decide | grind) | (with_reducible refine Br.mk ?_ ?_; focus (intros; omega)) | decide)
  rw [← lbV_start n L]
  refine V_loop (α := Nat) (S := fun i => ([(1, mat L), (6, .sl 0 1 0 n), (7, i64 (ncnt L i)), (17, i64 n), (18, i64 i)], [some (intsC (lbV n L i []))])) (C := fun i => i ≤ n) (μ := fun i => n - i) 0 (by omega) (Ref.gc [1] rfl (by simp only [go_sem, ↓reduceIte, Nat.reduceEqDiff, Nat.reduceAdd, reduceCtorEq]) (by simp [sub, fget, go_sem, ↓reduceIte, Nat.reduceEqDiff, Nat.reduceAdd, reduceCtorEq, ncnt])) ?_
  intro i hi
  have hlen := lbV_len n L i []
  have hcl := ncnt_le L i
  (repeat first | simp only [go_sem, ↓reduceIte, Nat.reduceEqDiff, Nat.reduceAdd, reduceCtorEq] | (with_reducible refine And.intro ?_ ?_; focus first | omega | decide | grind) | (with_reducible refine Br.mk ?_ ?_; focus (intros; omega)) | decide)
  refine ⟨fun hc => ?_, fun hc => ?_⟩
  · have hi' : i < n := by omega
    have hat := lbV_at (n := n) (L := L) (i := i) (V := []) hi'
    simp only [List.not_mem_nil, if_false] at hat
    obtain ⟨f1, f2, f3⟩ := fst_spec L i
    (repeat first | simp only [go_sem, ↓reduceIte, Nat.reduceEqDiff, Nat.reduceAdd, reduceCtorEq] | (with_reducible refine And.intro ?_ ?_; focus first | omega | decide | grind) | (with_reducible refine Br.mk ?_ ?_; focus (intros; omega)) | decide)
    refine ⟨fun hc1 => ?_, fun hc1 => ?_⟩
    · have hne : fst L i ≠ i := fun e => by rw [hat, if_neg (by omega)] at hc1; omega
      (repeat first | simp only [go_sem, ↓reduceIte, Nat.reduceEqDiff, Nat.reduceAdd, reduceCtorEq] | (with_reducible refine And.intro ?_ ?_; focus first | omega | decide | grind) | (with_reducible refine Br.mk ?_ ?_; focus (intros; omega)) | decide)
      refine ⟨i + 1, by omega, by omega, ?_⟩
      rw [← lbV_old hL hne, ncnt_old hne]
      exact Ref.frame (by simp [sub, fget])
    · have hfi : fst L i = i := by
        rcases Nat.lt_or_ge (fst L i) i with h | h
        · rw [hat, if_pos h] at hc1; omega
        · omega
      have hset := lbV_set (n := n) (L := L) (i := i) (V := []) hi' (by omega)
      simp only [List.nil_append] at hset
      (repeat first | simp only [go_sem, ↓reduceIte, Nat.reduceEqDiff, Nat.reduceAdd, reduceCtorEq] | (with_reducible refine And.intro ?_ ?_; focus first | omega | decide | grind) | (with_reducible refine Br.mk ?_ ?_; focus (intros; omega)) | decide)
      rw [hset]
      have hI0 : OrbI L n i [i] [i] none := ⟨by simp, by simp, fun y hy => by simp at hy; subst hy; exact ⟨hi', .refl⟩, fun y hy => hy, fun y hy hno => absurd hy hno, fun q hq => (by cases hq), by simp⟩
      refine V_loop (α := List Nat × List Nat) (S := fun p => ([(1, mat L), (6, .sl 0 1 0 n), (7, i64 (ncnt L i)), (9, .sl 1 1 0 p.2.length), (17, i64 n), (18, i64 i)], [some (intsC (lbV n L i p.1)), some (intsC (nz p.2))])) (C := fun p => OrbI L n i p.1 p.2 none) (μ := fun p => 2 * (n - p.1.length) + p.2.length) ([i], [i]) hI0 (Ref.to (by simp [nz, intsC]) (by simp [sub, fget])) ?_
      rintro ⟨V, O⟩ hI
      have hI : OrbI L n i V O none := hI
      have hlenV := lbV_len n L i V
      have hnzl := nz_len O
      have hVn := nodup_len hI.nd fun y hy => (hI.reach y hy).1
      have hOs := hI.short
      (repeat first | simp only [go_sem, ↓reduceIte, Nat.reduceEqDiff, Nat.reduceAdd, reduceCtorEq] | (with_reducible refine And.intro ?_ ?_; focus first | omega | decide | grind) | (with_reducible refine Br.mk ?_ ?_; focus (intros; omega)) | decide)
      refine ⟨fun hc2 => ?_, fun hc2 => ?_⟩
      · obtain ⟨O1, x, rfl⟩ : ∃ O1 x, O = O1 ++ [x] := by
          have hne : O ≠ [] := by intro h; subst h; simp at hc2
          exact ⟨O.dropLast, O.getLast hne, (List.dropLast_concat_getLast hne).symm⟩
        have hx := hI.wait x (by simp)
        obtain ⟨hxn, hxr⟩ := hI.reach x hx
        have hol : (O1 ++ [x]).length = O1.length + 1 := by simp
        have hxv : (nz (O1 ++ [x])).getD O1.length 0 = (x : Int) := by simp [nz]
        have hpop := hI.pop
        have hct2 := ncnt_le L i
        (repeat first | simp only [go_sem, ↓reduceIte, Nat.reduceEqDiff, Nat.reduceAdd, reduceCtorEq] | (with_reducible refine And.intro ?_ ?_; focus first | omega | decide | grind) | (with_reducible refine Br.mk ?_ ?_; focus (intros; omega)) | decide)
        refine V_loop (α := Nat × List Nat × List Nat) (S := fun p => ([(1, mat L), (6, .sl 0 1 0 n), (7, i64 (ncnt L i)), (9, .sl 1 1 0 p.2.2.length), (10, i64 x), (17, i64 n), (18, i64 i), (46, mat L), (47, i64 L.length), (48, i64 p.1)], [some (intsC (lbV n L i p.2.1)), some (intsC (nz p.2.2))])) (C := fun p => p.1 ≤ L.length ∧ OrbI L n i p.2.1 p.2.2 (some (x, p.1)) ∧ 2 * (n - p.2.1.length) + p.2.2.length < 2 * (n - V.length) + (O1 ++ [x]).length) (μ := fun p => L.length - p.1) (0, V, O1) ⟨Nat.zero_le _, hpop, by simp⟩ ?_ ?_
        · refine (Ref.cut 1 O1.length 9 (cs := intsC (nz (O1 ++ [x]))) (k := 1) (off := 0) (len := O1.length) rfl (by simp [intsC, nz]) (by simp [fget]) (by omega)).trans (Ref.gc [0, 2] rfl ?_ ?_)
          · simp only [go_sem, ↓reduceIte, Nat.reduceEqDiff, Nat.reduceAdd, reduceCtorEq, List.cons_append, List.nil_append]
            congr 3
            rw [take_intsC, nz_snoc, List.take_append_of_le_length (by simp [nz]), ← nz_len O1, List.take_length]
            exact rnmL_ints _ _
          · simp [sub, fget, go_sem, ↓reduceIte, Nat.reduceEqDiff, Nat.reduceAdd, reduceCtorEq]
            simp [nz]
        · rintro ⟨k, V2, O2⟩ ⟨hk, hI2, hμ⟩
          dsimp only at hk hI2 hμ
          have hlenV2 := lbV_len n L i V2
          have hnzl2 := nz_len O2
          have hVn2 := nodup_len hI2.nd fun y hy => (hI2.reach y hy).1
          have hOs2 := hI2.short
          (repeat first | simp only [go_sem, ↓reduceIte, Nat.reduceEqDiff, Nat.reduceAdd, reduceCtorEq] | (with_reducible refine And.intro ?_ ?_; focus first | omega | decide | grind) | (with_reducible refine Br.mk ?_ ?_; focus (intros; omega)) | decide)
          refine ⟨fun hc3 => ?_, fun hc3 => ?_⟩
          · have hrm := row_mem (L := L) (k := k) (by omega)
            obtain ⟨hrl, hrb⟩ := hL _ hrm
            obtain ⟨y1, y2, _⟩ := hrb x hxn
            have hyr := hxr.step hrm
            have hfy := fst_eq hL hyr hi'
            have hat3 := lbV_at (n := n) (L := L) (i := i) (V := V2) (j := ((L.getD k []).getD x 0).toNat) (by omega)
            rw [if_neg (by omega)] at hat3
            (repeat first | simp only [go_sem, ↓reduceIte, Nat.reduceEqDiff, Nat.reduceAdd, reduceCtorEq] | (with_reducible refine And.intro ?_ ?_; focus first | omega | decide | grind) | (with_reducible refine Br.mk ?_ ?_; focus (intros; omega)) | decide)
            refine ⟨fun hc4 => ?_, fun hc4 => ?_⟩
            · have hno : ((L.getD k []).getD x 0).toNat ∉ V2 := fun hm => by rw [hat3, if_pos hm] at hc4; omega
              have hset3 := lbV_set (n := n) (L := L) (i := i) (V := V2) (j := ((L.getD k []).getD x 0).toNat) (by omega) (by omega)
              have hadd := hI2.add hno (by omega) hyr
              have hVn3 := nodup_len hadd.nd fun y hy => (hadd.reach y hy).1
              have hl3 : (V2 ++ [((L.getD k []).getD x 0).toNat]).length = V2.length + 1 := by simp
              have hl4 : (O2 ++ [((L.getD k []).getD x 0).toNat]).length = O2.length + 1 := by simp
              have hy3 : ((((L.getD k []).getD x 0).toNat : Nat) : Int) = (L.getD k []).getD x 0 := by omega
              (repeat first | simp only [go_sem, ↓reduceIte, Nat.reduceEqDiff, Nat.reduceAdd, reduceCtorEq] | (with_reducible refine And.intro ?_ ?_; focus first | omega | decide | grind) | (with_reducible refine Br.mk ?_ ?_; focus (intros; omega)) | decide)
              refine ⟨(k + 1, V2 ++ [((L.getD k []).getD x 0).toNat], O2 ++ [((L.getD k []).getD x 0).toNat]), ⟨by dsimp only; omega, hadd, by dsimp only; omega⟩, by dsimp only; omega, ?_⟩
              dsimp only
              rw [← hset3, nz_snoc, hy3]
              refine Ref.gc [0, 3] rfl ?_ (by simp [sub, fget, go_sem, ↓reduceIte, Nat.reduceEqDiff, Nat.reduceAdd, reduceCtorEq])
              (try simp only [go_sem, ↓reduceIte, Nat.reduceEqDiff, Nat.reduceAdd, reduceCtorEq, ← hnzl2, take_lenI, one_intsC, app_intsC])
            · have hin : ((L.getD k []).getD x 0).toNat ∈ V2 := by
                rcases Classical.em (((L.getD k []).getD x 0).toNat ∈ V2) with h | h
                · exact h
                · rw [hat3, if_neg h] at hc4; omega
              (repeat first | simp only [go_sem, ↓reduceIte, Nat.reduceEqDiff, Nat.reduceAdd, reduceCtorEq] | (with_reducible refine And.intro ?_ ?_; focus first | omega | decide | grind) | (with_reducible refine Br.mk ?_ ?_; focus (intros; omega)) | decide)
              exact ⟨(k + 1, V2, O2), ⟨by dsimp only; omega, hI2.skip hin, by dsimp only; omega⟩, by dsimp only; omega, by exact Ref.frame (by simp [sub, fget])⟩
          · obtain rfl : k = L.length := by omega
            (repeat first | simp only [go_sem, ↓reduceIte, Nat.reduceEqDiff, Nat.reduceAdd, reduceCtorEq] | (with_reducible refine And.intro ?_ ?_; focus first | omega | decide | grind) | (with_reducible refine Br.mk ?_ ?_; focus (intros; omega)) | decide)
            exact ⟨(V2, O2), hI2.fin, by dsimp only; omega, by exact Ref.frame (by simp [sub, fget])⟩
      · obtain rfl : O = [] := List.eq_nil_of_length_eq_zero (by omega)
        have hV : ∀ j, j ∈ V ↔ Rch L i j := fun j => ⟨fun h => (hI.reach j h).2, closed_all hI.start (fun y hy => hI.done y hy (by simp) (fun q hq => by cases hq)) j⟩
        have hnew := lbV_new hL hi' hfi hV
        have hct := ncnt_new hfi
        (repeat first | simp only [go_sem, ↓reduceIte, Nat.reduceEqDiff, Nat.reduceAdd, reduceCtorEq] | (with_reducible refine And.intro ?_ ?_; focus first | omega | decide | grind) | (with_reducible refine Br.mk ?_ ?_; focus (intros; omega)) | decide)
        refine ⟨i + 1, by omega, by omega, ?_⟩
        rw [← hnew]
        refine Ref.gc [0] rfl ?_ (by simp [sub, fget, go_sem, ↓reduceIte, Nat.reduceEqDiff, Nat.reduceAdd, reduceCtorEq, hct])
        (try simp only [go_sem, ↓reduceIte, Nat.reduceEqDiff, Nat.reduceAdd, reduceCtorEq])
  · obtain rfl : i = n := by omega
    rw [lbV_end]
    (repeat first | simp only [go_sem, ↓reduceIte, Nat.reduceEqDiff, Nat.reduceAdd, reduceCtorEq] | (with_reducible refine And.intro ?_ ?_; focus first | omega | decide | grind) | (with_reducible refine Br.mk ?_ ?_; focus (intros; omega)) | decide)
    (try simp only [go_sem, ↓reduceIte, Nat.reduceEqDiff, Nat.reduceAdd, reduceCtorEq, and_self])

end Go.Proofs.Ytkolabjcmephaaa
