/- The numbers of the orbits: the rule's list of them. -/
import Derived.Test.YtkolabjcmephaaaOs
set_option linter.unusedSimpArgs false
set_option linter.unusedVariables false
set_option maxRecDepth 100000
namespace Go.Proofs.Ytkolabjcmephaaa
open Go.Gov
open Classical

theorem nz_at {V : List Nat} {j : Nat} (h : j < V.length) : (nz V).getD j 0 = (V[j] : Int) := by simp [nz, h]
theorem take_succN {V : List Nat} {j : Nat} (h : j < V.length) : V.take (j + 1) = V.take j ++ [V[j]] := by rw [List.take_add_one, List.getElem?_eq_getElem h]; rfl

set_option maxHeartbeats 4000000 in
theorem l01Orbits_c (n : Nat) (L : List (List Int)) (hL : MvOk n L) (hn : n ≤ 1048576) (hl : L.length ≤ 1048576) : Pure Try.prog 79 [i64 n, mat L] (.sl 0 1 0 n) [some (intsC (labs n L))] := by
  refine pureVg [0] ok79 rfl ?_; unfold c79
  (repeat first | simp only [go_sem, ↓reduceIte, Nat.reduceEqDiff, Nat.reduceAdd, reduceCtorEq] | (with_reducible refine And.intro ?_ ?_; focus first | omega | decide | grind) | (with_reducible refine Br.mk ?_ ?_; focus (intros; omega)) | decide)
  refine V_loop (α := Nat) (S := fun k => ([(0, i64 n), (1, mat L), (5, .sl 0 1 0 k), (6, i64 k)], [some (intsC (List.replicate k (-1)))])) (C := fun k => k ≤ n) (μ := fun k => n - k) 0 (by omega) (Ref.to (by simp [intsC]) (by simp [sub, fget])) ?_
  intro k hk
  have hkl : (List.replicate k (-1 : Int)).length = k := by simp
  (repeat first | simp only [go_sem, ↓reduceIte, Nat.reduceEqDiff, Nat.reduceAdd, reduceCtorEq] | (with_reducible refine And.intro ?_ ?_; focus first | omega | decide | grind) | (with_reducible refine Br.mk ?_ ?_; focus (intros; omega)) | decide)
  refine ⟨fun hc => ?_, fun hc => ?_⟩
  · (repeat first | simp only [go_sem, ↓reduceIte, Nat.reduceEqDiff, Nat.reduceAdd, reduceCtorEq] | (with_reducible refine And.intro ?_ ?_; focus first | omega | decide | grind) | (with_reducible refine Br.mk ?_ ?_; focus (intros; omega)) | decide)
    refine ⟨k + 1, by omega, by omega, Ref.gc [2] rfl ?_ (by simp [sub, fget, go_sem, ↓reduceIte, Nat.reduceEqDiff, Nat.reduceAdd, reduceCtorEq])⟩
    have e1 : (intsC (List.replicate k (-1))).take k = intsC (List.replicate k (-1)) := List.take_of_length_le (by simp [intsC])
    (try simp only [go_sem, ↓reduceIte, Nat.reduceEqDiff, Nat.reduceAdd, reduceCtorEq, e1, one_intsC, app_intsC, List.replicate_succ'])
  · obtain rfl : k = n := by omega
    (repeat first | simp only [go_sem, ↓reduceIte, Nat.reduceEqDiff, Nat.reduceAdd, reduceCtorEq] | (with_reducible refine And.intro ?_ ?_; focus first | omega | decide | grind) | (with_reducible refine Br.mk ?_ ?_; focus (intros; omega)) | decide)
    rw [← lbV_start k L]
    refine V_loop (α := Nat) (S := fun i => ([(0, i64 k), (1, mat L), (5, .sl 0 1 0 k), (7, i64 (ncnt L i)), (8, i64 i)], [some (intsC (lbV k L i []))])) (C := fun i => i ≤ k) (μ := fun i => k - i) 0 (by omega) (Ref.to (by simp [ncnt]) (by simp [sub, fget, ncnt])) ?_
    intro i hi
    have hlen := lbV_len k L i []
    have hcl := ncnt_le L i
    (repeat first | simp only [go_sem, ↓reduceIte, Nat.reduceEqDiff, Nat.reduceAdd, reduceCtorEq] | (with_reducible refine And.intro ?_ ?_; focus first | omega | decide | grind) | (with_reducible refine Br.mk ?_ ?_; focus (intros; omega)) | decide)
    refine ⟨fun hc => ?_, fun hc => ?_⟩
    · have hi' : i < k := by omega
      have hat := lbV_at (n := k) (L := L) (i := i) (V := []) hi'
      simp only [List.not_mem_nil, if_false] at hat
      obtain ⟨f1, f2, f3⟩ := fst_spec L i
      (repeat first | simp only [go_sem, ↓reduceIte, Nat.reduceEqDiff, Nat.reduceAdd, reduceCtorEq] | (with_reducible refine And.intro ?_ ?_; focus first | omega | decide | grind) | (with_reducible refine Br.mk ?_ ?_; focus (intros; omega)) | decide)
      refine ⟨fun hc1 => ?_, fun hc1 => ?_⟩
      · have hne : fst L i ≠ i := fun e => by rw [hat, if_neg (by omega)] at hc1; omega
        (repeat first | simp only [go_sem, ↓reduceIte, Nat.reduceEqDiff, Nat.reduceAdd, reduceCtorEq] | (with_reducible refine And.intro ?_ ?_; focus first | omega | decide | grind) | (with_reducible refine Br.mk ?_ ?_; focus (intros; omega)) | decide)
        refine ⟨i + 1, by omega, by omega, ?_⟩
        rw [← lbV_old hL hne, ncnt_old hne]
        exact Ref.frame (by simp [sub, fget])
      · have hfi : fst L i = i := by
          rcases Nat.lt_or_ge (fst L i) i with h | h
          · rw [hat, if_pos h] at hc1; omega
          · omega
        have hnew := fun V => lbV_new (n := k) (L := L) (i := i) (V := V) hL hi' hfi
        have hcnt := ncnt_new hfi
        (repeat first | simp only [go_sem, ↓reduceIte, Nat.reduceEqDiff, Nat.reduceAdd, reduceCtorEq] | (with_reducible refine And.intro ?_ ?_; focus first | omega | decide | grind) | (with_reducible refine Br.mk ?_ ?_; focus (intros; omega)) | decide)
        refine pureEC (l01Orbit_c k L i hL hi' hn hl) (by simp only [go_sem, ↓reduceIte, Nat.reduceEqDiff, Nat.reduceAdd, reduceCtorEq] <;> rfl) (fun o => by first | rfl | simp only [go_sem, ↓reduceIte, Nat.reduceEqDiff, Nat.reduceAdd, reduceCtorEq]) fun o ho => ?_
        obtain ⟨hnd, hV⟩ := ho
        have hVlt : ∀ j, j ∈ o → j < k := fun j hj => ((hV j).1 hj).lt hL hi'
        have hVn := nodup_len hnd hVlt
        have hnzl := nz_len o
        (repeat first | simp only [go_sem, ↓reduceIte, Nat.reduceEqDiff, Nat.reduceAdd, reduceCtorEq] | (with_reducible refine And.intro ?_ ?_; focus first | omega | decide | grind) | (with_reducible refine Br.mk ?_ ?_; focus (intros; omega)) | decide)
        refine V_loop (α := Nat) (S := fun j => ([(0, i64 k), (1, mat L), (5, .sl 0 1 0 k), (7, i64 (ncnt L i)), (8, i64 i), (9, .sl 1 1 0 o.length), (10, i64 j)], [some (intsC (lbV k L i (o.take j))), some (intsC (nz o))])) (C := fun j => j ≤ o.length) (μ := fun j => o.length - j) 0 (by omega) (Ref.to (by simp) (by simp [sub, fget])) ?_
        intro j hj
        have hlen2 := lbV_len k L i (o.take j)
        (repeat first | simp only [go_sem, ↓reduceIte, Nat.reduceEqDiff, Nat.reduceAdd, reduceCtorEq] | (with_reducible refine And.intro ?_ ?_; focus first | omega | decide | grind) | (with_reducible refine Br.mk ?_ ?_; focus (intros; omega)) | decide)
        refine ⟨fun hc2 => ?_, fun hc2 => ?_⟩
        · have hj' : j < o.length := by omega
          have hoj : o[j] ∈ o := List.getElem_mem _
          have hlt := hVlt _ hoj
          have hfe := fst_eq hL ((hV _).1 hoj) hi'
          have hat2 := nz_at hj'
          have hset := lbV_set (n := k) (L := L) (i := i) (V := o.take j) (j := o[j]) hlt (by omega)
          rw [← take_succN hj'] at hset
          generalize hx : o[j] = x at hoj hlt hfe hat2 hset
          have hxi : ((x : Nat) : Int).toNat = x := by omega
          (repeat first | simp only [go_sem, ↓reduceIte, Nat.reduceEqDiff, Nat.reduceAdd, reduceCtorEq] | (with_reducible refine And.intro ?_ ?_; focus first | omega | decide | grind) | (with_reducible refine Br.mk ?_ ?_; focus (intros; omega)) | decide)
          refine ⟨j + 1, by omega, by omega, ?_⟩
          simp only [hat2, hxi, hset]
          exact Ref.frame (by simp [sub, fget])
        · obtain rfl : j = o.length := by omega
          rw [List.take_length, hnew o hV]
          (repeat first | simp only [go_sem, ↓reduceIte, Nat.reduceEqDiff, Nat.reduceAdd, reduceCtorEq] | (with_reducible refine And.intro ?_ ?_; focus first | omega | decide | grind) | (with_reducible refine Br.mk ?_ ?_; focus (intros; omega)) | decide)
          refine ⟨i + 1, by omega, by omega, ?_⟩
          rw [hcnt]
          exact Ref.gc [0] rfl (by simp only [go_sem, ↓reduceIte, Nat.reduceEqDiff, Nat.reduceAdd, reduceCtorEq]) (by simp [sub, fget, go_sem, ↓reduceIte, Nat.reduceEqDiff, Nat.reduceAdd, reduceCtorEq])
    · obtain rfl : i = k := by omega
      rw [lbV_end]
      (repeat first | simp only [go_sem, ↓reduceIte, Nat.reduceEqDiff, Nat.reduceAdd, reduceCtorEq] | (with_reducible refine And.intro ?_ ?_; focus first | omega | decide | grind) | (with_reducible refine Br.mk ?_ ?_; focus (intros; omega)) | decide)
      (try simp only [go_sem, ↓reduceIte, Nat.reduceEqDiff, Nat.reduceAdd, reduceCtorEq, and_self])

end Go.Proofs.Ytkolabjcmephaaa
