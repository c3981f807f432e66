/- Texts that belong together. -/
import Derived.Test.YtgdijhchndjhlaaGreatDoorZr
import Derived.Test.YtgdijhchndjhlaaGreatDoorX8
import Derived.Test.YtgdijhchndjhlaaGreatDoorU1
import Derived.Test.YtgdijhchndjhlaaGreatDoorU2
set_option linter.unusedSimpArgs false
set_option linter.unusedVariables false
set_option maxRecDepth 100000
namespace Go.Proofs.YtgdijhchndjhlaaGreatDoor
open Go.Gov
open Classical

theorem cloneZ0 (b : Option Addr) (cap : Nat) : Pure Tryz.prog 52 [.val (.slice b 0 cap)] (.sl 0 1 0 0) [some []] := by
  cases b with
  | none =>
    refine pureRV ok52 rfl ?_; unfold c52
    (repeat first | simp only [go_sem, ↓reduceIte, Nat.reduceEqDiff, Nat.reduceAdd, reduceCtorEq] | with_reducible refine V_W ?_ | (with_reducible refine And.intro ?_ ?_; focus first | assumption | omega | decide | grind) | (with_reducible refine Br.mk ?_ ?_; focus (intros; omega)) | decide)
    simp only [nilOf_val, Option.isNone_none, Option.isNone_some, Option.isSome_some, Option.getD_some, true_and]
    (repeat first | simp only [go_sem, ↓reduceIte, Nat.reduceEqDiff, Nat.reduceAdd, reduceCtorEq] | with_reducible refine V_W ?_ | (with_reducible refine And.intro ?_ ?_; focus first | assumption | omega | decide | grind) | (with_reducible refine Br.mk ?_ ?_; focus (intros; omega)) | decide)
    exact (Ref.nil 0 1 rfl).trans (Ref.to rfl (by simp [sub, fget]))
  | some b =>
    refine pureRV ok52 rfl ?_; unfold c52
    (repeat first | simp only [go_sem, ↓reduceIte, Nat.reduceEqDiff, Nat.reduceAdd, reduceCtorEq] | with_reducible refine V_W ?_ | (with_reducible refine And.intro ?_ ?_; focus first | assumption | omega | decide | grind) | (with_reducible refine Br.mk ?_ ?_; focus (intros; omega)) | decide)
    simp only [nilOf_val, Option.isNone_none, Option.isNone_some, Option.isSome_some, Option.getD_some, true_and]
    (repeat first | simp only [go_sem, ↓reduceIte, Nat.reduceEqDiff, Nat.reduceAdd, reduceCtorEq] | with_reducible refine V_W ?_ | (with_reducible refine And.intro ?_ ?_; focus first | assumption | omega | decide | grind) | (with_reducible refine Br.mk ?_ ?_; focus (intros; omega)) | decide)
    exact Ref.gc [1] rfl (by simp only [go_sem, ↓reduceIte, Nat.reduceEqDiff, Nat.reduceAdd, reduceCtorEq] <;> rfl) (by simp [sub, fget, go_sem, ↓reduceIte, Nat.reduceEqDiff, Nat.reduceAdd, reduceCtorEq])
theorem cloneZ_c (xs : List Int) (hl : xs.length ≤ 1099511627776) : Pure Tryz.prog 52 [ints xs] (.sl 0 1 0 xs.length) [some (intsC xs)] := by
  cases xs with
  | nil => exact CallsX.slc0 fun b cap => cloneZ0 b cap
  | cons x xs => exact clone_c (x :: xs) (by simp) hl
def pshZ (out : List Int) (x : Int) : List Int := if out.getLast? = some x then out else out ++ [x]
def ddZ (S : List Int) : List Int := S.foldl pshZ []
theorem takeZ_one {S : List Int} {j : Nat} (hj : j < S.length) : S.take (j + 1) = S.take j ++ [S.getD j 0] := by
  rw [List.take_succ_eq_append_getElem hj]
  simp [hj]
theorem ddZ_take {S : List Int} {j : Nat} (hj : j < S.length) : ddZ (S.take (j + 1)) = pshZ (ddZ (S.take j)) (S.getD j 0) := by
  unfold ddZ
  rw [takeZ_one hj, List.foldl_append]
  rfl
theorem pshZ_last (out : List Int) (x : Int) : (pshZ out x).getLast? = some x := by
  unfold pshZ
  split
  · assumption
  · simp
theorem ddZ_last {S : List Int} {j : Nat} (hj : j < S.length) : (ddZ (S.take (j + 1))).getLast? = some (S.getD j 0) := by
  rw [ddZ_take hj]
  exact pshZ_last _ _
theorem ddZ_same {S : List Int} {j : Nat} (hj : j < S.length) (h0 : 0 < j) (h : S.getD j 0 = S.getD (j - 1) 0) : ddZ (S.take (j + 1)) = ddZ (S.take j) := by
  obtain ⟨i, rfl⟩ : ∃ i, j = i + 1 := ⟨j - 1, by omega⟩
  rw [ddZ_take hj, pshZ, if_pos]
  rw [ddZ_last (by omega), h]
  rfl
theorem ddZ_new {S : List Int} {j : Nat} (hj : j < S.length) (h0 : 0 < j) (h : S.getD j 0 ≠ S.getD (j - 1) 0) : ddZ (S.take (j + 1)) = ddZ (S.take j) ++ [S.getD j 0] := by
  obtain ⟨i, rfl⟩ : ∃ i, j = i + 1 := ⟨j - 1, by omega⟩
  rw [ddZ_take hj, pshZ, if_neg]
  rw [ddZ_last (by omega)]
  exact fun e => h (Option.some.inj e).symm
theorem ddZ_one {S : List Int} (h : 0 < S.length) : ddZ (S.take 1) = S.take 1 := by
  rw [takeZ_one h]
  rfl
theorem ddZ_short {S : List Int} (h : S.length < 2) : ddZ S = S := by
  match S, h with
  | [], _ => rfl
  | [x], _ => rfl
theorem ddZ_le (S : List Int) : (ddZ S).length ≤ S.length := by
  have h : ∀ (S out : List Int), (S.foldl pshZ out).length ≤ out.length + S.length := by
    intro S
    induction S with
    | nil => intro out; simp
    | cons x S ih =>
      intro out
      rw [List.foldl_cons]
      have h1 := ih (pshZ out x)
      have h2 : (pshZ out x).length ≤ out.length + 1 := by
        unfold pshZ
        split <;> simp
      rw [List.length_cons]
      omega
  have := h S []
  simp only [List.length_nil, Nat.zero_add] at this
  exact this
theorem ddZ_ok {S : List Int} (hS : S.Pairwise (· ≤ ·)) : sst (ddZ S) ∧ ∀ y, y ∈ ddZ S ↔ y ∈ S := by
  have h : ∀ (S out : List Int), sst out → S.Pairwise (· ≤ ·) → (∀ x ∈ S, ∀ y ∈ out, y ≤ x) → (sst (S.foldl pshZ out) ∧ ∀ y, y ∈ S.foldl pshZ out ↔ y ∈ out ∨ y ∈ S) := by
    intro S
    induction S with
    | nil => intro out ho _ _; exact ⟨ho, fun y => by simp⟩
    | cons x S ih =>
      intro out ho hS h
      obtain ⟨h1, h2⟩ := List.pairwise_cons.1 hS
      have hp : sst (pshZ out x) ∧ ∀ y, y ∈ pshZ out x ↔ y ∈ out ∨ y = x := by
        unfold pshZ
        split
        · rename_i hl
          have hm : x ∈ out := List.mem_of_getLast? hl
          exact ⟨ho, fun y => ⟨.inl, fun hy => hy.elim id fun e => e ▸ hm⟩⟩
        · rename_i hl
          refine ⟨List.pairwise_append.2 ⟨ho, by simp, fun a ha b hb => ?_⟩, fun y => by simp⟩
          obtain rfl := List.mem_singleton.1 hb
          have h3 := h b List.mem_cons_self a ha
          refine Classical.byContradiction fun hlt => hl ?_
          obtain rfl : a = b := by omega
          obtain ⟨i, hi, e⟩ := List.mem_iff_getElem.1 ha
          have hlast : out.length - 1 < out.length := by omega
          rw [List.getLast?_eq_getElem?, List.getElem?_eq_getElem hlast]
          by_cases e2 : i = out.length - 1
          · subst e2; rw [e]
          · have h5 := List.pairwise_iff_getElem.1 ho i (out.length - 1) hi hlast (by omega)
            rw [e] at h5
            have h6 := h _ List.mem_cons_self _ (List.getElem_mem hlast)
            omega
      obtain ⟨p1, p2⟩ := hp
      obtain ⟨q1, q2⟩ := ih (pshZ out x) p1 h2 fun z hz y hy => by
        rcases (p2 y).1 hy with h5 | h5
        · exact h z (List.mem_cons_of_mem _ hz) y h5
        · rw [h5]; exact h1 z hz
      exact ⟨q1, fun y => by rw [List.foldl_cons, q2 y, p2 y, List.mem_cons, or_assoc]⟩
  obtain ⟨h1, h2⟩ := h S [] List.Pairwise.nil hS (by simp)
  exact ⟨h1, fun y => by rw [ddZ, h2 y]; simp⟩
set_option maxHeartbeats 4000000 in
theorem compactZ_w (S : List Int) (hl : S.length ≤ 1099511627776) :
    Wri Tryz.prog 54 [.sl 0 1 0 S.length] [some (intsC S)] (.sl 0 1 0 (ddZ S).length) [some (intsC (ddZ S ++ List.replicate (S.length - (ddZ S).length) 0))] := by
  refine wriRV ok54 rfl ?_; unfold c54
  (repeat first | simp only [go_sem, ↓reduceIte, Nat.reduceEqDiff, Nat.reduceAdd, reduceCtorEq] | with_reducible refine V_W ?_ | (with_reducible refine And.intro ?_ ?_; focus first | assumption | omega | decide | grind) | (with_reducible refine Br.mk ?_ ?_; focus (intros; omega)) | decide)
  refine ⟨fun hc => ?_, fun hc => ?_⟩
  · rw [ddZ_short (by omega), Nat.sub_self]
    (repeat first | simp only [go_sem, ↓reduceIte, Nat.reduceEqDiff, Nat.reduceAdd, reduceCtorEq] | with_reducible refine V_W ?_ | (with_reducible refine And.intro ?_ ?_; focus first | assumption | omega | decide | grind) | (with_reducible refine Br.mk ?_ ?_; focus (intros; omega)) | decide)
    exact Ref.to (by simp) (by simp [sub, fget])
  · (repeat first | simp only [go_sem, ↓reduceIte, Nat.reduceEqDiff, Nat.reduceAdd, reduceCtorEq] | with_reducible refine V_W ?_ | (with_reducible refine And.intro ?_ ?_; focus first | assumption | omega | decide | grind) | (with_reducible refine Br.mk ?_ ?_; focus (intros; omega)) | decide)
    refine V_loop (α := Nat) (S := fun k => ([(0, .sl 0 1 0 S.length), (3, i64 (k : Int))], [some (intsC S)])) (C := fun k => 1 ≤ k ∧ k ≤ S.length ∧ ddZ (S.take k) = S.take k) (μ := fun k => S.length - k) 1 ⟨Nat.le_refl _, by omega, ddZ_one (by omega)⟩ (by exact Ref.frame (by simp [sub, fget])) ?_
    rintro k ⟨h1, h2, h3⟩
    (repeat first | simp only [go_sem, ↓reduceIte, Nat.reduceEqDiff, Nat.reduceAdd, reduceCtorEq] | with_reducible refine V_W ?_ | (with_reducible refine And.intro ?_ ?_; focus first | assumption | omega | decide | grind) | (with_reducible refine Br.mk ?_ ?_; focus (intros; omega)) | decide)
    refine ⟨fun hc2 => ?_, fun hc2 => ?_⟩
    · have hkm : ((k : Int) - 1).toNat = k - 1 := by omega
      (repeat first | simp only [go_sem, ↓reduceIte, Nat.reduceEqDiff, Nat.reduceAdd, reduceCtorEq] | with_reducible refine V_W ?_ | (with_reducible refine And.intro ?_ ?_; focus first | assumption | omega | decide | grind) | (with_reducible refine Br.mk ?_ ?_; focus (intros; omega)) | decide)
      (try simp only [hkm, go_sem, ↓reduceIte, Nat.reduceEqDiff, Nat.reduceAdd, reduceCtorEq])
      (repeat first | simp only [go_sem, ↓reduceIte, Nat.reduceEqDiff, Nat.reduceAdd, reduceCtorEq] | with_reducible refine V_W ?_ | (with_reducible refine And.intro ?_ ?_; focus first | assumption | omega | decide | grind) | (with_reducible refine Br.mk ?_ ?_; focus (intros; omega)) | decide)
      refine ⟨fun hc3 => ?_, fun hc3 => ?_⟩
      · have h4 : ddZ (S.take (k + 1)) = S.take k := (ddZ_same (by omega) h1 hc3).trans h3
        clear hkm
        (repeat first | simp only [go_sem, ↓reduceIte, Nat.reduceEqDiff, Nat.reduceAdd, reduceCtorEq] | with_reducible refine V_W ?_ | (with_reducible refine And.intro ?_ ?_; focus first | assumption | omega | decide | grind) | (with_reducible refine Br.mk ?_ ?_; focus (intros; omega)) | decide)
        refine V_loop (α := Nat) (S := fun j => ([(0, .sl 0 1 0 S.length), (3, i64 ((ddZ (S.take (k + j))).length : Int)), (4, .sl 0 1 k (S.length - k)), (5, i64 (j : Int))], [some (intsC (ddZ (S.take (k + j)) ++ S.drop (ddZ (S.take (k + j))).length))])) (C := fun j => 1 ≤ j ∧ k + j ≤ S.length ∧ (ddZ (S.take (k + j))).length < k + j) (μ := fun j => S.length - (k + j)) 1 ⟨Nat.le_refl _, by omega, by rw [h4, List.length_take]; omega⟩ ?_ ?_
        · have h5 : (S.take k).length = k := by rw [List.length_take]; omega
          rw [h4, h5, List.take_append_drop]
          exact Ref.to rfl (by simp [sub, fget])
        rintro j ⟨j1, j2, j3⟩
        obtain ⟨O, hO⟩ : ∃ O, O = ddZ (S.take (k + j)) := ⟨_, rfl⟩
        rw [← hO] at j3 ⊢
        obtain ⟨T, hT⟩ : ∃ T, T = O ++ S.drop O.length := ⟨_, rfl⟩
        have hTl : T.length = S.length := by rw [hT]; simp; omega
        have gT : ∀ i, O.length ≤ i → T.getD i 0 = S.getD i 0 := fun i hi => by
          rw [hT, List.getD_eq_getElem?_getD, List.getElem?_append_right hi, List.getElem?_drop, show O.length + (i - O.length) = i by omega, ← List.getD_eq_getElem?_getD]
        rw [← hT]
        (repeat first | simp only [go_sem, ↓reduceIte, Nat.reduceEqDiff, Nat.reduceAdd, reduceCtorEq] | with_reducible refine V_W ?_ | (with_reducible refine And.intro ?_ ?_; focus first | assumption | omega | decide | grind) | (with_reducible refine Br.mk ?_ ?_; focus (intros; omega)) | decide)
        refine ⟨fun hc4 => ?_, fun hc4 => ?_⟩
        · have hjm : ((j : Int) - 1).toNat = j - 1 := by omega
          have t1 := gT (k + j) (by omega)
          have t2 := gT (k + (j - 1)) (by omega)
          obtain ⟨y, hy⟩ : ∃ y, y = S.getD (k + j) 0 := ⟨_, rfl⟩
          rw [← hy] at t1
          (repeat first | simp only [go_sem, ↓reduceIte, Nat.reduceEqDiff, Nat.reduceAdd, reduceCtorEq] | with_reducible refine V_W ?_ | (with_reducible refine And.intro ?_ ?_; focus first | assumption | omega | decide | grind) | (with_reducible refine Br.mk ?_ ?_; focus (intros; omega)) | decide)
          (try simp only [hjm, t1, t2, go_sem, ↓reduceIte, Nat.reduceEqDiff, Nat.reduceAdd, reduceCtorEq])
          (repeat first | simp only [go_sem, ↓reduceIte, Nat.reduceEqDiff, Nat.reduceAdd, reduceCtorEq] | with_reducible refine V_W ?_ | (with_reducible refine And.intro ?_ ?_; focus first | assumption | omega | decide | grind) | (with_reducible refine Br.mk ?_ ?_; focus (intros; omega)) | decide)
          (try simp only [t1, t2, go_sem, ↓reduceIte, Nat.reduceEqDiff, Nat.reduceAdd, reduceCtorEq])
          refine ⟨fun hc5 => ?_, fun hc5 => ?_⟩
          · have hO2 : ddZ (S.take (k + (j + 1))) = O ++ [y] := by
              rw [hy] at hc5 ⊢
              have hn := ddZ_new (S := S) (j := k + j) (by omega) (by omega) (by rw [show k + j - 1 = k + (j - 1) by omega]; exact hc5)
              rw [hO, ← hn]
              rfl
            have hset : T.set O.length y = (O ++ [y]) ++ S.drop (O ++ [y]).length := by
              rw [hT, List.set_append_right _ _ (Nat.le_refl _), Nat.sub_self, List.length_append, List.length_singleton, List.append_assoc]
              rw [List.drop_eq_getElem_cons (by omega : O.length < S.length)]
              rfl
            (repeat first | simp only [go_sem, ↓reduceIte, Nat.reduceEqDiff, Nat.reduceAdd, reduceCtorEq] | with_reducible refine V_W ?_ | (with_reducible refine And.intro ?_ ?_; focus first | assumption | omega | decide | grind) | (with_reducible refine Br.mk ?_ ?_; focus (intros; omega)) | decide)
            (try simp only [t1, go_sem, ↓reduceIte, Nat.reduceEqDiff, Nat.reduceAdd, reduceCtorEq])
            (repeat first | simp only [go_sem, ↓reduceIte, Nat.reduceEqDiff, Nat.reduceAdd, reduceCtorEq] | with_reducible refine V_W ?_ | (with_reducible refine And.intro ?_ ?_; focus first | assumption | omega | decide | grind) | (with_reducible refine Br.mk ?_ ?_; focus (intros; omega)) | decide)
            refine ⟨j + 1, ⟨by omega, by omega, by rw [hO2]; simp; omega⟩, by omega, Ref.to ?_ (by simp [sub, fget, hO2])⟩
            rw [hO2, ← hset]
          · have hO2 : ddZ (S.take (k + (j + 1))) = O := by
              rw [hy] at hc5
              have hn := ddZ_same (S := S) (j := k + j) (by omega) (by omega) (by rw [show k + j - 1 = k + (j - 1) by omega]; exact hc5)
              rw [hO, ← hn]
              rfl
            (repeat first | simp only [go_sem, ↓reduceIte, Nat.reduceEqDiff, Nat.reduceAdd, reduceCtorEq] | with_reducible refine V_W ?_ | (with_reducible refine And.intro ?_ ?_; focus first | assumption | omega | decide | grind) | (with_reducible refine Br.mk ?_ ?_; focus (intros; omega)) | decide)
            exact ⟨j + 1, ⟨by omega, by omega, by rw [hO2]; omega⟩, by omega, Ref.to (by rw [hO2, hT]) (by simp [sub, fget, hO2])⟩
        · obtain rfl : j = S.length - k := by omega
          rw [show k + (S.length - k) = S.length by omega, List.take_length] at hO
          (repeat first | simp only [go_sem, ↓reduceIte, Nat.reduceEqDiff, Nat.reduceAdd, reduceCtorEq] | with_reducible refine V_W ?_ | (with_reducible refine And.intro ?_ ?_; focus first | assumption | omega | decide | grind) | (with_reducible refine Br.mk ?_ ?_; focus (intros; omega)) | decide)
          rw [← hO]
          have e1 : ((S.length : Int) - (O.length : Int)).toNat = S.length - O.length := by omega
          have e2 : (intsC T).take O.length = intsC O := by rw [hT]; simp [intsC]
          refine Ref.to ?_ (by simp [sub, fget])
          rw [e1, e2, List.drop_eq_nil_of_le (by simp [intsC]; omega), List.append_nil]
          simp [intsC]
      · (repeat first | simp only [go_sem, ↓reduceIte, Nat.reduceEqDiff, Nat.reduceAdd, reduceCtorEq] | with_reducible refine V_W ?_ | (with_reducible refine And.intro ?_ ?_; focus first | assumption | omega | decide | grind) | (with_reducible refine Br.mk ?_ ?_; focus (intros; omega)) | decide)
        exact ⟨k + 1, ⟨by omega, by omega, by rw [ddZ_new (by omega) h1 hc3, h3, takeZ_one (by omega)]⟩, by omega, by exact Ref.frame (by simp [sub, fget])⟩
    · obtain rfl : k = S.length := by omega
      rw [List.take_length] at h3
      rw [h3, Nat.sub_self]
      (repeat first | simp only [go_sem, ↓reduceIte, Nat.reduceEqDiff, Nat.reduceAdd, reduceCtorEq] | with_reducible refine V_W ?_ | (with_reducible refine And.intro ?_ ?_; focus first | assumption | omega | decide | grind) | (with_reducible refine Br.mk ?_ ?_; focus (intros; omega)) | decide)
      exact Ref.to (by simp) (by simp [sub, fget])
theorem sd_eq (xs : List Int) : ddZ (srtL xs) = xs.foldl insI [] := by
  obtain ⟨h1, h2⟩ := ddZ_ok (srtL_le xs)
  refine sst_ext h1 (foldl_ins xs [] .nil).1 fun e => ?_
  rw [h2 e, (srtL_perm xs).mem_iff, (foldl_ins xs [] .nil).2.1 e]
  simp
end Go.Proofs.YtgdijhchndjhlaaGreatDoor
set_option maxRecDepth 100000
namespace Go.Proofs.YtgdijhchndjhlaaGreatDoor
open Go.Gov
open Classical

def nrm (x : List Int) : List Int := x.foldl insI []
theorem nrm_sst (x : List Int) : sst (nrm x) := (foldl_ins x [] .nil).1
theorem nrm_mem (x : List Int) (e : Int) : e ∈ nrm x ↔ e ∈ x := by rw [nrm, (foldl_ins x [] .nil).2.1 e]; simp
theorem nrm_len (x : List Int) : (nrm x).length ≤ x.length := by have := (foldl_ins x [] .nil).2.2; simpa [nrm] using this
theorem nrm_SR (L : List (List Int)) : SR (L.map nrm) := fun x hx => by
  obtain ⟨y, _, rfl⟩ := List.mem_map.1 hx
  exact nrm_sst y
theorem lb_idx {V : List Int} (hV : sst V) {z : Int} (hz : z ∈ V) : ((lb z V : Nat) : Int) = idx V z := by
  obtain ⟨i, hi, rfl⟩ := List.mem_iff_getElem.1 hz
  have nd : ∀ p q (hp : p < V.length) (hq : q < V.length), p < q → V[p] < V[q] := fun p q hp hq h => List.pairwise_iff_getElem.1 hV p q hp hq h
  have e1 : lb V[i] V = i := lb_eq (by omega) (fun j hj => by
    have := nd j i (by omega) hi hj
    simpa [show j < V.length by omega] using this) (fun _ => by simp [hi])
  have e2 : idx V V[i] = i := idx_at (fun q hq => by
    have := nd q i (by omega) hi hq
    rw [show V.getD q 0 = V[q] by simp [show q < V.length by omega]]
    omega) hi (by simp [hi])
  rw [e1, e2]
theorem sst_srt {V : List Int} (hV : sst V) : srt V := fun j hj => by
  have := List.pairwise_iff_getElem.1 hV j (j + 1) (by omega) hj (by omega)
  simp [show j < V.length by omega, hj]
  omega
theorem flat_take_succ {L : List (List Int)} {i : Nat} (hi : i < L.length) : (L.take (i + 1)).flatten = (L.take i).flatten ++ L.getD i [] := by
  rw [take_one hi, List.flatten_append]
  simp
theorem flat_take_le (L : List (List Int)) (i : Nat) : (L.take i).flatten.length ≤ L.flatten.length := by
  have : L.flatten.length = (L.take i).flatten.length + (L.drop i).flatten.length := by
    rw [← List.length_append, ← List.flatten_append, List.take_append_drop]
  omega
theorem getD_mapN {L : List (List Int)} {i : Nat} (hi : i < L.length) (f : List Int → List Int) : (L.map f).getD i [] = f (L.getD i []) := by simp [hi]
theorem nrm_flat (L : List (List Int)) : (L.map nrm).flatten.length ≤ L.flatten.length := by
  induction L with
  | nil => simp
  | cons x L ih =>
    have := nrm_len x
    simp only [List.map_cons, List.flatten_cons, List.length_append]
    omega
set_option maxHeartbeats 8000000 in
theorem complexOf_p (L : List (List Int)) (hL : L.length ≤ 1048576) (hr : ∀ x ∈ L, x.length ≤ 1048576) (hT : L.flatten.length ≤ 1048576) : Pure Tryz.prog 31 [mat L] (.tup [.agg [i64 (ckV (L.map nrm)), .sl 0 1 0 (ckF (L.map nrm)).length], i64 (ckK (L.map nrm))]) [some ((ckF (L.map nrm)).map oints)] := by
  obtain ⟨Z, hZ⟩ : ∃ Z, Z = L.map nrm := ⟨_, rfl⟩
  have hSR : SR Z := hZ ▸ nrm_SR L
  have hZl : Z.length = L.length := by rw [hZ]; simp
  have hZf : Z.flatten.length ≤ 1048576 := by have := nrm_flat L; rw [hZ]; omega
  have hZi : ∀ i, i < L.length → Z.getD i [] = nrm (L.getD i []) := fun i hi => by rw [hZ, getD_mapN hi]
  have hno : ¬ MkOk Z → ckV Z = 0 ∧ ckF Z = [] ∧ ckK Z = 3 := fun h => ⟨if_neg h, if_neg h, if_neg h⟩
  have hyes : MkOk Z → ckV Z = ((mkV Z).length : Int) ∧ ckF Z = mkR Z ∧ ckK Z = 0 := fun h => ⟨if_pos h, if_pos h, if_pos h⟩
  rw [← hZ]
  refine pureRV ok31 rfl ?_; unfold c31
  (repeat first | simp only [go_sem, ↓reduceIte, Nat.reduceEqDiff, Nat.reduceAdd, reduceCtorEq] | with_reducible refine V_W ?_ | (with_reducible refine And.intro ?_ ?_; focus first | assumption | omega | decide | grind) | (with_reducible refine Br.mk ?_ ?_; focus (intros; omega)) | decide)
  refine V_loop (α := Nat) (S := fun i => ([(2, .ref 0 0), (4, .sl 2 1 0 (Z.take i).flatten.length), (5, .sl 1 1 0 i), (16, mat L), (17, i64 (L.length : Int)), (18, i64 (i : Int))], [some [i64 0, nilS], some ((Z.take i).map oints), some (intsC (Z.take i).flatten)])) (C := fun i => i ≤ L.length ∧ ∀ j, j < i → (Z.getD j []).length ≤ 6) (μ := fun i => L.length - i) 0 ⟨Nat.zero_le _, fun j hj => by omega⟩ ?_ ?_
  · exact (Ref.nil 5 1 rfl).trans ((Ref.nil 4 1 rfl).trans (Ref.to rfl (by simp [sub, fget])))
  rintro i ⟨hi, hall⟩
  dsimp only
  have hfl := flat_take_le Z i
  have htl : (Z.take i).length = i := by rw [List.length_take]; omega
  (repeat first | simp only [go_sem, ↓reduceIte, Nat.reduceEqDiff, Nat.reduceAdd, reduceCtorEq] | with_reducible refine V_W ?_ | (with_reducible refine And.intro ?_ ?_; focus first | assumption | omega | decide | grind) | (with_reducible refine Br.mk ?_ ?_; focus (intros; omega)) | decide)
  refine ⟨fun hc => ?_, fun hc => ?_⟩
  · have hiL : i < L.length := by omega
    have hxr := hr _ (getD_mem hiL)
    have hzi := hZi i hiL
    have hft := flat_take_succ (L := Z) (i := i) (by omega)
    have hfl2 := flat_take_le Z (i + 1)
    have hrt : (Z.take (i + 1)).map oints = (Z.take i).map oints ++ [oints (Z.getD i [])] := by rw [take_one (by omega), List.map_append]; rfl
    rw [hzi] at hft hrt
    obtain ⟨x, hx⟩ : ∃ x, x = L.getD i [] := ⟨_, rfl⟩
    rw [← hx] at hxr hzi hft hrt
    have hcl := cloneZ_c x (by omega)
    have hso := sort_c x (by omega)
    have hcp := compactZ_w (srtL x) (by rw [srtL_len]; omega)
    rw [sd_eq, srtL_len] at hcp
    change Wri _ _ _ _ (.sl 0 1 0 (nrm x).length) [some (intsC (nrm x ++ List.replicate (x.length - (nrm x).length) 0))] at hcp
    have hsl := srtL_len x
    obtain ⟨y, hy⟩ : ∃ y, y = nrm x := ⟨_, rfl⟩
    have hyl : y.length ≤ x.length := hy ▸ nrm_len x
    rw [← hy] at hcp hzi hft hrt
    (repeat first | simp only [go_sem, ↓reduceIte, Nat.reduceEqDiff, Nat.reduceAdd, reduceCtorEq] | with_reducible refine V_W ?_ | (with_reducible refine And.intro ?_ ?_; focus first | assumption | omega | decide | grind) | (with_reducible refine Br.mk ?_ ?_; focus (intros; omega)) | decide)
    simp only [← hx, go_sem, ↓reduceIte, Nat.reduceEqDiff, Nat.reduceAdd, reduceCtorEq]
    refine pureC (hcl) (by simp only [go_sem, ↓reduceIte, Nat.reduceEqDiff, Nat.reduceAdd, reduceCtorEq] <;> rfl) (by first | rfl | simp only [go_sem, ↓reduceIte, Nat.reduceEqDiff, Nat.reduceAdd, reduceCtorEq]) ?_
    (repeat first | simp only [go_sem, ↓reduceIte, Nat.reduceEqDiff, Nat.reduceAdd, reduceCtorEq] | with_reducible refine V_W ?_ | (with_reducible refine And.intro ?_ ?_; focus first | assumption | omega | decide | grind) | (with_reducible refine Br.mk ?_ ?_; focus (intros; omega)) | decide)
    refine wriC (hso) [3] (by first | rfl | simp) (by simp only [go_sem, ↓reduceIte, Nat.reduceEqDiff, Nat.reduceAdd, reduceCtorEq] <;> rfl) (by simp only [go_sem, ↓reduceIte, Nat.reduceEqDiff, Nat.reduceAdd, reduceCtorEq] <;> rfl) (by first | rfl | simp only [go_sem, ↓reduceIte, Nat.reduceEqDiff, Nat.reduceAdd, reduceCtorEq]) ?_
    (repeat first | simp only [go_sem, ↓reduceIte, Nat.reduceEqDiff, Nat.reduceAdd, reduceCtorEq] | with_reducible refine V_W ?_ | (with_reducible refine And.intro ?_ ?_; focus first | assumption | omega | decide | grind) | (with_reducible refine Br.mk ?_ ?_; focus (intros; omega)) | decide)
    refine wriC (hcp) [3] (by first | rfl | simp) (by simp only [go_sem, ↓reduceIte, Nat.reduceEqDiff, Nat.reduceAdd, reduceCtorEq] <;> rfl) (by simp only [go_sem, ↓reduceIte, Nat.reduceEqDiff, Nat.reduceAdd, reduceCtorEq] <;> rfl) (by first | rfl | simp only [go_sem, ↓reduceIte, Nat.reduceEqDiff, Nat.reduceAdd, reduceCtorEq]) ?_
    (repeat first | simp only [go_sem, ↓reduceIte, Nat.reduceEqDiff, Nat.reduceAdd, reduceCtorEq] | with_reducible refine V_W ?_ | (with_reducible refine And.intro ?_ ?_; focus first | assumption | omega | decide | grind) | (with_reducible refine Br.mk ?_ ?_; focus (intros; omega)) | decide)
    refine ⟨fun hc2 => ?_, fun hc2 => ?_⟩
    · obtain ⟨n1, n2, n3⟩ := hno fun h => by
        have := h.1 _ (getD_mem (by omega : i < Z.length))
        rw [hzi] at this
        omega
      rw [n1, n2, n3]
      (repeat first | simp only [go_sem, ↓reduceIte, Nat.reduceEqDiff, Nat.reduceAdd, reduceCtorEq] | with_reducible refine V_W ?_ | (with_reducible refine And.intro ?_ ?_; focus first | assumption | omega | decide | grind) | (with_reducible refine Br.mk ?_ ?_; focus (intros; omega)) | decide)
      exact err_end
    · refine V_ref ((Ref.cut 3 y.length 8 (k := 1) (off := 0) (len := y.length) (cs := intsC (y ++ List.replicate (x.length - y.length) 0)) rfl (by simp [intsC]) rfl (by omega)).trans (Ref.gc [0, 1, 2, 4] (F' := [(2, .ref 0 0), (4, .sl 2 1 0 (Z.take i).flatten.length), (5, .sl 1 1 0 i), (8, .sl 3 1 0 y.length), (16, mat L), (17, i64 (L.length : Int)), (18, i64 (i : Int))]) (H' := [some [i64 0, nilS], some ((Z.take i).map oints), some (intsC (Z.take i).flatten), some (intsC y)]) rfl ?_ ?_)) ?_
      · simp only [go_sem, ↓reduceIte, Nat.reduceEqDiff, Nat.reduceAdd, reduceCtorEq] <;> simp [intsC, rnmL_ints, rnmL_orows]
      · simp [sub, fget, go_sem, ↓reduceIte, Nat.reduceEqDiff, Nat.reduceAdd, reduceCtorEq]
      (repeat first | simp only [go_sem, ↓reduceIte, Nat.reduceEqDiff, Nat.reduceAdd, reduceCtorEq] | with_reducible refine V_W ?_ | (with_reducible refine And.intro ?_ ?_; focus first | assumption | omega | decide | grind) | (with_reducible refine Br.mk ?_ ?_; focus (intros; omega)) | decide)
      obtain ⟨Ri, hRi⟩ : ∃ Ri, Ri = (Z.take i).map oints := ⟨_, rfl⟩
      have hRl : Ri.length = i := by rw [hRi, List.length_map, htl]
      have hrn : ∀ τ, rnmL τ Ri = Ri := fun τ => by rw [hRi]; exact rnmL_orows τ _
      have hrn2 : ∀ τ, Ri.map (rnm τ) = Ri := fun τ => by have := hrn τ; rwa [rnmL_map] at this
      rw [← hRi] at hrt ⊢
      rw [List.take_of_length_le (by omega : Ri.length ≤ i)]
      refine ⟨i + 1, ⟨by omega, fun j hj => ?_⟩, by omega, ?_⟩
      · rcases Nat.lt_or_ge j i with h | h
        · exact hall j h
        · obtain rfl : j = i := by omega
          rw [hzi]
          omega
      · refine (Ref.close 5 i 3 (k := 1) (n := y.length) (cs := Ri ++ [.sl 3 1 0 y.length]) (cs2 := intsC y) rfl (by rw [List.getElem?_append_right (by omega), hRl, Nat.sub_self]; rfl) rfl (by decide) (by simp [intsC])).trans (Ref.gc [0, 5, 6] rfl ?_ (by simp [sub, fget, go_sem, ↓reduceIte, Nat.reduceEqDiff, Nat.reduceAdd, reduceCtorEq, hft]))
        have hse : (Ri ++ [AV.sl 3 1 0 y.length]).set i (.osl 1 y.length (intsC y)) = Ri ++ [oints y] := by
          rw [List.set_append_right _ _ (by omega), hRl, Nat.sub_self]
          rfl
        simp only [hse, go_sem, ↓reduceIte, Nat.reduceEqDiff, Nat.reduceAdd, reduceCtorEq]
        rw [hrt, hft]
        simp [rnmL_map, rnm, hrn2, intsC, rnmL_ints]
  · have hall6 : ∀ x ∈ Z, x.length ≤ 6 := fun x hx => by
      obtain ⟨j, hj, rfl⟩ := List.mem_iff_getElem.1 hx
      have := hall j (by omega)
      rwa [show Z.getD j [] = Z[j] by simp [hj]] at this
    rw [show Z.take i = Z from List.take_of_length_le (by omega)]
    obtain rfl : i = L.length := by omega
    obtain ⟨A, hA⟩ : ∃ A, A = Z.flatten := ⟨_, rfl⟩
    have hso := sort_c A (by rw [hA]; omega)
    have hcp := compactZ_w (srtL A) (by rw [srtL_len, hA]; omega)
    have hAl : A.length ≤ 1048576 := by rw [hA]; omega
    have hVe : ddZ (srtL A) = mkV Z := by
      obtain ⟨h1, h2⟩ := ddZ_ok (srtL_le A)
      refine mkV_eq hSR h1 fun e => ?_
      rw [h2 e, (srtL_perm A).mem_iff, hA, List.mem_flatten]
    have hVle := ddZ_le (srtL A)
    rw [hVe, srtL_len] at hcp hVle
    have hVs : sst (mkV Z) := hVe ▸ (ddZ_ok (srtL_le A)).1
    have hVm := mkV_mem hSR
    obtain ⟨V, hV⟩ : ∃ V, V = mkV Z := ⟨_, rfl⟩
    have hRe := fun G => mkR_eq (G := G) hSR
    have hRl := mkR_len Z
    unfold MkOk at hno hyes
    rw [← hV] at hcp hVle hVs hVm hno hyes hRe
    rw [← hA]
    clear hc hall hfl htl
    (repeat first | simp only [go_sem, ↓reduceIte, Nat.reduceEqDiff, Nat.reduceAdd, reduceCtorEq] | with_reducible refine V_W ?_ | (with_reducible refine And.intro ?_ ?_; focus first | assumption | omega | decide | grind) | (with_reducible refine Br.mk ?_ ?_; focus (intros; omega)) | decide)
    refine wriC (hso) [2] (by first | rfl | simp) (by simp only [go_sem, ↓reduceIte, Nat.reduceEqDiff, Nat.reduceAdd, reduceCtorEq] <;> rfl) (by simp only [go_sem, ↓reduceIte, Nat.reduceEqDiff, Nat.reduceAdd, reduceCtorEq] <;> rfl) (by first | rfl | simp only [go_sem, ↓reduceIte, Nat.reduceEqDiff, Nat.reduceAdd, reduceCtorEq]) ?_
    (repeat first | simp only [go_sem, ↓reduceIte, Nat.reduceEqDiff, Nat.reduceAdd, reduceCtorEq] | with_reducible refine V_W ?_ | (with_reducible refine And.intro ?_ ?_; focus first | assumption | omega | decide | grind) | (with_reducible refine Br.mk ?_ ?_; focus (intros; omega)) | decide)
    refine wriC (hcp) [2] (by first | rfl | simp) (by simp only [go_sem, ↓reduceIte, Nat.reduceEqDiff, Nat.reduceAdd, reduceCtorEq] <;> rfl) (by simp only [go_sem, ↓reduceIte, Nat.reduceEqDiff, Nat.reduceAdd, reduceCtorEq] <;> rfl) (by first | rfl | simp only [go_sem, ↓reduceIte, Nat.reduceEqDiff, Nat.reduceAdd, reduceCtorEq]) ?_
    (repeat first | simp only [go_sem, ↓reduceIte, Nat.reduceEqDiff, Nat.reduceAdd, reduceCtorEq] | with_reducible refine V_W ?_ | (with_reducible refine And.intro ?_ ?_; focus first | assumption | omega | decide | grind) | (with_reducible refine Br.mk ?_ ?_; focus (intros; omega)) | decide)
    refine ⟨fun hc2 => ?_, fun hc2 => ?_⟩
    · obtain ⟨n1, n2, n3⟩ := hno fun h => by have := h.2.1; omega
      rw [n1, n2, n3]
      (repeat first | simp only [go_sem, ↓reduceIte, Nat.reduceEqDiff, Nat.reduceAdd, reduceCtorEq] | with_reducible refine V_W ?_ | (with_reducible refine And.intro ?_ ?_; focus first | assumption | omega | decide | grind) | (with_reducible refine Br.mk ?_ ?_; focus (intros; omega)) | decide)
      exact err_end
    · refine V_ref ((Ref.cut 2 V.length 4 (k := 1) (off := 0) (len := V.length) (cs := intsC (V ++ List.replicate (A.length - V.length) 0)) rfl (by simp [intsC]) rfl (by omega)).trans (Ref.gc [0, 1, 3] (F' := [(2, .ref 0 0), (4, .sl 2 1 0 V.length), (5, .sl 1 1 0 L.length)]) (H' := [some [i64 0, nilS], some (Z.map oints), some (intsC V)]) rfl ?_ ?_)) ?_
      · simp only [go_sem, ↓reduceIte, Nat.reduceEqDiff, Nat.reduceAdd, reduceCtorEq] <;> simp [intsC, rnmL_ints, rnmL_orows]
      · simp [sub, fget, go_sem, ↓reduceIte, Nat.reduceEqDiff, Nat.reduceAdd, reduceCtorEq]
      obtain ⟨f, hf⟩ : ∃ f : List Int → List Int, f = fun x => x.map (idx V) := ⟨_, rfl⟩
      have hfl : ∀ x, (f x).length = x.length := fun x => by rw [hf]; simp
      (repeat first | simp only [go_sem, ↓reduceIte, Nat.reduceEqDiff, Nat.reduceAdd, reduceCtorEq] | with_reducible refine V_W ?_ | (with_reducible refine And.intro ?_ ?_; focus first | assumption | omega | decide | grind) | (with_reducible refine Br.mk ?_ ?_; focus (intros; omega)) | decide)
      refine V_loop (α := Nat) (S := fun j => ([(2, .ref 0 0), (4, .sl 2 1 0 V.length), (5, .sl 1 1 0 L.length), (48, .sl 1 1 0 L.length), (49, i64 (L.length : Int)), (50, i64 (j : Int))], [some [i64 0, nilS], some (((Z.take j).map f ++ Z.drop j).map oints), some (intsC V)])) (C := fun j => j ≤ L.length) (μ := fun j => L.length - j) 0 (Nat.zero_le _) (Ref.to (by simp) (by simp [sub, fget])) ?_
      intro j hj
      obtain ⟨Y, hY⟩ : ∃ Y, Y = (Z.take j).map f ++ Z.drop j := ⟨_, rfl⟩
      have hYl : Y.length = L.length := by rw [hY]; simp; omega
      rw [← hY]
      (repeat first | simp only [go_sem, ↓reduceIte, Nat.reduceEqDiff, Nat.reduceAdd, reduceCtorEq] | with_reducible refine V_W ?_ | (with_reducible refine And.intro ?_ ?_; focus first | assumption | omega | decide | grind) | (with_reducible refine Br.mk ?_ ?_; focus (intros; omega)) | decide)
      refine ⟨fun hc3 => ?_, fun hc3 => ?_⟩
      · have hjZ : j < Z.length := by omega
        have hx6 := hall6 _ (getD_mem hjZ)
        have hxm : ∀ e ∈ Z.getD j [], e ∈ V := fun e he => (hVm e).2 ⟨_, getD_mem hjZ, he⟩
        have hYj : Y.getD j [] = Z.getD j [] := by
          have e1 : ((Z.take j).map f).length = j := by simp; omega
          rw [hY, List.getD_eq_getElem?_getD, List.getElem?_append_right (by omega), e1, Nat.sub_self, List.getElem?_drop, Nat.add_zero, ← List.getD_eq_getElem?_getD]
        have hYs : Y.set j (f (Z.getD j [])) = (Z.take (j + 1)).map f ++ Z.drop (j + 1) := by
          have e1 : ((Z.take j).map f).length = j := by simp; omega
          rw [hY, List.set_append_right _ _ (by omega), e1, Nat.sub_self, List.drop_eq_getElem_cons hjZ, take_one hjZ, List.map_append]
          simp only [List.map_cons, List.map_nil, List.set_cons_zero, List.append_assoc, List.singleton_append]
        obtain ⟨x, hx⟩ : ∃ x, x = Z.getD j [] := ⟨_, rfl⟩
        rw [← hx] at hx6 hxm hYj hYs
        have hYo : (Y.map oints)[j]? = some (.osl 1 x.length (intsC x)) := by
          rw [List.getElem?_map, List.getElem?_eq_getElem (by omega)]
          rw [show Y[j]'(by omega) = x by rw [← hYj]; simp [show j < Y.length by omega]]
          rfl
        refine V_ref ((Ref.open 1 j (cs := Y.map oints) (cs2 := intsC x) (k := 1) (n := x.length) rfl hYo).trans (Ref.to (F' := [(2, .ref 0 0), (4, .sl 2 1 0 V.length), (5, .sl 1 1 0 L.length), (48, .sl 1 1 0 L.length), (49, i64 (L.length : Int)), (50, i64 (j : Int))]) (H' := [some [i64 0, nilS], some ((Y.map oints).set j (.sl 3 1 0 x.length)), some (intsC V), some (intsC x)]) rfl (by simp [sub, fget]))) ?_
        obtain ⟨cs, hcs⟩ : ∃ cs, cs = (Y.map oints).set j (.sl 3 1 0 x.length) := ⟨_, rfl⟩
        have hcl2 : cs.length = L.length := by rw [hcs]; simp [hYl]
        have hcg : ∀ d, cs.getD j d = .sl 3 1 0 x.length := fun d => by rw [hcs]; simp [show j < Y.length by omega]
        have hcr : cs.set j (.osl 1 x.length (intsC (f x))) = (((Z.take (j + 1)).map f ++ Z.drop (j + 1)).map oints) := by
          rw [hcs, List.set_set, ← hYs, List.map_set]
          rw [show oints (f x) = .osl 1 x.length (intsC (f x)) by rw [oints, hfl]]
        rw [← hcs]
        (repeat first | simp only [go_sem, ↓reduceIte, Nat.reduceEqDiff, Nat.reduceAdd, reduceCtorEq] | with_reducible refine V_W ?_ | (with_reducible refine And.intro ?_ ?_; focus first | assumption | omega | decide | grind) | (with_reducible refine Br.mk ?_ ?_; focus (intros; omega)) | decide)
        simp only [hcg, go_sem, ↓reduceIte, Nat.reduceEqDiff, Nat.reduceAdd, reduceCtorEq]
        refine ⟨by omega, ?_⟩
        have htkV : ∀ Hx : Heap, (List.take V.length (intsC V)).map (frz Hx 5) = intsC V := fun Hx => by
          rw [List.take_of_length_le (by simp [intsC]), map_frz_ints]
        (repeat first | simp only [go_sem, ↓reduceIte, Nat.reduceEqDiff, Nat.reduceAdd, reduceCtorEq] | with_reducible refine V_W ?_ | (with_reducible refine And.intro ?_ ?_; focus first | assumption | omega | decide | grind) | (with_reducible refine Br.mk ?_ ?_; focus (intros; omega)) | decide)
        refine V_loop (α := Nat) (S := fun i => ([(2, .ref 0 0), (4, .sl 2 1 0 V.length), (5, .sl 1 1 0 L.length), (10, .sl 3 1 0 x.length), (48, .sl 1 1 0 L.length), (49, i64 (L.length : Int)), (50, i64 (j : Int)), (54, .sl 3 1 0 x.length), (55, i64 (x.length : Int)), (56, i64 (i : Int))], [some [i64 0, nilS], some cs, some (intsC V), some (intsC ((x.take i).map (idx V) ++ x.drop i))])) (C := fun i => i ≤ x.length) (μ := fun i => x.length - i) 0 (Nat.zero_le _) (Ref.to (by simp) (by simp [sub, fget])) ?_
        intro i hi
        obtain ⟨T, hTd⟩ : ∃ T, T = (x.take i).map (idx V) ++ x.drop i := ⟨_, rfl⟩
        have hTl : T.length = x.length := by rw [hTd]; simp; omega
        rw [← hTd]
        (repeat first | simp only [go_sem, ↓reduceIte, Nat.reduceEqDiff, Nat.reduceAdd, reduceCtorEq] | with_reducible refine V_W ?_ | (with_reducible refine And.intro ?_ ?_; focus first | assumption | omega | decide | grind) | (with_reducible refine Br.mk ?_ ?_; focus (intros; omega)) | decide)
        refine ⟨fun hc4 => ?_, fun hc4 => ?_⟩
        · have hix : i < x.length := by omega
          have e1 : ((x.take i).map (idx V)).length = i := by simp; omega
          have hTi : T.getD i 0 = x.getD i 0 := by
            rw [hTd, List.getD_eq_getElem?_getD, List.getElem?_append_right (by omega), e1, Nat.sub_self, List.getElem?_drop, Nat.add_zero, ← List.getD_eq_getElem?_getD]
          have hzV : x.getD i 0 ∈ V := hxm _ (by rw [List.getD_eq_getElem?_getD, List.getElem?_eq_getElem hix]; exact List.getElem_mem hix)
          have hTs : T.set i (idx V (x.getD i 0)) = (x.take (i + 1)).map (idx V) ++ x.drop (i + 1) := by
            rw [hTd, List.set_append_right _ _ (by omega), e1, Nat.sub_self, List.drop_eq_getElem_cons hix, row_take hix]
            simp only [List.set_cons_zero, List.append_assoc, List.singleton_append]
          have hbs := binS_c V (x.getD i 0) (sst_srt hVs) (by omega)
          have hlb := lb_idx hVs hzV
          have hib := idx_b hzV
          rw [hlb] at hbs
          (repeat first | simp only [go_sem, ↓reduceIte, Nat.reduceEqDiff, Nat.reduceAdd, reduceCtorEq] | with_reducible refine V_W ?_ | (with_reducible refine And.intro ?_ ?_; focus first | assumption | omega | decide | grind) | (with_reducible refine Br.mk ?_ ?_; focus (intros; omega)) | decide)
          simp only [hTi, go_sem, ↓reduceIte, Nat.reduceEqDiff, Nat.reduceAdd, reduceCtorEq]
          refine pureC hbs (by simp only [htkV, go_sem, ↓reduceIte, Nat.reduceEqDiff, Nat.reduceAdd, reduceCtorEq]) (by first | rfl | simp only [go_sem, ↓reduceIte, Nat.reduceEqDiff, Nat.reduceAdd, reduceCtorEq]) ?_
          (repeat first | simp only [go_sem, ↓reduceIte, Nat.reduceEqDiff, Nat.reduceAdd, reduceCtorEq] | with_reducible refine V_W ?_ | (with_reducible refine And.intro ?_ ?_; focus first | assumption | omega | decide | grind) | (with_reducible refine Br.mk ?_ ?_; focus (intros; omega)) | decide)
          refine ⟨i + 1, by omega, by omega, Ref.to ?_ (by simp [sub, fget])⟩
          rw [← hTs]
        · obtain rfl : i = x.length := by omega
          have hTx : T = f x := by rw [hTd, hf]; simp
          (repeat first | simp only [go_sem, ↓reduceIte, Nat.reduceEqDiff, Nat.reduceAdd, reduceCtorEq] | with_reducible refine V_W ?_ | (with_reducible refine And.intro ?_ ?_; focus first | assumption | omega | decide | grind) | (with_reducible refine Br.mk ?_ ?_; focus (intros; omega)) | decide)
          refine ⟨j + 1, by omega, by omega, (Ref.close 1 j 3 (k := 1) (n := x.length) (cs := cs) (cs2 := intsC T) rfl (by rw [List.getElem?_eq_getElem (by omega)]; have := hcg .any; simpa [show j < cs.length by omega] using this) rfl (by decide) (by simp [intsC, hTl])).trans (Ref.gc [0, 1, 2] rfl ?_ (by simp [sub, fget, go_sem, ↓reduceIte, Nat.reduceEqDiff, Nat.reduceAdd, reduceCtorEq]))⟩
          rw [hTx, hcr]
          simp only [go_sem, ↓reduceIte, Nat.reduceEqDiff, Nat.reduceAdd, reduceCtorEq]
      · obtain rfl : j = L.length := by omega
        have hYe : Y = Z.map f := by
          rw [hY, List.take_of_length_le (by omega), List.drop_eq_nil_of_le (by omega), List.append_nil]
        have hszV := size_c V (by omega)
        have htkV : ∀ Hx : Heap, (List.take V.length (intsC V)).map (frz Hx 5) = intsC V := fun Hx => by
          rw [List.take_of_length_le (by simp [intsC]), map_frz_ints]
        have hgo := greatestOf_o Y (by omega) (fun y hy => by
          rw [hYe] at hy
          obtain ⟨z, hz, rfl⟩ := List.mem_map.1 hy
          refine ⟨by rw [hfl]; exact hall6 z hz, fun e he => ?_⟩
          rw [hf] at he
          obtain ⟨e0, he0, rfl⟩ := List.mem_map.1 he
          have := idx_b ((hVm e0).2 ⟨z, hz, he0⟩)
          omega)
        rw [hYl] at hgo
        (repeat first | simp only [go_sem, ↓reduceIte, Nat.reduceEqDiff, Nat.reduceAdd, reduceCtorEq] | with_reducible refine V_W ?_ | (with_reducible refine And.intro ?_ ?_; focus first | assumption | omega | decide | grind) | (with_reducible refine Br.mk ?_ ?_; focus (intros; omega)) | decide)
        refine pureC hszV (by simp only [htkV, go_sem, ↓reduceIte, Nat.reduceEqDiff, Nat.reduceAdd, reduceCtorEq]) (by first | rfl | simp only [go_sem, ↓reduceIte, Nat.reduceEqDiff, Nat.reduceAdd, reduceCtorEq]) ?_
        (repeat first | simp only [go_sem, ↓reduceIte, Nat.reduceEqDiff, Nat.reduceAdd, reduceCtorEq] | with_reducible refine V_W ?_ | (with_reducible refine And.intro ?_ ?_; focus first | assumption | omega | decide | grind) | (with_reducible refine Br.mk ?_ ?_; focus (intros; omega)) | decide)
        refine wriXF (hgo) [1] (by first | rfl | simp) (by simp only [go_sem, ↓reduceIte, Nat.reduceEqDiff, Nat.reduceAdd, reduceCtorEq] <;> rfl) (by simp only [go_sem, ↓reduceIte, Nat.reduceEqDiff, Nat.reduceAdd, reduceCtorEq] <;> rfl) fun o ho => ?_
        obtain rfl := hRe o (by rw [← hf]; exact hYe ▸ ho.1) ho.2
        (repeat first | simp only [go_sem, ↓reduceIte, Nat.reduceEqDiff, Nat.reduceAdd, reduceCtorEq] | with_reducible refine V_W ?_ | (with_reducible refine And.intro ?_ ?_; focus first | assumption | omega | decide | grind) | (with_reducible refine Br.mk ?_ ?_; focus (intros; omega)) | decide)
        refine ⟨fun hc4 => ?_, fun hc4 => ?_⟩
        · obtain ⟨n1, n2, n3⟩ := hno fun h => by have := h.2.2; omega
          rw [n1, n2, n3]
          (repeat first | simp only [go_sem, ↓reduceIte, Nat.reduceEqDiff, Nat.reduceAdd, reduceCtorEq] | with_reducible refine V_W ?_ | (with_reducible refine And.intro ?_ ?_; focus first | assumption | omega | decide | grind) | (with_reducible refine Br.mk ?_ ?_; focus (intros; omega)) | decide)
          exact err_end
        · obtain ⟨n1, n2, n3⟩ := hyes ⟨hall6, by omega, by omega⟩
          rw [n1, n2, n3]
          (repeat first | simp only [go_sem, ↓reduceIte, Nat.reduceEqDiff, Nat.reduceAdd, reduceCtorEq] | with_reducible refine V_W ?_ | (with_reducible refine And.intro ?_ ?_; focus first | assumption | omega | decide | grind) | (with_reducible refine Br.mk ?_ ?_; focus (intros; omega)) | decide)
          exact Ref.gc [3] rfl (by simp only [go_sem, ↓reduceIte, Nat.reduceEqDiff, Nat.reduceAdd, reduceCtorEq]) (by simp [sub, fget, go_sem, ↓reduceIte, Nat.reduceEqDiff, Nat.reduceAdd, reduceCtorEq])
end Go.Proofs.YtgdijhchndjhlaaGreatDoor
