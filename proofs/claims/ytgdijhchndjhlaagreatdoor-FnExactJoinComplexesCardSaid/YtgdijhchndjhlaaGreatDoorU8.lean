/- Texts that belong together. -/
import Derived.Test.YtgdijhchndjhlaaGreatDoorU5
import Derived.Test.YtgdijhchndjhlaaGreatDoorU7
set_option linter.unusedSimpArgs false
set_option linter.unusedVariables false
set_option maxRecDepth 100000
namespace Go.Proofs.YtgdijhchndjhlaaGreatDoor
open Go.Gov
open Classical

def sh (v : Int) (a b : List Int) : List Int := a ++ b.map (v + ·)
def jnM (v : Int) (a : List Int) (G : List (List Int)) : List (List Int) := G.map (sh v a)
def jnP (v : Int) (F G : List (List Int)) : List (List Int) := F.flatMap fun a => jnM v a G
theorem sh_len (v : Int) (a b : List Int) : (sh v a b).length = a.length + b.length := by simp [sh]
theorem jnP_succ {v : Int} {F G : List (List Int)} {i : Nat} (hi : i < F.length) : jnP v (F.take (i + 1)) G = jnP v (F.take i) G ++ jnM v (F.getD i []) G := by
  unfold jnP
  rw [take_one hi, List.flatMap_append]
  simp
theorem jnP_len (v : Int) (F G : List (List Int)) : (jnP v F G).length = F.length * G.length := by
  unfold jnP
  induction F with
  | nil => simp
  | cons a F ih => rw [List.flatMap_cons, List.length_append, ih, List.length_cons, Nat.succ_mul]; simp [jnM]; omega
theorem jnM_succ {v : Int} {a : List Int} {G : List (List Int)} {j : Nat} (hj : j < G.length) : jnM v a (G.take (j + 1)) = jnM v a (G.take j) ++ [sh v a (G.getD j [])] := by
  unfold jnM
  rw [take_one hj, List.map_append]
  rfl
theorem jnM_len (v : Int) (a : List Int) (G : List (List Int)) : (jnM v a G).length = G.length := by simp [jnM]
theorem jnP_mem {v : Int} {F G : List (List Int)} {p : List Int} : p ∈ jnP v F G ↔ ∃ a ∈ F, ∃ b ∈ G, p = sh v a b := by
  unfold jnP jnM
  simp only [List.mem_flatMap, List.mem_map, eq_comm]
theorem jnP_SR {v w : Int} {F G : List (List Int)} (hF : CxOk v F) (hG : CxOk w G) : SR (jnP v F G) := fun p hp => by
  obtain ⟨a, ha, b, hb, rfl⟩ := jnP_mem.1 hp
  refine List.pairwise_append.2 ⟨hF.sst a ha, List.pairwise_map.2 ((hG.sst b hb).imp fun h => by omega), fun x hx y hy => ?_⟩
  obtain ⟨z, hz, rfl⟩ := List.mem_map.1 hy
  have h1 := hF.ent ha x hx
  have h2 := hG.ent hb z hz
  omega
theorem jnP_row {v : Int} {F G : List (List Int)} (hF : ∀ x ∈ F, x.length ≤ 6) (hG : ∀ x ∈ G, x.length ≤ 6) : ∀ p ∈ jnP v F G, p.length ≤ 12 := fun p hp => by
  obtain ⟨a, ha, b, hb, rfl⟩ := jnP_mem.1 hp
  have h1 := hF a ha
  have h2 := hG b hb
  rw [sh_len]
  omega
def jnL (v : Int) (F G : List (List Int)) : List (List Int) := if F = [] then G else if G = [] then F else jnP v F G
def Over (F G : List (List Int)) : Prop := F ≠ [] ∧ G ≠ [] ∧ 400 < F.length * G.length
noncomputable def jV (v : Int) (F G : List (List Int)) : Int := if Over F G then 0 else ckV (jnL v F G)
noncomputable def jF (v : Int) (F G : List (List Int)) : List (List Int) := if Over F G then [] else ckF (jnL v F G)
noncomputable def jK (v : Int) (F G : List (List Int)) : Int := if Over F G then 3 else ckK (jnL v F G)
theorem jnL_SR {v w : Int} {F G : List (List Int)} (hF : CxOk v F) (hG : CxOk w G) : SR (jnL v F G) := by
  unfold jnL
  split
  · exact hG.sst
  · split
    · exact hF.sst
    · exact jnP_SR hF hG
theorem jF_b {v w : Int} {F G : List (List Int)} (hF : CxOk v F) (hG : CxOk w G) : (jF v F G).length ≤ 400 ∧ ∀ x ∈ jF v F G, x.length ≤ 6 := by
  unfold jF
  split
  · simp
  · exact ckF_b (jnL_SR hF hG)
theorem j_over {v : Int} {F G : List (List Int)} (h : Over F G) : jV v F G = 0 ∧ jF v F G = [] ∧ jK v F G = 3 := ⟨if_pos h, if_pos h, if_pos h⟩
theorem j_fine {v : Int} {F G L : List (List Int)} (h : ¬ Over F G) (hL : jnL v F G = L) : jV v F G = ckV L ∧ jF v F G = ckF L ∧ jK v F G = ckK L := by subst hL; exact ⟨if_neg h, if_neg h, if_neg h⟩
theorem tot_12 : ∀ {F : List (List Int)}, (∀ x ∈ F, x.length ≤ 12) → tot F ≤ 12 * F.length
  | [], _ => by simp [tot]
  | x :: F, h => by
    have h1 := tot_12 fun y hy => h y (List.mem_cons_of_mem x hy)
    have h2 := h x List.mem_cons_self
    simp only [tot, List.map_cons, List.sum_cons, List.length_cons] at *
    omega
theorem co_of {L : List (List Int)} (hS : SR L) (hl : L.length ≤ 400) (hr : ∀ x ∈ L, x.length ≤ 12) : Pure Tryz.prog 31 [mat L] (.tup [.agg [i64 (ckV L), .sl 0 1 0 (ckF L).length], i64 (ckK L)]) [some ((ckF L).map oints)] := by
  have hco := complexOf_p L (by omega) (fun x hx => by have := hr x hx; omega) (by
    rw [tot_flat]
    have h1 := tot_12 hr
    omega)
  rwa [nrm_ids hS] at hco
theorem mk_of {L : List (List Int)} (hS : SR L) (hl : L.length ≤ 800) (hr : ∀ x ∈ L, x.length ≤ 12) : Pure Tryz.prog 25 [mat L] (.tup [.agg [i64 (ckV L), .sl 0 1 0 (ckF L).length], i64 (ckK L)]) [some ((ckF L).map oints)] :=
  l17Make_g L (by omega) (fun i => by
    by_cases h : i < L.length
    · have := hr _ (getD_mem h); omega
    · simp [h]) hS
set_option maxHeartbeats 8000000 in
theorem joined_p (v : Int) (F : List (List Int)) (w : Int) (G : List (List Int)) (hF : CxOk v F) (hG : CxOk w G) : Pure Tryz.prog 38 [cpxA v F, cpxA w G] (.tup [.agg [i64 (jV v F G), .sl 0 1 0 (jF v F G).length], i64 (jK v F G)]) [some ((jF v F G).map oints)] := by
  obtain ⟨f1, f2⟩ := hF.six
  obtain ⟨g1, g2⟩ := hG.six
  have hv60 := hF.1.1
  by_cases hF0 : F = []
  · obtain ⟨n1, n2, n3⟩ := j_fine (v := v) (F := F) (G := G) (L := G) (fun h => h.1 hF0) (if_pos hF0)
    have hco := co_of hG.sst (by omega) (fun x hx => by have := g2 x hx; omega)
    rw [n1, n2, n3]
    generalize ckV G = cv at hco ⊢
    generalize ckF G = cf at hco ⊢
    generalize ckK G = ck at hco ⊢
    subst hF0
    refine pureRV ok38 rfl ?_; unfold c38
    (repeat first | simp only [go_sem, ↓reduceIte, Nat.reduceEqDiff, Nat.reduceAdd, reduceCtorEq] | with_reducible refine V_W ?_ | (with_reducible refine And.intro ?_ ?_; focus first | assumption | omega | decide | grind) | (with_reducible refine Br.mk ?_ ?_; focus (intros; omega)) | decide)
    refine ⟨fun _ => ?_, fun h => absurd rfl h⟩
    (repeat first | simp only [go_sem, ↓reduceIte, Nat.reduceEqDiff, Nat.reduceAdd, reduceCtorEq] | with_reducible refine V_W ?_ | (with_reducible refine And.intro ?_ ?_; focus first | assumption | omega | decide | grind) | (with_reducible refine Br.mk ?_ ?_; focus (intros; omega)) | decide)
    refine fun _ => ?_
    (repeat first | simp only [go_sem, ↓reduceIte, Nat.reduceEqDiff, Nat.reduceAdd, reduceCtorEq] | with_reducible refine V_W ?_ | (with_reducible refine And.intro ?_ ?_; focus first | assumption | omega | decide | grind) | (with_reducible refine Br.mk ?_ ?_; focus (intros; omega)) | decide)
    refine pureC (hco) (by simp only [go_sem, ↓reduceIte, Nat.reduceEqDiff, Nat.reduceAdd, reduceCtorEq] <;> rfl) (by first | rfl | simp only [go_sem, ↓reduceIte, Nat.reduceEqDiff, Nat.reduceAdd, reduceCtorEq]) ?_
    (repeat first | simp only [go_sem, ↓reduceIte, Nat.reduceEqDiff, Nat.reduceAdd, reduceCtorEq] | with_reducible refine V_W ?_ | (with_reducible refine And.intro ?_ ?_; focus first | assumption | omega | decide | grind) | (with_reducible refine Br.mk ?_ ?_; focus (intros; omega)) | decide)
    exact Ref.gc [3] rfl (by simp only [go_sem, ↓reduceIte, Nat.reduceEqDiff, Nat.reduceAdd, reduceCtorEq]) (by simp [sub, fget, go_sem, ↓reduceIte, Nat.reduceEqDiff, Nat.reduceAdd, reduceCtorEq])
  have hFp : 0 < F.length := List.length_pos_iff.2 hF0
  by_cases hG0 : G = []
  · obtain ⟨n1, n2, n3⟩ := j_fine (v := v) (F := F) (G := G) (L := F) (fun h => h.2.1 hG0) ((if_neg hF0).trans (if_pos hG0))
    have hco := co_of hF.sst (by omega) (fun x hx => by have := f2 x hx; omega)
    rw [n1, n2, n3]
    generalize ckV F = cv at hco ⊢
    generalize ckF F = cf at hco ⊢
    generalize ckK F = ck at hco ⊢
    subst hG0
    refine pureRV ok38 rfl ?_; unfold c38
    (repeat first | simp only [go_sem, ↓reduceIte, Nat.reduceEqDiff, Nat.reduceAdd, reduceCtorEq] | with_reducible refine V_W ?_ | (with_reducible refine And.intro ?_ ?_; focus first | assumption | omega | decide | grind) | (with_reducible refine Br.mk ?_ ?_; focus (intros; omega)) | decide)
    refine fun _ => ?_
    (repeat first | simp only [go_sem, ↓reduceIte, Nat.reduceEqDiff, Nat.reduceAdd, reduceCtorEq] | with_reducible refine V_W ?_ | (with_reducible refine And.intro ?_ ?_; focus first | assumption | omega | decide | grind) | (with_reducible refine Br.mk ?_ ?_; focus (intros; omega)) | decide)
    refine fun _ => ?_
    (repeat first | simp only [go_sem, ↓reduceIte, Nat.reduceEqDiff, Nat.reduceAdd, reduceCtorEq] | with_reducible refine V_W ?_ | (with_reducible refine And.intro ?_ ?_; focus first | assumption | omega | decide | grind) | (with_reducible refine Br.mk ?_ ?_; focus (intros; omega)) | decide)
    refine pureC (hco) (by simp only [go_sem, ↓reduceIte, Nat.reduceEqDiff, Nat.reduceAdd, reduceCtorEq] <;> rfl) (by first | rfl | simp only [go_sem, ↓reduceIte, Nat.reduceEqDiff, Nat.reduceAdd, reduceCtorEq]) ?_
    (repeat first | simp only [go_sem, ↓reduceIte, Nat.reduceEqDiff, Nat.reduceAdd, reduceCtorEq] | with_reducible refine V_W ?_ | (with_reducible refine And.intro ?_ ?_; focus first | assumption | omega | decide | grind) | (with_reducible refine Br.mk ?_ ?_; focus (intros; omega)) | decide)
    exact Ref.gc [3] rfl (by simp only [go_sem, ↓reduceIte, Nat.reduceEqDiff, Nat.reduceAdd, reduceCtorEq]) (by simp [sub, fget, go_sem, ↓reduceIte, Nat.reduceEqDiff, Nat.reduceAdd, reduceCtorEq])
  have hGp : 0 < G.length := List.length_pos_iff.2 hG0
  have hmul : F.length * G.length ≤ 400 * 400 := Nat.mul_le_mul f1 g1
  have hcast : (F.length : Int) * (G.length : Int) = ((F.length * G.length : Nat) : Int) := by rw [Int.natCast_mul]
  by_cases hO : Over F G
  · obtain ⟨n1, n2, n3⟩ := j_over (v := v) hO
    have hO2 := hO.2.2
    rw [n1, n2, n3]
    refine pureRV ok38 rfl ?_; unfold c38
    (repeat first | simp only [go_sem, ↓reduceIte, Nat.reduceEqDiff, Nat.reduceAdd, reduceCtorEq] | with_reducible refine V_W ?_ | (with_reducible refine And.intro ?_ ?_; focus first | assumption | omega | decide | grind) | (with_reducible refine Br.mk ?_ ?_; focus (intros; omega)) | decide)
    refine fun _ => ?_
    (repeat first | simp only [go_sem, ↓reduceIte, Nat.reduceEqDiff, Nat.reduceAdd, reduceCtorEq] | with_reducible refine V_W ?_ | (with_reducible refine And.intro ?_ ?_; focus first | assumption | omega | decide | grind) | (with_reducible refine Br.mk ?_ ?_; focus (intros; omega)) | decide)
    simp only [hcast, go_sem, ↓reduceIte, Nat.reduceEqDiff, Nat.reduceAdd, reduceCtorEq]
    refine ⟨fun _ => ⟨by omega, ?_⟩, fun h => absurd h (by omega)⟩
    (repeat first | simp only [go_sem, ↓reduceIte, Nat.reduceEqDiff, Nat.reduceAdd, reduceCtorEq] | with_reducible refine V_W ?_ | (with_reducible refine And.intro ?_ ?_; focus first | assumption | omega | decide | grind) | (with_reducible refine Br.mk ?_ ?_; focus (intros; omega)) | decide)
    refine ⟨fun _ => ?_, fun h => absurd h (by omega)⟩
    (repeat first | simp only [go_sem, ↓reduceIte, Nat.reduceEqDiff, Nat.reduceAdd, reduceCtorEq] | with_reducible refine V_W ?_ | (with_reducible refine And.intro ?_ ?_; focus first | assumption | omega | decide | grind) | (with_reducible refine Br.mk ?_ ?_; focus (intros; omega)) | decide)
    exact err_end
  · obtain ⟨n1, n2, n3⟩ := j_fine (v := v) hO ((if_neg hF0).trans (if_neg hG0))
    have hO2 : F.length * G.length ≤ 400 := Classical.byContradiction fun h => hO ⟨hF0, hG0, by omega⟩
    have hjl := jnP_len v F G
    have hco := co_of (jnP_SR (v := v) hF hG) (by omega) (jnP_row f2 g2)
    rw [n1, n2, n3]
    generalize ckV (jnP v F G) = cv at hco ⊢
    generalize ckF (jnP v F G) = cf at hco ⊢
    generalize ckK (jnP v F G) = ck at hco ⊢
    refine pureRV ok38 rfl ?_; unfold c38
    (repeat first | simp only [go_sem, ↓reduceIte, Nat.reduceEqDiff, Nat.reduceAdd, reduceCtorEq] | with_reducible refine V_W ?_ | (with_reducible refine And.intro ?_ ?_; focus first | assumption | omega | decide | grind) | (with_reducible refine Br.mk ?_ ?_; focus (intros; omega)) | decide)
    refine fun _ => ?_
    (repeat first | simp only [go_sem, ↓reduceIte, Nat.reduceEqDiff, Nat.reduceAdd, reduceCtorEq] | with_reducible refine V_W ?_ | (with_reducible refine And.intro ?_ ?_; focus first | assumption | omega | decide | grind) | (with_reducible refine Br.mk ?_ ?_; focus (intros; omega)) | decide)
    simp only [hcast, go_sem, ↓reduceIte, Nat.reduceEqDiff, Nat.reduceAdd, reduceCtorEq]
    refine ⟨fun _ => ⟨by omega, ?_⟩, fun h => absurd h (by omega)⟩
    (repeat first | simp only [go_sem, ↓reduceIte, Nat.reduceEqDiff, Nat.reduceAdd, reduceCtorEq] | with_reducible refine V_W ?_ | (with_reducible refine And.intro ?_ ?_; focus first | assumption | omega | decide | grind) | (with_reducible refine Br.mk ?_ ?_; focus (intros; omega)) | decide)
    refine fun _ => ?_
    (repeat first | simp only [go_sem, ↓reduceIte, Nat.reduceEqDiff, Nat.reduceAdd, reduceCtorEq] | with_reducible refine V_W ?_ | (with_reducible refine And.intro ?_ ?_; focus first | assumption | omega | decide | grind) | (with_reducible refine Br.mk ?_ ?_; focus (intros; omega)) | decide)
    refine V_loop (α := Nat) (S := fun i => ([(2, .ref 0 0), (3, .ref 1 0), (4, .ref 2 0), (6, .sl 3 1 0 (jnP v (F.take i) G).length), (36, mat F), (37, i64 (F.length : Int)), (38, i64 (i : Int))], [some [i64 v, mat F], some [i64 w, mat G], some [i64 0, nilS], some ((jnP v (F.take i) G).map oints)])) (C := fun i => i ≤ F.length) (μ := fun i => F.length - i) 0 (Nat.zero_le _) ?_ ?_
    · exact (Ref.nil 6 1 rfl).trans (Ref.to (by simp [jnP]) (by simp [sub, fget, jnP]))
    intro i hi
    dsimp only
    have hPl := jnP_len v (F.take i) G
    have hti : (F.take i).length = i := by rw [List.length_take]; omega
    rw [hti] at hPl
    have hig : i * G.length ≤ F.length * G.length := Nat.mul_le_mul_right _ hi
    (repeat first | simp only [go_sem, ↓reduceIte, Nat.reduceEqDiff, Nat.reduceAdd, reduceCtorEq] | with_reducible refine V_W ?_ | (with_reducible refine And.intro ?_ ?_; focus first | assumption | omega | decide | grind) | (with_reducible refine Br.mk ?_ ?_; focus (intros; omega)) | decide)
    refine ⟨fun hc => ?_, fun hc => ?_⟩
    · have hiF : i < F.length := by omega
      have ha6 := f2 _ (getD_mem hiF)
      have hae := hF.ent (getD_mem hiF)
      have hjs := jnP_succ (v := v) (F := F) (G := G) (i := i) hiF
      obtain ⟨a, had⟩ : ∃ a, a = F.getD i [] := ⟨_, rfl⟩
      rw [← had] at ha6 hae hjs
      obtain ⟨P, hP⟩ : ∃ P, P = jnP v (F.take i) G := ⟨_, rfl⟩
      rw [← hP] at hPl hjs ⊢
      (repeat first | simp only [go_sem, ↓reduceIte, Nat.reduceEqDiff, Nat.reduceAdd, reduceCtorEq] | with_reducible refine V_W ?_ | (with_reducible refine And.intro ?_ ?_; focus first | assumption | omega | decide | grind) | (with_reducible refine Br.mk ?_ ?_; focus (intros; omega)) | decide)
      simp only [← had, go_sem, ↓reduceIte, Nat.reduceEqDiff, Nat.reduceAdd, reduceCtorEq]
      (repeat first | simp only [go_sem, ↓reduceIte, Nat.reduceEqDiff, Nat.reduceAdd, reduceCtorEq] | with_reducible refine V_W ?_ | (with_reducible refine And.intro ?_ ?_; focus first | assumption | omega | decide | grind) | (with_reducible refine Br.mk ?_ ?_; focus (intros; omega)) | decide)
      refine V_loop (α := Nat) (S := fun j => ([(2, .ref 0 0), (3, .ref 1 0), (4, .ref 2 0), (6, .sl 3 1 0 (P ++ jnM v a (G.take j)).length), (8, ints a), (36, mat F), (37, i64 (F.length : Int)), (38, i64 (i : Int)), (43, mat G), (44, i64 (G.length : Int)), (45, i64 (j : Int))], [some [i64 v, mat F], some [i64 w, mat G], some [i64 0, nilS], some ((P ++ jnM v a (G.take j)).map oints)])) (C := fun j => j ≤ G.length) (μ := fun j => G.length - j) 0 (Nat.zero_le _) (Ref.to (by simp [jnM]) (by simp [sub, fget, jnM])) ?_
      intro j hj
      dsimp only
      have hMl := jnM_len v a (G.take j)
      have htj : (G.take j).length = j := by rw [List.length_take]; omega
      rw [htj] at hMl
      obtain ⟨Q, hQ⟩ : ∃ Q, Q = P ++ jnM v a (G.take j) := ⟨_, rfl⟩
      have hQl : Q.length = P.length + j := by rw [hQ, List.length_append, hMl]
      rw [← hQ]
      (repeat first | simp only [go_sem, ↓reduceIte, Nat.reduceEqDiff, Nat.reduceAdd, reduceCtorEq] | with_reducible refine V_W ?_ | (with_reducible refine And.intro ?_ ?_; focus first | assumption | omega | decide | grind) | (with_reducible refine Br.mk ?_ ?_; focus (intros; omega)) | decide)
      refine ⟨fun hc2 => ?_, fun hc2 => ?_⟩
      · have hjG : j < G.length := by omega
        have hb6 := g2 _ (getD_mem hjG)
        have hbe := hG.ent (getD_mem hjG)
        have hms := jnM_succ (v := v) (a := a) (G := G) (j := j) hjG
        obtain ⟨b, hbd⟩ : ∃ b, b = G.getD j [] := ⟨_, rfl⟩
        rw [← hbd] at hb6 hbe hms
        have hcl := cloneZ_c a (by omega)
        have hw60 := hG.1.1
        (repeat first | simp only [go_sem, ↓reduceIte, Nat.reduceEqDiff, Nat.reduceAdd, reduceCtorEq] | with_reducible refine V_W ?_ | (with_reducible refine And.intro ?_ ?_; focus first | assumption | omega | decide | grind) | (with_reducible refine Br.mk ?_ ?_; focus (intros; omega)) | decide)
        simp only [← hbd, go_sem, ↓reduceIte, Nat.reduceEqDiff, Nat.reduceAdd, reduceCtorEq]
        (repeat first | simp only [go_sem, ↓reduceIte, Nat.reduceEqDiff, Nat.reduceAdd, reduceCtorEq] | with_reducible refine V_W ?_ | (with_reducible refine And.intro ?_ ?_; focus first | assumption | omega | decide | grind) | (with_reducible refine Br.mk ?_ ?_; focus (intros; omega)) | decide)
        refine pureC (hcl) (by simp only [go_sem, ↓reduceIte, Nat.reduceEqDiff, Nat.reduceAdd, reduceCtorEq] <;> rfl) (by first | rfl | simp only [go_sem, ↓reduceIte, Nat.reduceEqDiff, Nat.reduceAdd, reduceCtorEq]) ?_
        (repeat first | simp only [go_sem, ↓reduceIte, Nat.reduceEqDiff, Nat.reduceAdd, reduceCtorEq] | with_reducible refine V_W ?_ | (with_reducible refine And.intro ?_ ?_; focus first | assumption | omega | decide | grind) | (with_reducible refine Br.mk ?_ ?_; focus (intros; omega)) | decide)
        refine V_loop (α := Nat) (S := fun m => ([(2, .ref 0 0), (3, .ref 1 0), (4, .ref 2 0), (6, .sl 3 1 0 Q.length), (8, ints a), (11, .sl 4 1 0 (a.length + m)), (36, mat F), (37, i64 (F.length : Int)), (38, i64 (i : Int)), (43, mat G), (44, i64 (G.length : Int)), (45, i64 (j : Int)), (51, ints b), (52, i64 (b.length : Int)), (53, i64 (m : Int))], [some [i64 v, mat F], some [i64 w, mat G], some [i64 0, nilS], some (Q.map oints), some (intsC (sh v a (b.take m)))])) (C := fun m => m ≤ b.length) (μ := fun m => b.length - m) 0 (Nat.zero_le _) (Ref.to (by simp [sh]) (by simp [sub, fget])) ?_
        intro m hm
        dsimp only
        have hsl : (sh v a (b.take m)).length = a.length + m := by rw [sh_len, List.length_take]; omega
        (repeat first | simp only [go_sem, ↓reduceIte, Nat.reduceEqDiff, Nat.reduceAdd, reduceCtorEq] | with_reducible refine V_W ?_ | (with_reducible refine And.intro ?_ ?_; focus first | assumption | omega | decide | grind) | (with_reducible refine Br.mk ?_ ?_; focus (intros; omega)) | decide)
        refine ⟨fun hc3 => ?_, fun hc3 => ?_⟩
        · have hmb : m < b.length := by omega
          have hxe := hbe (b.getD m 0) (by rw [List.getD_eq_getElem?_getD, List.getElem?_eq_getElem hmb]; exact List.getElem_mem hmb)
          have hss : sh v a (b.take (m + 1)) = sh v a (b.take m) ++ [v + b.getD m 0] := by
            unfold sh
            rw [takeZ_one hmb, List.map_append, List.append_assoc]
            rfl
          (repeat first | simp only [go_sem, ↓reduceIte, Nat.reduceEqDiff, Nat.reduceAdd, reduceCtorEq] | with_reducible refine V_W ?_ | (with_reducible refine And.intro ?_ ?_; focus first | assumption | omega | decide | grind) | (with_reducible refine Br.mk ?_ ?_; focus (intros; omega)) | decide)
          rw [List.take_of_length_le (by simp [intsC]; omega : (intsC (sh v a (b.take m))).length ≤ a.length + m)]
          refine ⟨m + 1, by omega, by omega, Ref.gc [0, 1, 2, 3, 6] rfl ?_ (by simp [sub, fget, go_sem, ↓reduceIte, Nat.reduceEqDiff, Nat.reduceAdd, reduceCtorEq]; omega)⟩
          rw [hss]
          simp only [go_sem, ↓reduceIte, Nat.reduceEqDiff, Nat.reduceAdd, reduceCtorEq] <;> simp [intsC, hsl, rnmL_orows]
        · obtain rfl : m = b.length := by omega
          rw [List.take_length] at hsl ⊢
          obtain ⟨y, hyd⟩ : ∃ y, y = sh v a b := ⟨_, rfl⟩
          rw [← hyd] at hsl hms ⊢
          obtain ⟨Ri, hRi⟩ : ∃ Ri, Ri = Q.map oints := ⟨_, rfl⟩
          have hRl : Ri.length = Q.length := by rw [hRi, List.length_map]
          have hrn : ∀ τ, rnmL τ Ri = Ri := fun τ => by rw [hRi]; exact rnmL_orows τ _
          have hrn2 : ∀ τ, Ri.map (rnm τ) = Ri := fun τ => by have := hrn τ; rwa [rnmL_map] at this
          have hrt : (P ++ jnM v a (G.take (j + 1))).map oints = Ri ++ [oints y] := by
            rw [hms, ← List.append_assoc, ← hQ, List.map_append, hRi]
            rfl
          have hPn : (P ++ jnM v a (G.take (j + 1))).length = Q.length + 1 := by
            rw [hms, ← List.append_assoc, ← hQ, List.length_append]
            rfl
          rw [List.length_append] at hPn
          rw [← hRi, ← hsl]
          (repeat first | simp only [go_sem, ↓reduceIte, Nat.reduceEqDiff, Nat.reduceAdd, reduceCtorEq] | with_reducible refine V_W ?_ | (with_reducible refine And.intro ?_ ?_; focus first | assumption | omega | decide | grind) | (with_reducible refine Br.mk ?_ ?_; focus (intros; omega)) | decide)
          rw [List.take_of_length_le (by omega : Ri.length ≤ Q.length)]
          refine ⟨j + 1, by omega, by omega, (Ref.close 6 Q.length 4 (k := 1) (n := y.length) (cs := Ri ++ [.sl 4 1 0 y.length]) (cs2 := intsC y) rfl (by rw [List.getElem?_append_right (by omega), hRl, Nat.sub_self]; rfl) rfl (by decide) (by simp [intsC])).trans (Ref.gc [0, 1, 2, 6] rfl ?_ (by simp [sub, fget, go_sem, ↓reduceIte, Nat.reduceEqDiff, Nat.reduceAdd, reduceCtorEq]; omega))⟩
          have hse : (Ri ++ [AV.sl 4 1 0 y.length]).set Q.length (.osl 1 y.length (intsC y)) = Ri ++ [oints y] := by
            rw [List.set_append_right _ _ (by omega), hRl, Nat.sub_self]
            rfl
          simp only [hse, go_sem, ↓reduceIte, Nat.reduceEqDiff, Nat.reduceAdd, reduceCtorEq]
          rw [hrt]
          simp [rnmL_map, rnm, hrn2, intsC, rnmL_ints]
      · obtain rfl : j = G.length := by omega
        rw [List.take_length, ← hjs] at hQ
        (repeat first | simp only [go_sem, ↓reduceIte, Nat.reduceEqDiff, Nat.reduceAdd, reduceCtorEq] | with_reducible refine V_W ?_ | (with_reducible refine And.intro ?_ ?_; focus first | assumption | omega | decide | grind) | (with_reducible refine Br.mk ?_ ?_; focus (intros; omega)) | decide)
        exact ⟨i + 1, by omega, by omega, Ref.to (by rw [hQ]) (by simp [sub, fget, hQ])⟩
    · obtain rfl : i = F.length := by omega
      rw [List.take_length]
      have htk : ∀ Hx : Heap, (List.take (jnP v F G).length ((jnP v F G).map oints)).map (frz Hx 5) = (jnP v F G).map ints := fun Hx => by
        rw [List.take_of_length_le (by simp), List.map_map]
        refine List.map_congr_left fun z _ => ?_
        simp [frz, intsC]
      (repeat first | simp only [go_sem, ↓reduceIte, Nat.reduceEqDiff, Nat.reduceAdd, reduceCtorEq] | with_reducible refine V_W ?_ | (with_reducible refine And.intro ?_ ?_; focus first | assumption | omega | decide | grind) | (with_reducible refine Br.mk ?_ ?_; focus (intros; omega)) | decide)
      refine pureC hco (by simp only [htk, go_sem, ↓reduceIte, Nat.reduceEqDiff, Nat.reduceAdd, reduceCtorEq]) (by first | rfl | simp only [go_sem, ↓reduceIte, Nat.reduceEqDiff, Nat.reduceAdd, reduceCtorEq]) ?_
      (repeat first | simp only [go_sem, ↓reduceIte, Nat.reduceEqDiff, Nat.reduceAdd, reduceCtorEq] | with_reducible refine V_W ?_ | (with_reducible refine And.intro ?_ ?_; focus first | assumption | omega | decide | grind) | (with_reducible refine Br.mk ?_ ?_; focus (intros; omega)) | decide)
      exact Ref.gc [4] rfl (by simp only [go_sem, ↓reduceIte, Nat.reduceEqDiff, Nat.reduceAdd, reduceCtorEq]) (by simp [sub, fget, go_sem, ↓reduceIte, Nat.reduceEqDiff, Nat.reduceAdd, reduceCtorEq])
end Go.Proofs.YtgdijhchndjhlaaGreatDoor
set_option maxRecDepth 100000
namespace Go.Proofs.YtgdijhchndjhlaaGreatDoor
open Go.Gov
open Classical

theorem own2_c (F : List (List Int)) (hl : F.length ≤ 1048576) (hr : ∀ x ∈ F, x.length ≤ 1048576) : Pure Tryz.prog 63 [mat F] (.sl 0 1 0 F.length) [some (F.map oints)] := by
  refine pureRV ok63 rfl ?_; unfold c63
  (repeat first | simp only [go_sem, ↓reduceIte, Nat.reduceEqDiff, Nat.reduceAdd, reduceCtorEq] | with_reducible refine V_W ?_ | (with_reducible refine And.intro ?_ ?_; focus first | assumption | omega | decide | grind) | (with_reducible refine Br.mk ?_ ?_; focus (intros; omega)) | decide)
  refine V_loop (α := Nat) (S := fun i => ([(0, mat F), (3, .sl 0 1 0 i), (4, i64 (i : Int))], [some ((F.take i).map oints)])) (C := fun i => i ≤ F.length) (μ := fun i => F.length - i) 0 (Nat.zero_le _) (Ref.to rfl (by simp [sub, fget])) ?_
  intro i hi
  obtain ⟨Ri, hRi⟩ : ∃ Ri, Ri = (F.take i).map oints := ⟨_, rfl⟩
  have hRl : Ri.length = i := by rw [hRi, List.length_map, List.length_take]; omega
  have hrn : ∀ τ, rnmL τ Ri = Ri := fun τ => by rw [hRi]; exact rnmL_orows τ _
  have hrn2 : ∀ τ, Ri.map (rnm τ) = Ri := fun τ => by have := hrn τ; rwa [rnmL_map] at this
  rw [← hRi]
  (repeat first | simp only [go_sem, ↓reduceIte, Nat.reduceEqDiff, Nat.reduceAdd, reduceCtorEq] | with_reducible refine V_W ?_ | (with_reducible refine And.intro ?_ ?_; focus first | assumption | omega | decide | grind) | (with_reducible refine Br.mk ?_ ?_; focus (intros; omega)) | decide)
  refine ⟨fun hc => ?_, fun hc => ?_⟩
  · have hiF : i < F.length := by omega
    have hxr := hr _ (getD_mem hiF)
    have hrt : (F.take (i + 1)).map oints = Ri ++ [oints (F.getD i [])] := by rw [take_one hiF, List.map_append, hRi]; rfl
    obtain ⟨y, hy⟩ : ∃ y, y = F.getD i [] := ⟨_, rfl⟩
    rw [← hy] at hxr hrt
    have ho := own_c y (by omega)
    (repeat first | simp only [go_sem, ↓reduceIte, Nat.reduceEqDiff, Nat.reduceAdd, reduceCtorEq] | with_reducible refine V_W ?_ | (with_reducible refine And.intro ?_ ?_; focus first | assumption | omega | decide | grind) | (with_reducible refine Br.mk ?_ ?_; focus (intros; omega)) | decide)
    simp only [← hy, go_sem, ↓reduceIte, Nat.reduceEqDiff, Nat.reduceAdd, reduceCtorEq]
    (repeat first | simp only [go_sem, ↓reduceIte, Nat.reduceEqDiff, Nat.reduceAdd, reduceCtorEq] | with_reducible refine V_W ?_ | (with_reducible refine And.intro ?_ ?_; focus first | assumption | omega | decide | grind) | (with_reducible refine Br.mk ?_ ?_; focus (intros; omega)) | decide)
    refine pureC (ho) (by simp only [go_sem, ↓reduceIte, Nat.reduceEqDiff, Nat.reduceAdd, reduceCtorEq] <;> rfl) (by first | rfl | simp only [go_sem, ↓reduceIte, Nat.reduceEqDiff, Nat.reduceAdd, reduceCtorEq]) ?_
    (repeat first | simp only [go_sem, ↓reduceIte, Nat.reduceEqDiff, Nat.reduceAdd, reduceCtorEq] | with_reducible refine V_W ?_ | (with_reducible refine And.intro ?_ ?_; focus first | assumption | omega | decide | grind) | (with_reducible refine Br.mk ?_ ?_; focus (intros; omega)) | decide)
    rw [List.take_of_length_le (by omega : Ri.length ≤ i)]
    refine ⟨i + 1, by omega, by omega, (Ref.close 3 i 1 (k := 1) (n := y.length) (cs := Ri ++ [.sl 1 1 0 y.length]) (cs2 := intsC y) rfl (by rw [List.getElem?_append_right (by omega), hRl, Nat.sub_self]; rfl) rfl (by decide) (by simp [intsC])).trans (Ref.gc [3] rfl ?_ (by simp [sub, fget, go_sem, ↓reduceIte, Nat.reduceEqDiff, Nat.reduceAdd, reduceCtorEq]))⟩
    have hse : (Ri ++ [AV.sl 1 1 0 y.length]).set i (.osl 1 y.length (intsC y)) = Ri ++ [oints y] := by
      rw [List.set_append_right _ _ (by omega), hRl, Nat.sub_self]
      rfl
    simp only [hse, go_sem, ↓reduceIte, Nat.reduceEqDiff, Nat.reduceAdd, reduceCtorEq]
    rw [hrt]
    simp [rnmL_map, rnm, hrn2, intsC, rnmL_ints]
  · obtain rfl : i = F.length := by omega
    rw [List.take_length] at hRi
    rw [hRi]
    (repeat first | simp only [go_sem, ↓reduceIte, Nat.reduceEqDiff, Nat.reduceAdd, reduceCtorEq] | with_reducible refine V_W ?_ | (with_reducible refine And.intro ?_ ?_; focus first | assumption | omega | decide | grind) | (with_reducible refine Br.mk ?_ ?_; focus (intros; omega)) | decide)
    exact Ref.to rfl (by simp [sub, fget])
set_option maxHeartbeats 8000000 in
theorem l17Join_p (v : Int) (F : List (List Int)) (w : Int) (G : List (List Int)) (hF : CxOk v F) (hG : CxOk w G) : Pure Tryz.prog 37 [cpxA v F, cpxA w G] (.tup [.agg [i64 (jV v F G), .sl 0 1 0 (jF v F G).length], i64 (jK v F G)]) [some ((jF v F G).map oints)] := by
  obtain ⟨f1, f2⟩ := hF.six
  obtain ⟨g1, g2⟩ := hG.six
  have hv60 := hF.1.1
  by_cases hE : F = [] ∨ G = []
  · have hL : jnL v F G = F ++ G := by
      unfold jnL
      rcases hE with h | h
      · rw [if_pos h, h, List.nil_append]
      · by_cases h2 : F = []
        · rw [if_pos h2, h2, List.nil_append]
        · rw [if_neg h2, if_pos h, h, List.append_nil]
    obtain ⟨n1, n2, n3⟩ := j_fine (v := v) (F := F) (G := G) (L := F ++ G) (fun h => hE.elim h.1 h.2.1) hL
    have hco := mk_of (L := F ++ G) (fun x hx => (List.mem_append.1 hx).elim (hF.sst x) (hG.sst x)) (by rw [List.length_append]; omega) (fun x hx => (List.mem_append.1 hx).elim (fun h => by have := f2 x h; omega) (fun h => by have := g2 x h; omega))
    rw [n1, n2, n3]
    generalize ckV (F ++ G) = cv at hco ⊢
    generalize ckF (F ++ G) = cf at hco ⊢
    generalize ckK (F ++ G) = ck at hco ⊢
    have ho1 := own2_c F (by omega) (fun x hx => by have := f2 x hx; omega)
    have ho2 := own2_c G (by omega) (fun x hx => by have := g2 x hx; omega)
    have hap := l17Append_w F.length (F.map oints) G (by simp) (fun τ => rnmL_orows τ F) (by omega)
    rw [show mat (F ++ G) = .slc 1 (F.length + G.length) ((F ++ G).map ints) by rw [mat, List.length_append]] at hco
    have hcl : ∀ Hx : Heap, (List.take (F.length + G.length) (F.map oints ++ G.map ints)).map (frz Hx 5) = (F ++ G).map ints := fun Hx => by
      rw [List.take_of_length_le (by simp), List.map_append, List.map_append, map_frz_rows, List.map_map]
      congr 1
      refine List.map_congr_left fun z _ => ?_
      simp [frz, intsC]
    have htg : ∀ Hx : Heap, (List.take G.length (G.map oints)).map (frz Hx 5) = G.map ints := fun Hx => by
      rw [List.take_of_length_le (by simp), List.map_map]
      refine List.map_congr_left fun z _ => ?_
      simp [frz, intsC]
    refine pureRV ok37 rfl ?_; unfold c37
    (repeat first | simp only [go_sem, ↓reduceIte, Nat.reduceEqDiff, Nat.reduceAdd, reduceCtorEq] | with_reducible refine V_W ?_ | (with_reducible refine And.intro ?_ ?_; focus first | assumption | omega | decide | grind) | (with_reducible refine Br.mk ?_ ?_; focus (intros; omega)) | decide)
    have hcond : ((F.length : Int) = 0 ∨ (G.length : Int) = 0) := by
      rcases hE with h | h
      · left; rw [h]; rfl
      · right; rw [h]; rfl
    refine ⟨fun _ => ?_, fun h => absurd hcond (by omega)⟩
    refine V_altsS [(4, .ref 0 0), (5, i64 ck)] [some [i64 cv, .sl 1 1 0 cf.length], some (cf.map oints)] ?_ ?_
    · repeat' first
        | simp only [go_sem, ↓reduceIte, Nat.reduceEqDiff, Nat.reduceAdd, reduceCtorEq]
        | with_reducible refine LT_reg ?_
        | with_reducible refine LT_fin ?_
        | with_reducible exact LT_tt
        | with_reducible refine LT_alt ?_ ?_
        | (with_reducible refine And.intro ?_ ?_; focus first | assumption | omega | grind)
        | (refine pureC (ho1) ?_ ?_ ?_; (focus (simp only [go_sem, ↓reduceIte, Nat.reduceEqDiff, Nat.reduceAdd, reduceCtorEq] <;> rfl)); (focus first | rfl | simp only [go_sem, ↓reduceIte, Nat.reduceEqDiff, Nat.reduceAdd, reduceCtorEq]))
        | (refine pureC (ho2) ?_ ?_ ?_; (focus (simp only [go_sem, ↓reduceIte, Nat.reduceEqDiff, Nat.reduceAdd, reduceCtorEq] <;> rfl)); (focus first | rfl | simp only [go_sem, ↓reduceIte, Nat.reduceEqDiff, Nat.reduceAdd, reduceCtorEq]))
      all_goals first
        | (refine CallsX.ice 4 ?_; (simp only [htg, go_sem, ↓reduceIte, Nat.reduceEqDiff, Nat.reduceAdd, reduceCtorEq]); (refine wriCF (hap) [3] ?_ ?_ ?_ ?_; (focus first | rfl | simp); (focus (simp only [go_sem, ↓reduceIte, Nat.reduceEqDiff, Nat.reduceAdd, reduceCtorEq] <;> rfl)); (focus (simp only [go_sem, ↓reduceIte, Nat.reduceEqDiff, Nat.reduceAdd, reduceCtorEq] <;> rfl))))
        | (refine CallsX.ice 3 ?_; (simp only [htg, go_sem, ↓reduceIte, Nat.reduceEqDiff, Nat.reduceAdd, reduceCtorEq]); (refine wriCF (hap) [4] ?_ ?_ ?_ ?_; (focus first | rfl | simp); (focus (simp only [go_sem, ↓reduceIte, Nat.reduceEqDiff, Nat.reduceAdd, reduceCtorEq] <;> rfl)); (focus (simp only [go_sem, ↓reduceIte, Nat.reduceEqDiff, Nat.reduceAdd, reduceCtorEq] <;> rfl))))
      all_goals
        repeat' first
          | simp only [go_sem, ↓reduceIte, Nat.reduceEqDiff, Nat.reduceAdd, reduceCtorEq]
          | with_reducible refine LT_reg ?_
          | with_reducible refine LT_fin ?_
          | with_reducible exact LT_tt
          | with_reducible refine LT_alt ?_ ?_
          | (refine pureC hco ?_ ?_ ?_; (focus (simp only [hcl, go_sem, ↓reduceIte, Nat.reduceEqDiff, Nat.reduceAdd, reduceCtorEq])); (focus first | rfl | simp only [go_sem, ↓reduceIte, Nat.reduceEqDiff, Nat.reduceAdd, reduceCtorEq]))
      all_goals exact Ref.gc [2, 6] rfl (by simp only [go_sem, ↓reduceIte, Nat.reduceEqDiff, Nat.reduceAdd, reduceCtorEq]) (by simp [sub, fget, go_sem, ↓reduceIte, Nat.reduceEqDiff, Nat.reduceAdd, reduceCtorEq])
    · (repeat first | simp only [go_sem, ↓reduceIte, Nat.reduceEqDiff, Nat.reduceAdd, reduceCtorEq] | with_reducible refine V_W ?_ | (with_reducible refine And.intro ?_ ?_; focus first | assumption | omega | decide | grind) | (with_reducible refine Br.mk ?_ ?_; focus (intros; omega)) | decide)
      exact Ref.gc [1] rfl (by simp only [go_sem, ↓reduceIte, Nat.reduceEqDiff, Nat.reduceAdd, reduceCtorEq]) (by simp [sub, fget, go_sem, ↓reduceIte, Nat.reduceEqDiff, Nat.reduceAdd, reduceCtorEq])
  · obtain ⟨hF0, hG0⟩ := not_or.1 hE
    have hFp : 0 < F.length := List.length_pos_iff.2 hF0
    have hGp : 0 < G.length := List.length_pos_iff.2 hG0
    have hmul : F.length * G.length ≤ 400 * 400 := Nat.mul_le_mul f1 g1
    have hcast : (F.length : Int) * (G.length : Int) = ((F.length * G.length : Nat) : Int) := by rw [Int.natCast_mul]
    by_cases hO : Over F G
    · obtain ⟨n1, n2, n3⟩ := j_over (v := v) hO
      have hO2 := hO.2.2
      rw [n1, n2, n3]
      refine pureRV ok37 rfl ?_; unfold c37
      (repeat first | simp only [go_sem, ↓reduceIte, Nat.reduceEqDiff, Nat.reduceAdd, reduceCtorEq] | with_reducible refine V_W ?_ | (with_reducible refine And.intro ?_ ?_; focus first | assumption | omega | decide | grind) | (with_reducible refine Br.mk ?_ ?_; focus (intros; omega)) | decide)
      refine fun _ => ?_
      (repeat first | simp only [go_sem, ↓reduceIte, Nat.reduceEqDiff, Nat.reduceAdd, reduceCtorEq] | with_reducible refine V_W ?_ | (with_reducible refine And.intro ?_ ?_; focus first | assumption | omega | decide | grind) | (with_reducible refine Br.mk ?_ ?_; focus (intros; omega)) | decide)
      simp only [hcast, go_sem, ↓reduceIte, Nat.reduceEqDiff, Nat.reduceAdd, reduceCtorEq]
      (repeat first | simp only [go_sem, ↓reduceIte, Nat.reduceEqDiff, Nat.reduceAdd, reduceCtorEq] | with_reducible refine V_W ?_ | (with_reducible refine And.intro ?_ ?_; focus first | assumption | omega | decide | grind) | (with_reducible refine Br.mk ?_ ?_; focus (intros; omega)) | decide)
      refine ⟨fun _ => ?_, fun h => absurd h (by omega)⟩
      (repeat first | simp only [go_sem, ↓reduceIte, Nat.reduceEqDiff, Nat.reduceAdd, reduceCtorEq] | with_reducible refine V_W ?_ | (with_reducible refine And.intro ?_ ?_; focus first | assumption | omega | decide | grind) | (with_reducible refine Br.mk ?_ ?_; focus (intros; omega)) | decide)
      exact err_end
    · obtain ⟨n1, n2, n3⟩ := j_fine (v := v) hO ((if_neg hF0).trans (if_neg hG0))
      have hO2 : F.length * G.length ≤ 400 := Classical.byContradiction fun h => hO ⟨hF0, hG0, by omega⟩
      have hjl := jnP_len v F G
      have hco := mk_of (jnP_SR (v := v) hF hG) (by omega) (jnP_row f2 g2)
      rw [n1, n2, n3]
      generalize ckV (jnP v F G) = cv at hco ⊢
      generalize ckF (jnP v F G) = cf at hco ⊢
      generalize ckK (jnP v F G) = ck at hco ⊢
      refine pureRV ok37 rfl ?_; unfold c37
      (repeat first | simp only [go_sem, ↓reduceIte, Nat.reduceEqDiff, Nat.reduceAdd, reduceCtorEq] | with_reducible refine V_W ?_ | (with_reducible refine And.intro ?_ ?_; focus first | assumption | omega | decide | grind) | (with_reducible refine Br.mk ?_ ?_; focus (intros; omega)) | decide)
      refine fun _ => ?_
      (repeat first | simp only [go_sem, ↓reduceIte, Nat.reduceEqDiff, Nat.reduceAdd, reduceCtorEq] | with_reducible refine V_W ?_ | (with_reducible refine And.intro ?_ ?_; focus first | assumption | omega | decide | grind) | (with_reducible refine Br.mk ?_ ?_; focus (intros; omega)) | decide)
      simp only [hcast, go_sem, ↓reduceIte, Nat.reduceEqDiff, Nat.reduceAdd, reduceCtorEq]
      (repeat first | simp only [go_sem, ↓reduceIte, Nat.reduceEqDiff, Nat.reduceAdd, reduceCtorEq] | with_reducible refine V_W ?_ | (with_reducible refine And.intro ?_ ?_; focus first | assumption | omega | decide | grind) | (with_reducible refine Br.mk ?_ ?_; focus (intros; omega)) | decide)
      refine fun _ => ?_
      (repeat first | simp only [go_sem, ↓reduceIte, Nat.reduceEqDiff, Nat.reduceAdd, reduceCtorEq] | with_reducible refine V_W ?_ | (with_reducible refine And.intro ?_ ?_; focus first | assumption | omega | decide | grind) | (with_reducible refine Br.mk ?_ ?_; focus (intros; omega)) | decide)
      refine V_loop (α := Nat) (S := fun i => ([(2, .ref 0 0), (3, .ref 1 0), (4, .ref 2 0), (6, .sl 3 1 0 (jnP v (F.take i) G).length), (7, i64 (i : Int))], [some [i64 v, mat F], some [i64 w, mat G], some [i64 0, nilS], some ((jnP v (F.take i) G).map oints)])) (C := fun i => i ≤ F.length) (μ := fun i => F.length - i) 0 (Nat.zero_le _) (Ref.to (by simp [jnP]) (by simp [sub, fget, jnP])) ?_
      intro i hi
      dsimp only
      have hPl := jnP_len v (F.take i) G
      have hti : (F.take i).length = i := by rw [List.length_take]; omega
      rw [hti] at hPl
      have hig : i * G.length ≤ F.length * G.length := Nat.mul_le_mul_right _ hi
      (repeat first | simp only [go_sem, ↓reduceIte, Nat.reduceEqDiff, Nat.reduceAdd, reduceCtorEq] | with_reducible refine V_W ?_ | (with_reducible refine And.intro ?_ ?_; focus first | assumption | omega | decide | grind) | (with_reducible refine Br.mk ?_ ?_; focus (intros; omega)) | decide)
      refine ⟨fun hc => ?_, fun hc => ?_⟩
      · have hiF : i < F.length := by omega
        have ha6 := f2 _ (getD_mem hiF)
        have hjs := jnP_succ (v := v) (F := F) (G := G) (i := i) hiF
        obtain ⟨a, had⟩ : ∃ a, a = F.getD i [] := ⟨_, rfl⟩
        rw [← had] at ha6 hjs
        obtain ⟨P, hP⟩ : ∃ P, P = jnP v (F.take i) G := ⟨_, rfl⟩
        rw [← hP] at hPl hjs ⊢
        (repeat first | simp only [go_sem, ↓reduceIte, Nat.reduceEqDiff, Nat.reduceAdd, reduceCtorEq] | with_reducible refine V_W ?_ | (with_reducible refine And.intro ?_ ?_; focus first | assumption | omega | decide | grind) | (with_reducible refine Br.mk ?_ ?_; focus (intros; omega)) | decide)
        refine V_loop (α := Nat) (S := fun j => ([(2, .ref 0 0), (3, .ref 1 0), (4, .ref 2 0), (6, .sl 3 1 0 (P ++ jnM v a (G.take j)).length), (7, i64 (i : Int)), (8, i64 (j : Int))], [some [i64 v, mat F], some [i64 w, mat G], some [i64 0, nilS], some ((P ++ jnM v a (G.take j)).map oints)])) (C := fun j => j ≤ G.length) (μ := fun j => G.length - j) 0 (Nat.zero_le _) (Ref.to (by simp [jnM]) (by simp [sub, fget, jnM])) ?_
        intro j hj
        dsimp only
        have hMl := jnM_len v a (G.take j)
        have htj : (G.take j).length = j := by rw [List.length_take]; omega
        rw [htj] at hMl
        obtain ⟨Q, hQ⟩ : ∃ Q, Q = P ++ jnM v a (G.take j) := ⟨_, rfl⟩
        have hQl : Q.length = P.length + j := by rw [hQ, List.length_append, hMl]
        rw [← hQ]
        (repeat first | simp only [go_sem, ↓reduceIte, Nat.reduceEqDiff, Nat.reduceAdd, reduceCtorEq] | with_reducible refine V_W ?_ | (with_reducible refine And.intro ?_ ?_; focus first | assumption | omega | decide | grind) | (with_reducible refine Br.mk ?_ ?_; focus (intros; omega)) | decide)
        refine ⟨fun hc2 => ?_, fun hc2 => ?_⟩
        · have hjG : j < G.length := by omega
          have hb6 := g2 _ (getD_mem hjG)
          have hbe := hG.ent (getD_mem hjG)
          have hms := jnM_succ (v := v) (a := a) (G := G) (j := j) hjG
          obtain ⟨b, hbd⟩ : ∃ b, b = G.getD j [] := ⟨_, rfl⟩
          rw [← hbd] at hb6 hbe hms
          have hcl := own_c a (by omega)
          have hw60 := hG.1.1
          (repeat first | simp only [go_sem, ↓reduceIte, Nat.reduceEqDiff, Nat.reduceAdd, reduceCtorEq] | with_reducible refine V_W ?_ | (with_reducible refine And.intro ?_ ?_; focus first | assumption | omega | decide | grind) | (with_reducible refine Br.mk ?_ ?_; focus (intros; omega)) | decide)
          simp only [← had, go_sem, ↓reduceIte, Nat.reduceEqDiff, Nat.reduceAdd, reduceCtorEq]
          (repeat first | simp only [go_sem, ↓reduceIte, Nat.reduceEqDiff, Nat.reduceAdd, reduceCtorEq] | with_reducible refine V_W ?_ | (with_reducible refine And.intro ?_ ?_; focus first | assumption | omega | decide | grind) | (with_reducible refine Br.mk ?_ ?_; focus (intros; omega)) | decide)
          refine pureC (hcl) (by simp only [go_sem, ↓reduceIte, Nat.reduceEqDiff, Nat.reduceAdd, reduceCtorEq] <;> rfl) (by first | rfl | simp only [go_sem, ↓reduceIte, Nat.reduceEqDiff, Nat.reduceAdd, reduceCtorEq]) ?_
          (repeat first | simp only [go_sem, ↓reduceIte, Nat.reduceEqDiff, Nat.reduceAdd, reduceCtorEq] | with_reducible refine V_W ?_ | (with_reducible refine And.intro ?_ ?_; focus first | assumption | omega | decide | grind) | (with_reducible refine Br.mk ?_ ?_; focus (intros; omega)) | decide)
          refine V_loop (α := Nat) (S := fun m => ([(2, .ref 0 0), (3, .ref 1 0), (4, .ref 2 0), (6, .sl 3 1 0 Q.length), (7, i64 (i : Int)), (8, i64 (j : Int)), (9, .sl 4 1 0 (a.length + m)), (10, i64 (m : Int))], [some [i64 v, mat F], some [i64 w, mat G], some [i64 0, nilS], some (Q.map oints), some (intsC (sh v a (b.take m)))])) (C := fun m => m ≤ b.length) (μ := fun m => b.length - m) 0 (Nat.zero_le _) (Ref.to (by simp [sh]) (by simp [sub, fget])) ?_
          intro m hm
          dsimp only
          have hsl : (sh v a (b.take m)).length = a.length + m := by rw [sh_len, List.length_take]; omega
          (repeat first | simp only [go_sem, ↓reduceIte, Nat.reduceEqDiff, Nat.reduceAdd, reduceCtorEq] | with_reducible refine V_W ?_ | (with_reducible refine And.intro ?_ ?_; focus first | assumption | omega | decide | grind) | (with_reducible refine Br.mk ?_ ?_; focus (intros; omega)) | decide)
          simp only [← hbd, go_sem, ↓reduceIte, Nat.reduceEqDiff, Nat.reduceAdd, reduceCtorEq]
          refine ⟨fun hc3 => ?_, fun hc3 => ?_⟩
          · have hmb : m < b.length := by omega
            have hxe := hbe (b.getD m 0) (by rw [List.getD_eq_getElem?_getD, List.getElem?_eq_getElem hmb]; exact List.getElem_mem hmb)
            have hss : sh v a (b.take (m + 1)) = sh v a (b.take m) ++ [v + b.getD m 0] := by
              unfold sh
              rw [takeZ_one hmb, List.map_append, List.append_assoc]
              rfl
            (repeat first | simp only [go_sem, ↓reduceIte, Nat.reduceEqDiff, Nat.reduceAdd, reduceCtorEq] | with_reducible refine V_W ?_ | (with_reducible refine And.intro ?_ ?_; focus first | assumption | omega | decide | grind) | (with_reducible refine Br.mk ?_ ?_; focus (intros; omega)) | decide)
            simp only [← hbd, go_sem, ↓reduceIte, Nat.reduceEqDiff, Nat.reduceAdd, reduceCtorEq]
            (repeat first | simp only [go_sem, ↓reduceIte, Nat.reduceEqDiff, Nat.reduceAdd, reduceCtorEq] | with_reducible refine V_W ?_ | (with_reducible refine And.intro ?_ ?_; focus first | assumption | omega | decide | grind) | (with_reducible refine Br.mk ?_ ?_; focus (intros; omega)) | decide)
            rw [List.take_of_length_le (by simp [intsC]; omega : (intsC (sh v a (b.take m))).length ≤ a.length + m)]
            refine ⟨m + 1, by omega, by omega, Ref.gc [0, 1, 2, 3, 6] rfl ?_ (by simp [sub, fget, go_sem, ↓reduceIte, Nat.reduceEqDiff, Nat.reduceAdd, reduceCtorEq]; omega)⟩
            rw [hss]
            simp only [go_sem, ↓reduceIte, Nat.reduceEqDiff, Nat.reduceAdd, reduceCtorEq] <;> simp [intsC, hsl, rnmL_orows]
          · obtain rfl : m = b.length := by omega
            rw [List.take_length] at hsl ⊢
            obtain ⟨y, hyd⟩ : ∃ y, y = sh v a b := ⟨_, rfl⟩
            rw [← hyd] at hsl hms ⊢
            obtain ⟨Ri, hRi⟩ : ∃ Ri, Ri = Q.map oints := ⟨_, rfl⟩
            have hRl : Ri.length = Q.length := by rw [hRi, List.length_map]
            have hrn : ∀ τ, rnmL τ Ri = Ri := fun τ => by rw [hRi]; exact rnmL_orows τ _
            have hrn2 : ∀ τ, Ri.map (rnm τ) = Ri := fun τ => by have := hrn τ; rwa [rnmL_map] at this
            have hrt : (P ++ jnM v a (G.take (j + 1))).map oints = Ri ++ [oints y] := by
              rw [hms, ← List.append_assoc, ← hQ, List.map_append, hRi]
              rfl
            have hPn : (P ++ jnM v a (G.take (j + 1))).length = Q.length + 1 := by
              rw [hms, ← List.append_assoc, ← hQ, List.length_append]
              rfl
            rw [List.length_append] at hPn
            rw [← hRi, ← hsl]
            (repeat first | simp only [go_sem, ↓reduceIte, Nat.reduceEqDiff, Nat.reduceAdd, reduceCtorEq] | with_reducible refine V_W ?_ | (with_reducible refine And.intro ?_ ?_; focus first | assumption | omega | decide | grind) | (with_reducible refine Br.mk ?_ ?_; focus (intros; omega)) | decide)
            rw [List.take_of_length_le (by omega : Ri.length ≤ Q.length)]
            refine ⟨j + 1, by omega, by omega, (Ref.close 6 Q.length 4 (k := 1) (n := y.length) (cs := Ri ++ [.sl 4 1 0 y.length]) (cs2 := intsC y) rfl (by rw [List.getElem?_append_right (by omega), hRl, Nat.sub_self]; rfl) rfl (by decide) (by simp [intsC])).trans (Ref.gc [0, 1, 2, 6] rfl ?_ (by simp [sub, fget, go_sem, ↓reduceIte, Nat.reduceEqDiff, Nat.reduceAdd, reduceCtorEq]; omega))⟩
            have hse : (Ri ++ [AV.sl 4 1 0 y.length]).set Q.length (.osl 1 y.length (intsC y)) = Ri ++ [oints y] := by
              rw [List.set_append_right _ _ (by omega), hRl, Nat.sub_self]
              rfl
            simp only [hse, go_sem, ↓reduceIte, Nat.reduceEqDiff, Nat.reduceAdd, reduceCtorEq]
            rw [hrt]
            simp [rnmL_map, rnm, hrn2, intsC, rnmL_ints]
        · obtain rfl : j = G.length := by omega
          rw [List.take_length, ← hjs] at hQ
          (repeat first | simp only [go_sem, ↓reduceIte, Nat.reduceEqDiff, Nat.reduceAdd, reduceCtorEq] | with_reducible refine V_W ?_ | (with_reducible refine And.intro ?_ ?_; focus first | assumption | omega | decide | grind) | (with_reducible refine Br.mk ?_ ?_; focus (intros; omega)) | decide)
          exact ⟨i + 1, by omega, by omega, Ref.to (by rw [hQ]) (by simp [sub, fget, hQ])⟩
      · obtain rfl : i = F.length := by omega
        rw [List.take_length]
        have htk : ∀ Hx : Heap, (List.take (jnP v F G).length ((jnP v F G).map oints)).map (frz Hx 5) = (jnP v F G).map ints := fun Hx => by
          rw [List.take_of_length_le (by simp), List.map_map]
          refine List.map_congr_left fun z _ => ?_
          simp [frz, intsC]
        (repeat first | simp only [go_sem, ↓reduceIte, Nat.reduceEqDiff, Nat.reduceAdd, reduceCtorEq] | with_reducible refine V_W ?_ | (with_reducible refine And.intro ?_ ?_; focus first | assumption | omega | decide | grind) | (with_reducible refine Br.mk ?_ ?_; focus (intros; omega)) | decide)
        refine pureC hco (by simp only [htk, go_sem, ↓reduceIte, Nat.reduceEqDiff, Nat.reduceAdd, reduceCtorEq]) (by first | rfl | simp only [go_sem, ↓reduceIte, Nat.reduceEqDiff, Nat.reduceAdd, reduceCtorEq]) ?_
        (repeat first | simp only [go_sem, ↓reduceIte, Nat.reduceEqDiff, Nat.reduceAdd, reduceCtorEq] | with_reducible refine V_W ?_ | (with_reducible refine And.intro ?_ ?_; focus first | assumption | omega | decide | grind) | (with_reducible refine Br.mk ?_ ?_; focus (intros; omega)) | decide)
        exact Ref.gc [4] rfl (by simp only [go_sem, ↓reduceIte, Nat.reduceEqDiff, Nat.reduceAdd, reduceCtorEq]) (by simp [sub, fget, go_sem, ↓reduceIte, Nat.reduceEqDiff, Nat.reduceAdd, reduceCtorEq])
noncomputable def joV (v : Int) (F : List (List Int)) (w : Int) (G : List (List Int)) : Int := if CxOk v F ∧ CxOk w G then jV v F G else 0
noncomputable def joF (v : Int) (F : List (List Int)) (w : Int) (G : List (List Int)) : List (List Int) := if CxOk v F ∧ CxOk w G then jF v F G else []
noncomputable def joK (v : Int) (F : List (List Int)) (w : Int) (G : List (List Int)) : Int := if CxOk v F ∧ CxOk w G then jK v F G else 1
theorem joF_b (v : Int) (F : List (List Int)) (w : Int) (G : List (List Int)) : (joF v F w G).length ≤ 400 ∧ ∀ x ∈ joF v F w G, x.length ≤ 6 := by
  unfold joF
  split
  · rename_i h
    exact jF_b h.1 h.2
  · simp
def two : List (List Int) := [[0], [1]]
theorem two_ok : CxOk 2 two := by
  refine ⟨⟨by omega, by decide⟩, fun i hi => ?_, fun n hn => ?_, fun i k hi hk hik hw => ?_⟩
  · match i, hi with
    | 0, _ => exact ⟨by decide, fun j hj => by
        obtain rfl : j = 0 := by simp [two] at hj; exact hj
        exact ⟨by decide, fun h => absurd h (by decide)⟩, fun h => absurd h (by decide)⟩
    | 1, _ => exact ⟨by decide, fun j hj => by
        obtain rfl : j = 0 := by simp [two] at hj; exact hj
        exact ⟨by decide, fun h => absurd h (by decide)⟩, fun _ => by decide⟩
    | i + 2, h => exact absurd h (by simp [two])
  · match n, hn with
    | 0, _ => exact ⟨[0], by decide, by decide⟩
    | 1, _ => exact ⟨[1], by decide, by decide⟩
    | n + 2, h => exact absurd h (by omega)
  · match i, k, hi, hk with
    | 0, 0, _, _ => exact hik rfl
    | 1, 1, _, _ => exact hik rfl
    | 0, 1, _, _ => exact absurd (hw 0 (by decide)) (by decide)
    | 1, 0, _, _ => exact absurd (hw 1 (by decide)) (by decide)
    | i + 2, _, h, _ => exact absurd h (by simp [two])
    | 0, k + 2, _, h => exact absurd h (by simp [two])
    | 1, k + 2, _, h => exact absurd h (by simp [two])
noncomputable def suV (v : Int) (F : List (List Int)) : Int := if CxOk v F then jV v F two else 0
noncomputable def suF (v : Int) (F : List (List Int)) : List (List Int) := if CxOk v F then jF v F two else []
noncomputable def suK (v : Int) (F : List (List Int)) : Int := if CxOk v F then jK v F two else 1
theorem suF_b (v : Int) (F : List (List Int)) : (suF v F).length ≤ 400 ∧ ∀ x ∈ suF v F, x.length ≤ 6 := by
  unfold suF
  split
  · rename_i h
    exact jF_b h two_ok
  · simp
set_option maxHeartbeats 4000000 in
theorem implJo_c (v : Int) (F : List (List Int)) (w : Int) (G : List (List Int)) (hl : F.length ≤ 1099511627776) (hr : ∀ x ∈ F, x.length ≤ 1099511627776) (hl2 : G.length ≤ 1099511627776) (hr2 : ∀ x ∈ G, x.length ≤ 1099511627776) : Pure Tryz.prog 17 [cpxA v F, cpxA w G] (.tup [.agg [i64 (joV v F w G), .sl 0 1 0 (joF v F w G).length], i64 (joK v F w G)]) [some ((joF v F w G).map oints)] := by
  have h1 := isComplex_c v F hl hr
  have h2 := isComplex_c w G hl2 hr2
  by_cases hF : CxOk v F
  · rw [decide_eq_true hF] at h1
    by_cases hG : CxOk w G
    · rw [decide_eq_true hG] at h2
      have hj := joined_p v F w G hF hG
      obtain ⟨n1, n2, n3⟩ : joV v F w G = jV v F G ∧ joF v F w G = jF v F G ∧ joK v F w G = jK v F G := ⟨if_pos ⟨hF, hG⟩, if_pos ⟨hF, hG⟩, if_pos ⟨hF, hG⟩⟩
      rw [n1, n2, n3]
      generalize jV v F G = cv at hj ⊢
      generalize jF v F G = cf at hj ⊢
      generalize jK v F G = ck at hj ⊢
      refine pureRV ok17 rfl ?_; unfold c17
      (repeat first | simp only [go_sem, ↓reduceIte, Nat.reduceEqDiff, Nat.reduceAdd, reduceCtorEq] | with_reducible refine V_W ?_ | (with_reducible refine And.intro ?_ ?_; focus first | assumption | omega | decide | grind) | (with_reducible refine Br.mk ?_ ?_; focus (intros; omega)) | decide)
      refine pureC (h1) (by simp only [go_sem, ↓reduceIte, Nat.reduceEqDiff, Nat.reduceAdd, reduceCtorEq] <;> rfl) (by first | rfl | simp only [go_sem, ↓reduceIte, Nat.reduceEqDiff, Nat.reduceAdd, reduceCtorEq]) ?_
      (repeat first | simp only [go_sem, ↓reduceIte, Nat.reduceEqDiff, Nat.reduceAdd, reduceCtorEq] | with_reducible refine V_W ?_ | (with_reducible refine And.intro ?_ ?_; focus first | assumption | omega | decide | grind) | (with_reducible refine Br.mk ?_ ?_; focus (intros; omega)) | decide)
      refine GCall.mk (bl true ) (fun hg => by first | exact pureC ( h2) (by simp only [go_sem, ↓reduceIte, Nat.reduceEqDiff, Nat.reduceAdd, reduceCtorEq] <;> rfl) (by first | rfl | simp only [go_sem, ↓reduceIte, Nat.reduceEqDiff, Nat.reduceAdd, reduceCtorEq]) (by first | exact ⟨rfl, rfl⟩ | simp only [go_sem, ↓reduceIte, Nat.reduceEqDiff, Nat.reduceAdd, reduceCtorEq]) | exact ⟨hg, pureC ( h2) (by simp only [go_sem, ↓reduceIte, Nat.reduceEqDiff, Nat.reduceAdd, reduceCtorEq] <;> rfl) (by first | rfl | simp only [go_sem, ↓reduceIte, Nat.reduceEqDiff, Nat.reduceAdd, reduceCtorEq]) (by first | exact ⟨rfl, rfl⟩ | simp only [go_sem, ↓reduceIte, Nat.reduceEqDiff, Nat.reduceAdd, reduceCtorEq])⟩ | exact ⟨by grind, pureC ( h2) (by simp only [go_sem, ↓reduceIte, Nat.reduceEqDiff, Nat.reduceAdd, reduceCtorEq] <;> rfl) (by first | rfl | simp only [go_sem, ↓reduceIte, Nat.reduceEqDiff, Nat.reduceAdd, reduceCtorEq]) (by first | exact ⟨rfl, rfl⟩ | simp only [go_sem, ↓reduceIte, Nat.reduceEqDiff, Nat.reduceAdd, reduceCtorEq])⟩) ?_
      (repeat first | simp only [go_sem, ↓reduceIte, Nat.reduceEqDiff, Nat.reduceAdd, reduceCtorEq] | with_reducible refine V_W ?_ | (with_reducible refine And.intro ?_ ?_; focus first | assumption | omega | decide | grind) | (with_reducible refine Br.mk ?_ ?_; focus (intros; omega)) | decide)
      refine pureC (hj) (by simp only [go_sem, ↓reduceIte, Nat.reduceEqDiff, Nat.reduceAdd, reduceCtorEq] <;> rfl) (by first | rfl | simp only [go_sem, ↓reduceIte, Nat.reduceEqDiff, Nat.reduceAdd, reduceCtorEq]) ?_
      (repeat first | simp only [go_sem, ↓reduceIte, Nat.reduceEqDiff, Nat.reduceAdd, reduceCtorEq] | with_reducible refine V_W ?_ | (with_reducible refine And.intro ?_ ?_; focus first | assumption | omega | decide | grind) | (with_reducible refine Br.mk ?_ ?_; focus (intros; omega)) | decide)
      exact Ref.gc [3] rfl (by simp only [go_sem, ↓reduceIte, Nat.reduceEqDiff, Nat.reduceAdd, reduceCtorEq]) (by simp [sub, fget, go_sem, ↓reduceIte, Nat.reduceEqDiff, Nat.reduceAdd, reduceCtorEq])
    · rw [decide_eq_false hG] at h2
      obtain ⟨n1, n2, n3⟩ : joV v F w G = 0 ∧ joF v F w G = [] ∧ joK v F w G = 1 := ⟨if_neg fun h => hG h.2, if_neg fun h => hG h.2, if_neg fun h => hG h.2⟩
      rw [n1, n2, n3]
      refine pureRV ok17 rfl ?_; unfold c17
      (repeat first | simp only [go_sem, ↓reduceIte, Nat.reduceEqDiff, Nat.reduceAdd, reduceCtorEq] | with_reducible refine V_W ?_ | (with_reducible refine And.intro ?_ ?_; focus first | assumption | omega | decide | grind) | (with_reducible refine Br.mk ?_ ?_; focus (intros; omega)) | decide)
      refine pureC (h1) (by simp only [go_sem, ↓reduceIte, Nat.reduceEqDiff, Nat.reduceAdd, reduceCtorEq] <;> rfl) (by first | rfl | simp only [go_sem, ↓reduceIte, Nat.reduceEqDiff, Nat.reduceAdd, reduceCtorEq]) ?_
      (repeat first | simp only [go_sem, ↓reduceIte, Nat.reduceEqDiff, Nat.reduceAdd, reduceCtorEq] | with_reducible refine V_W ?_ | (with_reducible refine And.intro ?_ ?_; focus first | assumption | omega | decide | grind) | (with_reducible refine Br.mk ?_ ?_; focus (intros; omega)) | decide)
      refine GCall.mk (bl false ) (fun hg => by first | exact pureC ( h2) (by simp only [go_sem, ↓reduceIte, Nat.reduceEqDiff, Nat.reduceAdd, reduceCtorEq] <;> rfl) (by first | rfl | simp only [go_sem, ↓reduceIte, Nat.reduceEqDiff, Nat.reduceAdd, reduceCtorEq]) (by first | exact ⟨rfl, rfl⟩ | simp only [go_sem, ↓reduceIte, Nat.reduceEqDiff, Nat.reduceAdd, reduceCtorEq]) | exact ⟨hg, pureC ( h2) (by simp only [go_sem, ↓reduceIte, Nat.reduceEqDiff, Nat.reduceAdd, reduceCtorEq] <;> rfl) (by first | rfl | simp only [go_sem, ↓reduceIte, Nat.reduceEqDiff, Nat.reduceAdd, reduceCtorEq]) (by first | exact ⟨rfl, rfl⟩ | simp only [go_sem, ↓reduceIte, Nat.reduceEqDiff, Nat.reduceAdd, reduceCtorEq])⟩ | exact ⟨by grind, pureC ( h2) (by simp only [go_sem, ↓reduceIte, Nat.reduceEqDiff, Nat.reduceAdd, reduceCtorEq] <;> rfl) (by first | rfl | simp only [go_sem, ↓reduceIte, Nat.reduceEqDiff, Nat.reduceAdd, reduceCtorEq]) (by first | exact ⟨rfl, rfl⟩ | simp only [go_sem, ↓reduceIte, Nat.reduceEqDiff, Nat.reduceAdd, reduceCtorEq])⟩) ?_
      (repeat first | simp only [go_sem, ↓reduceIte, Nat.reduceEqDiff, Nat.reduceAdd, reduceCtorEq] | with_reducible refine V_W ?_ | (with_reducible refine And.intro ?_ ?_; focus first | assumption | omega | decide | grind) | (with_reducible refine Br.mk ?_ ?_; focus (intros; omega)) | decide)
      exact err_end
  · rw [decide_eq_false hF] at h1
    obtain ⟨n1, n2, n3⟩ : joV v F w G = 0 ∧ joF v F w G = [] ∧ joK v F w G = 1 := ⟨if_neg fun h => hF h.1, if_neg fun h => hF h.1, if_neg fun h => hF h.1⟩
    rw [n1, n2, n3]
    refine pureRV ok17 rfl ?_; unfold c17
    (repeat first | simp only [go_sem, ↓reduceIte, Nat.reduceEqDiff, Nat.reduceAdd, reduceCtorEq] | with_reducible refine V_W ?_ | (with_reducible refine And.intro ?_ ?_; focus first | assumption | omega | decide | grind) | (with_reducible refine Br.mk ?_ ?_; focus (intros; omega)) | decide)
    refine pureC (h1) (by simp only [go_sem, ↓reduceIte, Nat.reduceEqDiff, Nat.reduceAdd, reduceCtorEq] <;> rfl) (by first | rfl | simp only [go_sem, ↓reduceIte, Nat.reduceEqDiff, Nat.reduceAdd, reduceCtorEq]) ?_
    (repeat first | simp only [go_sem, ↓reduceIte, Nat.reduceEqDiff, Nat.reduceAdd, reduceCtorEq] | with_reducible refine V_W ?_ | (with_reducible refine And.intro ?_ ?_; focus first | assumption | omega | decide | grind) | (with_reducible refine Br.mk ?_ ?_; focus (intros; omega)) | decide)
    refine GCall_no (bl false) rfl ?_
    (repeat first | simp only [go_sem, ↓reduceIte, Nat.reduceEqDiff, Nat.reduceAdd, reduceCtorEq] | with_reducible refine V_W ?_ | (with_reducible refine And.intro ?_ ?_; focus first | assumption | omega | decide | grind) | (with_reducible refine Br.mk ?_ ?_; focus (intros; omega)) | decide)
    exact err_end
set_option maxHeartbeats 4000000 in
theorem specJo_c (v : Int) (F : List (List Int)) (w : Int) (G : List (List Int)) (hl : F.length ≤ 1099511627776) (hr : ∀ x ∈ F, x.length ≤ 1099511627776) (hl2 : G.length ≤ 1099511627776) (hr2 : ∀ x ∈ G, x.length ≤ 1099511627776) : Pure Tryz.prog 16 [cpxA v F, cpxA w G] (.tup [.agg [i64 (joV v F w G), .sl 0 1 0 (joF v F w G).length], i64 (joK v F w G)]) [some ((joF v F w G).map oints)] := by
  have h1 := l17Is_c v F hl hr
  have h2 := l17Is_c w G hl2 hr2
  by_cases hF : CxOk v F
  · rw [decide_eq_true hF] at h1
    by_cases hG : CxOk w G
    · rw [decide_eq_true hG] at h2
      have hj := l17Join_p v F w G hF hG
      obtain ⟨n1, n2, n3⟩ : joV v F w G = jV v F G ∧ joF v F w G = jF v F G ∧ joK v F w G = jK v F G := ⟨if_pos ⟨hF, hG⟩, if_pos ⟨hF, hG⟩, if_pos ⟨hF, hG⟩⟩
      rw [n1, n2, n3]
      generalize jV v F G = cv at hj ⊢
      generalize jF v F G = cf at hj ⊢
      generalize jK v F G = ck at hj ⊢
      refine pureRV ok16 rfl ?_; unfold c16
      (repeat first | simp only [go_sem, ↓reduceIte, Nat.reduceEqDiff, Nat.reduceAdd, reduceCtorEq] | with_reducible refine V_W ?_ | (with_reducible refine And.intro ?_ ?_; focus first | assumption | omega | decide | grind) | (with_reducible refine Br.mk ?_ ?_; focus (intros; omega)) | decide)
      refine pureC (h1) (by simp only [go_sem, ↓reduceIte, Nat.reduceEqDiff, Nat.reduceAdd, reduceCtorEq] <;> rfl) (by first | rfl | simp only [go_sem, ↓reduceIte, Nat.reduceEqDiff, Nat.reduceAdd, reduceCtorEq]) ?_
      (repeat first | simp only [go_sem, ↓reduceIte, Nat.reduceEqDiff, Nat.reduceAdd, reduceCtorEq] | with_reducible refine V_W ?_ | (with_reducible refine And.intro ?_ ?_; focus first | assumption | omega | decide | grind) | (with_reducible refine Br.mk ?_ ?_; focus (intros; omega)) | decide)
      refine GCall.mk (bl true ) (fun hg => by first | exact pureC ( h2) (by simp only [go_sem, ↓reduceIte, Nat.reduceEqDiff, Nat.reduceAdd, reduceCtorEq] <;> rfl) (by first | rfl | simp only [go_sem, ↓reduceIte, Nat.reduceEqDiff, Nat.reduceAdd, reduceCtorEq]) (by first | exact ⟨rfl, rfl⟩ | simp only [go_sem, ↓reduceIte, Nat.reduceEqDiff, Nat.reduceAdd, reduceCtorEq]) | exact ⟨hg, pureC ( h2) (by simp only [go_sem, ↓reduceIte, Nat.reduceEqDiff, Nat.reduceAdd, reduceCtorEq] <;> rfl) (by first | rfl | simp only [go_sem, ↓reduceIte, Nat.reduceEqDiff, Nat.reduceAdd, reduceCtorEq]) (by first | exact ⟨rfl, rfl⟩ | simp only [go_sem, ↓reduceIte, Nat.reduceEqDiff, Nat.reduceAdd, reduceCtorEq])⟩ | exact ⟨by grind, pureC ( h2) (by simp only [go_sem, ↓reduceIte, Nat.reduceEqDiff, Nat.reduceAdd, reduceCtorEq] <;> rfl) (by first | rfl | simp only [go_sem, ↓reduceIte, Nat.reduceEqDiff, Nat.reduceAdd, reduceCtorEq]) (by first | exact ⟨rfl, rfl⟩ | simp only [go_sem, ↓reduceIte, Nat.reduceEqDiff, Nat.reduceAdd, reduceCtorEq])⟩) ?_
      (repeat first | simp only [go_sem, ↓reduceIte, Nat.reduceEqDiff, Nat.reduceAdd, reduceCtorEq] | with_reducible refine V_W ?_ | (with_reducible refine And.intro ?_ ?_; focus first | assumption | omega | decide | grind) | (with_reducible refine Br.mk ?_ ?_; focus (intros; omega)) | decide)
      refine pureC (hj) (by simp only [go_sem, ↓reduceIte, Nat.reduceEqDiff, Nat.reduceAdd, reduceCtorEq] <;> rfl) (by first | rfl | simp only [go_sem, ↓reduceIte, Nat.reduceEqDiff, Nat.reduceAdd, reduceCtorEq]) ?_
      (repeat first | simp only [go_sem, ↓reduceIte, Nat.reduceEqDiff, Nat.reduceAdd, reduceCtorEq] | with_reducible refine V_W ?_ | (with_reducible refine And.intro ?_ ?_; focus first | assumption | omega | decide | grind) | (with_reducible refine Br.mk ?_ ?_; focus (intros; omega)) | decide)
      exact Ref.gc [3] rfl (by simp only [go_sem, ↓reduceIte, Nat.reduceEqDiff, Nat.reduceAdd, reduceCtorEq]) (by simp [sub, fget, go_sem, ↓reduceIte, Nat.reduceEqDiff, Nat.reduceAdd, reduceCtorEq])
    · rw [decide_eq_false hG] at h2
      obtain ⟨n1, n2, n3⟩ : joV v F w G = 0 ∧ joF v F w G = [] ∧ joK v F w G = 1 := ⟨if_neg fun h => hG h.2, if_neg fun h => hG h.2, if_neg fun h => hG h.2⟩
      rw [n1, n2, n3]
      refine pureRV ok16 rfl ?_; unfold c16
      (repeat first | simp only [go_sem, ↓reduceIte, Nat.reduceEqDiff, Nat.reduceAdd, reduceCtorEq] | with_reducible refine V_W ?_ | (with_reducible refine And.intro ?_ ?_; focus first | assumption | omega | decide | grind) | (with_reducible refine Br.mk ?_ ?_; focus (intros; omega)) | decide)
      refine pureC (h1) (by simp only [go_sem, ↓reduceIte, Nat.reduceEqDiff, Nat.reduceAdd, reduceCtorEq] <;> rfl) (by first | rfl | simp only [go_sem, ↓reduceIte, Nat.reduceEqDiff, Nat.reduceAdd, reduceCtorEq]) ?_
      (repeat first | simp only [go_sem, ↓reduceIte, Nat.reduceEqDiff, Nat.reduceAdd, reduceCtorEq] | with_reducible refine V_W ?_ | (with_reducible refine And.intro ?_ ?_; focus first | assumption | omega | decide | grind) | (with_reducible refine Br.mk ?_ ?_; focus (intros; omega)) | decide)
      refine GCall.mk (bl false ) (fun hg => by first | exact pureC ( h2) (by simp only [go_sem, ↓reduceIte, Nat.reduceEqDiff, Nat.reduceAdd, reduceCtorEq] <;> rfl) (by first | rfl | simp only [go_sem, ↓reduceIte, Nat.reduceEqDiff, Nat.reduceAdd, reduceCtorEq]) (by first | exact ⟨rfl, rfl⟩ | simp only [go_sem, ↓reduceIte, Nat.reduceEqDiff, Nat.reduceAdd, reduceCtorEq]) | exact ⟨hg, pureC ( h2) (by simp only [go_sem, ↓reduceIte, Nat.reduceEqDiff, Nat.reduceAdd, reduceCtorEq] <;> rfl) (by first | rfl | simp only [go_sem, ↓reduceIte, Nat.reduceEqDiff, Nat.reduceAdd, reduceCtorEq]) (by first | exact ⟨rfl, rfl⟩ | simp only [go_sem, ↓reduceIte, Nat.reduceEqDiff, Nat.reduceAdd, reduceCtorEq])⟩ | exact ⟨by grind, pureC ( h2) (by simp only [go_sem, ↓reduceIte, Nat.reduceEqDiff, Nat.reduceAdd, reduceCtorEq] <;> rfl) (by first | rfl | simp only [go_sem, ↓reduceIte, Nat.reduceEqDiff, Nat.reduceAdd, reduceCtorEq]) (by first | exact ⟨rfl, rfl⟩ | simp only [go_sem, ↓reduceIte, Nat.reduceEqDiff, Nat.reduceAdd, reduceCtorEq])⟩) ?_
      (repeat first | simp only [go_sem, ↓reduceIte, Nat.reduceEqDiff, Nat.reduceAdd, reduceCtorEq] | with_reducible refine V_W ?_ | (with_reducible refine And.intro ?_ ?_; focus first | assumption | omega | decide | grind) | (with_reducible refine Br.mk ?_ ?_; focus (intros; omega)) | decide)
      exact err_end
  · rw [decide_eq_false hF] at h1
    obtain ⟨n1, n2, n3⟩ : joV v F w G = 0 ∧ joF v F w G = [] ∧ joK v F w G = 1 := ⟨if_neg fun h => hF h.1, if_neg fun h => hF h.1, if_neg fun h => hF h.1⟩
    rw [n1, n2, n3]
    refine pureRV ok16 rfl ?_; unfold c16
    (repeat first | simp only [go_sem, ↓reduceIte, Nat.reduceEqDiff, Nat.reduceAdd, reduceCtorEq] | with_reducible refine V_W ?_ | (with_reducible refine And.intro ?_ ?_; focus first | assumption | omega | decide | grind) | (with_reducible refine Br.mk ?_ ?_; focus (intros; omega)) | decide)
    refine pureC (h1) (by simp only [go_sem, ↓reduceIte, Nat.reduceEqDiff, Nat.reduceAdd, reduceCtorEq] <;> rfl) (by first | rfl | simp only [go_sem, ↓reduceIte, Nat.reduceEqDiff, Nat.reduceAdd, reduceCtorEq]) ?_
    (repeat first | simp only [go_sem, ↓reduceIte, Nat.reduceEqDiff, Nat.reduceAdd, reduceCtorEq] | with_reducible refine V_W ?_ | (with_reducible refine And.intro ?_ ?_; focus first | assumption | omega | decide | grind) | (with_reducible refine Br.mk ?_ ?_; focus (intros; omega)) | decide)
    refine GCall_no (bl false) rfl ?_
    (repeat first | simp only [go_sem, ↓reduceIte, Nat.reduceEqDiff, Nat.reduceAdd, reduceCtorEq] | with_reducible refine V_W ?_ | (with_reducible refine And.intro ?_ ?_; focus first | assumption | omega | decide | grind) | (with_reducible refine Br.mk ?_ ?_; focus (intros; omega)) | decide)
    exact err_end
set_option maxHeartbeats 4000000 in
theorem implSu_c (v : Int) (F : List (List Int)) (hl : F.length ≤ 1099511627776) (hr : ∀ x ∈ F, x.length ≤ 1099511627776) : Pure Tryz.prog 19 [cpxA v F] (.tup [.agg [i64 (suV v F), .sl 0 1 0 (suF v F).length], i64 (suK v F)]) [some ((suF v F).map oints)] := by
  have h1 := isComplex_c v F hl hr
  by_cases hF : CxOk v F
  · rw [decide_eq_true hF] at h1
    have hj := joined_p v F 2 two hF two_ok
    obtain ⟨n1, n2, n3⟩ : suV v F = jV v F two ∧ suF v F = jF v F two ∧ suK v F = jK v F two := ⟨if_pos hF, if_pos hF, if_pos hF⟩
    rw [n1, n2, n3]
    generalize jV v F two = cv at hj ⊢
    generalize jF v F two = cf at hj ⊢
    generalize jK v F two = ck at hj ⊢
    refine pureRV ok19 rfl ?_; unfold c19
    (repeat first | simp only [go_sem, ↓reduceIte, Nat.reduceEqDiff, Nat.reduceAdd, reduceCtorEq] | with_reducible refine V_W ?_ | (with_reducible refine And.intro ?_ ?_; focus first | assumption | omega | decide | grind) | (with_reducible refine Br.mk ?_ ?_; focus (intros; omega)) | decide)
    refine pureC (h1) (by simp only [go_sem, ↓reduceIte, Nat.reduceEqDiff, Nat.reduceAdd, reduceCtorEq] <;> rfl) (by first | rfl | simp only [go_sem, ↓reduceIte, Nat.reduceEqDiff, Nat.reduceAdd, reduceCtorEq]) ?_
    (repeat first | simp only [go_sem, ↓reduceIte, Nat.reduceEqDiff, Nat.reduceAdd, reduceCtorEq] | with_reducible refine V_W ?_ | (with_reducible refine And.intro ?_ ?_; focus first | assumption | omega | decide | grind) | (with_reducible refine Br.mk ?_ ?_; focus (intros; omega)) | decide)
    refine pureC hj (by simp only [go_sem, ↓reduceIte, Nat.reduceEqDiff, Nat.reduceAdd, reduceCtorEq]; rfl) (by first | rfl | simp only [go_sem, ↓reduceIte, Nat.reduceEqDiff, Nat.reduceAdd, reduceCtorEq]) ?_
    (repeat first | simp only [go_sem, ↓reduceIte, Nat.reduceEqDiff, Nat.reduceAdd, reduceCtorEq] | with_reducible refine V_W ?_ | (with_reducible refine And.intro ?_ ?_; focus first | assumption | omega | decide | grind) | (with_reducible refine Br.mk ?_ ?_; focus (intros; omega)) | decide)
    exact Ref.gc [5] rfl (by simp only [go_sem, ↓reduceIte, Nat.reduceEqDiff, Nat.reduceAdd, reduceCtorEq]) (by simp [sub, fget, go_sem, ↓reduceIte, Nat.reduceEqDiff, Nat.reduceAdd, reduceCtorEq])
  · rw [decide_eq_false hF] at h1
    obtain ⟨n1, n2, n3⟩ : suV v F = 0 ∧ suF v F = [] ∧ suK v F = 1 := ⟨if_neg hF, if_neg hF, if_neg hF⟩
    rw [n1, n2, n3]
    refine pureRV ok19 rfl ?_; unfold c19
    (repeat first | simp only [go_sem, ↓reduceIte, Nat.reduceEqDiff, Nat.reduceAdd, reduceCtorEq] | with_reducible refine V_W ?_ | (with_reducible refine And.intro ?_ ?_; focus first | assumption | omega | decide | grind) | (with_reducible refine Br.mk ?_ ?_; focus (intros; omega)) | decide)
    refine pureC (h1) (by simp only [go_sem, ↓reduceIte, Nat.reduceEqDiff, Nat.reduceAdd, reduceCtorEq] <;> rfl) (by first | rfl | simp only [go_sem, ↓reduceIte, Nat.reduceEqDiff, Nat.reduceAdd, reduceCtorEq]) ?_
    (repeat first | simp only [go_sem, ↓reduceIte, Nat.reduceEqDiff, Nat.reduceAdd, reduceCtorEq] | with_reducible refine V_W ?_ | (with_reducible refine And.intro ?_ ?_; focus first | assumption | omega | decide | grind) | (with_reducible refine Br.mk ?_ ?_; focus (intros; omega)) | decide)
    exact err_end
set_option maxHeartbeats 4000000 in
theorem specSu_c (v : Int) (F : List (List Int)) (hl : F.length ≤ 1099511627776) (hr : ∀ x ∈ F, x.length ≤ 1099511627776) : Pure Tryz.prog 18 [cpxA v F] (.tup [.agg [i64 (suV v F), .sl 0 1 0 (suF v F).length], i64 (suK v F)]) [some ((suF v F).map oints)] := by
  have h1 := l17Is_c v F hl hr
  by_cases hF : CxOk v F
  · rw [decide_eq_true hF] at h1
    have hj := l17Join_p v F 2 two hF two_ok
    obtain ⟨n1, n2, n3⟩ : suV v F = jV v F two ∧ suF v F = jF v F two ∧ suK v F = jK v F two := ⟨if_pos hF, if_pos hF, if_pos hF⟩
    rw [n1, n2, n3]
    generalize jV v F two = cv at hj ⊢
    generalize jF v F two = cf at hj ⊢
    generalize jK v F two = ck at hj ⊢
    refine pureRV ok18 rfl ?_; unfold c18
    (repeat first | simp only [go_sem, ↓reduceIte, Nat.reduceEqDiff, Nat.reduceAdd, reduceCtorEq] | with_reducible refine V_W ?_ | (with_reducible refine And.intro ?_ ?_; focus first | assumption | omega | decide | grind) | (with_reducible refine Br.mk ?_ ?_; focus (intros; omega)) | decide)
    refine pureC (h1) (by simp only [go_sem, ↓reduceIte, Nat.reduceEqDiff, Nat.reduceAdd, reduceCtorEq] <;> rfl) (by first | rfl | simp only [go_sem, ↓reduceIte, Nat.reduceEqDiff, Nat.reduceAdd, reduceCtorEq]) ?_
    (repeat first | simp only [go_sem, ↓reduceIte, Nat.reduceEqDiff, Nat.reduceAdd, reduceCtorEq] | with_reducible refine V_W ?_ | (with_reducible refine And.intro ?_ ?_; focus first | assumption | omega | decide | grind) | (with_reducible refine Br.mk ?_ ?_; focus (intros; omega)) | decide)
    refine pureC hj (by simp only [go_sem, ↓reduceIte, Nat.reduceEqDiff, Nat.reduceAdd, reduceCtorEq]; rfl) (by first | rfl | simp only [go_sem, ↓reduceIte, Nat.reduceEqDiff, Nat.reduceAdd, reduceCtorEq]) ?_
    (repeat first | simp only [go_sem, ↓reduceIte, Nat.reduceEqDiff, Nat.reduceAdd, reduceCtorEq] | with_reducible refine V_W ?_ | (with_reducible refine And.intro ?_ ?_; focus first | assumption | omega | decide | grind) | (with_reducible refine Br.mk ?_ ?_; focus (intros; omega)) | decide)
    exact Ref.gc [5] rfl (by simp only [go_sem, ↓reduceIte, Nat.reduceEqDiff, Nat.reduceAdd, reduceCtorEq]) (by simp [sub, fget, go_sem, ↓reduceIte, Nat.reduceEqDiff, Nat.reduceAdd, reduceCtorEq])
  · rw [decide_eq_false hF] at h1
    obtain ⟨n1, n2, n3⟩ : suV v F = 0 ∧ suF v F = [] ∧ suK v F = 1 := ⟨if_neg hF, if_neg hF, if_neg hF⟩
    rw [n1, n2, n3]
    refine pureRV ok18 rfl ?_; unfold c18
    (repeat first | simp only [go_sem, ↓reduceIte, Nat.reduceEqDiff, Nat.reduceAdd, reduceCtorEq] | with_reducible refine V_W ?_ | (with_reducible refine And.intro ?_ ?_; focus first | assumption | omega | decide | grind) | (with_reducible refine Br.mk ?_ ?_; focus (intros; omega)) | decide)
    refine pureC (h1) (by simp only [go_sem, ↓reduceIte, Nat.reduceEqDiff, Nat.reduceAdd, reduceCtorEq] <;> rfl) (by first | rfl | simp only [go_sem, ↓reduceIte, Nat.reduceEqDiff, Nat.reduceAdd, reduceCtorEq]) ?_
    (repeat first | simp only [go_sem, ↓reduceIte, Nat.reduceEqDiff, Nat.reduceAdd, reduceCtorEq] | with_reducible refine V_W ?_ | (with_reducible refine And.intro ?_ ?_; focus first | assumption | omega | decide | grind) | (with_reducible refine Br.mk ?_ ?_; focus (intros; omega)) | decide)
    exact err_end
end Go.Proofs.YtgdijhchndjhlaaGreatDoor
