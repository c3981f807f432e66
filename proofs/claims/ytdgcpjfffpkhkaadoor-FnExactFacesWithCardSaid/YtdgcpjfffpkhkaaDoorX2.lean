/- Texts that belong together. -/
import Derived.Test.YtdgcpjfffpkhkaaDoorZj
import Derived.Test.YtdgcpjfffpkhkaaDoorZq
import Derived.Test.YtdgcpjfffpkhkaaDoorZr
import Derived.Test.YtdgcpjfffpkhkaaDoorX1
set_option linter.unusedSimpArgs false
set_option linter.unusedVariables false
set_option maxRecDepth 100000
namespace Go.Proofs.YtdgcpjfffpkhkaaDoor
open Go.Gov
open Classical

def RowsOk (R : List Int) (B : List (List Int)) : Prop := ∀ x, x < B.length → ∀ k, k < (B.getD x []).length → 0 ≤ (B.getD x []).getD k 0 ∧ (B.getD x []).getD k 0 ≤ (R.length : Int) - 1
theorem IsPos.rows {r : Int} {R : List Int} {B : List (List Int)} (h : IsPos r R B) : RowsOk R B ∧ ∀ x, sst (B.getD x []) := by
  obtain ⟨⟨a1, a2, a3, a4⟩, a5⟩ := h
  refine ⟨fun x hx k hk => ?_, fun x => sst_of_lt fun j hj => ?_⟩
  · obtain ⟨b1, b2, b3, b4⟩ := ((a5 x (by omega)).2 k hk).1
    omega
  · by_cases hx : x < B.length
    · have := (((a5 x (by omega)).2 (j + 1) hj).1).2.2.2 (by omega)
      simpa using this
    · simp [hx] at hj
theorem IsPos.rank {r : Int} {R : List Int} {B : List (List Int)} (h : IsPos r R B) : 1 ≤ r ∧ r ≤ 5 ∧ R.length ≤ 500 ∧ B.length = R.length ∧ ∀ x, x < R.length → 0 ≤ R.getD x 0 ∧ R.getD x 0 ≤ r - 1 := by
  obtain ⟨⟨a1, a2, a3, a4⟩, a5⟩ := h
  exact ⟨a1, a2, a3, a4, fun x hx => ⟨(a5 x hx).1.1, (a5 x hx).1.2.1⟩⟩
theorem getD_el (l : List Int) (i : Nat) (h : i < l.length) : l.getD i 0 = l[i] := by simp [h]
theorem sst_ge {xs : List Int} (h : sst xs) (h0 : ∀ k, k < xs.length → 0 ≤ xs.getD k 0) : ∀ k : Nat, k < xs.length → (k : Int) ≤ xs.getD k 0
  | 0, hk => h0 0 hk
  | k + 1, hk => by
    have h1 := sst_ge h h0 k (by omega)
    have h2 := lt_of_sst h k hk
    omega
theorem row_500 {r : Int} {R : List Int} {B : List (List Int)} (h : IsPos r R B) (x : Nat) : (B.getD x []).length ≤ 500 := by
  by_cases hx : x < B.length
  · have h1 := h.rows.1 x hx
    have h2 := sst_ge (h.rows.2 x) (fun k hk => (h1 k hk).1)
    obtain ⟨_, _, a3, _⟩ := h.1
    rcases Nat.eq_zero_or_pos (B.getD x []).length with h0 | h0
    · omega
    · have h3 := h2 ((B.getD x []).length - 1) (by omega)
      have h4 := (h1 ((B.getD x []).length - 1) (by omega)).2
      omega
  · simp [hx]
end Go.Proofs.YtdgcpjfffpkhkaaDoor
set_option maxRecDepth 100000
namespace Go.Proofs.YtdgcpjfffpkhkaaDoor
open Go.Gov
open Classical

abbrev cpxA (v : Int) (M : List (List Int)) : AV := .agg [i64 v, mat M]
theorem eqCpx_c (v v' : Int) (M M' : List (List Int)) (hl : M.length ≤ 1099511627776) (hr : ∀ xs ∈ M, xs.length ≤ 1099511627776) (hl' : M'.length ≤ 1099511627776) (hr' : ∀ xs ∈ M', xs.length ≤ 1099511627776) : Pure Tryd.prog 13 [cpxA v M, cpxA v' M'] (bl (decide (v = v' ∧ M = M'))) [] := by
  refine pureV0 ok13 rfl rfl ?_; unfold c13
  (repeat first | simp only [go_sem, ↓reduceIte, Nat.reduceEqDiff, Nat.reduceAdd, reduceCtorEq] | with_reducible refine V_W ?_ | (with_reducible refine And.intro ?_ ?_; focus first | assumption | omega | decide | grind) | (with_reducible refine Br.mk ?_ ?_; focus (intros; omega)) | decide)
  refine ⟨fun hc => ?_, fun hc => ?_⟩
  · (repeat first | simp only [go_sem, ↓reduceIte, Nat.reduceEqDiff, Nat.reduceAdd, reduceCtorEq] | with_reducible refine V_W ?_ | (with_reducible refine And.intro ?_ ?_; focus first | assumption | omega | decide | grind) | (with_reducible refine Br.mk ?_ ?_; focus (intros; omega)) | decide)
    rw [decide_eq_false fun h => hc h.1]
  · (repeat first | simp only [go_sem, ↓reduceIte, Nat.reduceEqDiff, Nat.reduceAdd, reduceCtorEq] | with_reducible refine V_W ?_ | (with_reducible refine And.intro ?_ ?_; focus first | assumption | omega | decide | grind) | (with_reducible refine Br.mk ?_ ?_; focus (intros; omega)) | decide)
    refine pureC (eqInt64SS_c M M' hl hl' hr hr') (by simp only [go_sem, ↓reduceIte, Nat.reduceEqDiff, Nat.reduceAdd, reduceCtorEq] <;> rfl) (by first | rfl | simp only [go_sem, ↓reduceIte, Nat.reduceEqDiff, Nat.reduceAdd, reduceCtorEq]) ?_
    (repeat first | simp only [go_sem, ↓reduceIte, Nat.reduceEqDiff, Nat.reduceAdd, reduceCtorEq] | with_reducible refine V_W ?_ | (with_reducible refine And.intro ?_ ?_; focus first | assumption | omega | decide | grind) | (with_reducible refine Br.mk ?_ ?_; focus (intros; omega)) | decide)
    refine ⟨fun hc2 => ?_, fun hc2 => ?_⟩
    · (repeat first | simp only [go_sem, ↓reduceIte, Nat.reduceEqDiff, Nat.reduceAdd, reduceCtorEq] | with_reducible refine V_W ?_ | (with_reducible refine And.intro ?_ ?_; focus first | assumption | omega | decide | grind) | (with_reducible refine Br.mk ?_ ?_; focus (intros; omega)) | decide)
      rw [decide_eq_false fun h => hc2 h.2]
    · (repeat first | simp only [go_sem, ↓reduceIte, Nat.reduceEqDiff, Nat.reduceAdd, reduceCtorEq] | with_reducible refine V_W ?_ | (with_reducible refine And.intro ?_ ?_; focus first | assumption | omega | decide | grind) | (with_reducible refine Br.mk ?_ ?_; focus (intros; omega)) | decide)
      rw [decide_eq_true (And.intro hc hc2)]
theorem markCpx_c (v : Int) (M : List (List Int)) (k : Int) (hl : M.length ≤ 1099511627776) (ht : tot M ≤ 1099511627776) (h0 : 0 ≤ k) (hk : k ≤ 281474976710656) : Wri Tryd.prog 19 [.agg [i64 v, .sl 0 1 0 M.length], i64 k] [some (M.map oints)] (i64 (k + tot M)) [some ((upR k M).map oints)] := by
  refine wriVg [0] ok19 rfl ?_; unfold c19
  (repeat first | simp only [go_sem, ↓reduceIte, Nat.reduceEqDiff, Nat.reduceAdd, reduceCtorEq] | with_reducible refine V_W ?_ | (with_reducible refine And.intro ?_ ?_; focus first | assumption | omega | decide | grind) | (with_reducible refine Br.mk ?_ ?_; focus (intros; omega)) | decide)
  refine wriC (markInt64SS_c M k hl ht h0 (by omega)) [0] (by first | rfl | simp) (by simp only [go_sem, ↓reduceIte, Nat.reduceEqDiff, Nat.reduceAdd, reduceCtorEq] <;> rfl) (by simp only [go_sem, ↓reduceIte, Nat.reduceEqDiff, Nat.reduceAdd, reduceCtorEq] <;> rfl) (by first | rfl | simp only [go_sem, ↓reduceIte, Nat.reduceEqDiff, Nat.reduceAdd, reduceCtorEq]) ?_
  (repeat first | simp only [go_sem, ↓reduceIte, Nat.reduceEqDiff, Nat.reduceAdd, reduceCtorEq] | with_reducible refine V_W ?_ | (with_reducible refine And.intro ?_ ?_; focus first | assumption | omega | decide | grind) | (with_reducible refine Br.mk ?_ ?_; focus (intros; omega)) | decide)
end Go.Proofs.YtdgcpjfffpkhkaaDoor
set_option maxRecDepth 100000
namespace Go.Proofs.YtdgcpjfffpkhkaaDoor
open Go.Gov
open Classical

theorem least {p : Nat → Prop} : ∀ n, p n → ∃ n, p n ∧ ∀ m, m < n → ¬ p m := fun n => by
  induction n using Nat.strongRecOn with
  | ind n ih =>
    intro h
    by_cases hm : ∃ m, m < n ∧ p m
    · obtain ⟨m, h1, h2⟩ := hm
      exact ih m h1 h2
    · exact ⟨n, h, fun m h1 h2 => hm ⟨m, h1, h2⟩⟩
def Ab (B : List (List Int)) (x y : Nat) : Prop := (x : Int) ∈ B.getD y []
def Cv (n : Nat) (B : List (List Int)) (x y : Nat) : Prop := y < n ∧ Ab B x y ∧ ∀ z : Nat, Ab B x z → ¬ Ab B z y
structure Ord (n : Nat) (B : List (List Int)) : Prop where
  lt : ∀ {x y : Nat}, y < n → Ab B x y → x < y
  trn : ∀ {x y z : Nat}, z < n → Ab B x y → Ab B y z → Ab B x z

theorem IsPos.ord {r : Int} {R : List Int} {B : List (List Int)} (hp : IsPos r R B) : Ord R.length B := by
  have hlt : ∀ {x y : Nat}, y < R.length → Ab B x y → x < y := fun {x y} hy h => by
    obtain ⟨j, hj, he⟩ := List.mem_iff_getElem.1 h
    have := ((hp.2 y hy).2 j hj).1
    unfold CvrP at this
    rw [getD_el _ j hj, he] at this
    omega
  refine ⟨hlt, fun {x y z} hz h1 h2 => ?_⟩
  obtain ⟨k, hk, he⟩ := List.mem_iff_getElem.1 h2
  obtain ⟨j, hj, he2⟩ := List.mem_iff_getElem.1 h1
  have hk2 : (B.getD z []).getD k 0 = y := by rw [getD_el _ k hk, he]
  have := ((hp.2 z hz).2 k hk).2
  unfold TrnP at this
  rw [hk2] at this
  simp only [Int.toNat_natCast] at this
  have h3 := this j hj
  rwa [getD_el _ j hj, he2] at h3

def Tl (n : Nat) (B : List (List Int)) : Nat → List Nat → Prop
  | x, [] => ∀ f, f < n → ¬ Ab B x f
  | x, y :: ys => Cv n B x y ∧ Tl n B y ys
def MaxC (n : Nat) (B : List (List Int)) : List Nat → Prop
  | [] => False
  | x :: xs => x < n ∧ (∀ y, ¬ Ab B y x) ∧ Tl n B x xs

section
variable {n : Nat} {B : List (List Int)} (ho : Ord n B)
include ho
theorem Tl.above : ∀ {x : Nat} {ys : List Nat}, Tl n B x ys → ∀ y ∈ ys, y < n ∧ Ab B x y
  | _, [], _, y, hy => by simp at hy
  | x, z :: ys, h, y, hy => by
    rcases List.mem_cons.1 hy with rfl | hy
    · exact ⟨h.1.1, h.1.2.1⟩
    · have h2 := Tl.above h.2 y hy
      exact ⟨h2.1, ho.trn h2.1 h.1.2.1 h2.2⟩
theorem Tl.same : ∀ {x : Nat} {xs ys : List Nat}, Tl n B x xs → Tl n B x ys → (∀ y ∈ xs, y ∈ ys) → xs = ys
  | _, [], [], _, _, _ => rfl
  | _, [], y :: ys, h, k, _ => absurd k.1.2.1 (h y k.1.1)
  | _, y :: xs, [], _, _, h => by simpa using h y (by simp)
  | x, y :: xs, z :: ys, h, k, hs => by
    have hyz : y = z := by
      rcases List.mem_cons.1 (hs y (by simp)) with h1 | h1
      · exact h1
      · exact absurd (Tl.above ho k.2 y h1).2 (h.1.2.2 z k.1.2.1)
    subst hyz
    rw [Tl.same h.2 k.2 fun w hw => ?_]
    rcases List.mem_cons.1 (hs w (List.mem_cons_of_mem _ hw)) with h1 | h1
    · have h2 := Tl.above ho h.2 w hw
      have := ho.lt h2.1 h2.2
      omega
    · exact h1
theorem MaxC.same {a b : List Nat} (h : MaxC n B a) (k : MaxC n B b) (hs : ∀ y ∈ a, y ∈ b) : a = b := by
  cases a with
  | nil => exact h.elim
  | cons x xs =>
    cases b with
    | nil => exact k.elim
    | cons z ys =>
      obtain ⟨h1, h2, h3⟩ := h
      obtain ⟨k1, k2, k3⟩ := k
      have hxz : x = z := by
        rcases List.mem_cons.1 (hs x (by simp)) with h4 | h4
        · exact h4
        · exact absurd (Tl.above ho k3 x h4).2 (h2 z)
      subst hxz
      rw [Tl.same ho h3 k3 fun w hw => ?_]
      rcases List.mem_cons.1 (hs w (List.mem_cons_of_mem _ hw)) with h4 | h4
      · have h5 := Tl.above ho h3 w hw
        have := ho.lt h5.1 h5.2
        omega
      · exact h4
theorem Tl.some : ∀ (k x : Nat), n ≤ x + k → x < n → ∃ ys, Tl n B x ys
  | 0, x, h, hx => by omega
  | k + 1, x, h, hx => by
    by_cases hf : ∃ f, f < n ∧ Ab B x f
    · obtain ⟨f0, hf0⟩ := hf
      obtain ⟨f, hm, hl⟩ := least (p := fun f => f < n ∧ Ab B x f) f0 hf0
      have := ho.lt hm.1 hm.2
      obtain ⟨ys, hys⟩ := Tl.some k f (by omega) hm.1
      refine ⟨f :: ys, ⟨hm.1, hm.2, fun z h1 h2 => ?_⟩, hys⟩
      have hz := ho.lt hm.1 h2
      exact hl z hz ⟨by omega, h1⟩
    · exact ⟨[], fun f hf' h => hf ⟨f, hf', h⟩⟩
theorem MaxC.some : ∀ (x : Nat) (ys : List Nat), x < n → Tl n B x ys → ∃ c, MaxC n B c ∧ ∀ y ∈ x :: ys, y ∈ c
  | x, ys, hx, h => by
    by_cases hf : ∃ f, f < n ∧ Ab B f x
    · have hex : ∃ f, Ab B f x ∧ ∀ g, Ab B g x → g ≤ f := by
        obtain ⟨f, h1, h2⟩ := hf
        have := ho.lt hx h2
        obtain ⟨k, hm, hl⟩ := least (p := fun k => k ≤ x ∧ Ab B (x - k) x) (x - f) ⟨by omega, by rwa [show x - (x - f) = f by omega]⟩
        refine ⟨x - k, hm.2, fun g hg => ?_⟩
        have hgx := ho.lt hx hg
        rcases Nat.lt_or_ge (x - k) g with h | h
        · exact absurd ⟨by omega, by rwa [show x - (x - g) = g by omega]⟩ (hl (x - g) (by omega))
        · exact h
      obtain ⟨f, hfa, hfm⟩ := hex
      have hlt := ho.lt hx hfa
      obtain ⟨c, h1, h2⟩ := MaxC.some f (x :: ys) (by omega) ⟨⟨hx, hfa, fun z h1 h2 => by
        have := ho.lt (y := z) (by have := ho.lt hx h2; omega) h1
        have := hfm z h2
        omega⟩, h⟩
      exact ⟨c, h1, fun y hy => h2 y (List.mem_cons_of_mem _ hy)⟩
    · exact ⟨x :: ys, ⟨hx, fun y hy => hf ⟨y, by have := ho.lt hx hy; omega, hy⟩, h⟩, fun y hy => hy⟩
termination_by x => x
end
end Go.Proofs.YtdgcpjfffpkhkaaDoor
set_option maxRecDepth 100000
namespace Go.Proofs.YtdgcpjfffpkhkaaDoor
open Go.Gov
open Classical

section
variable (n : Nat) (B : List (List Int))
def nxc (list : List Int) (e : Nat) : Prop := if list = [] then B.getD e [] = [] else list.getLastD 0 ∈ B.getD e [] ∧ ∀ y, y ∈ B.getD e [] → list.getLastD 0 ∉ B.getD y.toNat []
def leaf (list : List Int) : Prop := list ≠ [] ∧ ∀ e : Nat, e < n → list.getLastD 0 ∉ B.getD e []
noncomputable def chs : Nat → List Int → List (List Int)
  | 0, _ => []
  | k + 1, list => (((List.range n).filter fun e => decide (nxc B list e)).flatMap fun e : Nat => chs k (list ++ [(e : Int)])) ++ if leaf n B list then [list] else []
noncomputable def chto (k : Nat) (list : List Int) (j : Nat) : List (List Int) := ((List.range j).filter fun e => decide (nxc B list e)).flatMap fun e : Nat => chs n B k (list ++ [(e : Int)])
noncomputable def tls : Nat → Nat → List (List Nat)
  | 0, _ => []
  | k + 1, x => if (∀ f, f < n → ¬ Ab B x f) then [[]] else ((List.range n).filter fun y => decide (Cv n B x y)).flatMap fun y => (tls k y).map (y :: ·)
end
section
variable {n : Nat} {B : List (List Int)}
theorem chs_succ (k : Nat) (list : List Int) : chs n B (k + 1) list = chto n B k list n ++ if leaf n B list then [list] else [] := rfl
theorem chto_zero (k : Nat) (list : List Int) : chto n B k list 0 = [] := rfl
theorem chto_yes {k : Nat} {list : List Int} {j : Nat} (h : nxc B list j) : chto n B k list (j + 1) = chto n B k list j ++ chs n B k (list ++ [(j : Int)]) := by
  unfold chto
  rw [List.range_succ, List.filter_append, List.flatMap_append, List.filter_cons_of_pos (by simpa using h)]
  simp
theorem chto_no {k : Nat} {list : List Int} {j : Nat} (h : ¬ nxc B list j) : chto n B k list (j + 1) = chto n B k list j := by
  unfold chto
  rw [List.range_succ, List.filter_append, List.filter_cons_of_neg (by simpa using h)]
  simp
end
section
variable {r : Int} {R : List Int} {B : List (List Int)} (hp : IsPos r R B)
include hp
theorem row_nat {e : Nat} (he : e < R.length) {y : Int} (hy : y ∈ B.getD e []) : ∃ z : Nat, y = (z : Int) ∧ z < e := by
  obtain ⟨j, hj, hje⟩ := List.mem_iff_getElem.1 hy
  have := ((hp.2 e he).2 j hj).1
  unfold CvrP at this
  rw [getD_el _ j hj, hje] at this
  exact ⟨y.toNat, by omega, by omega⟩
theorem nxc_iff {l : List Int} {x e : Nat} (he : e < R.length) : nxc B (l ++ [(x : Int)]) e ↔ Cv R.length B x e := by
  unfold nxc
  rw [if_neg (by simp)]
  rw [show (l ++ [(x : Int)]).getLastD 0 = (x : Int) by simp]
  constructor
  · rintro ⟨h1, h2⟩
    refine ⟨he, h1, fun z h3 h4 => ?_⟩
    exact h2 z h4 (by rw [Int.toNat_natCast]; exact h3)
  · rintro ⟨_, h1, h2⟩
    refine ⟨h1, fun y hy h3 => ?_⟩
    obtain ⟨z, rfl, hz⟩ := row_nat hp he hy
    exact h2 z (by rw [Int.toNat_natCast] at h3; exact h3) hy
omit hp in
theorem leaf_iff {l : List Int} {x : Nat} : leaf R.length B (l ++ [(x : Int)]) ↔ ∀ f, f < R.length → ¬ Ab B x f := by
  unfold leaf
  simp [Ab]
theorem chs_tls : ∀ (k : Nat) (l : List Int) (x : Nat), chs R.length B k (l ++ [(x : Int)]) = (tls R.length B k x).map fun t => l ++ [(x : Int)] ++ t.map fun e : Nat => (e : Int)
  | 0, l, x => rfl
  | k + 1, l, x => by
    unfold chs tls
    have hf : ((List.range R.length).filter fun e => decide (nxc B (l ++ [(x : Int)]) e)) = (List.range R.length).filter fun y => decide (Cv R.length B x y) :=
      List.filter_congr fun e he => decide_eq_decide.2 (nxc_iff hp (List.mem_range.1 he))
    rw [hf]
    by_cases h : ∀ f, f < R.length → ¬ Ab B x f
    · rw [if_pos (leaf_iff.2 h), if_pos h, List.filter_eq_nil_iff.2 fun y hy => ?_]
      · simp
      · simp only [decide_eq_true_eq]
        exact fun hc => h y hc.1 hc.2.1
    · rw [if_neg (fun hl => h (leaf_iff.1 hl)), if_neg h, List.append_nil, List.map_flatMap]
      congr 1
      funext y
      rw [chs_tls k (l ++ [(x : Int)]) y, List.map_map]
      refine List.map_congr_left fun t _ => ?_
      simp
omit hp in
theorem tls_mem (n : Nat) (ho : Ord n B) : ∀ (k x : Nat) (t : List Nat), n ≤ x + k → x < n → (t ∈ tls n B k x ↔ Tl n B x t)
  | 0, x, t, h, hx => by omega
  | k + 1, x, t, h, hx => by
    unfold tls
    by_cases hf : ∀ f, f < n → ¬ Ab B x f
    · rw [if_pos hf]
      cases t with
      | nil => simp [Tl]; exact hf
      | cons y ys =>
        simp only [List.mem_singleton, reduceCtorEq, false_iff]
        exact fun hc => hf y hc.1.1 hc.1.2.1
    · rw [if_neg hf]
      constructor
      · intro ht
        obtain ⟨y, hy, ht⟩ := List.mem_flatMap.1 ht
        obtain ⟨ys, hys, rfl⟩ := List.mem_map.1 ht
        have hc : Cv n B x y := of_decide_eq_true (List.mem_filter.1 hy).2
        have := ho.lt hc.1 hc.2.1
        exact ⟨hc, (tls_mem n ho k y ys (by omega) hc.1).1 hys⟩
      · intro ht
        cases t with
        | nil => exact absurd ht hf
        | cons y ys =>
          have hc := ht.1
          have := ho.lt hc.1 hc.2.1
          exact List.mem_flatMap.2 ⟨y, List.mem_filter.2 ⟨List.mem_range.2 hc.1, decide_eq_true hc⟩, List.mem_map.2 ⟨ys, (tls_mem n ho k y ys (by omega) hc.1).2 ht.2, rfl⟩⟩
end
abbrev zL (t : List Nat) : List Int := t.map fun e : Nat => (e : Int)
theorem lexL_cons (x : Int) (a b : List Int) : lexL (x :: a) (x :: b) = lexL a b := by
  rw [lexL, if_neg (by omega), if_neg (by omega)]
theorem lexL_pre : ∀ (p a b : List Int), lexL (p ++ a) (p ++ b) = lexL a b
  | [], _, _ => rfl
  | x :: p, a, b => by rw [List.cons_append, List.cons_append, lexL_cons, lexL_pre p a b]
theorem lexL_lt {x y : Int} (a b : List Int) (h : x < y) : lexL (x :: a) (y :: b) = true := by
  rw [lexL, if_pos h]
theorem flat_sorted {f : Nat → List (List Nat)} {l : List Nat} (hl : l.Pairwise (· < ·)) (hf : ∀ y ∈ l, ((f y).map zL).Pairwise (lexL · · = true)) : ((l.flatMap fun y => (f y).map (y :: ·)).map zL).Pairwise (lexL · · = true) := by
  induction l with
  | nil => exact .nil
  | cons y l ih =>
    obtain ⟨h1, h2⟩ := List.pairwise_cons.1 hl
    rw [List.flatMap_cons, List.map_append, List.pairwise_append]
    refine ⟨?_, ih h2 fun z hz => hf z (List.mem_cons_of_mem _ hz), fun a ha b hb => ?_⟩
    · have := hf y (by simp)
      rw [List.map_map]
      rw [List.pairwise_map] at this ⊢
      refine this.imp fun {a b} h => ?_
      show lexL ((y : Int) :: zL a) ((y : Int) :: zL b) = true
      rw [lexL_cons]; exact h
    · obtain ⟨a', ha', rfl⟩ := List.mem_map.1 ha
      obtain ⟨a2, _, rfl⟩ := List.mem_map.1 ha'
      obtain ⟨b', hb', rfl⟩ := List.mem_map.1 hb
      obtain ⟨z, hz, hb2⟩ := List.mem_flatMap.1 hb'
      obtain ⟨b2, _, rfl⟩ := List.mem_map.1 hb2
      have := h1 z hz
      exact lexL_lt _ _ (show (y : Int) < (z : Int) by omega)
theorem range_sorted (n : Nat) (p : Nat → Bool) : ((List.range n).filter p).Pairwise (· < ·) := List.Pairwise.filter _ List.pairwise_lt_range
theorem tls_sorted (n : Nat) (B : List (List Int)) : ∀ (k x : Nat), ((tls n B k x).map zL).Pairwise (lexL · · = true)
  | 0, x => .nil
  | k + 1, x => by
    unfold tls
    split
    · simp
    · exact flat_sorted (range_sorted n _) fun y _ => tls_sorted n B k y

noncomputable def allC (R : List Int) (B : List (List Int)) : List (List Int) := chs R.length B (R.length + 1) []
section
variable {r : Int} {R : List Int} {B : List (List Int)} (hp : IsPos r R B)
include hp
theorem allC_eq : allC R B = (((List.range R.length).filter fun e => decide (B.getD e [] = [])).flatMap fun e => (tls R.length B R.length e).map (e :: ·)).map zL := by
  unfold allC chs
  rw [if_neg (fun h => h.1 rfl), List.append_nil, List.map_flatMap]
  have hf : ((List.range R.length).filter fun e => decide (nxc B [] e)) = (List.range R.length).filter fun e => decide (B.getD e [] = []) :=
    List.filter_congr fun e _ => decide_eq_decide.2 (by unfold nxc; rw [if_pos rfl])
  rw [hf]
  congr 1
  funext y
  rw [chs_tls hp R.length [] y, List.map_map]
  refine List.map_congr_left fun t _ => ?_
  simp
theorem allC_sorted : (allC R B).Pairwise (lexL · · = true) := by
  rw [allC_eq hp]
  exact flat_sorted (range_sorted _ _) fun y _ => tls_sorted _ _ _ y
theorem allC_mem (c : List Int) : c ∈ allC R B ↔ ∃ d, MaxC R.length B d ∧ c = zL d := by
  rw [allC_eq hp, List.mem_map]
  have key : ∀ d : List Nat, (d ∈ ((List.range R.length).filter fun e => decide (B.getD e [] = [])).flatMap fun e => (tls R.length B R.length e).map (e :: ·)) ↔ MaxC R.length B d := fun d => by
    constructor
    · intro hd
      obtain ⟨y, hy, ht⟩ := List.mem_flatMap.1 hd
      obtain ⟨ys, hys, rfl⟩ := List.mem_map.1 ht
      obtain ⟨h1, h2⟩ := List.mem_filter.1 hy
      have h1 := List.mem_range.1 h1
      have h2 := of_decide_eq_true h2
      refine ⟨h1, fun z hz => ?_, (tls_mem R.length hp.ord R.length y ys (by omega) h1).1 hys⟩
      unfold Ab at hz
      rw [h2] at hz
      simp at hz
    · intro hd
      cases d with
      | nil => exact hd.elim
      | cons y ys =>
        obtain ⟨h1, h2, h3⟩ := hd
        refine List.mem_flatMap.2 ⟨y, List.mem_filter.2 ⟨List.mem_range.2 h1, decide_eq_true ?_⟩, List.mem_map.2 ⟨ys, (tls_mem R.length hp.ord R.length y ys (by omega) h1).2 h3, rfl⟩⟩
        refine List.eq_nil_iff_forall_not_mem.2 fun z hz => ?_
        obtain ⟨w, rfl, hw⟩ := row_nat hp h1 hz
        exact h2 w hz
  constructor
  · rintro ⟨d, hd, rfl⟩
    exact ⟨d, (key d).1 hd, rfl⟩
  · rintro ⟨d, hd, rfl⟩
    exact ⟨d, (key d).2 hd, rfl⟩
end
end Go.Proofs.YtdgcpjfffpkhkaaDoor
set_option maxRecDepth 100000
namespace Go.Proofs.YtdgcpjfffpkhkaaDoor
open Go.Gov
open Classical

theorem filt_take {α : Type} (S : List α) (p : α → Bool) (d : α) (k : Nat) (hk : k ≤ S.length) (h1 : ∀ i, i < k → p (S.getD i d) = true) (h2 : ∀ i, k ≤ i → i < S.length → p (S.getD i d) = false) : S.filter p = S.take k ∧ (S.filter fun y => !p y) = S.drop k := by
  have e : S = S.take k ++ S.drop k := (List.take_append_drop k S).symm
  have ht : ∀ y ∈ S.take k, p y = true := fun y hy => by
    obtain ⟨i, hi, rfl⟩ := List.mem_iff_getElem.1 hy
    have hi' : i < k := by rw [List.length_take] at hi; omega
    have := h1 i hi'
    rw [List.getElem_take]
    simpa [show i < S.length by omega] using this
  have hd : ∀ y ∈ S.drop k, p y = false := fun y hy => by
    obtain ⟨i, hi, rfl⟩ := List.mem_iff_getElem.1 hy
    rw [List.length_drop] at hi
    have := h2 (k + i) (by omega) (by omega)
    rw [List.getElem_drop]
    simpa [show k + i < S.length by omega] using this
  constructor
  · conv => lhs; rw [e]
    rw [List.filter_append, List.filter_eq_self.2 ht, List.filter_eq_nil_iff.2 fun y hy => by simp [hd y hy]]
    simp
  · conv => lhs; rw [e]
    rw [List.filter_append, List.filter_eq_nil_iff.2 fun y hy => by simp [ht y hy], List.filter_eq_self.2 fun y hy => by simp [hd y hy]]
    simp

theorem filt_len {α : Type} (S : List α) (p : α → Bool) : (S.filter p).length + (S.filter fun y => !p y).length = S.length := by
  induction S with
  | nil => rfl
  | cons x S ih =>
    by_cases h : p x
    · simp [List.filter_cons, h]; omega
    · simp [List.filter_cons, h]; omega
noncomputable def putL (S : List (List Int)) (x : List Int) : List (List Int) := if x ∈ S then S else S.filter (fun y => lexL y x) ++ x :: S.filter (fun y => !lexL y x)
abbrev Srt (S : List (List Int)) : Prop := S.Pairwise (lexL · · = true)
theorem putL_sorted {S : List (List Int)} {x : List Int} (h : Srt S) : Srt (putL S x) := by
  unfold putL
  split
  · exact h
  · rename_i hx
    refine List.pairwise_append.2 ⟨h.filter _, List.pairwise_cons.2 ⟨fun y hy => ?_, h.filter _⟩, fun a ha b hb => ?_⟩
    · obtain ⟨h1, h2⟩ := List.mem_filter.1 hy
      cases h3 : lexL x y with
      | true => rfl
      | false => exact absurd (lexL_tri h3 (by simpa using h2) ▸ h1) hx
    · have ha2 : lexL a x = true := by simpa using (List.mem_filter.1 ha).2
      rcases List.mem_cons.1 hb with rfl | hb
      · exact ha2
      · obtain ⟨h1, h2⟩ := List.mem_filter.1 hb
        cases h3 : lexL x b with
        | true => exact lexL_trans ha2 h3
        | false =>
          have := lexL_tri h3 (by simpa using h2)
          exact this ▸ ha2
theorem putL_end {S : List (List Int)} {x : List Int} (h : ∀ y ∈ S, lexL y x = true) : putL S x = S ++ [x] := by
  unfold putL
  rw [if_neg fun hx => by have := h x hx; rw [lexL_irr] at this; cases this]
  rw [List.filter_eq_self.2 h, List.filter_eq_nil_iff.2 fun y hy => by simp [h y hy]]
theorem putL_mem {S : List (List Int)} {x y : List Int} : y ∈ putL S x ↔ y ∈ S ∨ y = x := by
  unfold putL
  split
  · rename_i hx
    constructor
    · exact .inl
    · rintro (h | rfl)
      · exact h
      · exact hx
  · simp only [List.mem_append, List.mem_cons, List.mem_filter]
    constructor
    · rintro (h | rfl | h)
      · exact .inl h.1
      · exact .inr rfl
      · exact .inl h.1
    · rintro (h | rfl)
      · cases h2 : lexL y x
        · exact .inr (.inr ⟨h, by simp⟩)
        · exact .inl ⟨h, by simp⟩
      · exact .inr (.inl rfl)
theorem putL_len (S : List (List Int)) (x : List Int) : (putL S x).length ≤ S.length + 1 := by
  unfold putL
  split
  · omega
  · have := filt_len S (fun y => lexL y x)
    simp only [List.length_append, List.length_cons]
    omega
noncomputable def srtF (L : List (List Int)) : List (List Int) := (L.filter fun l => decide (0 < l.length)).foldl putL []
theorem srtF_take_yes {L : List (List Int)} {i : Nat} (hi : i < L.length) (h : 0 < (L.getD i []).length) : srtF (L.take (i + 1)) = putL (srtF (L.take i)) (L.getD i []) := by
  unfold srtF
  rw [show L.getD i [] = L[i] by simp [hi]] at h ⊢
  rw [List.take_succ_eq_append_getElem hi, List.filter_append, List.foldl_append, List.filter_cons_of_pos (by simpa using h)]
  rfl
theorem srtF_take_no {L : List (List Int)} {i : Nat} (hi : i < L.length) (h : ¬ 0 < (L.getD i []).length) : srtF (L.take (i + 1)) = srtF (L.take i) := by
  unfold srtF
  rw [show L.getD i [] = L[i] by simp [hi]] at h
  rw [List.take_succ_eq_append_getElem hi, List.filter_append, List.filter_cons_of_neg (by simpa using h)]
  simp
theorem foldl_put : ∀ (l S : List (List Int)), Srt S → Srt (l.foldl putL S) ∧ (∀ y, y ∈ l.foldl putL S ↔ y ∈ S ∨ y ∈ l) ∧ (l.foldl putL S).length ≤ S.length + l.length
  | [], S, h => ⟨h, fun y => by simp, by simp⟩
  | x :: l, S, h => by
    obtain ⟨h1, h2, h3⟩ := foldl_put l (putL S x) (putL_sorted h)
    refine ⟨h1, fun y => ?_, ?_⟩
    · rw [List.foldl_cons, h2 y, putL_mem, List.mem_cons, or_assoc]
    · rw [List.foldl_cons]
      have := putL_len S x
      simp only [List.length_cons]
      omega
theorem srtF_srt (L : List (List Int)) : Srt (srtF L) := (foldl_put _ _ .nil).1
theorem srtF_mem (L : List (List Int)) (y : List Int) : y ∈ srtF L ↔ y ∈ L ∧ 0 < y.length := by
  rw [srtF, (foldl_put _ _ .nil).2.1 y]
  simp
theorem srtF_len (L : List (List Int)) : (srtF L).length ≤ L.length := by
  have h1 := (foldl_put (L.filter fun l => decide (0 < l.length)) [] .nil).2.2
  have h2 := List.length_filter_le (fun l : List Int => decide (0 < l.length)) L
  unfold srtF
  simp only [List.length_nil] at h1
  omega
theorem srt_ext {a b : List (List Int)} (ha : Srt a) (hb : Srt b) (h : ∀ y, y ∈ a ↔ y ∈ b) : a = b := by
  induction a generalizing b with
  | nil =>
    cases b with
    | nil => rfl
    | cons y b => exact absurd ((h y).2 (by simp)) (by simp)
  | cons x a ih =>
    cases b with
    | nil => exact absurd ((h x).1 (by simp)) (by simp)
    | cons y b =>
      obtain ⟨ha1, ha2⟩ := List.pairwise_cons.1 ha
      obtain ⟨hb1, hb2⟩ := List.pairwise_cons.1 hb
      have hxy : x = y := by
        rcases List.mem_cons.1 ((h x).1 (by simp)) with h1 | h1
        · exact h1
        · rcases List.mem_cons.1 ((h y).2 (by simp)) with h2 | h2
          · exact h2.symm
          · have := lexL_trans (hb1 x h1) (ha1 y h2)
            rw [lexL_irr] at this
            cases this
      subst hxy
      rw [ih ha2 hb2 fun z => ?_]
      constructor
      · intro hz
        rcases List.mem_cons.1 ((h z).1 (List.mem_cons_of_mem _ hz)) with h1 | h1
        · subst h1
          have := ha1 z hz
          rw [lexL_irr] at this
          cases this
        · exact h1
      · intro hz
        rcases List.mem_cons.1 ((h z).2 (List.mem_cons_of_mem _ hz)) with h1 | h1
        · subst h1
          have := hb1 z hz
          rw [lexL_irr] at this
          cases this
        · exact h1
def Win (a b : List Int) : Prop := ∀ e, e ∈ a → e ∈ b
def Top (S : List (List Int)) (a : List Int) : Prop := ∀ b, b ∈ S → b ≠ a → ¬ Win a b
noncomputable def facL (S : List (List Int)) : List (List Int) := S.filter fun a => decide (Top S a)
noncomputable def facT (S : List (List Int)) (i : Nat) : List (List Int) := (S.take i).filter fun a => decide (Top S a)
theorem facT_yes {S : List (List Int)} {i : Nat} (hi : i < S.length) (h : Top S (S.getD i [])) : facT S (i + 1) = facT S i ++ [S.getD i []] := by
  unfold facT
  rw [show S.getD i [] = S[i] by simp [hi]] at h ⊢
  rw [List.take_succ_eq_append_getElem hi, List.filter_append, List.filter_cons_of_pos (by simpa using h)]
  rfl
theorem facT_no {S : List (List Int)} {i : Nat} (hi : i < S.length) (h : ¬ Top S (S.getD i [])) : facT S (i + 1) = facT S i := by
  unfold facT
  rw [show S.getD i [] = S[i] by simp [hi]] at h
  rw [List.take_succ_eq_append_getElem hi, List.filter_append, List.filter_cons_of_neg (by simpa using h)]
  simp
theorem facT_all (S : List (List Int)) : facT S S.length = facL S := by
  unfold facT facL
  rw [List.take_length]
theorem facT_len (S : List (List Int)) (i : Nat) : (facT S i).length ≤ i := by
  unfold facT
  refine Nat.le_trans (List.length_filter_le _ _) ?_
  rw [List.length_take]
  exact Nat.min_le_left _ _
theorem srt_inj {S : List (List Int)} (h : Srt S) {i k : Nat} (hi : i < S.length) (hk : k < S.length) (e : S.getD i [] = S.getD k []) : i = k := by
  rw [show S.getD i [] = S[i] by simp [hi], show S.getD k [] = S[k] by simp [hk]] at e
  rcases Nat.lt_trichotomy i k with h1 | h1 | h1
  · have := List.pairwise_iff_getElem.1 h i k hi hk h1
    rw [e, lexL_irr] at this
    cases this
  · exact h1
  · have := List.pairwise_iff_getElem.1 h k i hk hi h1
    rw [e, lexL_irr] at this
    cases this
theorem top_iff {S : List (List Int)} (h : Srt S) {i : Nat} (hi : i < S.length) : Top S (S.getD i []) ↔ ∀ k, k < S.length → i = k ∨ ¬ Win (S.getD i []) (S.getD k []) := by
  constructor
  · intro ht k hk
    by_cases e : i = k
    · exact .inl e
    · refine .inr (ht _ ?_ fun h2 => e (srt_inj h hi hk h2.symm))
      rw [show S.getD k [] = S[k] by simp [hk]]
      exact List.getElem_mem hk
  · intro ha b hb hne
    obtain ⟨k, hk, rfl⟩ := List.mem_iff_getElem.1 hb
    have e : S.getD k [] = S[k] := by simp [hk]
    rw [← e] at hne ⊢
    rcases ha k hk with h1 | h1
    · subst h1; exact absurd rfl hne
    · exact h1
def insI (V : List Int) (n : Int) : List Int := if n ∈ V then V else V.filter (fun y => decide (y < n)) ++ n :: V.filter (fun y => !decide (y < n))
theorem insI_mem {V : List Int} {n y : Int} : y ∈ insI V n ↔ y ∈ V ∨ y = n := by
  unfold insI
  split
  · rename_i hx
    constructor
    · exact .inl
    · rintro (h | rfl)
      · exact h
      · exact hx
  · simp only [List.mem_append, List.mem_cons, List.mem_filter]
    constructor
    · rintro (h | rfl | h)
      · exact .inl h.1
      · exact .inr rfl
      · exact .inl h.1
    · rintro (h | rfl)
      · by_cases h2 : y < n
        · exact .inl ⟨h, by simpa using h2⟩
        · exact .inr (.inr ⟨h, by simpa using h2⟩)
      · exact .inr (.inl rfl)
theorem insI_sst {V : List Int} {n : Int} (h : sst V) : sst (insI V n) := by
  unfold insI
  split
  · exact h
  · rename_i hx
    refine List.pairwise_append.2 ⟨h.filter _, List.pairwise_cons.2 ⟨fun y hy => ?_, h.filter _⟩, fun a ha b hb => ?_⟩
    · obtain ⟨h1, h2⟩ := List.mem_filter.1 hy
      have h2 : ¬ y < n := by simpa using h2
      have : y ≠ n := fun e => hx (e ▸ h1)
      omega
    · have ha2 : a < n := by simpa using (List.mem_filter.1 ha).2
      rcases List.mem_cons.1 hb with rfl | hb
      · exact ha2
      · have h2 : ¬ b < n := by simpa using (List.mem_filter.1 hb).2
        omega
theorem insI_len (V : List Int) (n : Int) : (insI V n).length ≤ V.length + 1 := by
  unfold insI
  split
  · omega
  · have := filt_len V (fun y => decide (y < n))
    simp only [List.length_append, List.length_cons]
    omega
theorem foldl_ins : ∀ (l V : List Int), sst V → sst (l.foldl insI V) ∧ (∀ y, y ∈ l.foldl insI V ↔ y ∈ V ∨ y ∈ l) ∧ (l.foldl insI V).length ≤ V.length + l.length
  | [], V, h => ⟨h, fun y => by simp, by simp⟩
  | x :: l, V, h => by
    obtain ⟨h1, h2, h3⟩ := foldl_ins l (insI V x) (insI_sst h)
    refine ⟨h1, fun y => ?_, ?_⟩
    · rw [List.foldl_cons, h2 y, insI_mem, List.mem_cons, or_assoc]
    · rw [List.foldl_cons]
      have := insI_len V x
      simp only [List.length_cons]
      omega
def vtsL (F : List (List Int)) : List Int := F.flatten.foldl insI []
theorem vtsL_sst (F : List (List Int)) : sst (vtsL F) := (foldl_ins _ _ .nil).1
theorem vtsL_mem (F : List (List Int)) (y : Int) : y ∈ vtsL F ↔ ∃ f ∈ F, y ∈ f := by
  rw [vtsL, (foldl_ins _ _ .nil).2.1 y]
  simp
end Go.Proofs.YtdgcpjfffpkhkaaDoor
set_option maxRecDepth 100000
namespace Go.Proofs.YtdgcpjfffpkhkaaDoor
open Go.Gov
open Classical

theorem zL_mem {d : List Nat} {x : Nat} : (x : Int) ∈ zL d ↔ x ∈ d := by
  constructor
  · intro h
    obtain ⟨a, h1, h2⟩ := List.mem_map.1 h
    obtain rfl : a = x := by omega
    exact h1
  · exact fun h => List.mem_map.2 ⟨x, h, rfl⟩
section
variable {r : Int} {R : List Int} {B : List (List Int)} (hp : IsPos r R B)
include hp
theorem IsPos.rk {x y : Nat} (hy : y < R.length) (h : Ab B x y) : R.getD x 0 < R.getD y 0 := by
  obtain ⟨j, hj, he⟩ := List.mem_iff_getElem.1 h
  have := ((hp.2 y hy).2 j hj).1
  unfold CvrP at this
  rw [getD_el _ j hj, he] at this
  simpa using this.2.2.1
theorem Tl.len : ∀ {x : Nat} {ys : List Nat}, x < R.length → Tl R.length B x ys → (ys.length : Int) + R.getD x 0 ≤ r - 1
  | x, [], hx, _ => by
    have := (hp.2 x hx).1
    unfold RkP at this
    simp only [List.length_nil]
    omega
  | x, y :: ys, hx, h => by
    have h1 := Tl.len h.1.1 h.2
    have h2 := IsPos.rk hp h.1.1 h.1.2.1
    simp only [List.length_cons]
    omega
theorem allC_pos {c : List Int} (h : c ∈ allC R B) : 0 < c.length := by
  obtain ⟨d, hd, rfl⟩ := (allC_mem hp c).1 h
  cases d with
  | nil => exact hd.elim
  | cons => simp
theorem allC_len {c : List Int} (h : c ∈ allC R B) : c.length ≤ 5 := by
  obtain ⟨d, hd, rfl⟩ := (allC_mem hp c).1 h
  cases d with
  | nil => exact hd.elim
  | cons x xs =>
    have h1 := Tl.len hp hd.1 hd.2.2
    have h2 := (hp.2 x hd.1).1
    have h3 := hp.1.2.1
    unfold RkP at h2
    simp only [List.length_map, List.length_cons]
    omega
theorem allC_at {c : List Int} (h : c ∈ allC R B) : ∀ e ∈ c, 0 ≤ e ∧ e < (R.length : Int) := by
  obtain ⟨d, hd, rfl⟩ := (allC_mem hp c).1 h
  intro e he
  obtain ⟨x, hx, rfl⟩ := List.mem_map.1 he
  cases d with
  | nil => exact hd.elim
  | cons y ys =>
    have : x < R.length := by
      rcases List.mem_cons.1 hx with rfl | hx
      · exact hd.1
      · exact (Tl.above hp.ord hd.2.2 x hx).1
    omega
theorem allC_srt : srtF (allC R B) = allC R B := srt_ext (srtF_srt _) (allC_sorted hp) fun y => by
  rw [srtF_mem]
  exact ⟨fun h => h.1, fun h => ⟨h, allC_pos hp h⟩⟩
theorem allC_fac : facL (allC R B) = allC R B := by
  unfold facL
  refine List.filter_eq_self.2 fun a ha => decide_eq_true fun b hb hne hw => hne ?_
  obtain ⟨d, hd, rfl⟩ := (allC_mem hp a).1 ha
  obtain ⟨d2, hd2, rfl⟩ := (allC_mem hp b).1 hb
  rw [MaxC.same hp.ord hd hd2 fun y hy => zL_mem.1 (hw _ (zL_mem.2 hy))]
theorem allC_vts : vtsL (allC R B) = zL (List.range R.length) := by
  refine sst_ext (vtsL_sst _) ?_ fun e => ?_
  · refine List.pairwise_map.2 (List.Pairwise.imp (R := fun a b : Nat => a < b) (fun {a b} h => ?_) List.pairwise_lt_range)
    show (a : Int) < (b : Int)
    omega
  · rw [vtsL_mem]
    constructor
    · rintro ⟨f, hf, he⟩
      have := allC_at hp hf e he
      exact List.mem_map.2 ⟨e.toNat, List.mem_range.2 (by omega), by omega⟩
    · intro he
      obtain ⟨x, hx, rfl⟩ := List.mem_map.1 he
      have hx := List.mem_range.1 hx
      obtain ⟨ys, hys⟩ := Tl.some hp.ord R.length x (by omega) hx
      obtain ⟨c, h1, h2⟩ := MaxC.some hp.ord x ys hx hys
      exact ⟨zL c, (allC_mem hp _).2 ⟨c, h1, rfl⟩, zL_mem.2 (h2 x (by simp))⟩
omit hp in
theorem idx_range {n : Nat} {e : Int} (h0 : 0 ≤ e) (he : e < n) : idx (zL (List.range n)) e = e := by
  have hg : ∀ j : Nat, j < n → (zL (List.range n)).getD j 0 = (j : Int) := fun j hj => by simp [hj]
  rw [idx_at (i := e.toNat) (fun j hj => by rw [hg j (by omega)]; omega) (by simp; omega) (by rw [hg _ (by omega)]; omega)]
  omega
theorem allC_rows : (allC R B).map (fun f => f.map (idx (vtsL (allC R B)))) = allC R B := by
  rw [allC_vts hp]
  refine (List.map_congr_left fun f hf => ?_).trans (List.map_id _)
  refine (List.map_congr_left fun e he => ?_).trans (List.map_id _)
  have := allC_at hp hf e he
  exact idx_range this.1 this.2
end
end Go.Proofs.YtdgcpjfffpkhkaaDoor
