/- Texts that belong together. -/
import Derived.Test.YtghhlcioabdpfaaDoorV1
import Derived.Test.YtghhlcioabdpfaaDoorZr
import Derived.Test.YtghhlcioabdpfaaDoorX2
import Derived.Test.YtghhlcioabdpfaaDoorX3
import Derived.Test.YtghhlcioabdpfaaDoorX8
import Derived.Test.YtghhlcioabdpfaaDoorV2
set_option linter.unusedSimpArgs false
set_option linter.unusedVariables false
set_option maxRecDepth 100000
namespace Go.Proofs.YtghhlcioabdpfaaDoor
open Go.Gov
open Classical

noncomputable def fcs (F : List (List Int)) (k : Nat) : List (List Int) := if k = 0 then [[]] else (F.flatMap (prt k)).foldl putL []
theorem fcs_zero (F : List (List Int)) : fcs F 0 = [[]] := if_pos rfl
theorem fcs_srt (F : List (List Int)) (k : Nat) : Srt (fcs F k) := by
  unfold fcs
  split
  · exact List.pairwise_singleton _ _
  · exact (foldl_put _ _ .nil).1
theorem fcs_mem {F : List (List Int)} {k : Nat} (h : 0 < k) (p : List Int) : p ∈ fcs F k ↔ ∃ x ∈ F, p.Sublist x ∧ p.length = k := by
  rw [fcs, if_neg (by omega), (foldl_put _ _ .nil).2.1 p]
  simp only [List.not_mem_nil, false_or, List.mem_flatMap, prt_mem]
theorem flat_prt_len (k : Nat) : ∀ (F : List (List Int)), (∀ x ∈ F, x.length ≤ 6) → (F.flatMap (prt k)).length ≤ 64 * F.length
  | [], _ => by simp
  | f :: F, h => by
    have h1 := flat_prt_len k F fun g hg => h g (List.mem_cons_of_mem _ hg)
    have h2 := h f List.mem_cons_self
    have h3 := prt_len f k
    have h4 : 2 ^ f.length ≤ 2 ^ 6 := Nat.pow_le_pow_right (by decide) h2
    simp only [List.flatMap_cons, List.length_append, List.length_cons]
    omega
theorem fcs_len {F : List (List Int)} (h : ∀ x ∈ F, x.length ≤ 6) (k : Nat) : (fcs F k).length ≤ 64 * F.length + 1 := by
  unfold fcs
  split
  · simp
  · have h1 := (foldl_put (F.flatMap (prt k)) [] .nil).2.2
    have h2 := flat_prt_len k F h
    simp only [List.length_nil] at h1
    omega
theorem fcs_row {F : List (List Int)} {k : Nat} {p : List Int} (hp : p ∈ fcs F k) : p.length = k ∧ (p = [] ∨ ∃ x ∈ F, p.Sublist x) := by
  by_cases h : 0 < k
  · obtain ⟨x, hx, h1, h2⟩ := (fcs_mem h p).1 hp
    exact ⟨h2, .inr ⟨x, hx, h1⟩⟩
  · obtain rfl : k = 0 := by omega
    rw [fcs_zero, List.mem_singleton] at hp
    subst hp
    exact ⟨rfl, .inl rfl⟩
theorem flat_take {F : List (List Int)} {i : Nat} (hi : i < F.length) (k : Nat) : (F.take (i + 1)).flatMap (prt k) = (F.take i).flatMap (prt k) ++ prt k (F.getD i []) := by
  rw [take_one hi, List.flatMap_append]
  simp
theorem put_step (S : List (List Int)) (C L : List Int) (m i : Nat) (hi : i < L.length) :
    ((prt (m + 1) (L.drop i)).map (C ++ ·)).foldl putL S = ((prt (m + 1) (L.drop (i + 1))).map (C ++ ·)).foldl putL (((prt m (L.drop (i + 1))).map ((C ++ [L.getD i 0]) ++ ·)).foldl putL S) := by
  rw [prt_step L m i hi, List.map_append, List.foldl_append, List.map_map]
  congr 2
  exact List.map_congr_left fun p _ => by simp
theorem put_end (S : List (List Int)) (C L : List Int) (m i : Nat) (hi : L.length ≤ i) : ((prt (m + 1) (L.drop i)).map (C ++ ·)).foldl putL S = S := by
  rw [List.drop_eq_nil_of_le hi]
  rfl
def psh (out : List (List Int)) (x : List Int) : List (List Int) := if out.getLast? = some x then out else out ++ [x]
def dd (S : List (List Int)) : List (List Int) := S.foldl psh []
theorem dd_take {S : List (List Int)} {j : Nat} (hj : j < S.length) : dd (S.take (j + 1)) = psh (dd (S.take j)) (S.getD j []) := by
  unfold dd
  rw [take_one hj, List.foldl_append]
  rfl
theorem psh_last (out : List (List Int)) (x : List Int) : (psh out x).getLast? = some x := by
  unfold psh
  split
  · assumption
  · simp
theorem dd_last : ∀ {S : List (List Int)} {j : Nat}, j < S.length → (dd (S.take (j + 1))).getLast? = some (S.getD j []) := fun hj => by
  rw [dd_take hj]
  exact psh_last _ _
theorem dd_same {S : List (List Int)} {j : Nat} (hj : j < S.length) (h0 : 0 < j) (h : S.getD j [] = S.getD (j - 1) []) : dd (S.take (j + 1)) = dd (S.take j) := by
  obtain ⟨i, rfl⟩ : ∃ i, j = i + 1 := ⟨j - 1, by omega⟩
  rw [dd_take hj, psh, if_pos]
  rw [dd_last (by omega), h]
  rfl
theorem dd_new {S : List (List Int)} {j : Nat} (hj : j < S.length) (h0 : 0 < j) (h : S.getD j [] ≠ S.getD (j - 1) []) : dd (S.take (j + 1)) = dd (S.take j) ++ [S.getD j []] := by
  obtain ⟨i, rfl⟩ : ∃ i, j = i + 1 := ⟨j - 1, by omega⟩
  rw [dd_take hj, psh, if_neg]
  rw [dd_last (by omega)]
  exact fun e => h (Option.some.inj e).symm
theorem dd_one {S : List (List Int)} (h : 0 < S.length) : dd (S.take 1) = S.take 1 := by
  rw [take_one h]
  rfl
theorem dd_short {S : List (List Int)} (h : S.length < 2) : dd S = S := by
  match S, h with
  | [], _ => rfl
  | [x], _ => rfl
theorem psh_ok {out : List (List Int)} {x : List Int} (ho : Srt out) (h : ∀ y ∈ out, lexL x y = false) : Srt (psh out x) ∧ (∀ y, y ∈ psh out x ↔ y ∈ out ∨ y = x) ∧ (psh out x).length ≤ out.length + 1 := by
  unfold psh
  split
  · rename_i hl
    have hm : x ∈ out := List.mem_of_getLast? hl
    refine ⟨ho, fun y => ⟨.inl, fun hy => hy.elim id fun e => e ▸ hm⟩, by omega⟩
  · rename_i hl
    refine ⟨List.pairwise_append.2 ⟨ho, by simp, fun a ha b hb => ?_⟩, fun y => by simp, by simp⟩
    obtain rfl := List.mem_singleton.1 hb
    cases hab : lexL a b with
    | true => rfl
    | false =>
      obtain rfl := lexL_tri hab (h a ha)
      exfalso
      refine hl ?_
      obtain ⟨i, hi, e⟩ := List.mem_iff_getElem.1 ha
      rw [List.getLast?_eq_getElem?]
      have hlast : out.length - 1 < out.length := by omega
      rw [List.getElem?_eq_getElem hlast]
      by_cases e2 : i = out.length - 1
      · subst e2; rw [e]
      · have h3 := List.pairwise_iff_getElem.1 ho i (out.length - 1) hi hlast (by omega)
        rw [e] at h3
        rw [h _ (List.getElem_mem hlast)] at h3
        cases h3
theorem dd_ok : ∀ (S out : List (List Int)), Srt out → Asc S → (∀ x ∈ S, ∀ y ∈ out, lexL x y = false) → Srt (S.foldl psh out) ∧ (∀ y, y ∈ S.foldl psh out ↔ y ∈ out ∨ y ∈ S) ∧ (S.foldl psh out).length ≤ out.length + S.length
  | [], out, ho, _, _ => ⟨ho, fun y => by simp, by simp⟩
  | x :: S, out, ho, hS, h => by
    obtain ⟨hS1, hS2⟩ := List.pairwise_cons.1 hS
    obtain ⟨h1, h2, h3⟩ := psh_ok ho (h x List.mem_cons_self)
    obtain ⟨h4, h5, h6⟩ := dd_ok S (psh out x) h1 hS2 fun a ha y hy => by
      rcases (h2 y).1 hy with hy | rfl
      · exact h a (List.mem_cons_of_mem _ ha) y hy
      · exact hS1 a ha
    refine ⟨h4, fun y => ?_, ?_⟩
    · rw [List.foldl_cons, h5 y, h2 y, List.mem_cons, or_assoc]
    · rw [List.foldl_cons, List.length_cons]
      omega
theorem fcs_dd {F X S : List (List Int)} {k : Nat} (hX : X = if k = 0 then [[]] else F.flatMap (prt k)) (hp : S.Perm X) (ha : Asc S) : dd S = fcs F k := by
  obtain ⟨h1, h2, _⟩ := dd_ok S [] .nil ha (by simp)
  refine srt_ext h1 (fcs_srt F k) fun y => ?_
  show y ∈ S.foldl psh [] ↔ _
  rw [h2 y, hp.mem_iff, hX]
  by_cases h : k = 0
  · subst h
    simp [fcs_zero]
  · rw [if_neg h, fcs_mem (by omega)]
    simp only [List.not_mem_nil, false_or, List.mem_flatMap, prt_mem]
end Go.Proofs.YtghhlcioabdpfaaDoor
set_option maxRecDepth 100000
namespace Go.Proofs.YtghhlcioabdpfaaDoor
open Go.Gov
open Classical

def dep (F : List (List Int)) : Nat := F.foldl (fun d x => max d x.length) 0
theorem dep_take {F : List (List Int)} {i : Nat} (hi : i < F.length) : dep (F.take (i + 1)) = max (dep (F.take i)) (F.getD i []).length := by
  unfold dep
  rw [take_one hi, List.foldl_append]
  rfl
theorem fold_max : ∀ (F : List (List Int)) (d n : Nat), F.foldl (fun d x => max d x.length) d ≤ n ↔ d ≤ n ∧ ∀ x ∈ F, x.length ≤ n
  | [], d, n => by simp
  | x :: F, d, n => by
    rw [List.foldl_cons, fold_max F]
    simp only [List.mem_cons, forall_eq_or_imp, Nat.max_le]
    exact and_assoc
theorem dep_le {F : List (List Int)} {n : Nat} : dep F ≤ n ↔ ∀ x ∈ F, x.length ≤ n := by
  unfold dep
  rw [fold_max]
  simp
theorem le_dep {F : List (List Int)} {x : List Int} (hx : x ∈ F) : x.length ≤ dep F := dep_le.1 (Nat.le_refl _) x hx
theorem dep_has : ∀ {F : List (List Int)}, F ≠ [] → ∃ x ∈ F, x.length = dep F := by
  intro F h
  refine Classical.byContradiction fun hn => ?_
  have hlt : ∀ x ∈ F, x.length ≤ dep F - 1 := fun x hx => by
    have h1 := le_dep hx
    have h2 : x.length ≠ dep F := fun e => hn ⟨x, hx, e⟩
    omega
  have h3 := dep_le.2 hlt
  have h0 : dep F = 0 := by omega
  obtain ⟨x, hx⟩ := List.exists_mem_of_ne_nil F h
  have := le_dep hx
  exact hn ⟨x, hx, by omega⟩
def PurC (F : List (List Int)) : Prop := ∀ x ∈ F, x.length = dep F
theorem pur_iff {F : List (List Int)} : PurC F ↔ ∀ i, i < F.length → (F.getD i []).length = (F.getD 0 []).length := by
  constructor
  · intro h i hi
    rw [h _ (getD_mem hi), h _ (getD_mem (by omega))]
  · intro h x hx
    obtain ⟨y, hy, hyd⟩ := dep_has (List.ne_nil_of_mem hx)
    obtain ⟨i, hi, rfl⟩ := List.mem_iff_getElem.1 hx
    obtain ⟨j, hj, rfl⟩ := List.mem_iff_getElem.1 hy
    have h1 := h i hi
    have h2 := h j hj
    rw [show F.getD i [] = F[i] by simp [hi]] at h1
    rw [show F.getD j [] = F[j] by simp [hj]] at h2
    omega
noncomputable def fvL (F : List (List Int)) (n : Nat) : List Int := (List.range n).map fun k => ((fcs F k).length : Int)
theorem fvL_len (F : List (List Int)) (n : Nat) : (fvL F n).length = n := by simp [fvL]
theorem fvL_succ (F : List (List Int)) (n : Nat) : fvL F (n + 1) = fvL F n ++ [((fcs F n).length : Int)] := by simp [fvL, List.range_succ]
theorem fvL_at {F : List (List Int)} {n k : Nat} (h : k < n) : (fvL F n).getD k 0 = (fcs F k).length := by simp [fvL, h]
noncomputable def fv (F : List (List Int)) : List Int := fvL F (dep F + 1)
end Go.Proofs.YtghhlcioabdpfaaDoor
set_option maxRecDepth 100000
namespace Go.Proofs.YtghhlcioabdpfaaDoor
open Go.Gov
open Classical

def rall (p : List Int → Bool) (X : List (List Int)) : Int := if X.any p then X.findIdx p else -1
theorem rall_at {p : List Int → Bool} {X : List (List Int)} {i : Nat} (h : ∀ j, j < i → p (X.getD j []) = false) (hi : i < X.length) (he : p (X.getD i []) = true) : rall p X = i := by
  have he' : p X[i] = true := by simpa [hi] using he
  unfold rall
  rw [if_pos (List.any_eq_true.2 ⟨_, List.getElem_mem hi, he'⟩)]
  congr 1
  refine (List.findIdx_eq hi).2 ⟨he', fun j hj => ?_⟩
  have := h j hj
  simpa [show j < X.length by omega] using this
theorem rall_no {p : List Int → Bool} {X : List (List Int)} (h : ∀ j, j < X.length → p (X.getD j []) = false) : rall p X = -1 := by
  unfold rall
  rw [if_neg]
  intro ha
  obtain ⟨x, hx, hp⟩ := List.any_eq_true.1 ha
  obtain ⟨j, hj, rfl⟩ := List.mem_iff_getElem.1 hx
  have := h j hj
  simp [hj, hp] at this
theorem rall_ge (p : List Int → Bool) (X : List (List Int)) : decide (0 ≤ rall p X) = X.any p := by
  unfold rall
  by_cases h : X.any p = true <;> simp [h]
theorem indexFuncR_c (X : List (List Int)) (f : FuncId) (fs cs : List AV) (p : List Int → Bool) (hl : X.length ≤ 1099511627776) (hf : ∀ x ∈ X, Pure Tryd.prog f (fs ++ [ints x] ++ cs) (bl (p x)) []) (hk : callable Tryd.prog f = true) (h1 : fs.map (frz [] 6) = fs) (h2 : cs.map (frz [] 6) = cs) : Pure Tryd.prog 150 [mat X, .clo f fs cs] (i64 (rall p X)) [] := by
  refine pureV ok150 rfl ?_; unfold c150
  (repeat first | simp only [go_sem, ↓reduceIte, Nat.reduceEqDiff, Nat.reduceAdd, reduceCtorEq] | with_reducible refine V_W ?_ | (with_reducible refine And.intro ?_ ?_; focus first | assumption | omega | decide | grind) | (with_reducible refine Br.mk ?_ ?_; focus (intros; omega)) | decide)
  refine V_loop (α := Nat) (S := fun i => ([(0, mat X), (1, .clo f fs cs), (6, mat X), (7, i64 X.length), (8, i64 i)], [])) (C := fun i => i ≤ X.length ∧ ∀ j, j < i → p (X.getD j []) = false) (μ := fun i => X.length - i) 0 ⟨by omega, by omega⟩ (by exact Ref.frame (by simp [sub, fget])) ?_
  rintro i ⟨hi, hall⟩
  (repeat first | simp only [go_sem, ↓reduceIte, Nat.reduceEqDiff, Nat.reduceAdd, reduceCtorEq] | with_reducible refine V_W ?_ | (with_reducible refine And.intro ?_ ?_; focus first | assumption | omega | decide | grind) | (with_reducible refine Br.mk ?_ ?_; focus (intros; omega)) | decide)
  refine ⟨fun hc => ?_, fun hc => ?_⟩
  · (repeat first | simp only [go_sem, ↓reduceIte, Nat.reduceEqDiff, Nat.reduceAdd, reduceCtorEq] | with_reducible refine V_W ?_ | (with_reducible refine And.intro ?_ ?_; focus first | assumption | omega | decide | grind) | (with_reducible refine Br.mk ?_ ?_; focus (intros; omega)) | decide)
    refine call_pure (args := fs ++ [ints (X.getD i [])] ++ cs) (hf _ (getD_mem (by omega))) (by simp only [List.map_append, h1, h2, go_sem, ↓reduceIte, Nat.reduceEqDiff, Nat.reduceAdd, reduceCtorEq, go_sem, ↓reduceIte, Nat.reduceEqDiff, Nat.reduceAdd, reduceCtorEq]) rfl rfl ?_
    (try simp only [go_sem, ↓reduceIte, Nat.reduceEqDiff, Nat.reduceAdd, reduceCtorEq, go_sem, ↓reduceIte, Nat.reduceEqDiff, Nat.reduceAdd, reduceCtorEq])
    (repeat first | simp only [go_sem, ↓reduceIte, Nat.reduceEqDiff, Nat.reduceAdd, reduceCtorEq] | with_reducible refine V_W ?_ | (with_reducible refine And.intro ?_ ?_; focus first | assumption | omega | decide | grind) | (with_reducible refine Br.mk ?_ ?_; focus (intros; omega)) | decide)
    refine ⟨fun hc2 => ?_, fun hc2 => ?_⟩
    · (repeat first | simp only [go_sem, ↓reduceIte, Nat.reduceEqDiff, Nat.reduceAdd, reduceCtorEq] | with_reducible refine V_W ?_ | (with_reducible refine And.intro ?_ ?_; focus first | assumption | omega | decide | grind) | (with_reducible refine Br.mk ?_ ?_; focus (intros; omega)) | decide)
      rw [rall_at hall (by omega) hc2]
    · (repeat first | simp only [go_sem, ↓reduceIte, Nat.reduceEqDiff, Nat.reduceAdd, reduceCtorEq] | with_reducible refine V_W ?_ | (with_reducible refine And.intro ?_ ?_; focus first | assumption | omega | decide | grind) | (with_reducible refine Br.mk ?_ ?_; focus (intros; omega)) | decide)
      refine ⟨i + 1, ⟨by omega, fun j hj => ?_⟩, by omega, by exact Ref.frame (by simp [sub, fget])⟩
      rcases Nat.lt_or_ge j i with h | h
      · exact hall j h
      · obtain rfl : j = i := by omega
        exact hc2
  · (repeat first | simp only [go_sem, ↓reduceIte, Nat.reduceEqDiff, Nat.reduceAdd, reduceCtorEq] | with_reducible refine V_W ?_ | (with_reducible refine And.intro ?_ ?_; focus first | assumption | omega | decide | grind) | (with_reducible refine Br.mk ?_ ?_; focus (intros; omega)) | decide)
    rw [rall_no (fun j hj => hall j (by omega))]
theorem containsFuncR_c (X : List (List Int)) (f : FuncId) (fs cs : List AV) (p : List Int → Bool) (hl : X.length ≤ 1099511627776) (hf : ∀ x ∈ X, Pure Tryd.prog f (fs ++ [ints x] ++ cs) (bl (p x)) []) (hk : callable Tryd.prog f = true) (h1 : fs.map (frz [] 6) = fs) (h2 : cs.map (frz [] 6) = cs) (h3 : fs.map (frz [] 5) = fs) (h4 : cs.map (frz [] 5) = cs) : Pure Tryd.prog 123 [mat X, .clo f fs cs] (bl (X.any p)) [] := by
  refine pureV ok123 rfl ?_; unfold c123
  (repeat first | simp only [go_sem, ↓reduceIte, Nat.reduceEqDiff, Nat.reduceAdd, reduceCtorEq] | with_reducible refine V_W ?_ | (with_reducible refine And.intro ?_ ?_; focus first | assumption | omega | decide | grind) | (with_reducible refine Br.mk ?_ ?_; focus (intros; omega)) | decide)
  refine call_pure (indexFuncR_c X f fs cs p hl hf hk h1 h2) (by simp only [h3, h4, go_sem, ↓reduceIte, Nat.reduceEqDiff, Nat.reduceAdd, reduceCtorEq, go_sem, ↓reduceIte, Nat.reduceEqDiff, Nat.reduceAdd, reduceCtorEq]) rfl rfl ?_
  (try simp only [go_sem, ↓reduceIte, Nat.reduceEqDiff, Nat.reduceAdd, reduceCtorEq, go_sem, ↓reduceIte, Nat.reduceEqDiff, Nat.reduceAdd, reduceCtorEq])
  (repeat first | simp only [go_sem, ↓reduceIte, Nat.reduceEqDiff, Nat.reduceAdd, reduceCtorEq] | with_reducible refine V_W ?_ | (with_reducible refine And.intro ?_ ?_; focus first | assumption | omega | decide | grind) | (with_reducible refine Br.mk ?_ ?_; focus (intros; omega)) | decide)
  rw [rall_ge]
theorem depth_c (v : Int) (F : List (List Int)) (hl : F.length ≤ 1099511627776) (hr : ∀ i : Nat, (F.getD i []).length ≤ 1099511627776) : Pure Tryd.prog 86 [.pto [i64 v, mat F] 0] (i64 (dep F)) [] := by
  refine pureV0 ok86 rfl rfl ?_; unfold c86
  (repeat first | simp only [go_sem, ↓reduceIte, Nat.reduceEqDiff, Nat.reduceAdd, reduceCtorEq] | with_reducible refine V_W ?_ | (with_reducible refine And.intro ?_ ?_; focus first | assumption | omega | decide | grind) | (with_reducible refine Br.mk ?_ ?_; focus (intros; omega)) | decide)
  refine V_loop (α := Nat) (S := fun i => ([(3, i64 (dep (F.take i) : Nat)), (9, mat F), (10, i64 (F.length : Int)), (11, i64 (i : Int))], [])) (C := fun i => i ≤ F.length) (μ := fun i => F.length - i) 0 (Nat.zero_le _) (Ref.to rfl (by simp [sub, fget, dep])) ?_
  intro i hi
  (repeat first | simp only [go_sem, ↓reduceIte, Nat.reduceEqDiff, Nat.reduceAdd, reduceCtorEq] | with_reducible refine V_W ?_ | (with_reducible refine And.intro ?_ ?_; focus first | assumption | omega | decide | grind) | (with_reducible refine Br.mk ?_ ?_; focus (intros; omega)) | decide)
  refine ⟨fun hc => ?_, fun hc => ?_⟩
  · have hd := dep_take (F := F) (i := i) (by omega)
    (repeat first | simp only [go_sem, ↓reduceIte, Nat.reduceEqDiff, Nat.reduceAdd, reduceCtorEq] | with_reducible refine V_W ?_ | (with_reducible refine And.intro ?_ ?_; focus first | assumption | omega | decide | grind) | (with_reducible refine Br.mk ?_ ?_; focus (intros; omega)) | decide)
    refine pureC (size_c (F.getD i []) (hr i)) (by simp only [go_sem, ↓reduceIte, Nat.reduceEqDiff, Nat.reduceAdd, reduceCtorEq] <;> rfl) (by first | rfl | simp only [go_sem, ↓reduceIte, Nat.reduceEqDiff, Nat.reduceAdd, reduceCtorEq]) ?_
    (repeat first | simp only [go_sem, ↓reduceIte, Nat.reduceEqDiff, Nat.reduceAdd, reduceCtorEq] | with_reducible refine V_W ?_ | (with_reducible refine And.intro ?_ ?_; focus first | assumption | omega | decide | grind) | (with_reducible refine Br.mk ?_ ?_; focus (intros; omega)) | decide)
    refine ⟨i + 1, by omega, by omega, Ref.to rfl ?_⟩
    simp [sub, fget, hd]
    split <;> omega
  · (repeat first | simp only [go_sem, ↓reduceIte, Nat.reduceEqDiff, Nat.reduceAdd, reduceCtorEq] | with_reducible refine V_W ?_ | (with_reducible refine And.intro ?_ ?_; focus first | assumption | omega | decide | grind) | (with_reducible refine Br.mk ?_ ?_; focus (intros; omega)) | decide)
    rw [show i = F.length by omega, List.take_length]
theorem size17_c (v : Int) (F : List (List Int)) (hl : F.length ≤ 1099511627776) (hr : ∀ i : Nat, (F.getD i []).length ≤ 1099511627776) : Pure Tryd.prog 36 [cpxA v F] (i64 (dep F)) [] := by
  refine pureV0 ok36 rfl rfl ?_; unfold c36
  (repeat first | simp only [go_sem, ↓reduceIte, Nat.reduceEqDiff, Nat.reduceAdd, reduceCtorEq] | with_reducible refine V_W ?_ | (with_reducible refine And.intro ?_ ?_; focus first | assumption | omega | decide | grind) | (with_reducible refine Br.mk ?_ ?_; focus (intros; omega)) | decide)
  refine V_loop (α := Nat) (S := fun i => ([(1, .ref 0 0), (3, i64 (dep (F.take i) : Nat)), (4, i64 (i : Int))], [some [i64 v, mat F]])) (C := fun i => i ≤ F.length) (μ := fun i => F.length - i) 0 (Nat.zero_le _) (Ref.to rfl (by simp [sub, fget, dep])) ?_
  intro i hi
  have hri := hr i
  (repeat first | simp only [go_sem, ↓reduceIte, Nat.reduceEqDiff, Nat.reduceAdd, reduceCtorEq] | with_reducible refine V_W ?_ | (with_reducible refine And.intro ?_ ?_; focus first | assumption | omega | decide | grind) | (with_reducible refine Br.mk ?_ ?_; focus (intros; omega)) | decide)
  refine ⟨fun hc => ?_, fun hc => ?_⟩
  · have hd := dep_take (F := F) (i := i) (by omega)
    (repeat first | simp only [go_sem, ↓reduceIte, Nat.reduceEqDiff, Nat.reduceAdd, reduceCtorEq] | with_reducible refine V_W ?_ | (with_reducible refine And.intro ?_ ?_; focus first | assumption | omega | decide | grind) | (with_reducible refine Br.mk ?_ ?_; focus (intros; omega)) | decide)
    refine ⟨i + 1, by omega, by omega, Ref.to rfl ?_⟩
    simp [sub, fget, hd]
    split <;> omega
  · (repeat first | simp only [go_sem, ↓reduceIte, Nat.reduceEqDiff, Nat.reduceAdd, reduceCtorEq] | with_reducible refine V_W ?_ | (with_reducible refine And.intro ?_ ?_; focus first | assumption | omega | decide | grind) | (with_reducible refine Br.mk ?_ ?_; focus (intros; omega)) | decide)
    rw [show i = F.length by omega, List.take_length]
theorem isPure1_c (x : List Int) (d : Int) (hx : x.length ≤ 1099511627776) : Pure Tryd.prog 124 [ints x, .pto [i64 d] 0] (bl (decide ((x.length : Int) ≠ d))) [] := by
  refine pureV ok124 rfl ?_; unfold c124
  (repeat first | simp only [go_sem, ↓reduceIte, Nat.reduceEqDiff, Nat.reduceAdd, reduceCtorEq] | with_reducible refine V_W ?_ | (with_reducible refine And.intro ?_ ?_; focus first | assumption | omega | decide | grind) | (with_reducible refine Br.mk ?_ ?_; focus (intros; omega)) | decide)
  refine pureC (size_c x hx) (by simp only [go_sem, ↓reduceIte, Nat.reduceEqDiff, Nat.reduceAdd, reduceCtorEq] <;> rfl) (by first | rfl | simp only [go_sem, ↓reduceIte, Nat.reduceEqDiff, Nat.reduceAdd, reduceCtorEq]) ?_
  (repeat first | simp only [go_sem, ↓reduceIte, Nat.reduceEqDiff, Nat.reduceAdd, reduceCtorEq] | with_reducible refine V_W ?_ | (with_reducible refine And.intro ?_ ?_; focus first | assumption | omega | decide | grind) | (with_reducible refine Br.mk ?_ ?_; focus (intros; omega)) | decide)
  refine congrArg (fun b => AV.val (.bool b)) ?_
  rw [Bool.eq_iff_iff]
  simp
theorem isPureM_c (v : Int) (F : List (List Int)) (hl : F.length ≤ 1099511627776) (hr : ∀ x ∈ F, x.length ≤ 1099511627776) : Pure Tryd.prog 85 [.pto [i64 v, mat F] 0] (bl (decide (PurC F))) [] := by
  have hrow : ∀ i : Nat, (F.getD i []).length ≤ 1099511627776 := fun i => by
    by_cases h : i < F.length
    · exact hr _ (getD_mem h)
    · simp [h]
  refine pureV0 ok85 rfl rfl ?_; unfold c85
  (repeat first | simp only [go_sem, ↓reduceIte, Nat.reduceEqDiff, Nat.reduceAdd, reduceCtorEq] | with_reducible refine V_W ?_ | (with_reducible refine And.intro ?_ ?_; focus first | assumption | omega | decide | grind) | (with_reducible refine Br.mk ?_ ?_; focus (intros; omega)) | decide)
  refine pureC (depth_c v F hl hrow) (by simp only [go_sem, ↓reduceIte, Nat.reduceEqDiff, Nat.reduceAdd, reduceCtorEq] <;> rfl) (by first | rfl | simp only [go_sem, ↓reduceIte, Nat.reduceEqDiff, Nat.reduceAdd, reduceCtorEq]) ?_
  (repeat first | simp only [go_sem, ↓reduceIte, Nat.reduceEqDiff, Nat.reduceAdd, reduceCtorEq] | with_reducible refine V_W ?_ | (with_reducible refine And.intro ?_ ?_; focus first | assumption | omega | decide | grind) | (with_reducible refine Br.mk ?_ ?_; focus (intros; omega)) | decide)
  refine pureC (containsFuncR_c F 124 [] [.pto [i64 (dep F)] 0] (fun x => decide ((x.length : Int) ≠ dep F)) hl (fun x hx => isPure1_c x (dep F) (hr x hx)) (by kernel_rfl) rfl rfl rfl rfl) (by simp only [go_sem, ↓reduceIte, Nat.reduceEqDiff, Nat.reduceAdd, reduceCtorEq] <;> rfl) (by first | rfl | simp only [go_sem, ↓reduceIte, Nat.reduceEqDiff, Nat.reduceAdd, reduceCtorEq]) ?_
  (repeat first | simp only [go_sem, ↓reduceIte, Nat.reduceEqDiff, Nat.reduceAdd, reduceCtorEq] | with_reducible refine V_W ?_ | (with_reducible refine And.intro ?_ ?_; focus first | assumption | omega | decide | grind) | (with_reducible refine Br.mk ?_ ?_; focus (intros; omega)) | decide)
  refine congrArg (fun b => AV.val (.bool b)) ?_
  rw [Bool.eq_iff_iff, decide_eq_true_iff]
  simp only [PurC, Bool.not_eq_true', List.any_eq_false, decide_eq_true_eq, Classical.not_not]
  exact ⟨fun h x hx => by have := h x hx; omega, fun h x hx => by have := h x hx; omega⟩
theorem pure17_c (v : Int) (F : List (List Int)) (hl : F.length ≤ 1099511627776) (hr : ∀ x ∈ F, x.length ≤ 1099511627776) : Pure Tryd.prog 35 [cpxA v F] (bl (decide (PurC F))) [] := by
  have hrow : ∀ i : Nat, (F.getD i []).length ≤ 1099511627776 := fun i => by
    by_cases h : i < F.length
    · exact hr _ (getD_mem h)
    · simp [h]
  have h0 := hrow 0
  refine pureV0 ok35 rfl rfl ?_; unfold c35
  (repeat first | simp only [go_sem, ↓reduceIte, Nat.reduceEqDiff, Nat.reduceAdd, reduceCtorEq] | with_reducible refine V_W ?_ | (with_reducible refine And.intro ?_ ?_; focus first | assumption | omega | decide | grind) | (with_reducible refine Br.mk ?_ ?_; focus (intros; omega)) | decide)
  refine V_loop (α := Nat) (S := fun i => ([(1, .ref 0 0), (3, i64 (i : Int))], [some [i64 v, mat F]])) (C := fun i => i ≤ F.length ∧ ∀ j, j < i → (F.getD j []).length = (F.getD 0 []).length) (μ := fun i => F.length - i) 0 ⟨Nat.zero_le _, fun j hj => by omega⟩ (by exact Ref.frame (by simp [sub, fget])) ?_
  rintro i ⟨hi, hall⟩
  have hri := hrow i
  (repeat first | simp only [go_sem, ↓reduceIte, Nat.reduceEqDiff, Nat.reduceAdd, reduceCtorEq] | with_reducible refine V_W ?_ | (with_reducible refine And.intro ?_ ?_; focus first | assumption | omega | decide | grind) | (with_reducible refine Br.mk ?_ ?_; focus (intros; omega)) | decide)
  refine ⟨fun hc => ?_, fun hc => ?_⟩
  · (repeat first | simp only [go_sem, ↓reduceIte, Nat.reduceEqDiff, Nat.reduceAdd, reduceCtorEq] | with_reducible refine V_W ?_ | (with_reducible refine And.intro ?_ ?_; focus first | assumption | omega | decide | grind) | (with_reducible refine Br.mk ?_ ?_; focus (intros; omega)) | decide)
    refine ⟨fun hc2 => ?_, fun hc2 => ?_⟩
    · have hno : ¬ PurC F := fun h => by
        have := pur_iff.1 h i (by omega)
        omega
      (repeat first | simp only [go_sem, ↓reduceIte, Nat.reduceEqDiff, Nat.reduceAdd, reduceCtorEq] | with_reducible refine V_W ?_ | (with_reducible refine And.intro ?_ ?_; focus first | assumption | omega | decide | grind) | (with_reducible refine Br.mk ?_ ?_; focus (intros; omega)) | decide)
      rw [decide_eq_false hno]
    · (repeat first | simp only [go_sem, ↓reduceIte, Nat.reduceEqDiff, Nat.reduceAdd, reduceCtorEq] | with_reducible refine V_W ?_ | (with_reducible refine And.intro ?_ ?_; focus first | assumption | omega | decide | grind) | (with_reducible refine Br.mk ?_ ?_; focus (intros; omega)) | decide)
      refine ⟨i + 1, ⟨by omega, fun j hj => ?_⟩, by omega, by exact Ref.frame (by simp [sub, fget])⟩
      rcases Nat.lt_or_ge j i with h | h
      · exact hall j h
      · obtain rfl : j = i := by omega
        omega
  · (repeat first | simp only [go_sem, ↓reduceIte, Nat.reduceEqDiff, Nat.reduceAdd, reduceCtorEq] | with_reducible refine V_W ?_ | (with_reducible refine And.intro ?_ ?_; focus first | assumption | omega | decide | grind) | (with_reducible refine Br.mk ?_ ?_; focus (intros; omega)) | decide)
    rw [decide_eq_true (pur_iff.2 fun j hj => hall j (by omega))]
end Go.Proofs.YtghhlcioabdpfaaDoor
set_option maxRecDepth 100000
namespace Go.Proofs.YtghhlcioabdpfaaDoor
open Go.Gov
open Classical

theorem putAll_ok {S L : List (List Int)} (hS : Srt S) : Srt (L.foldl putL S) ∧ (L.foldl putL S).length ≤ S.length + L.length := ⟨(foldl_put L S hS).1, (foldl_put L S hS).2.2⟩
theorem putAll_row {S L : List (List Int)} (hS : Srt S) (h1 : ∀ x ∈ S, x.length ≤ 6) (h2 : ∀ x ∈ L, x.length ≤ 6) : ∀ x ∈ L.foldl putL S, x.length ≤ 6 := fun x hx => by
  rcases ((foldl_put L S hS).2.1 x).1 hx with h | h
  · exact h1 x h
  · exact h2 x h
set_option maxHeartbeats 4000000 in
theorem l17Parts_w (xs : List Int) (hxs : xs.length ≤ 6) : ∀ (m : Nat) (S : List (List Int)) (C : List Int) (i : Nat), Srt S → S.length + 64 * (m + 1) ≤ 1048576 → (∀ x ∈ S, x.length ≤ 6) → C.length + m ≤ 6 → i ≤ xs.length →
    Wri Tryd.prog 75 [.sl 0 1 0 S.length, ints xs, i64 ((C.length + m : Nat) : Int), ints C, i64 (i : Int)] [some (S.map ints)] (.sl 1 1 0 (((prt m (xs.drop i)).map (C ++ ·)).foldl putL S).length) [none, some ((((prt m (xs.drop i)).map (C ++ ·)).foldl putL S).map ints)]
  | 0, S, C, i, hS, hl, hr, hC, hi => by
    have hrow : ∀ i : Nat, (S.getD i []).length ≤ 1099511627776 := fun i => by
      by_cases h : i < S.length
      · have := hr _ (getD_mem h); omega
      · simp [h]
    have hput := l17Put_w S C hS (by omega) hrow (by omega)
    rw [prt_zero]
    simp only [List.map_cons, List.map_nil, List.append_nil, List.foldl_cons, List.foldl_nil]
    refine wriRV ok75 rfl ?_; unfold c75
    (repeat first | simp only [go_sem, ↓reduceIte, Nat.reduceEqDiff, Nat.reduceAdd, reduceCtorEq] | with_reducible refine V_W ?_ | (with_reducible refine And.intro ?_ ?_; focus first | assumption | omega | decide | grind) | (with_reducible refine Br.mk ?_ ?_; focus (intros; omega)) | decide)
    refine wriCF (hput) [0] (by first | rfl | simp) (by simp only [go_sem, ↓reduceIte, Nat.reduceEqDiff, Nat.reduceAdd, reduceCtorEq] <;> rfl) (by simp only [go_sem, ↓reduceIte, Nat.reduceEqDiff, Nat.reduceAdd, reduceCtorEq] <;> rfl) ?_
    (repeat first | simp only [go_sem, ↓reduceIte, Nat.reduceEqDiff, Nat.reduceAdd, reduceCtorEq] | with_reducible refine V_W ?_ | (with_reducible refine And.intro ?_ ?_; focus first | assumption | omega | decide | grind) | (with_reducible refine Br.mk ?_ ?_; focus (intros; omega)) | decide)
    exact Ref.gc [0, 1] rfl (by simp only [go_sem, ↓reduceIte, Nat.reduceEqDiff, Nat.reduceAdd, reduceCtorEq]) (by simp [sub, fget, go_sem, ↓reduceIte, Nat.reduceEqDiff, Nat.reduceAdd, reduceCtorEq])
  | m + 1, S, C, i, hS, hl, hr, hC, hi => by
    have ih := l17Parts_w xs hxs m
    obtain ⟨R, hR⟩ : ∃ R, R = ((prt (m + 1) (xs.drop i)).map (C ++ ·)).foldl putL S := ⟨_, rfl⟩
    rw [← hR]
    have hp0 := prt_len (xs.drop i) (m + 1)
    have hp1 : 2 ^ (xs.drop i).length ≤ 2 ^ 6 := Nat.pow_le_pow_right (by decide) (by rw [List.length_drop]; omega)
    refine wriRV ok75 rfl ?_; unfold c75
    (repeat first | simp only [go_sem, ↓reduceIte, Nat.reduceEqDiff, Nat.reduceAdd, reduceCtorEq] | with_reducible refine V_W ?_ | (with_reducible refine And.intro ?_ ?_; focus first | assumption | omega | decide | grind) | (with_reducible refine Br.mk ?_ ?_; focus (intros; omega)) | decide)
    refine fun _ => ?_
    (repeat first | simp only [go_sem, ↓reduceIte, Nat.reduceEqDiff, Nat.reduceAdd, reduceCtorEq] | with_reducible refine V_W ?_ | (with_reducible refine And.intro ?_ ?_; focus first | assumption | omega | decide | grind) | (with_reducible refine Br.mk ?_ ?_; focus (intros; omega)) | decide)
    refine V_loop (α := Nat × List (List Int)) (S := fun q => ([(0, .sl 1 1 0 q.2.length), (1, ints xs), (2, i64 ((C.length + (m + 1) : Nat) : Int)), (3, ints C), (11, i64 (q.1 : Int))], [none, some (q.2.map ints)])) (C := fun q => q.1 ≤ xs.length ∧ Srt q.2 ∧ (∀ x ∈ q.2, x.length ≤ 6) ∧ q.2.length + (prt (m + 1) (xs.drop q.1)).length ≤ S.length + 64 ∧ ((prt (m + 1) (xs.drop q.1)).map (C ++ ·)).foldl putL q.2 = R) (μ := fun q => xs.length - q.1) (i, S) ⟨hi, hS, hr, by dsimp only; omega, hR.symm⟩ ?_ ?_
    · exact (Ref.mv 0 (cs := S.map ints) (F' := [(0, .sl 1 1 0 S.length), (1, ints xs), (2, i64 ((C.length + (m + 1) : Nat) : Int)), (3, ints C), (11, i64 (i : Int))]) (H' := [none, some (S.map ints)]) rfl (by simp only [go_sem, ↓reduceIte, Nat.reduceEqDiff, Nat.reduceAdd, reduceCtorEq]) (by simp [sub, fget, go_sem, ↓reduceIte, Nat.reduceEqDiff, Nat.reduceAdd, reduceCtorEq]))
    rintro ⟨j, T⟩ ⟨h1, h2, h3, h4, h5⟩
    dsimp only at h1 h2 h3 h4 h5 ⊢
    (repeat first | simp only [go_sem, ↓reduceIte, Nat.reduceEqDiff, Nat.reduceAdd, reduceCtorEq] | with_reducible refine V_W ?_ | (with_reducible refine And.intro ?_ ?_; focus first | assumption | omega | decide | grind) | (with_reducible refine Br.mk ?_ ?_; focus (intros; omega)) | decide)
    refine ⟨fun hc => ?_, fun hc => ?_⟩
    · have hj : j < xs.length := by omega
      have ho := own_c C (by omega)
      obtain ⟨y, hy⟩ : ∃ y, y = xs.getD j 0 := ⟨_, rfl⟩
      have hst := put_step T C xs m j hj
      rw [← hy, h5] at hst
      have hx := ih T (C ++ [y]) (j + 1) h2 (by omega) h3 (by simp; omega) (by omega)
      have hlen : (C ++ [y]).length = C.length + 1 := by simp
      rw [show ints (C ++ [y]) = .slc 1 (C.length + 1) (intsC C ++ [i64 y]) by simp [intsC], hlen, show C.length + 1 + m = C.length + (m + 1) by omega] at hx
      have hstl := congrArg List.length (prt_step xs m j hj)
      rw [List.length_append, List.length_map] at hstl
      have hpl := putAll_ok (L := (prt m (xs.drop (j + 1))).map ((C ++ [y]) ++ ·)) h2
      obtain ⟨T2, hT2⟩ : ∃ T2, T2 = ((prt m (xs.drop (j + 1))).map ((C ++ [y]) ++ ·)).foldl putL T := ⟨_, rfl⟩
      rw [← hT2, hy] at hx
      have htk : ∀ Hx : Heap, (List.take (C.length + 1) (intsC C ++ [i64 (xs.getD j 0)])).map (frz Hx 5) = intsC C ++ [i64 (xs.getD j 0)] := fun Hx => by
        rw [List.take_of_length_le (by simp [intsC])]
        simp [intsC, frz]
      have hro := putAll_row (L := (prt m (xs.drop (j + 1))).map ((C ++ [y]) ++ ·)) h2 h3 (fun x hx => by
        obtain ⟨z, hz, rfl⟩ := List.mem_map.1 hx
        have := ((prt_mem _ _ _).1 hz).2
        simp; omega)
      rw [← hT2] at hst hpl hro
      rw [List.length_map] at hpl
      (repeat first | simp only [go_sem, ↓reduceIte, Nat.reduceEqDiff, Nat.reduceAdd, reduceCtorEq] | with_reducible refine V_W ?_ | (with_reducible refine And.intro ?_ ?_; focus first | assumption | omega | decide | grind) | (with_reducible refine Br.mk ?_ ?_; focus (intros; omega)) | decide)
      refine V_altsB [(0, .sl 1 1 0 T2.length), (1, ints xs), (2, i64 ((C.length + (m + 1) : Nat) : Int)), (3, ints C), (11, i64 (j : Int))] [none, some (T2.map ints)] ?_ ?_
      · repeat' first
          | simp only [go_sem, ↓reduceIte, Nat.reduceEqDiff, Nat.reduceAdd, reduceCtorEq]
          | with_reducible refine LT_reg ?_
          | with_reducible refine LT_fin ?_
          | with_reducible exact LT_tt
          | with_reducible refine LT_alt ?_ ?_
          | (with_reducible refine And.intro ?_ ?_; focus first | assumption | omega | grind)
          | (refine pureC (ho) ?_ ?_ ?_; (focus (simp only [go_sem, ↓reduceIte, Nat.reduceEqDiff, Nat.reduceAdd, reduceCtorEq] <;> rfl)); (focus first | rfl | simp only [go_sem, ↓reduceIte, Nat.reduceEqDiff, Nat.reduceAdd, reduceCtorEq]))
        all_goals
          refine CallsX.ice 4 ?_
          simp only [htk, go_sem, ↓reduceIte, Nat.reduceEqDiff, Nat.reduceAdd, reduceCtorEq]
          (refine wriCF (hx) [1] ?_ ?_ ?_ ?_; (focus first | rfl | simp); (focus (simp only [go_sem, ↓reduceIte, Nat.reduceEqDiff, Nat.reduceAdd, reduceCtorEq] <;> rfl)); (focus (simp only [go_sem, ↓reduceIte, Nat.reduceEqDiff, Nat.reduceAdd, reduceCtorEq] <;> rfl)))
          repeat' first
            | simp only [go_sem, ↓reduceIte, Nat.reduceEqDiff, Nat.reduceAdd, reduceCtorEq]
            | with_reducible refine LT_reg ?_
            | with_reducible refine LT_fin ?_
            | with_reducible exact LT_tt
          exact Ref.gc [0, 5] rfl (by simp only [go_sem, ↓reduceIte, Nat.reduceEqDiff, Nat.reduceAdd, reduceCtorEq]) (by simp [sub, fget, go_sem, ↓reduceIte, Nat.reduceEqDiff, Nat.reduceAdd, reduceCtorEq])
      · (repeat first | simp only [go_sem, ↓reduceIte, Nat.reduceEqDiff, Nat.reduceAdd, reduceCtorEq] | with_reducible refine V_W ?_ | (with_reducible refine And.intro ?_ ?_; focus first | assumption | omega | decide | grind) | (with_reducible refine Br.mk ?_ ?_; focus (intros; omega)) | decide)
        exact ⟨(j + 1, T2), ⟨by dsimp only; omega, hpl.1, hro, by dsimp only; omega, hst.symm⟩, by dsimp only; omega, by exact Ref.frame (by simp [sub, fget])⟩
    · have hj : xs.length ≤ j := by omega
      rw [put_end T C xs m j hj] at h5
      (repeat first | simp only [go_sem, ↓reduceIte, Nat.reduceEqDiff, Nat.reduceAdd, reduceCtorEq] | with_reducible refine V_W ?_ | (with_reducible refine And.intro ?_ ?_; focus first | assumption | omega | decide | grind) | (with_reducible refine Br.mk ?_ ?_; focus (intros; omega)) | decide)
      rw [h5]
      exact Ref.refl
noncomputable def fcsT (F : List (List Int)) (k i : Nat) : List (List Int) := ((F.take i).flatMap (prt k)).foldl putL []
theorem fcsT_srt (F : List (List Int)) (k i : Nat) : Srt (fcsT F k i) := (foldl_put _ _ .nil).1
theorem fcsT_succ {F : List (List Int)} {k i : Nat} (hi : i < F.length) : fcsT F k (i + 1) = (prt k (F.getD i [])).foldl putL (fcsT F k i) := by
  unfold fcsT
  rw [flat_take hi, List.foldl_append]
theorem fcsT_len {F : List (List Int)} (h : ∀ x ∈ F, x.length ≤ 6) (k i : Nat) : (fcsT F k i).length ≤ 64 * F.length := by
  have h1 := (foldl_put ((F.take i).flatMap (prt k)) [] .nil).2.2
  have h2 := flat_prt_len k (F.take i) fun x hx => h x (List.mem_of_mem_take hx)
  have h3 : (F.take i).length ≤ F.length := by rw [List.length_take]; omega
  unfold fcsT
  simp only [List.length_nil] at h1
  omega
theorem fcsT_row {F : List (List Int)} (h : ∀ x ∈ F, x.length ≤ 6) (k i : Nat) : ∀ x ∈ fcsT F k i, x.length ≤ 6 := fun x hx => by
  rcases ((foldl_put _ _ .nil).2.1 x).1 hx with h1 | h1
  · cases h1
  · obtain ⟨f, hf, hp⟩ := List.mem_flatMap.1 h1
    have h2 := ((prt_mem _ _ _).1 hp).1.length_le
    have h3 := h f (List.mem_of_mem_take hf)
    omega
theorem fcsT_all {F : List (List Int)} {k : Nat} (hk : 0 < k) : fcsT F k F.length = fcs F k := by
  rw [fcs, if_neg (by omega), fcsT, List.take_length]
set_option maxHeartbeats 4000000 in
theorem l17Faces_p (v : Int) (F : List (List Int)) (k : Nat) (hk : k ≤ 6) (hl : F.length ≤ 400) (hr : ∀ x ∈ F, x.length ≤ 6) : Pure Tryd.prog 37 [cpxA v F, i64 (k : Int)] (.sl 0 1 0 (fcs F k).length) [some ((fcs F k).map ints)] := by
  refine pureRV ok37 rfl ?_; unfold c37
  (repeat first | simp only [go_sem, ↓reduceIte, Nat.reduceEqDiff, Nat.reduceAdd, reduceCtorEq] | with_reducible refine V_W ?_ | (with_reducible refine And.intro ?_ ?_; focus first | assumption | omega | decide | grind) | (with_reducible refine Br.mk ?_ ?_; focus (intros; omega)) | decide)
  refine ⟨fun hc => ?_, fun hc => ?_⟩
  · obtain rfl : k = 0 := by omega
    rw [fcs_zero]
    (repeat first | simp only [go_sem, ↓reduceIte, Nat.reduceEqDiff, Nat.reduceAdd, reduceCtorEq] | with_reducible refine V_W ?_ | (with_reducible refine And.intro ?_ ?_; focus first | assumption | omega | decide | grind) | (with_reducible refine Br.mk ?_ ?_; focus (intros; omega)) | decide)
    refine (Ref.sel [3] (F' := [(0, .sl 0 1 0 1)]) (H' := [some [ints []]]) rfl ?_ ?_)
    · simp only [vwH, go_sem, ↓reduceIte, Nat.reduceEqDiff, Nat.reduceAdd, reduceCtorEq]
      simp [vwC, intsC, go_sem, ↓reduceIte, Nat.reduceEqDiff, Nat.reduceAdd, reduceCtorEq]
    · simp only [vwF, go_sem, ↓reduceIte, Nat.reduceEqDiff, Nat.reduceAdd, reduceCtorEq]
      simp [sub, fget]
  · (repeat first | simp only [go_sem, ↓reduceIte, Nat.reduceEqDiff, Nat.reduceAdd, reduceCtorEq] | with_reducible refine V_W ?_ | (with_reducible refine And.intro ?_ ?_; focus first | assumption | omega | decide | grind) | (with_reducible refine Br.mk ?_ ?_; focus (intros; omega)) | decide)
    refine V_loop (α := Nat) (S := fun i => ([(1, i64 (k : Int)), (2, .ref 0 0), (5, .sl 1 1 0 (fcsT F k i).length), (6, i64 (i : Int))], [some [i64 v, mat F], some ((fcsT F k i).map ints)])) (C := fun i => i ≤ F.length) (μ := fun i => F.length - i) 0 (Nat.zero_le _) (Ref.to (by simp [fcsT]) (by simp [sub, fget, fcsT])) ?_
    intro i hi
    have hTl := fcsT_len hr k i
    (repeat first | simp only [go_sem, ↓reduceIte, Nat.reduceEqDiff, Nat.reduceAdd, reduceCtorEq] | with_reducible refine V_W ?_ | (with_reducible refine And.intro ?_ ?_; focus first | assumption | omega | decide | grind) | (with_reducible refine Br.mk ?_ ?_; focus (intros; omega)) | decide)
    refine ⟨fun hc2 => ?_, fun hc2 => ?_⟩
    · have hi2 : i < F.length := by omega
      have hx := l17Parts_w (F.getD i []) (hr _ (getD_mem hi2)) k (fcsT F k i) [] 0 (fcsT_srt F k i) (by omega) (fcsT_row hr k i) (by simp; omega) (Nat.zero_le _)
      simp only [List.drop_zero, List.nil_append, List.length_nil, Nat.zero_add, List.map_id'] at hx
      rw [← fcsT_succ hi2, show ints [] = .slc 1 0 [] from rfl] at hx
      (repeat first | simp only [go_sem, ↓reduceIte, Nat.reduceEqDiff, Nat.reduceAdd, reduceCtorEq] | with_reducible refine V_W ?_ | (with_reducible refine And.intro ?_ ?_; focus first | assumption | omega | decide | grind) | (with_reducible refine Br.mk ?_ ?_; focus (intros; omega)) | decide)
      refine CallsX.ice 2 ?_
      simp only [go_sem, ↓reduceIte, Nat.reduceEqDiff, Nat.reduceAdd, reduceCtorEq]
      refine wriCF (hx) [1] (by first | rfl | simp) (by simp only [go_sem, ↓reduceIte, Nat.reduceEqDiff, Nat.reduceAdd, reduceCtorEq] <;> rfl) (by simp only [go_sem, ↓reduceIte, Nat.reduceEqDiff, Nat.reduceAdd, reduceCtorEq] <;> rfl) ?_
      (repeat first | simp only [go_sem, ↓reduceIte, Nat.reduceEqDiff, Nat.reduceAdd, reduceCtorEq] | with_reducible refine V_W ?_ | (with_reducible refine And.intro ?_ ?_; focus first | assumption | omega | decide | grind) | (with_reducible refine Br.mk ?_ ?_; focus (intros; omega)) | decide)
      exact ⟨i + 1, by omega, by omega, Ref.gc [0, 3] rfl (by simp only [go_sem, ↓reduceIte, Nat.reduceEqDiff, Nat.reduceAdd, reduceCtorEq]) (by simp [sub, fget, go_sem, ↓reduceIte, Nat.reduceEqDiff, Nat.reduceAdd, reduceCtorEq])⟩
    · obtain rfl : i = F.length := by omega
      rw [fcsT_all (by omega)]
      (repeat first | simp only [go_sem, ↓reduceIte, Nat.reduceEqDiff, Nat.reduceAdd, reduceCtorEq] | with_reducible refine V_W ?_ | (with_reducible refine And.intro ?_ ?_; focus first | assumption | omega | decide | grind) | (with_reducible refine Br.mk ?_ ?_; focus (intros; omega)) | decide)
      exact Ref.gc [1] rfl (by simp only [go_sem, ↓reduceIte, Nat.reduceEqDiff, Nat.reduceAdd, reduceCtorEq]) (by simp [sub, fget, go_sem, ↓reduceIte, Nat.reduceEqDiff, Nat.reduceAdd, reduceCtorEq])
end Go.Proofs.YtghhlcioabdpfaaDoor
