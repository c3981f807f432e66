/- Texts that belong together. -/
import Derived.Test.YtcmahhfjpgoceaaGreatZo
import Derived.Test.YtcmahhfjpgoceaaGreatZq
import Derived.Test.YtcmahhfjpgoceaaGreatR9
set_option linter.unusedSimpArgs false
set_option linter.unusedVariables false
set_option maxRecDepth 100000
namespace Go.Proofs.YtcmahhfjpgoceaaGreat
open Classical

structure Dih (n : Nat) (a b : Nat → Nat) : Prop where
  al : ∀ x, x < n → a x < n
  bl : ∀ x, x < n → b x < n
  aa : ∀ x, x < n → a (a x) = x
  bb : ∀ x, x < n → b (b x) = x
  af : ∀ x, x < n → a x ≠ x
  bf : ∀ x, x < n → b x ≠ x
inductive Two (a b : Nat → Nat) (x : Nat) : Nat → Prop
  | refl : Two a b x x
  | sa {y : Nat} : Two a b x y → Two a b x (a y)
  | sb {y : Nat} : Two a b x y → Two a b x (b y)
namespace Dih
variable {n : Nat} {a b : Nat → Nat} {x y : Nat}
def rd (a b : Nat → Nat) (x : Nat) : Nat := b (a x)
theorem lt (h : Dih n a b) (hx : x < n) : rd a b x < n := h.bl _ (h.al _ hx)
theorem inj (h : Dih n a b) (hx : x < n) (hy : y < n) (e : rd a b x = rd a b y) : x = y := by
  have e1 := congrArg b e
  unfold rd at e1
  rw [h.bb _ (h.al _ hx), h.bb _ (h.al _ hy)] at e1
  have e2 := congrArg a e1
  rwa [h.aa _ hx, h.aa _ hy] at e2
theorem spec (h : Dih n a b) (hx : x < n) : 0 < per (rd a b) n x ∧ per (rd a b) n x ≤ n ∧ itr (rd a b) x (per (rd a b) n x) = x ∧ ∀ j, 0 < j → j < per (rd a b) n x → itr (rd a b) x j ≠ x := per_spec (s := rd a b) (n := n) (fun _ => h.lt) (fun _ _ hy hz => h.inj hy hz) hx
theorem ilt (h : Dih n a b) (hx : x < n) (k : Nat) : itr (rd a b) x k < n := itr_lt (fun _ => h.lt) hx k
theorem iinj (h : Dih n a b) (k : Nat) (hx : x < n) (hy : y < n) (e : itr (rd a b) x k = itr (rd a b) y k) : x = y := itr_inj (fun _ => h.lt) (fun _ _ hy hz => h.inj hy hz) k x y hx hy e
theorem flip (h : Dih n a b) (hx : x < n) : ∀ k, itr (rd a b) (a (itr (rd a b) x k)) k = a x
  | 0 => rfl
  | k + 1 => by
    have hk := h.ilt hx k
    have e : itr (rd a b) x (k + 1) = rd a b (itr (rd a b) x k) := rfl
    rw [show k + 1 = 1 + k from by omega, itr_add, show 1 + k = k + 1 from by omega, e]
    have e1 : itr (rd a b) (a (rd a b (itr (rd a b) x k))) 1 = a (itr (rd a b) x k) := by
      show rd a b (a (rd a b (itr (rd a b) x k))) = _
      generalize itr (rd a b) x k = z at hk
      unfold rd
      rw [h.aa _ (h.bl _ (h.al _ hk)), h.bb _ (h.al _ hk)]
    rw [e1]
    exact h.flip hx k
theorem apart (h : Dih n a b) (hx : x < n) (m : Nat) : a x ≠ itr (rd a b) x m := by
  intro e
  rcases Nat.mod_two_eq_zero_or_one m with h2 | h2
  · obtain ⟨t, rfl⟩ : ∃ t, m = t + t := ⟨m / 2, by omega⟩
    rw [itr_add, ← h.flip hx t] at e
    exact h.af _ (h.ilt hx t) (h.iinj t (h.al _ (h.ilt hx t)) (h.ilt hx t) e)
  · obtain ⟨t, rfl⟩ : ∃ t, m = (t + 1) + t := ⟨m / 2, by omega⟩
    rw [itr_add, ← h.flip hx t] at e
    have e2 := h.iinj t (h.al _ (h.ilt hx t)) (h.ilt hx (t + 1)) e
    have e3 : itr (rd a b) x (t + 1) = b (a (itr (rd a b) x t)) := rfl
    rw [e3] at e2
    exact h.bf _ (h.al _ (h.ilt hx t)) e2.symm
theorem mod (h : Dih n a b) (hx : x < n) (k : Nat) : itr (rd a b) x k = itr (rd a b) x (k % per (rd a b) n x) := by
  have hp := h.spec hx
  have key : ∀ q r : Nat, itr (rd a b) x (per (rd a b) n x * q + r) = itr (rd a b) x r := fun q r => by
    induction q with
    | zero => simp
    | succ q ih => rw [Nat.mul_succ, Nat.add_comm _ (per (rd a b) n x), Nat.add_assoc, itr_add, hp.2.2.1, ih]
  conv => lhs; rw [← Nat.div_add_mod k (per (rd a b) n x)]
  exact key _ _
theorem cls (h : Dih n a b) (hx : x < n) : Two a b x y ↔ ∃ i, i < per (rd a b) n x ∧ (y = itr (rd a b) x i ∨ y = a (itr (rd a b) x i)) := by
  have hp := h.spec hx
  have red : (∃ i, y = itr (rd a b) x i ∨ y = a (itr (rd a b) x i)) → ∃ i, i < per (rd a b) n x ∧ (y = itr (rd a b) x i ∨ y = a (itr (rd a b) x i)) := fun ⟨i, hi⟩ => by
    rw [h.mod hx i] at hi
    exact ⟨_, Nat.mod_lt _ hp.1, hi⟩
  constructor
  · intro hy
    refine red ?_
    clear red
    induction hy with
    | refl => exact ⟨0, .inl rfl⟩
    | @sa y _ ih =>
      obtain ⟨i, rfl | rfl⟩ := ih
      · exact ⟨i, .inr rfl⟩
      · exact ⟨i, .inl (h.aa _ (h.ilt hx i))⟩
    | @sb y _ ih =>
      obtain ⟨i, rfl | rfl⟩ := ih
      · refine ⟨i + (per (rd a b) n x - 1), .inr ?_⟩
        have hi := h.ilt hx i
        rw [Nat.add_comm, itr_add]
        have e : itr (rd a b) (itr (rd a b) x (per (rd a b) n x - 1)) i = a (b (itr (rd a b) x i)) := by
          have hb := h.lt (h.ilt hx (per (rd a b) n x - 1))
          refine h.inj (h.ilt (h.ilt hx _) _) (h.al _ (h.bl _ hi)) ?_
          have e1 : rd a b (a (b (itr (rd a b) x i))) = itr (rd a b) x i := by
            generalize itr (rd a b) x i = z at hi
            unfold rd
            rw [h.aa _ (h.bl _ hi), h.bb _ hi]
          rw [e1]
          show itr (rd a b) (itr (rd a b) x (per (rd a b) n x - 1)) (i + 1) = _
          rw [← itr_add, show per (rd a b) n x - 1 + (i + 1) = per (rd a b) n x + i by omega, itr_add, hp.2.2.1]
        rw [e, h.aa _ (h.bl _ hi)]
      · exact ⟨i + 1, .inl rfl⟩
  · have turn : ∀ i, Two a b x (itr (rd a b) x i) := fun i => by
      induction i with
      | zero => exact .refl
      | succ i ih => exact .sb (.sa ih)
    rintro ⟨i, _, rfl | rfl⟩
    · exact turn i
    · exact .sa (turn i)
theorem list (h : Dih n a b) (hx : x < n) : ∃ W : List Nat, W.Nodup ∧ W.length = 2 * per (rd a b) n x ∧ ∀ y, y ∈ W ↔ y < n ∧ Two a b x y := by
  have hp := h.spec hx
  have tn : ∀ i j, i < per (rd a b) n x → j < per (rd a b) n x → itr (rd a b) x i = itr (rd a b) x j → i = j := by
    have one : ∀ i j, i < j → j < per (rd a b) n x → itr (rd a b) x i ≠ itr (rd a b) x j := fun i j hij hj e => by
      have e2 : itr (rd a b) x j = itr (rd a b) (itr (rd a b) x (j - i)) i := by rw [← itr_add]; congr 1; omega
      exact hp.2.2.2 (j - i) (by omega) (by omega) (h.iinj i (h.ilt hx _) hx (e2 ▸ e.symm))
    intro i j hi hj e
    rcases Nat.lt_trichotomy i j with hh | hh | hh
    · exact absurd e (one i j hh hj)
    · exact hh
    · exact absurd e.symm (one j i hh hi)
  refine ⟨(List.range (per (rd a b) n x)).map (itr (rd a b) x) ++ (List.range (per (rd a b) n x)).map fun i => a (itr (rd a b) x i), ?_, by simp; omega, fun y => ?_⟩
  · refine List.nodup_append.2 ⟨?_, ?_, ?_⟩
    · refine nodup_map List.nodup_range fun i hi j hj e => ?_
      exact tn i j (List.mem_range.1 hi) (List.mem_range.1 hj) e
    · refine nodup_map List.nodup_range fun i hi j hj e => ?_
      have e2 := congrArg a e
      rw [h.aa _ (h.ilt hx _), h.aa _ (h.ilt hx _)] at e2
      exact tn i j (List.mem_range.1 hi) (List.mem_range.1 hj) e2
    · intro u hu v hv e
      obtain ⟨i, hi, rfl⟩ := List.mem_map.1 hu
      obtain ⟨j, hj, rfl⟩ := List.mem_map.1 hv
      have hi := List.mem_range.1 hi
      have hj := List.mem_range.1 hj
      refine h.apart (h.ilt hx j) (per (rd a b) n x - j + i) ?_
      rw [← e, ← itr_add, show j + (per (rd a b) n x - j + i) = per (rd a b) n x + i by omega, itr_add, hp.2.2.1]
  · rw [h.cls hx]
    simp only [List.mem_append, List.mem_map, List.mem_range]
    constructor
    · rintro (⟨i, hi, rfl⟩ | ⟨i, hi, rfl⟩)
      · exact ⟨h.ilt hx i, i, hi, .inl rfl⟩
      · exact ⟨h.al _ (h.ilt hx i), i, hi, .inr rfl⟩
    · rintro ⟨_, i, hi, rfl | rfl⟩
      · exact .inl ⟨i, hi, rfl⟩
      · exact .inr ⟨i, hi, rfl⟩
end Dih
end Go.Proofs.YtcmahhfjpgoceaaGreat
set_option maxRecDepth 100000
namespace Go.Proofs.YtcmahhfjpgoceaaGreat
open Classical

theorem IsMap.dih {M : List (List Int)} (h : IsMap M) {i j : Nat} (hi : i < 3) (hj : j < 3) : Dih (fl M) (mv M i) (mv M j) :=
  ⟨fun x hx => h.mvi.lt i x hi hx, fun x hx => h.mvi.lt j x hj hx, fun x hx => h.mvi.inv i x hi hx, fun x hx => h.mvi.inv j x hj hx, fun x hx => h.mvi.fre i x hi hx, fun x hx => h.mvi.fre j x hj hx⟩
theorem lk_two {M : List (List Int)} {i j x y : Nat} : Lk M [i, j] x y ↔ Two (mv M i) (mv M j) x y := by
  constructor
  · intro h
    induction h with
    | refl => exact .refl
    | step _ hk ih =>
      simp only [List.mem_cons, List.not_mem_nil, or_false] at hk
      rcases hk with rfl | rfl
      · exact .sa ih
      · exact .sb ih
  · intro h
    induction h with
    | refl => exact .refl
    | sa _ ih => exact ih.step (by simp)
    | sb _ ih => exact ih.step (by simp)
theorem IsMap.mvo {M : List (List Int)} (h : IsMap M) (k : Nat) : MvOk (fl M) (oth M k M.length) := h.1.mv.oth k M.length
theorem lab_eqv {M : List (List Int)} (h : IsMap M) {k i j x y : Nat} (hk : k < 3) (ht : two k = [i, j]) (hx : x < fl M) (hy : y < fl M) : lab (oth M k M.length) x = lab (oth M k M.length) y ↔ Two (mv M i) (mv M j) x y := by
  have hr : Rch (oth M k M.length) x y ↔ Two (mv M i) (mv M j) x y := by
    rw [rch_lk (S := [i, j]) (by rw [oth_two h.2 hk, ht])]
    exact lk_two
  rw [← hr]
  refine ⟨lab_inj (h.mvo k) hx hy, fun e => ?_⟩
  unfold lab
  rw [fst_eq (h.mvo k) e hx]
theorem cnt_cls {M : List (List Int)} (h : IsMap M) {k i j x : Nat} (hk : k < 3) (hi : i < 3) (hj : j < 3) (ht : two k = [i, j]) (hx : x < fl M) :
    (labs (fl M) (oth M k M.length)).count ((lab (oth M k M.length) x : Nat) : Int) = 2 * per (Dih.rd (mv M i) (mv M j)) (fl M) x := by
  obtain ⟨W, w1, w2, w3⟩ := (h.dih hi hj).list hx
  rw [← w2]
  unfold labs
  rw [List.count_eq_countP, List.countP_map]
  refine Cl.countP_mem w1 (fun y hy => ?_) fun y hy => ((w3 y).1 hy).1
  rw [w3 y, ← lab_eqv h hk ht hx hy]
  simp only [Function.comp_apply, beq_iff_eq]
  constructor
  · intro e; exact ⟨hy, by omega⟩
  · rintro ⟨_, e⟩; omega
noncomputable abbrev clV (M : List (List Int)) (k : Nat) : List Int := hlvs (cntL (ncnt (oth M k M.length) (fl M)) (labs (fl M) (oth M k M.length)) (fl M))
theorem clV_at {M : List (List Int)} (h : IsMap M) {k i j x : Nat} (hk : k < 3) (hi : i < 3) (hj : j < 3) (ht : two k = [i, j]) (hx : x < fl M) :
    (clV M k).getD (lab (oth M k M.length) x) 0 = (per (Dih.rd (mv M i) (mv M j)) (fl M) x : Int) := by
  have hl := lab_lt (h.mvo k) hx
  have hc := cntL_at (c := ncnt (oth M k M.length) (fl M)) (xs := labs (fl M) (oth M k M.length)) (k := fl M) hl
  rw [List.take_of_length_le (by rw [labs_len]; exact Nat.le_refl _), cnt_cls h hk hi hj ht hx] at hc
  have : (clV M k).getD (lab (oth M k M.length) x) 0 = (cntL (ncnt (oth M k M.length) (fl M)) (labs (fl M) (oth M k M.length)) (fl M)).getD (lab (oth M k M.length) x) 0 / 2 := by
    unfold clV hlvs
    simp only [List.getD_eq_getElem?_getD, List.getElem?_map]
    rw [List.getElem?_eq_getElem (by rw [cntL_len]; exact hl)]
    rfl
  rw [this, hc]
  omega
theorem sum_range_one (v : Nat) : ∀ c : Nat, ((List.range c).map fun (u : Nat) => if u = v then (1 : Int) else 0).sum = if v < c then 1 else 0
  | 0 => by simp
  | c + 1 => by
    rw [List.range_succ, List.map_append, List.sum_append, sum_range_one v c]
    simp only [List.map_cons, List.map_nil, List.sum_cons, List.sum_nil]
    by_cases h1 : v < c
    · rw [if_pos h1, if_neg (by omega), if_pos (by omega)]; rfl
    · by_cases h2 : c = v
      · rw [if_neg h1, if_pos h2, if_pos (by omega)]; rfl
      · rw [if_neg h1, if_neg h2, if_neg (by omega)]; rfl
theorem sum_add {α : Type} (f g : α → Int) : ∀ l : List α, (l.map fun x => f x + g x).sum = (l.map f).sum + (l.map g).sum
  | [] => rfl
  | a :: l => by
    simp only [List.map_cons, List.sum_cons, sum_add f g l]; omega
theorem sum_cnt (c : Nat) : ∀ xs : List Int, (∀ x ∈ xs, ∃ v : Nat, v < c ∧ x = v) → ((List.range c).map fun (v : Nat) => ((xs.count (v : Int) : Nat) : Int)).sum = xs.length
  | [], _ => by
    have : ((List.range c).map fun (v : Nat) => ((([] : List Int).count (v : Int) : Nat) : Int)) = List.replicate c 0 := List.ext_getElem (by simp) fun i h1 h2 => by simp
    rw [this]
    simp
  | x :: xs, h => by
    obtain ⟨v, hv, rfl⟩ := h x (by simp)
    have ih := sum_cnt c xs fun y hy => h y (by simp [hy])
    have e : (fun (u : Nat) => ((((v : Int) :: xs).count (u : Int) : Nat) : Int)) = fun (u : Nat) => ((xs.count (u : Int) : Nat) : Int) + (if u = v then 1 else 0) := by
      funext u
      rw [List.count_cons]
      by_cases hu : u = v
      · subst hu; simp
      · rw [if_neg hu, if_neg (by simp; omega)]; simp
    rw [e, sum_add, ih, sum_range_one, if_pos hv]
    simp
theorem sum_half : ∀ l : List Int, (∀ x ∈ l, x % 2 = 0) → (hlvs l).sum * 2 = l.sum
  | [], _ => rfl
  | x :: l, h => by
    have ih := sum_half l fun y hy => h y (by simp [hy])
    have hx := h x (by simp)
    unfold hlvs at ih ⊢
    rw [List.map_cons, List.sum_cons, List.sum_cons]
    omega
theorem clV_sum {M : List (List Int)} (h : IsMap M) {k i j : Nat} (hk : k < 3) (hi : i < 3) (hj : j < 3) (ht : two k = [i, j]) : (clV M k).sum * 2 = (fl M : Int) := by
  have hall : (labs (fl M) (oth M k M.length)).take (fl M) = labs (fl M) (oth M k M.length) := List.take_of_length_le (by rw [labs_len]; exact Nat.le_refl _)
  rw [sum_half]
  · unfold cntL
    rw [hall, sum_cnt, labs_len]
    intro x hx
    obtain ⟨y, hy, rfl⟩ := List.mem_map.1 hx
    exact ⟨_, lab_lt (h.mvo k) (List.mem_range.1 hy), rfl⟩
  · intro x hx
    unfold cntL at hx
    obtain ⟨v, hv, rfl⟩ := List.mem_map.1 hx
    obtain ⟨f, f1, f2, f3⟩ := lab_sur (oth M k M.length) _ _ (List.mem_range.1 hv)
    have hlf : lab (oth M k M.length) f = v := by unfold lab; rw [f2, f3]
    rw [hall, ← hlf, cnt_cls h hk hi hj ht f1]
    omega
theorem sg_rd (M : List (List Int)) : sg M = Dih.rd (mv M 1) (mv M 2) := rfl
theorem two0 : two 0 = [1, 2] := rfl
theorem two2 : two 2 = [0, 1] := rfl
theorem sv_m1 {M : List (List Int)} (h : IsMap M) {x : Nat} (hx : x < fl M) : sv M (mv M 1 x) = sv M x := by
  unfold sv
  rw [(lab_eqv h (k := 2) (by omega) two2 (h.mvi.lt 1 x (by omega) hx) hx).2 ?_]
  have e := Two.sb (a := mv M 0) (b := mv M 1) (Two.refl (x := mv M 1 x))
  rwa [h.mvi.inv 1 x (by omega) hx] at e
theorem rot_sy {M : List (List Int)} (h : IsMap M) {x : Nat} (hx : x < fl M) {i : Nat} (hi : i ≤ pr M x) : rotL (syL M x (pr M x)) i = syL M (itr (sg M) x i) (pr M x) := by
  have hp := pr_spec h hx
  unfold rotL
  refine List.ext_getElem (by simp [syL]; omega) fun m h1 h2 => ?_
  have hm : m < pr M x := by simpa [syL] using h2
  have hr : (syL M (itr (sg M) x i) (pr M x))[m] = sv M (itr (sg M) x (i + m)) := by simp [syL, itr_add]
  rw [hr]
  by_cases hc : m < pr M x - i
  · rw [List.getElem_append_left (by simp [syL]; omega)]
    simp [syL]
  · rw [List.getElem_append_right (by simp [syL]; omega)]
    simp only [syL, List.length_drop, List.length_map, List.length_range, List.getElem_take, List.getElem_map, List.getElem_range]
    rw [show i + m = pr M x + (m - (pr M x - i)) by omega, itr_add, hp.2.2.1]
theorem far {M : List (List Int)} (h : IsMap M) {x : Nat} (hx : x < fl M) (m : Nat) : sv M (itr (sg M) (mv M 1 x) m) = sv M (itr (sg M) x (pr M x - m % pr M x)) := by
  have hd := h.dih (i := 1) (j := 2) (by omega) (by omega)
  have hp := pr_spec h hx
  have hlt := Nat.mod_lt m hp.1
  have hw := hd.ilt hx (pr M x - m % pr M x)
  have e : itr (sg M) (itr (sg M) x (pr M x - m % pr M x)) m = x := by
    rw [← itr_add, sg_rd, hd.mod hx]
    have : (pr M x - m % pr M x + m) % per (Dih.rd (mv M 1) (mv M 2)) (fl M) x = 0 := by
      show (pr M x - m % pr M x + m) % pr M x = 0
      have e1 := Nat.div_add_mod m (pr M x)
      have e2 : pr M x - m % pr M x + m = pr M x * (m / pr M x + 1) := by rw [Nat.mul_succ]; omega
      rw [e2]; exact Nat.mul_mod_right _ _
    rw [this]; rfl
  have hf := hd.flip hw m
  rw [← sg_rd, e] at hf
  rw [hf]
  exact sv_m1 h hw
theorem pr_turn {M : List (List Int)} (h : IsMap M) {x : Nat} (hx : x < fl M) (i : Nat) : pr M (itr (sg M) x i) = pr M x := by
  have hk : ∀ y z, y < fl M → z < fl M → Two (mv M 1) (mv M 2) y z → pr M y = pr M z := fun y z hy hz e => by
    have l := (lab_eqv h (k := 0) (by omega) two0 hy hz).2 e
    have c1 := cnt_cls h (k := 0) (by omega) (by omega) (by omega) two0 hy
    have c2 := cnt_cls h (k := 0) (by omega) (by omega) (by omega) two0 hz
    rw [l] at c1
    have : 2 * pr M y = 2 * pr M z := c1.symm.trans c2
    omega
  have hd := h.dih (i := 1) (j := 2) (by omega) (by omega)
  refine (hk _ _ hx (hd.ilt hx i) ?_).symm
  have : ∀ i, Two (mv M 1) (mv M 2) x (itr (Dih.rd (mv M 1) (mv M 2)) x i) := fun i => by
    induction i with
    | zero => exact .refl
    | succ i ih => exact .sb (.sa ih)
  exact this i
theorem pr_flip {M : List (List Int)} (h : IsMap M) {x : Nat} (hx : x < fl M) : pr M (mv M 1 x) = pr M x := by
  have hy := h.mvi.lt 1 x (by omega) hx
  have l := (lab_eqv h (k := 0) (by omega) two0 hx hy).2 (.sa .refl)
  have c1 := cnt_cls h (k := 0) (by omega) (by omega) (by omega) two0 hx
  have c2 := cnt_cls h (k := 0) (by omega) (by omega) (by omega) two0 hy
  rw [l] at c1
  have : 2 * pr M x = 2 * pr M (mv M 1 x) := c1.symm.trans c2
  omega
theorem rnd_sy {M : List (List Int)} (h : IsMap M) {x : Nat} (hx : x < fl M) (z : List Int) : Rnd (syL M x (pr M x)) z ↔ ∃ i, z = syL M (itr (sg M) x i) (pr M x) ∨ z = (syL M (itr (sg M) x i) (pr M x)).reverse := by
  have hd := h.dih (i := 1) (j := 2) (by omega) (by omega)
  have hp := pr_spec h hx
  constructor
  · rintro ⟨i, hi, e⟩
    rw [syL_len] at hi
    rw [rot_sy h hx (by omega)] at e
    exact ⟨i, e⟩
  · rintro ⟨i, e⟩
    have hm := hd.mod hx i
    rw [← sg_rd] at hm
    rw [hm] at e
    have hlt := Nat.mod_lt i hp.1
    exact ⟨i % pr M x, by rw [syL_len]; exact hlt, by rw [rot_sy h hx (Nat.le_of_lt hlt)]; exact e⟩
theorem lround_same {A B : List Int} (h0 : 0 < A.length) (h : ∀ z, Rnd A z ↔ Rnd B z) : lround B = lround A := by
  obtain ⟨b, hb⟩ := rd2_ex A A.length
  have hA := hb.same (Rd2_all h0)
  rw [lround_eq hA, lround_eq (hA.same h)]
theorem syV_turn {M : List (List Int)} (h : IsMap M) {x : Nat} (hx : x < fl M) (j : Nat) : syV M (itr (sg M) x j) = syV M x := by
  have hd := h.dih (i := 1) (j := 2) (by omega) (by omega)
  have hp := pr_spec h hx
  have hy := hd.ilt hx j
  rw [← sg_rd] at hy
  unfold syV
  refine lround_same (by rw [syL_len]; exact hp.1) fun z => ?_
  rw [rnd_sy h hx, rnd_sy h hy, pr_turn h hx]
  constructor
  · rintro ⟨i, e⟩
    refine ⟨i + (pr M x - j % pr M x), ?_⟩
    have : itr (sg M) (itr (sg M) x j) (i + (pr M x - j % pr M x)) = itr (sg M) x i := by
      have hlt := Nat.mod_lt j hp.1
      rw [← itr_add, sg_rd, hd.mod hx, hd.mod hx i]
      congr 1
      show (j + (i + (pr M x - j % pr M x))) % pr M x = i % pr M x
      have e1 := Nat.div_add_mod j (pr M x)
      have e2 : j + (i + (pr M x - j % pr M x)) = i + pr M x * (j / pr M x + 1) := by rw [Nat.mul_succ]; omega
      rw [e2, Nat.add_mul_mod_self_left]
    rw [this]; exact e
  · rintro ⟨i, e⟩
    rw [← itr_add] at e
    exact ⟨_, e⟩
theorem syL_flip {M : List (List Int)} (h : IsMap M) {x : Nat} (hx : x < fl M) {i : Nat} (hi : i < pr M x) : syL M (itr (sg M) (mv M 1 x) i) (pr M x) = (syL M (itr (sg M) x (pr M x + 1 - i)) (pr M x)).reverse := by
  have hp := pr_spec h hx
  refine List.ext_getElem (by simp [syL]) fun m h1 h2 => ?_
  have hm : m < pr M x := by simpa [syL] using h1
  have hl : (syL M (itr (sg M) (mv M 1 x) i) (pr M x))[m] = sv M (itr (sg M) (mv M 1 x) (i + m)) := by simp [syL, itr_add]
  rw [hl, far h hx, List.getElem_reverse]
  have hr : ∀ (k : Nat) (hk : k < (syL M (itr (sg M) x (pr M x + 1 - i)) (pr M x)).length), (syL M (itr (sg M) x (pr M x + 1 - i)) (pr M x))[k] = sv M (itr (sg M) x (pr M x + 1 - i + k)) := fun k hk => by simp [syL, itr_add]
  rw [hr, syL_len]
  by_cases hc : i + m < pr M x
  · rw [Nat.mod_eq_of_lt hc, show pr M x + 1 - i + (pr M x - 1 - m) = pr M x + (pr M x - (i + m)) by omega, itr_add, hp.2.2.1]
  · have e : (i + m) % pr M x = i + m - pr M x := by
      rw [show i + m = (i + m - pr M x) + pr M x by omega, Nat.add_mod_right, Nat.mod_eq_of_lt (by omega)]; omega
    rw [e, show pr M x - (i + m - pr M x) = pr M x + 1 - i + (pr M x - 1 - m) by omega]
theorem syV_flip {M : List (List Int)} (h : IsMap M) {x : Nat} (hx : x < fl M) : syV M (mv M 1 x) = syV M x := by
  have hd := h.dih (i := 1) (j := 2) (by omega) (by omega)
  have hy := h.mvi.lt 1 x (by omega) hx
  have key : ∀ x, x < fl M → ∀ z, Rnd (syL M (mv M 1 x) (pr M x)) z → Rnd (syL M x (pr M x)) z := fun x hx z hz => by
    have hp := pr_spec h hx
    have hy := h.mvi.lt 1 x (by omega) hx
    have hz' := (rnd_sy h hy z).1 (by rw [pr_flip h hx]; exact hz)
    rw [pr_flip h hx] at hz'
    obtain ⟨i, e⟩ := hz'
    have hm := hd.mod hy i
    rw [← sg_rd] at hm
    have hpe : per (Dih.rd (mv M 1) (mv M 2)) (fl M) (mv M 1 x) = pr M x := pr_flip h hx
    rw [sg_rd, hpe, ← sg_rd] at hm
    rw [hm, syL_flip h hx (Nat.mod_lt i hp.1), List.reverse_reverse] at e
    exact (rnd_sy h hx z).2 ⟨_, e.symm⟩
  have hp := pr_spec h hx
  unfold syV
  rw [pr_flip h hx]
  refine lround_same (by rw [syL_len]; exact hp.1) fun z => ⟨fun hz => ?_, key x hx z⟩
  have := key _ hy z
  rw [pr_flip h hx, h.mvi.inv 1 x (by omega) hx] at this
  exact this hz
theorem syV_vertex {M : List (List Int)} (h : IsMap M) {x y : Nat} (hx : x < fl M) (hy : y < fl M) (e : lab (oth M 0 M.length) x = lab (oth M 0 M.length) y) : syV M y = syV M x := by
  have ht := (lab_eqv h (k := 0) (by omega) two0 hx hy).1 e
  have hd := h.dih (i := 1) (j := 2) (by omega) (by omega)
  obtain ⟨i, _, rfl | rfl⟩ := (hd.cls hx).1 ht
  · exact syV_turn h hx i
  · rw [syV_flip h (hd.ilt hx i)]
    exact syV_turn h hx i
theorem syV_deg {M : List (List Int)} (h : IsMap M) {x : Nat} (hx : x < fl M) : (clV M 0).getD (lab (oth M 0 M.length) x) 0 = ((syV M x).length : Int) := by
  rw [syV_len h hx]
  exact clV_at h (by omega) (by omega) (by omega) two0 hx
theorem clV_b {M : List (List Int)} (h : IsMap M) (k : Nat) : ∀ x ∈ clV M k, 0 ≤ x ∧ x ≤ 1048576 := fun x hx => by
  unfold clV hlvs at hx
  obtain ⟨y, hy, rfl⟩ := List.mem_map.1 hx
  obtain ⟨v, hv, rfl⟩ := List.mem_iff_getElem.1 hy
  have h1 := cntL_le (c := ncnt (oth M k M.length) (fl M)) (xs := labs (fl M) (oth M k M.length)) (k := fl M) (v := v)
  have hf := h.1.f4
  rw [labs_len] at h1
  rw [List.getD_eq_getElem?_getD, List.getElem?_eq_getElem hv] at h1
  simp only [Option.getD_some] at h1
  omega
end Go.Proofs.YtcmahhfjpgoceaaGreat
