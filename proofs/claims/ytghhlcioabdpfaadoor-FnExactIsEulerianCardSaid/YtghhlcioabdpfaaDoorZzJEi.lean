/- FnExactIsEulerian: the given statement. -/
import Derived.Test.YtghhlcioabdpfaaDoorRows
import Derived.Test.YtghhlcioabdpfaaDoorCards
import Derived.Test.YtghhlcioabdpfaaDoorTie
import Derived.ProofKit
import Derived.LaidMore
import Derived.SevenTiedAt
import Derived.Lib.SmallJoins
import Derived.OpenShut
import Derived.Test.YtghhlcioabdpfaaDoorZn
import Derived.Test.YtghhlcioabdpfaaDoorZp
import Derived.Test.YtghhlcioabdpfaaDoorX6
import Derived.Test.YtghhlcioabdpfaaDoorX8
import Derived.Test.YtghhlcioabdpfaaDoorX9
import Derived.Test.YtghhlcioabdpfaaDoorV5
import Derived.Test.YtghhlcioabdpfaaDoorU2
import Derived.Test.YtghhlcioabdpfaaDoorU6
import Derived.Test.YtghhlcioabdpfaaDoorU9
set_option linter.unusedSimpArgs false
set_option linter.unusedVariables false
set_option maxRecDepth 100000
namespace Go.Proofs.YtghhlcioabdpfaaDoor
open Go.Gov
open Classical

noncomputable def lnk (F : List (List Int)) (x : List Int) : List (List Int) := (F.filter fun f => decide (Win x f)).map fun f => mns f x
noncomputable def cnt (F : List (List Int)) (n : Nat) (y : List Int) : Nat := ((fcs F n).filter fun G => decide (y.Sublist G)).length
theorem mns_mem {a b : List Int} {e : Int} : e ∈ mns a b ↔ e ∈ a ∧ e ∉ b := by simp [mns]
theorem mns_sst {a b : List Int} (h : sst a) : sst (mns a b) := List.Pairwise.filter _ h
theorem lnk_mem {F : List (List Int)} {x p : List Int} : p ∈ lnk F x ↔ ∃ f ∈ F, Win x f ∧ p = mns f x := by
  unfold lnk
  rw [List.mem_map]
  constructor
  · rintro ⟨f, hf, rfl⟩
    obtain ⟨h1, h2⟩ := List.mem_filter.1 hf
    exact ⟨f, h1, by simpa using h2, rfl⟩
  · rintro ⟨f, h1, h2, rfl⟩
    exact ⟨f, List.mem_filter.2 ⟨h1, by simpa using h2⟩, rfl⟩
theorem lnk_SR {F : List (List Int)} (hF : SR F) (x : List Int) : SR (lnk F x) := fun p hp => by
  obtain ⟨f, h1, _, rfl⟩ := lnk_mem.1 hp
  exact mns_sst (hF f h1)
theorem lnk_row {F : List (List Int)} (h : ∀ x ∈ F, x.length ≤ 6) (x : List Int) : ∀ p ∈ lnk F x, p.length ≤ 6 := fun p hp => by
  obtain ⟨f, h1, _, rfl⟩ := lnk_mem.1 hp
  have := mns_len f x
  have := h f h1
  omega
theorem lnk_len (F : List (List Int)) (x : List Int) : (lnk F x).length ≤ F.length := by
  unfold lnk
  rw [List.length_map]
  exact List.length_filter_le _ _
theorem lnk_succ {F : List (List Int)} {x : List Int} {i : Nat} (hi : i < F.length) : lnk (F.take (i + 1)) x = lnk (F.take i) x ++ if Win x (F.getD i []) then [mns (F.getD i []) x] else [] := by
  unfold lnk
  rw [take_one hi, List.filter_append, List.map_append]
  congr 1
  by_cases h : Win x (F.getD i [])
  · rw [if_pos h, List.filter_cons_of_pos (by simpa using h)]; rfl
  · rw [if_neg h, List.filter_cons_of_neg (by simpa using h)]; rfl
theorem sst_few : ∀ (V : List Int) (lo : Int) (m : Nat), sst V → (∀ e ∈ V, lo ≤ e ∧ e < lo + m) → V.length ≤ m
  | [], _, _, _, _ => by simp
  | a :: V, lo, m, hV, h => by
    obtain ⟨h1, h2⟩ := List.pairwise_cons.1 hV
    have ha := h a (by simp)
    have := sst_few V (a + 1) (lo + m - a - 1).toNat h2 fun e he => by
      have h3 := h1 e he
      have h4 := h e (List.mem_cons_of_mem _ he)
      omega
    simp only [List.length_cons]
    omega
theorem lnk_ok {v : Int} {F : List (List Int)} (h : CxOk v F) (x : List Int) : MkOk (lnk F x) := by
  have hS := lnk_SR h.sst x
  refine ⟨lnk_row h.six.2 x, ?_, ?_⟩
  · have h0 := h.1.1
    have := sst_few (mkV (lnk F x)) 0 v.toNat (vtsL_sst _) fun e he => by
      obtain ⟨p, hp, he2⟩ := (mkV_mem hS e).1 he
      obtain ⟨f, hf, _, rfl⟩ := lnk_mem.1 hp
      have := h.ent hf e (mns_mem.1 he2).1
      omega
    omega
  · have h1 : (mkF (lnk F x)).length ≤ (srtF (lnk F x)).length := List.length_filter_le _ _
    have h2 : (srtF (lnk F x)).length ≤ (lnk F x).length := by
      have := (foldl_put ((lnk F x).filter fun y => decide (0 < y.length)) [] .nil).2.2
      have h3 := List.length_filter_le (fun y : List Int => decide (0 < y.length)) (lnk F x)
      unfold srtF
      simp only [List.length_nil] at this
      omega
    have := lnk_len F x
    have := h.six.1
    omega
theorem fcs_mk {L : List (List Int)} (hL : SR L) {j : Nat} (hj : 0 < j) : fcs (mkR L) j = (fcs L j).map fun q => q.map (idx (mkV L)) := by
  have hV : sst (mkV L) := vtsL_sst _
  have hin : ∀ x ∈ L, ∀ e ∈ x, e ∈ mkV L := fun x hx e he => (mkV_mem hL e).2 ⟨x, hx, he⟩
  have hin2 : ∀ q ∈ fcs L j, ∀ e ∈ q, e ∈ mkV L := fun q hq e he => by
    obtain ⟨x, hx, h1, _⟩ := (fcs_mem hj q).1 hq
    exact hin x hx e (h1.subset he)
  refine srt_ext (fcs_srt _ _) ?_ fun p => ?_
  · refine List.pairwise_map.2 ((fcs_srt L j).imp_of_mem fun {a b} ha hb h => ?_)
    rw [lexL_map hV (hin2 a ha) (hin2 b hb)]
    exact h
  · rw [fcs_mem hj, List.mem_map]
    constructor
    · rintro ⟨y, hy, h1, h2⟩
      obtain ⟨t, ht, rfl⟩ := List.mem_map.1 hy
      obtain ⟨q, hq, rfl⟩ := List.sublist_map_iff.1 h1
      refine ⟨q, (fcs_mem hj q).2 ⟨t, ((mkF_mem hL t).1 ht).1, hq, by simpa using h2⟩, rfl⟩
    · rintro ⟨q, hq, rfl⟩
      obtain ⟨x, hx, h1, h2⟩ := (fcs_mem hj q).1 hq
      obtain ⟨t, ht, h3⟩ := top_above hL hx (fun e => by subst e; have := h1.length_le; rw [List.length_nil] at this; omega)
      exact ⟨t.map (idx (mkV L)), List.mem_map.2 ⟨t, ht, rfl⟩, (h1.trans h3).map _, by simpa using h2⟩
theorem srt_nodup {L : List (List Int)} (h : Srt L) : L.Nodup := h.imp fun {a b} hab e => by
  subst e
  rw [lexL_irr] at hab
  cases hab
theorem fcs_sst {F : List (List Int)} (hF : SR F) {k : Nat} {p : List Int} (hp : p ∈ fcs F k) : sst p := by
  rcases (fcs_row hp).2 with rfl | ⟨x, hx, h⟩
  · exact .nil
  · exact sub_sst h (hF x hx)
theorem filter_two (p : Int → Bool) : ∀ G : List Int, (G.filter p).length + (G.filter fun e => !p e).length = G.length
  | [] => rfl
  | a :: G => by
    have := filter_two p G
    cases h : p a <;> simp [h] <;> omega
theorem mns_add {G x : List Int} (hG : sst G) (hx : sst x) (h : x.Sublist G) : (mns G x).length + x.length = G.length := by
  have h1 : x = G.filter fun e => decide (e ∈ x) := sst_ext hx (List.Pairwise.filter _ hG) fun e => by
    rw [List.mem_filter]
    exact ⟨fun he => ⟨h.subset he, by simpa using he⟩, fun he => by simpa using he.2⟩
  have h2 := congrArg List.length h1
  have h3 := filter_two (fun e => decide (e ∈ x)) G
  unfold mns
  omega
theorem lnk_cnt {F : List (List Int)} (hF : SR F) {k j : Nat} (hj : 0 < j) {x : List Int} (hx : x ∈ fcs F k) : (fcs (lnk F x) j).length = cnt F (k + j) x := by
  have hxs := fcs_sst hF hx
  have hxl := (fcs_row hx).1
  unfold cnt
  have hperm : (fcs (lnk F x) j).Perm (((fcs F (k + j)).filter fun G => decide (x.Sublist G)).map fun G => mns G x) := by
    refine (List.perm_ext_iff_of_nodup (srt_nodup (fcs_srt _ _)) ?_).2 fun p => ?_
    · refine List.pairwise_map.2 ((List.Pairwise.filter _ (srt_nodup (fcs_srt F (k + j)))).imp_of_mem fun {a b} ha hb hab e => hab ?_)
      obtain ⟨ha1, ha2⟩ := List.mem_filter.1 ha
      obtain ⟨hb1, hb2⟩ := List.mem_filter.1 hb
      have ha2 : x.Sublist a := by simpa using ha2
      have hb2 : x.Sublist b := by simpa using hb2
      refine sst_ext (fcs_sst hF ha1) (fcs_sst hF hb1) fun z => ?_
      by_cases hz : z ∈ x
      · exact ⟨fun _ => hb2.subset hz, fun _ => ha2.subset hz⟩
      · have h1 : z ∈ mns a x ↔ z ∈ mns b x := by rw [e]
        rw [mns_mem, mns_mem] at h1
        simpa [hz] using h1
    · rw [fcs_mem hj, List.mem_map]
      constructor
      · rintro ⟨l, hl, h1, h2⟩
        obtain ⟨f, hf, hw, rfl⟩ := lnk_mem.1 hl
        have hfs := hF f hf
        have hps : sst p := sub_sst h1 (mns_sst hfs)
        have hpm : ∀ e ∈ p, e ∈ f ∧ e ∉ x := fun e he => mns_mem.1 (h1.subset he)
        let G := f.filter fun e => decide (e ∈ x ∨ e ∈ p)
        have hGs : sst G := List.Pairwise.filter _ hfs
        have hGm : ∀ e, e ∈ G ↔ e ∈ f ∧ (e ∈ x ∨ e ∈ p) := fun e => by simp [G]
        have hxG : x.Sublist G := sub_of_win hxs hGs fun e he => (hGm e).2 ⟨hw e he, .inl he⟩
        have hmp : mns G x = p := sst_ext (mns_sst hGs) hps fun e => by
          rw [mns_mem, hGm]
          constructor
          · rintro ⟨⟨_, h⟩, h2⟩
            exact h.resolve_left h2
          · intro he
            exact ⟨⟨(hpm e he).1, .inr he⟩, (hpm e he).2⟩
        refine ⟨G, List.mem_filter.2 ⟨(fcs_mem (by omega) G).2 ⟨f, hf, List.filter_sublist, ?_⟩, by simpa using hxG⟩, hmp⟩
        have h3 : (mns G x).length + x.length = G.length := mns_add hGs hxs hxG
        rw [hmp] at h3
        omega
      · rintro ⟨G, hG, rfl⟩
        obtain ⟨hG1, hG2⟩ := List.mem_filter.1 hG
        have hxG : x.Sublist G := by simpa using hG2
        obtain ⟨f, hf, h1, h2⟩ := (fcs_mem (by omega) G).1 hG1
        have hGs := fcs_sst hF hG1
        refine ⟨mns f x, lnk_mem.2 ⟨f, hf, fun e he => h1.subset (hxG.subset he), rfl⟩, h1.filter _, ?_⟩
        have h3 : (mns G x).length + x.length = G.length := mns_add hGs hxs hxG
        omega
  have e := hperm.length_eq
  rw [List.length_map] at e
  exact e
abbrev Ev := List (List Int × Int)
def sumE (E : Ev) (y : List Int) : Int := (E.map fun e => if e.1 = y then e.2 else 0).sum
theorem sumE_app (A B : Ev) (y : List Int) : sumE (A ++ B) y = sumE A y + sumE B y := by simp [sumE, List.sum_append]
theorem sumE_one (p y : List Int) (s : Int) : sumE [(p, s)] y = if p = y then s else 0 := by simp [sumE]
def sg (n k : Nat) : Int := if (n - k) % 2 = 1 then 1 else -1
theorem sg_b (n k : Nat) : -1 ≤ sg n k ∧ sg n k ≤ 1 := by unfold sg; split <;> omega
theorem sumE_b (y : List Int) : ∀ E : Ev, (∀ e ∈ E, -1 ≤ e.2 ∧ e.2 ≤ 1) → -(E.length : Int) ≤ sumE E y ∧ sumE E y ≤ E.length
  | [], _ => by simp [sumE]
  | e :: E, h => by
    have h1 := sumE_b y E fun a ha => h a (List.mem_cons_of_mem _ ha)
    have h2 := h e List.mem_cons_self
    rw [show e :: E = [e] ++ E from rfl, sumE_app, show [e] = [(e.1, e.2)] from rfl, sumE_one]
    simp only [List.length_append, List.length_cons, List.length_nil]
    split <;> omega
noncomputable def evP (n k : Nat) (G : List Int) (j : Nat) : Ev := ((prt k G).take j).map fun p => (p, sg n k)
noncomputable def evK (n : Nat) (G : List Int) (k : Nat) : Ev := (List.range k).flatMap fun k' => evP n k' G (prt k' G).length
noncomputable def evI (F : List (List Int)) (n i : Nat) : Ev := ((fcs F n).take i).flatMap fun G => evK n G n
noncomputable def evN (F : List (List Int)) (m : Nat) : Ev := (List.range m).flatMap fun n => evI F (n + 1) (fcs F (n + 1)).length
theorem evP_zero (n k : Nat) (G : List Int) : evP n k G 0 = [] := by simp [evP]
theorem evP_succ {n k : Nat} {G : List Int} {j : Nat} (h : j < (prt k G).length) : evP n k G (j + 1) = evP n k G j ++ [((prt k G).getD j [], sg n k)] := by
  unfold evP
  rw [take_one h, List.map_append]
  rfl
theorem evK_succ (n : Nat) (G : List Int) (k : Nat) : evK n G (k + 1) = evK n G k ++ evP n k G (prt k G).length := by
  simp [evK, List.range_succ]
theorem evI_succ {F : List (List Int)} {n i : Nat} (h : i < (fcs F n).length) : evI F n (i + 1) = evI F n i ++ evK n ((fcs F n).getD i []) n := by
  unfold evI
  rw [take_one h, List.flatMap_append]
  simp
theorem evN_succ (F : List (List Int)) (m : Nat) : evN F (m + 1) = evN F m ++ evI F (m + 1) (fcs F (m + 1)).length := by
  simp [evN, List.range_succ]
def Ev1 (E : Ev) : Prop := ∀ e ∈ E, -1 ≤ e.2 ∧ e.2 ≤ 1
theorem evP_1 (n k : Nat) (G : List Int) (j : Nat) : Ev1 (evP n k G j) := fun e he => by
  obtain ⟨p, _, rfl⟩ := List.mem_map.1 he
  exact sg_b n k
theorem evK_1 (n : Nat) (G : List Int) (k : Nat) : Ev1 (evK n G k) := fun e he => by
  obtain ⟨k', _, h⟩ := List.mem_flatMap.1 he
  exact evP_1 _ _ _ _ e h
theorem evI_1 (F : List (List Int)) (n i : Nat) : Ev1 (evI F n i) := fun e he => by
  obtain ⟨k', _, h⟩ := List.mem_flatMap.1 he
  exact evK_1 _ _ _ e h
theorem evN_1 (F : List (List Int)) (m : Nat) : Ev1 (evN F m) := fun e he => by
  obtain ⟨k', _, h⟩ := List.mem_flatMap.1 he
  exact evI_1 _ _ _ e h
theorem Ev1.app {A B : Ev} (h : Ev1 A) (k : Ev1 B) : Ev1 (A ++ B) := fun e he => (List.mem_append.1 he).elim (h e) (k e)
theorem evP_len {n k : Nat} {G : List Int} {j : Nat} (hG : G.length ≤ 6) : (evP n k G j).length ≤ 64 := by
  have h1 := prt_len G k
  have h2 : 2 ^ G.length ≤ 2 ^ 6 := Nat.pow_le_pow_right (by decide) hG
  simp only [evP, List.length_map, List.length_take]
  omega
theorem evK_len {n : Nat} {G : List Int} (hG : G.length ≤ 6) : ∀ k : Nat, (evK n G k).length ≤ 64 * k
  | 0 => by simp [evK]
  | k + 1 => by
    have h1 := evK_len (n := n) hG k
    have h2 := evP_len (n := n) (k := k) (j := (prt k G).length) hG
    rw [evK_succ, List.length_append]
    omega
theorem getD_row6 {S : List (List Int)} {i : Nat} {n : Nat} (h : ∀ x ∈ S, x.length ≤ n) : (S.getD i []).length ≤ n := by
  by_cases hi : i < S.length
  · exact h _ (getD_mem hi)
  · rw [List.getD_eq_getElem?_getD, List.getElem?_eq_none (by omega)]
    simp
theorem fcs_6 {F : List (List Int)} (h : ∀ x ∈ F, x.length ≤ 6) (n : Nat) : ∀ p ∈ fcs F n, p.length ≤ 6 := fun p hp => by
  rcases (fcs_row hp).2 with rfl | ⟨x, hx, hs⟩
  · simp
  · have := hs.length_le
    have := h x hx
    omega
theorem evI_len {F : List (List Int)} (h : ∀ x ∈ F, x.length ≤ 6) {n : Nat} (hn : n ≤ 6) : ∀ i : Nat, i ≤ (fcs F n).length → (evI F n i).length ≤ 384 * i
  | 0, _ => by simp [evI]
  | i + 1, hi => by
    have h1 := evI_len h hn i (by omega)
    have h2 := evK_len (n := n) (G := (fcs F n).getD i []) (getD_row6 (fcs_6 h n)) n
    rw [evI_succ (by omega), List.length_append]
    omega
theorem evN_len {F : List (List Int)} (h : ∀ x ∈ F, x.length ≤ 6) (hl : F.length ≤ 400) : ∀ m : Nat, m ≤ 6 → (evN F m).length ≤ 10000000 * m
  | 0, _ => by simp [evN]
  | m + 1, hm => by
    have h1 := evN_len h hl m (by omega)
    have h2 := evI_len h (n := m + 1) (by omega) _ (Nat.le_refl _)
    have h3 := fcs_len h (m + 1)
    rw [evN_succ, List.length_append]
    omega
theorem prt_nodup : ∀ (G : List Int) (k : Nat), sst G → (prt k G).Nodup
  | G, 0, _ => by rw [prt_zero]; simp
  | [], k + 1, _ => by rw [prt_short _ _ (by simp)]; exact .nil
  | a :: G, k + 1, h => by
    obtain ⟨h1, h2⟩ := List.pairwise_cons.1 h
    have hs := prt_step (a :: G) k 0 (by simp)
    simp only [List.drop_zero, List.drop_succ_cons] at hs
    rw [hs]
    refine List.nodup_append.2 ⟨?_, prt_nodup G (k + 1) h2, fun x hx y hy e => ?_⟩
    · refine List.pairwise_map.2 ((prt_nodup G k h2).imp fun {x y} hxy e => hxy ?_)
      simpa using e
    · obtain ⟨z, _, rfl⟩ := List.mem_map.1 hx
      have h3 := ((prt_mem G (k + 1) y).1 hy).1.subset (e ▸ List.mem_cons_self : (a :: G).getD 0 0 ∈ y)
      have := h1 _ h3
      simp at this
theorem sumE_nodup {S : List (List Int)} {s : Int} (hn : S.Nodup) (y : List Int) : sumE (S.map fun p => (p, s)) y = if y ∈ S then s else 0 := by
  induction S with
  | nil => simp [sumE]
  | cons p S ih =>
    obtain ⟨h1, h2⟩ := List.pairwise_cons.1 hn
    rw [List.map_cons, show (p, s) :: S.map (fun p => (p, s)) = [(p, s)] ++ S.map fun p => (p, s) from rfl, sumE_app, sumE_one, ih h2]
    by_cases e : p = y
    · subst e
      have : p ∉ S := fun hp => h1 p hp rfl
      simp [this]
    · have e2 : ¬ y = p := fun h => e h.symm
      simp [e, e2]
theorem sumE_P {n k : Nat} {G : List Int} (hG : sst G) (y : List Int) : sumE (evP n k G (prt k G).length) y = if y.Sublist G ∧ y.length = k then sg n k else 0 := by
  unfold evP
  rw [List.take_length, sumE_nodup (prt_nodup G k hG)]
  simp only [prt_mem]
theorem sumE_K {n : Nat} {G : List Int} (hG : sst G) (y : List Int) : ∀ k : Nat, sumE (evK n G k) y = if y.Sublist G ∧ y.length < k then sg n y.length else 0
  | 0 => by simp [evK, sumE]
  | k + 1 => by
    rw [evK_succ, sumE_app, sumE_K hG y k, sumE_P hG y]
    by_cases h : y.Sublist G
    · by_cases h1 : y.length < k
      · rw [if_pos ⟨h, h1⟩, if_neg (by omega), if_pos ⟨h, by omega⟩]; omega
      · by_cases h2 : y.length = k
        · rw [if_neg (by omega), if_pos ⟨h, h2⟩, if_pos ⟨h, by omega⟩, h2]; omega
        · rw [if_neg (by omega), if_neg (by omega), if_neg (by omega)]; omega
    · rw [if_neg (fun h2 => h h2.1), if_neg (fun h2 => h h2.1), if_neg (fun h2 => h h2.1)]; omega
theorem sumE_I {n : Nat} (y : List Int) : ∀ S : List (List Int), (∀ G ∈ S, sst G) → sumE (S.flatMap fun G => evK n G n) y = if y.length < n then sg n y.length * ((S.filter fun G => decide (y.Sublist G)).length : Nat) else 0
  | [], _ => by simp [sumE]
  | G :: S, h => by
    rw [List.flatMap_cons, sumE_app, sumE_I y S fun a ha => h a (List.mem_cons_of_mem _ ha), sumE_K (h G List.mem_cons_self) y n]
    by_cases h1 : y.length < n
    · rw [if_pos h1, if_pos h1]
      by_cases h2 : y.Sublist G
      · rw [if_pos ⟨h2, h1⟩, List.filter_cons_of_pos (by simpa using h2), List.length_cons]
        generalize (S.filter fun G => decide (y.Sublist G)).length = m
        rw [show ((m + 1 : Nat) : Int) = (m : Int) + 1 by omega, Int.mul_add, Int.mul_one, Int.add_comm]
      · rw [if_neg (fun h => h2 h.1), List.filter_cons_of_neg (by simpa using h2)]
        omega
    · rw [if_neg h1, if_neg h1, if_neg (by omega)]
      omega
theorem sumE_N {F : List (List Int)} (hF : SR F) (y : List Int) (m : Nat) : sumE (evN F (m + 1)) y = sumE (evN F m) y + if y.length < m + 1 then sg (m + 1) y.length * (cnt F (m + 1) y : Nat) else 0 := by
  rw [evN_succ, sumE_app]
  congr 1
  unfold evI cnt
  rw [List.take_length]
  exact sumE_I y _ fun G hG => fcs_sst hF hG
theorem sumE_low {F : List (List Int)} (hF : SR F) (y : List Int) : ∀ m : Nat, m ≤ y.length → sumE (evN F m) y = 0
  | 0, _ => by simp [evN, sumE]
  | m + 1, h => by rw [sumE_N hF, sumE_low hF y m (by omega), if_neg (by omega)]; rfl
theorem sumE_alt {F : List (List Int)} (hF : SR F) (y : List Int) (xs : List Int) (h : ∀ i, i < xs.length → xs.getD i 0 = (cnt F (y.length + i + 1) y : Nat)) : ∀ i : Nat, i ≤ xs.length → sumE (evN F (y.length + i)) y = altN xs i
  | 0, _ => by rw [sumE_low hF y _ (by omega)]; rfl
  | i + 1, hi => by
    rw [← Nat.add_assoc, sumE_N hF, sumE_alt hF y xs h i (by omega), if_pos (by omega), altN, h i (by omega)]
    unfold sg
    have e1 : y.length + i + 1 - y.length = i + 1 := by omega
    rw [e1]
    rcases Nat.mod_two_eq_zero_or_one i with h2 | h2
    · rw [if_pos (by omega), if_pos h2]; omega
    · rw [if_neg (by omega), if_neg (by omega)]; omega
theorem sumE_same {F : List (List Int)} (hF : SR F) (y : List Int) (a : Nat) (ha : y.length ≤ a) : ∀ b : Nat, a ≤ b → (∀ n, a < n → cnt F n y = 0) → sumE (evN F b) y = sumE (evN F a) y
  | 0, h, _ => by obtain rfl : a = 0 := by omega
                  rfl
  | b + 1, h, h0 => by
    by_cases e : a = b + 1
    · rw [e]
    · rw [sumE_N hF, sumE_same hF y a ha b (by omega) h0, h0 (b + 1) (by omega)]
      split <;> simp
theorem link_sum {v : Int} {F : List (List Int)} (h : CxOk v F) {k : Nat} {x : List Int} (hx : x ∈ fcs F k) (hk : k ≤ dep F) :
    altN ((fv (ckF (lnk F x))).drop 1) ((fv (ckF (lnk F x))).length - 1) = sumE (evN F (dep F)) x := by
  have hF := h.sst
  have hS := lnk_SR hF x
  have hxl := (fcs_row hx).1
  have e0 : ckF (lnk F x) = mkR (lnk F x) := if_pos (lnk_ok h x)
  rw [e0]
  have hcount : ∀ j, 0 < j → ((fcs (mkR (lnk F x)) j).length : Nat) = cnt F (k + j) x := fun j hj => by
    rw [fcs_mk hS hj, List.length_map, lnk_cnt hF hj hx]
  have hlen : (fv (mkR (lnk F x))).length = dep (mkR (lnk F x)) + 1 := fv_len _
  have hdep : dep (mkR (lnk F x)) ≤ dep F - k := by
    refine dep_le.2 fun p hp => ?_
    obtain ⟨t, ht, rfl⟩ := List.mem_map.1 hp
    obtain ⟨f, hf, hw, rfl⟩ := lnk_mem.1 ((mkF_mem hS t).1 ht).1
    have h1 := mns_add (hF f hf) (fcs_sst hF hx) (sub_of_win (fcs_sst hF hx) (hF f hf) hw)
    have h2 := le_dep hf
    rw [List.length_map]
    omega
  have hgt : ∀ n, k + dep (mkR (lnk F x)) < n → cnt F n x = 0 := fun n hn => by
    obtain ⟨j, rfl⟩ : ∃ j, n = k + j := ⟨n - k, by omega⟩
    rw [← hcount j (by omega), List.length_eq_zero_iff, List.eq_nil_iff_forall_not_mem]
    intro p hp
    obtain ⟨y, hy, h1, h2⟩ := (fcs_mem (by omega) p).1 hp
    have := le_dep hy
    have := h1.length_le
    omega
  rw [hlen, Nat.add_sub_cancel, ← sumE_alt hF x ((fv (mkR (lnk F x))).drop 1) (fun i hi => ?_) (dep (mkR (lnk F x))) (by simp [hlen])]
  · rw [hxl]
    exact (sumE_same hF x _ (by omega) (dep F) (by omega) hgt).symm
  · rw [List.length_drop, hlen] at hi
    rw [List.getD_eq_getElem?_getD, List.getElem?_drop, ← List.getD_eq_getElem?_getD, fv, fvL_at (by omega), Nat.add_comm 1 i, hcount (i + 1) (by omega), hxl, Nat.add_assoc]
def EulA (F : List (List Int)) (m : Nat) : Prop := ∀ k, k < m → ∀ x ∈ fcs F k, sumE (evN F (dep F)) x = 2 * (((dep F : Int) - k) % 2)
theorem top_zero {F : List (List Int)} (hF : SR F) : ∀ x ∈ fcs F (dep F), sumE (evN F (dep F)) x = 0 := fun x hx => sumE_low hF x _ (by rw [(fcs_row hx).1]; exact Nat.le_refl _)
theorem eulA_top {F : List (List Int)} (hF : SR F) : EulA F (dep F + 1) ↔ EulA F (dep F) := by
  constructor
  · exact fun h k hk => h k (by omega)
  · intro h k hk x hx
    by_cases e : k = dep F
    · subst e
      rw [top_zero hF x hx]
      simp
    · exact h k (by omega) x hx
end Go.Proofs.YtghhlcioabdpfaaDoor
set_option maxRecDepth 100000
namespace Go.Proofs.YtghhlcioabdpfaaDoor
open Go.Gov
open Classical

def MapSum (l : List (ByteArray × Int)) (E : Ev) : Prop := ∀ y, Sml y → (ilook (kT y) l).getD 0 = sumE E y
theorem MapSum.nil : MapSum [] [] := fun y _ => rfl
theorem MapSum.put {l : List (ByteArray × Int)} {E : Ev} (h : MapSum l E) {p : List Int} (hp : Sml p) (s : Int) : MapSum (iput (kT p) ((ilook (kT p) l).getD 0 + s) l) (E ++ [(p, s)]) := fun y hy => by
  rw [ilook_iput, sumE_app, sumE_one]
  by_cases e : kT y = kT p
  · obtain rfl := kT_inj hy hp e
    rw [if_pos (by simp), if_pos rfl, Option.getD_some, h y hy]
  · have e2 : ¬ p = y := fun h => e (by rw [h])
    rw [if_neg (by simpa using e), if_neg e2, h y hy]
    omega
def iV (n : Int) : AV := .val (.int .i64 n)
theorem smap_iV (l : List (ByteArray × Int)) : smap (fun x => .val (.int .i64 x)) l = smap iV l := rfl
theorem mput_iV (l : List (ByteArray × Int)) (n : ByteArray) (b : Int) : mput (.string n) (.val (.int .i64 b)) (smap iV l) = smap iV (iput n b l) := mput_smap iV l n b
theorem rnm_iV (τ : Nat → Option Nat) (l : List (ByteArray × Int)) : smap (fun x => rnm τ (iV x)) l = smap iV l := rfl
attribute [go_sem] smap_iV mput_iV rnm_iV
theorem look_cases (o : Option Int) : o = none ∧ o.getD 0 = 0 ∨ ∃ z, o = some z ∧ o.getD 0 = z := by
  cases o with
  | none => exact .inl ⟨rfl, rfl⟩
  | some z => exact .inr ⟨z, rfl, rfl⟩
theorem CxOk.sml {v : Int} {F : List (List Int)} (h : CxOk v F) {n : Nat} {G : List Int} (hG : G ∈ fcs F n) : Sml G := fun e he => by
  rcases (fcs_row hG).2 with rfl | ⟨x, hx, hs⟩
  · cases he
  · have := h.ent hx e (hs.subset he)
    have := h.1.1
    omega
noncomputable def eiB (F : List (List Int)) : Bool := decide (PurC F ∧ EulA F (dep F))
theorem lnk_frz (L : List (List Int)) (n : Nat) (hn : n = L.length) : ∀ Hx : Heap, (List.take n (L.map oints)).map (frz Hx 5) = L.map ints := fun Hx => by
  rw [List.take_of_length_le (by simp; omega), List.map_map]
  refine List.map_congr_left fun z _ => ?_
  simp [frz, intsC]
set_option maxHeartbeats 8000000 in
theorem isEulerianM_c (v : Int) (F : List (List Int)) (h : CxOk v F) : Pure Tryd.prog 44 [.pto [i64 v, mat F] 0] (bl (eiB F)) [] := by
  obtain ⟨hl, hr⟩ := h.six
  have hSR := h.sst
  have hd : dep F ≤ 6 := dep_le.2 hr
  have hpu := isPureM_c v F (by omega) (fun x hx => by have := hr x hx; omega)
  have hde := depth_c v F (by omega) (fun i => by have := getD_row6 (i := i) hr; omega)
  unfold eiB
  by_cases hP : PurC F
  · rw [decide_eq_true hP] at hpu
    have e0 : decide (PurC F ∧ EulA F (dep F)) = decide (EulA F (dep F)) := by simp [hP]
    rw [e0]
    refine pureV0 ok44 rfl rfl ?_; unfold c44
    (repeat first | simp only [go_sem, ↓reduceIte, Nat.reduceEqDiff, Nat.reduceAdd, reduceCtorEq] | with_reducible refine V_W ?_ | (with_reducible refine And.intro ?_ ?_; focus first | assumption | omega | decide | grind) | (with_reducible refine Br.mk ?_ ?_; focus (intros; omega)) | decide)
    refine pureC (hpu) (by simp only [go_sem, ↓reduceIte, Nat.reduceEqDiff, Nat.reduceAdd, reduceCtorEq] <;> rfl) (by first | rfl | simp only [go_sem, ↓reduceIte, Nat.reduceEqDiff, Nat.reduceAdd, reduceCtorEq]) ?_
    (repeat first | simp only [go_sem, ↓reduceIte, Nat.reduceEqDiff, Nat.reduceAdd, reduceCtorEq] | with_reducible refine V_W ?_ | (with_reducible refine And.intro ?_ ?_; focus first | assumption | omega | decide | grind) | (with_reducible refine Br.mk ?_ ?_; focus (intros; omega)) | decide)
    refine pureC (hde) (by simp only [go_sem, ↓reduceIte, Nat.reduceEqDiff, Nat.reduceAdd, reduceCtorEq] <;> rfl) (by first | rfl | simp only [go_sem, ↓reduceIte, Nat.reduceEqDiff, Nat.reduceAdd, reduceCtorEq]) ?_
    (repeat first | simp only [go_sem, ↓reduceIte, Nat.reduceEqDiff, Nat.reduceAdd, reduceCtorEq] | with_reducible refine V_W ?_ | (with_reducible refine And.intro ?_ ?_; focus first | assumption | omega | decide | grind) | (with_reducible refine Br.mk ?_ ?_; focus (intros; omega)) | decide)
    refine V_loop (α := Nat × List (ByteArray × Int)) (S := fun q => ([(0, .pto [i64 v, mat F] 0), (3, i64 (dep F : Int)), (4, .mp 0), (5, i64 ((q.1 : Int) + 1))], [some [.mpc (smap iV q.2)]])) (C := fun q => q.1 ≤ dep F ∧ MapSum q.2 (evN F q.1)) (μ := fun q => dep F - q.1) (0, []) ⟨Nat.zero_le _, MapSum.nil⟩ ?_ ?_
    · exact Ref.to (by simp [smap, mpC, entsF]) (by simp [sub, fget])
    rintro ⟨m, l⟩ ⟨h1, h2⟩
    dsimp only at h1 h2 ⊢
    (repeat first | simp only [go_sem, ↓reduceIte, Nat.reduceEqDiff, Nat.reduceAdd, reduceCtorEq] | with_reducible refine V_W ?_ | (with_reducible refine And.intro ?_ ?_; focus first | assumption | omega | decide | grind) | (with_reducible refine Br.mk ?_ ?_; focus (intros; omega)) | decide)
    refine ⟨fun hc => ?_, fun hc => ?_⟩
    · have hn : m + 1 ≤ 6 := by omega
      have hcast : ((m : Int) + 1) = ((m + 1 : Nat) : Int) := by omega
      obtain ⟨n, hn0⟩ : ∃ n : Nat, n = m + 1 := ⟨_, rfl⟩
      have hf := facesWith_z v F n (by omega) hl hr
      have hfl := fcs_len hr n
      have heN := evN_succ F m
      have heB := evN_len hr hl m (by omega)
      have heI := fun i => evI_len hr (n := n) (by omega) i
      have heS := fun i => evI_succ (F := F) (n := n) (i := i)
      have hrow : ∀ G ∈ fcs F n, G.length ≤ 6 ∧ Sml G := fun G hG => ⟨fcs_6 hr n G hG, h.sml hG⟩
      rw [← hn0] at heN
      rw [hcast, ← hn0] at hc ⊢
      have hev0 : evI F n 0 = [] := by simp [evI]
      have hev1 := fun i => evI_1 F n i
      obtain ⟨R, hR⟩ : ∃ R, R = fcs F n := ⟨_, rfl⟩
      rw [← hR] at hf hfl heN heI heS hrow
      have hev2 := evN_1 F m
      obtain ⟨EN, hEN⟩ : ∃ E, E = evN F m := ⟨_, rfl⟩
      rw [← hEN] at heN heB h2 hev2
      (repeat first | simp only [go_sem, ↓reduceIte, Nat.reduceEqDiff, Nat.reduceAdd, reduceCtorEq] | with_reducible refine V_W ?_ | (with_reducible refine And.intro ?_ ?_; focus first | assumption | omega | decide | grind) | (with_reducible refine Br.mk ?_ ?_; focus (intros; omega)) | decide)
      refine call_pureG (hf) (by simp only [go_sem, ↓reduceIte, Nat.reduceEqDiff, Nat.reduceAdd, reduceCtorEq] <;> rfl) ?_
      (repeat first | simp only [go_sem, ↓reduceIte, Nat.reduceEqDiff, Nat.reduceAdd, reduceCtorEq] | with_reducible refine V_W ?_ | (with_reducible refine And.intro ?_ ?_; focus first | assumption | omega | decide | grind) | (with_reducible refine Br.mk ?_ ?_; focus (intros; omega)) | decide)
      have htk : ∀ Hx : Heap, (List.take R.length (R.map ints)).map (frz Hx 5) = R.map ints := fun Hx => by
        rw [List.take_of_length_le (by simp), map_frz_rows]
      refine V_ref (Ref.sel [0] (F' := [(0, .pto [i64 v, mat F] 0), (3, i64 (dep F : Int)), (4, .mp 0), (5, i64 (n : Int)), (27, mat R), (28, i64 (R.length : Int)), (29, i64 0)]) (H' := [some [.mpc (smap iV l)]]) rfl ?_ ?_) ?_
      · simp only [vwH, go_sem, ↓reduceIte, Nat.reduceEqDiff, Nat.reduceAdd, reduceCtorEq]
      · simp only [vwF, go_sem, ↓reduceIte, Nat.reduceEqDiff, Nat.reduceAdd, reduceCtorEq]
        simp [sub, fget]
      refine V_loop (α := Nat × List (ByteArray × Int)) (S := fun q => ([(0, .pto [i64 v, mat F] 0), (3, i64 (dep F : Int)), (4, .mp 0), (5, i64 (n : Int)), (27, mat R), (28, i64 (R.length : Int)), (29, i64 (q.1 : Int))], [some [.mpc (smap iV q.2)]])) (C := fun q => q.1 ≤ R.length ∧ MapSum q.2 (EN ++ evI F n q.1)) (μ := fun q => R.length - q.1) (0, l) ⟨Nat.zero_le _, by dsimp only; rw [hev0, List.append_nil]; exact h2⟩ ?_ ?_
      · exact Ref.to rfl (by simp [sub, fget])
      rintro ⟨i, l1⟩ ⟨i1, i2⟩
      dsimp only at i1 i2 ⊢
      (repeat first | simp only [go_sem, ↓reduceIte, Nat.reduceEqDiff, Nat.reduceAdd, reduceCtorEq] | with_reducible refine V_W ?_ | (with_reducible refine And.intro ?_ ?_; focus first | assumption | omega | decide | grind) | (with_reducible refine Br.mk ?_ ?_; focus (intros; omega)) | decide)
      refine ⟨fun hc1 => ?_, fun hc1 => ?_⟩
      · have hiR : i < R.length := by omega
        have hS := heS i hiR
        have hB := heI i i1
        have hRx := hrow _ (getD_mem hiR)
        have hv1 := hev1 i
        obtain ⟨EI, hEI⟩ : ∃ E, E = evI F n i := ⟨_, rfl⟩
        obtain ⟨x, hx⟩ : ∃ x, x = R.getD i [] := ⟨_, rfl⟩
        rw [← hEI, ← hx] at hS
        rw [← hEI] at hB hv1 i2
        rw [← hx] at hRx
        have hK := fun k => evK_succ n x k
        have hKB := fun k => evK_len (n := n) hRx.1 k
        have hK1 := fun k => evK_1 n x k
        have hK0 : evK n x 0 = [] := by simp [evK]
        (repeat first | simp only [go_sem, ↓reduceIte, Nat.reduceEqDiff, Nat.reduceAdd, reduceCtorEq] | with_reducible refine V_W ?_ | (with_reducible refine And.intro ?_ ?_; focus first | assumption | omega | decide | grind) | (with_reducible refine Br.mk ?_ ?_; focus (intros; omega)) | decide)
        simp only [← hx, go_sem, ↓reduceIte, Nat.reduceEqDiff, Nat.reduceAdd, reduceCtorEq]
        refine V_loop (α := Nat × List (ByteArray × Int)) (S := fun q => ([(0, .pto [i64 v, mat F] 0), (3, i64 (dep F : Int)), (4, .mp 0), (5, i64 (n : Int)), (7, ints x), (27, mat R), (28, i64 (R.length : Int)), (29, i64 (i : Int)), (33, i64 (n : Int)), (34, i64 (q.1 : Int))], [some [.mpc (smap iV q.2)]])) (C := fun q => q.1 ≤ n ∧ MapSum q.2 (EN ++ EI ++ evK n x q.1)) (μ := fun q => n - q.1) (0, l1) ⟨Nat.zero_le _, by dsimp only; rw [hK0, List.append_nil]; exact i2⟩ ?_ ?_
        · exact Ref.to rfl (by simp [sub, fget])
        rintro ⟨k, l2⟩ ⟨k1, k2⟩
        dsimp only at k1 k2 ⊢
        (repeat first | simp only [go_sem, ↓reduceIte, Nat.reduceEqDiff, Nat.reduceAdd, reduceCtorEq] | with_reducible refine V_W ?_ | (with_reducible refine And.intro ?_ ?_; focus first | assumption | omega | decide | grind) | (with_reducible refine Br.mk ?_ ?_; focus (intros; omega)) | decide)
        refine ⟨fun hc2 => ?_, fun hc2 => ?_⟩
        · have hpp := partsOf_z k x hRx.1 (by omega)
          have hpl := prt_len x k
          have h64 : 2 ^ x.length ≤ 2 ^ 6 := Nat.pow_le_pow_right (by decide) hRx.1
          have hKS := hK k
          have hKb := hKB k
          have hKo := hK1 k
          obtain ⟨EK, hEK⟩ : ∃ E, E = evK n x k := ⟨_, rfl⟩
          rw [← hEK] at hKS hKb hKo k2
          have hP0 := evP_zero n k x
          have hPS := fun j => evP_succ (n := n) (k := k) (G := x) (j := j)
          have hPB := fun j => evP_len (n := n) (k := k) (j := j) hRx.1
          have hP1 := fun j => evP_1 n k x j
          have hQr : ∀ p ∈ prt k x, p.length ≤ 6 ∧ Sml p := fun p hp => by
            have := ((prt_mem _ _ _).1 hp).1
            exact ⟨by have := this.length_le; omega, hRx.2.sub this⟩
          obtain ⟨Q, hQ⟩ : ∃ Q, Q = prt k x := ⟨_, rfl⟩
          rw [← hQ] at hpp hpl hKS hPS hQr
          (repeat first | simp only [go_sem, ↓reduceIte, Nat.reduceEqDiff, Nat.reduceAdd, reduceCtorEq] | with_reducible refine V_W ?_ | (with_reducible refine And.intro ?_ ?_; focus first | assumption | omega | decide | grind) | (with_reducible refine Br.mk ?_ ?_; focus (intros; omega)) | decide)
          refine call_pureG (hpp) (by simp only [go_sem, ↓reduceIte, Nat.reduceEqDiff, Nat.reduceAdd, reduceCtorEq] <;> rfl) ?_
          (repeat first | simp only [go_sem, ↓reduceIte, Nat.reduceEqDiff, Nat.reduceAdd, reduceCtorEq] | with_reducible refine V_W ?_ | (with_reducible refine And.intro ?_ ?_; focus first | assumption | omega | decide | grind) | (with_reducible refine Br.mk ?_ ?_; focus (intros; omega)) | decide)
          refine V_loop (α := Nat × List (ByteArray × Int)) (S := fun q => ([(0, .pto [i64 v, mat F] 0), (3, i64 (dep F : Int)), (4, .mp 0), (5, i64 (n : Int)), (7, ints x), (8, i64 (k : Int)), (27, mat R), (28, i64 (R.length : Int)), (29, i64 (i : Int)), (33, i64 (n : Int)), (34, i64 (k : Int)), (39, mat Q), (40, i64 (Q.length : Int)), (41, i64 (q.1 : Int))], [some [.mpc (smap iV q.2)]])) (C := fun q => q.1 ≤ Q.length ∧ MapSum q.2 (EN ++ EI ++ EK ++ evP n k x q.1)) (μ := fun q => Q.length - q.1) (0, l2) ⟨Nat.zero_le _, by dsimp only; rw [hP0, List.append_nil]; exact k2⟩ ?_ ?_
          · exact Ref.to rfl (by simp [sub, fget])
          rintro ⟨j, l3⟩ ⟨j1, j2⟩
          dsimp only at j1 j2 ⊢
          (repeat first | simp only [go_sem, ↓reduceIte, Nat.reduceEqDiff, Nat.reduceAdd, reduceCtorEq] | with_reducible refine V_W ?_ | (with_reducible refine And.intro ?_ ?_; focus first | assumption | omega | decide | grind) | (with_reducible refine Br.mk ?_ ?_; focus (intros; omega)) | decide)
          refine ⟨fun hc3 => ?_, fun hc3 => ?_⟩
          · have hjQ : j < Q.length := by omega
            have hst := hPS j hjQ
            have hjb := hPB j
            have hjo := hP1 j
            have hQp := hQr _ (getD_mem hjQ)
            obtain ⟨p, hpe⟩ : ∃ p, p = Q.getD j [] := ⟨_, rfl⟩
            rw [← hpe] at hst hQp
            have hkp := kT_c p hQp.2 (by omega)
            obtain ⟨EE, hEE⟩ : ∃ E, E = EN ++ EI ++ EK ++ evP n k x j := ⟨_, rfl⟩
            rw [← hEE] at j2
            have hone : Ev1 EE := by rw [hEE]; exact ((Ev1.app (Ev1.app hev2 hv1) hKo).app hjo)
            have hlen : EE.length ≤ 100000000 := by
              rw [hEE]
              simp only [List.length_append]
              omega
            have hsb := sumE_b p EE hone
            rw [← j2 p hQp.2] at hsb
            have hput := fun s => j2.put hQp.2 s
            have hsg : sg n k = 1 ∧ (n - k) % 2 = 1 ∨ sg n k = -1 ∧ (n - k) % 2 = 0 := by
              unfold sg
              split
              · exact .inl ⟨rfl, by assumption⟩
              · exact .inr ⟨rfl, by omega⟩
            have hrem : Int.tmod ((n : Int) - k) 2 = (((n - k) % 2 : Nat) : Int) := by
              rw [show (n : Int) - k = ((n - k : Nat) : Int) by omega]
              exact (Int.ofNat_tmod _ _).symm
            have hput2 : ∀ s, s = sg n k → MapSum (iput (kT p) ((ilook (kT p) l3).getD 0 + s) l3) (EN ++ EI ++ EK ++ evP n k x (j + 1)) := fun s hs => by
              have := hput s
              rw [hst, ← List.append_assoc, ← hEE, ← hs]
              exact this
            (repeat first | simp only [go_sem, ↓reduceIte, Nat.reduceEqDiff, Nat.reduceAdd, reduceCtorEq] | with_reducible refine V_W ?_ | (with_reducible refine And.intro ?_ ?_; focus first | assumption | omega | decide | grind) | (with_reducible refine Br.mk ?_ ?_; focus (intros; omega)) | decide)
            simp only [hrem, ← hpe, go_sem, ↓reduceIte, Nat.reduceEqDiff, Nat.reduceAdd, reduceCtorEq]
            (repeat first | simp only [go_sem, ↓reduceIte, Nat.reduceEqDiff, Nat.reduceAdd, reduceCtorEq] | with_reducible refine V_W ?_ | (with_reducible refine And.intro ?_ ?_; focus first | assumption | omega | decide | grind) | (with_reducible refine Br.mk ?_ ?_; focus (intros; omega)) | decide)
            refine ⟨fun hs => ?_, fun hs => ?_⟩
            · have hs1 : sg n k = 1 := by rcases hsg with h | h; exact h.1; omega
              refine pureC (hkp) (by simp only [go_sem, ↓reduceIte, Nat.reduceEqDiff, Nat.reduceAdd, reduceCtorEq] <;> rfl) (by first | rfl | simp only [go_sem, ↓reduceIte, Nat.reduceEqDiff, Nat.reduceAdd, reduceCtorEq]) ?_
              (repeat first | simp only [go_sem, ↓reduceIte, Nat.reduceEqDiff, Nat.reduceAdd, reduceCtorEq] | with_reducible refine V_W ?_ | (with_reducible refine And.intro ?_ ?_; focus first | assumption | omega | decide | grind) | (with_reducible refine Br.mk ?_ ?_; focus (intros; omega)) | decide)
              rcases look_cases (ilook (kT p) l3) with ⟨e1, e2⟩ | ⟨z, e1, e2⟩
              · simp only [e1, Option.map_none, go_sem, ↓reduceIte, Nat.reduceEqDiff, Nat.reduceAdd, reduceCtorEq]
                (repeat first | simp only [go_sem, ↓reduceIte, Nat.reduceEqDiff, Nat.reduceAdd, reduceCtorEq] | with_reducible refine V_W ?_ | (with_reducible refine And.intro ?_ ?_; focus first | assumption | omega | decide | grind) | (with_reducible refine Br.mk ?_ ?_; focus (intros; omega)) | decide)
                refine ⟨(j + 1, iput (kT p) (0 + 1) l3), ⟨by simp only; omega, ?_⟩, by simp only; omega, Ref.to rfl (by simp [sub, fget])⟩
                have := hput2 1 hs1.symm
                rw [e2] at this
                exact this
              · rw [e2] at hsb
                simp only [e1, Option.map_some, iV, go_sem, ↓reduceIte, Nat.reduceEqDiff, Nat.reduceAdd, reduceCtorEq]
                (repeat first | simp only [go_sem, ↓reduceIte, Nat.reduceEqDiff, Nat.reduceAdd, reduceCtorEq] | with_reducible refine V_W ?_ | (with_reducible refine And.intro ?_ ?_; focus first | assumption | omega | decide | grind) | (with_reducible refine Br.mk ?_ ?_; focus (intros; omega)) | decide)
                refine ⟨(j + 1, iput (kT p) (z + 1) l3), ⟨by simp only; omega, ?_⟩, by simp only; omega, Ref.to rfl (by simp [sub, fget])⟩
                have := hput2 1 hs1.symm
                rw [e2] at this
                exact this
            · have hs1 : sg n k = -1 := by rcases hsg with h | h; omega; exact h.1
              refine pureC (hkp) (by simp only [go_sem, ↓reduceIte, Nat.reduceEqDiff, Nat.reduceAdd, reduceCtorEq] <;> rfl) (by first | rfl | simp only [go_sem, ↓reduceIte, Nat.reduceEqDiff, Nat.reduceAdd, reduceCtorEq]) ?_
              (repeat first | simp only [go_sem, ↓reduceIte, Nat.reduceEqDiff, Nat.reduceAdd, reduceCtorEq] | with_reducible refine V_W ?_ | (with_reducible refine And.intro ?_ ?_; focus first | assumption | omega | decide | grind) | (with_reducible refine Br.mk ?_ ?_; focus (intros; omega)) | decide)
              rcases look_cases (ilook (kT p) l3) with ⟨e1, e2⟩ | ⟨z, e1, e2⟩
              · simp only [e1, Option.map_none, go_sem, ↓reduceIte, Nat.reduceEqDiff, Nat.reduceAdd, reduceCtorEq]
                (repeat first | simp only [go_sem, ↓reduceIte, Nat.reduceEqDiff, Nat.reduceAdd, reduceCtorEq] | with_reducible refine V_W ?_ | (with_reducible refine And.intro ?_ ?_; focus first | assumption | omega | decide | grind) | (with_reducible refine Br.mk ?_ ?_; focus (intros; omega)) | decide)
                refine ⟨(j + 1, iput (kT p) (0 - 1) l3), ⟨by simp only; omega, ?_⟩, by simp only; omega, Ref.to rfl (by simp [sub, fget])⟩
                have := hput2 (-1) hs1.symm
                rw [e2] at this
                exact this
              · rw [e2] at hsb
                simp only [e1, Option.map_some, iV, go_sem, ↓reduceIte, Nat.reduceEqDiff, Nat.reduceAdd, reduceCtorEq]
                (repeat first | simp only [go_sem, ↓reduceIte, Nat.reduceEqDiff, Nat.reduceAdd, reduceCtorEq] | with_reducible refine V_W ?_ | (with_reducible refine And.intro ?_ ?_; focus first | assumption | omega | decide | grind) | (with_reducible refine Br.mk ?_ ?_; focus (intros; omega)) | decide)
                refine ⟨(j + 1, iput (kT p) (z - 1) l3), ⟨by simp only; omega, ?_⟩, by simp only; omega, Ref.to rfl (by simp [sub, fget])⟩
                have := hput2 (-1) hs1.symm
                rw [e2] at this
                exact this
          · obtain rfl : j = Q.length := by omega
            (repeat first | simp only [go_sem, ↓reduceIte, Nat.reduceEqDiff, Nat.reduceAdd, reduceCtorEq] | with_reducible refine V_W ?_ | (with_reducible refine And.intro ?_ ?_; focus first | assumption | omega | decide | grind) | (with_reducible refine Br.mk ?_ ?_; focus (intros; omega)) | decide)
            refine ⟨(k + 1, l3), ⟨by simp only; omega, ?_⟩, by simp only; omega, Ref.to rfl (by simp [sub, fget])⟩
            dsimp only
            rw [hKS, ← List.append_assoc]
            exact j2
        · obtain rfl : k = n := by omega
          (repeat first | simp only [go_sem, ↓reduceIte, Nat.reduceEqDiff, Nat.reduceAdd, reduceCtorEq] | with_reducible refine V_W ?_ | (with_reducible refine And.intro ?_ ?_; focus first | assumption | omega | decide | grind) | (with_reducible refine Br.mk ?_ ?_; focus (intros; omega)) | decide)
          refine ⟨(i + 1, l2), ⟨by simp only; omega, ?_⟩, by simp only; omega, Ref.to rfl (by simp [sub, fget])⟩
          dsimp only
          rw [hS, ← List.append_assoc]
          exact k2
      · obtain rfl : i = R.length := by omega
        (repeat first | simp only [go_sem, ↓reduceIte, Nat.reduceEqDiff, Nat.reduceAdd, reduceCtorEq] | with_reducible refine V_W ?_ | (with_reducible refine And.intro ?_ ?_; focus first | assumption | omega | decide | grind) | (with_reducible refine Br.mk ?_ ?_; focus (intros; omega)) | decide)
        refine ⟨(m + 1, l1), ⟨by simp only; omega, ?_⟩, by simp only; omega, Ref.to rfl (by simp [sub, fget, hn0])⟩
        dsimp only
        rw [← hn0, heN]
        exact i2
    · obtain rfl : m = dep F := by omega
      have heB := evN_len hr hl (dep F) hd
      have hev2 := evN_1 F (dep F)
      have hEu : ∀ k, EulA F (k + 1) ↔ EulA F k ∧ ∀ x ∈ fcs F k, sumE (evN F (dep F)) x = 2 * (((dep F : Int) - k) % 2) := fun k => by
        constructor
        · exact fun h => ⟨fun j hj => h j (by omega), fun x hx => h k (by omega) x hx⟩
        · rintro ⟨h1, h2⟩ j hj
          by_cases e : j = k
          · subst e; exact h2
          · exact h1 j (by omega)
      obtain ⟨EN, hEN⟩ : ∃ E, E = evN F (dep F) := ⟨_, rfl⟩
      have hEuD : ∀ k x, k < dep F → x ∈ fcs F k → sumE EN x ≠ 2 * (((dep F : Int) - k) % 2) → ¬ EulA F (dep F) := fun k x hk hx hne hE => hne (by rw [hEN]; exact hE k hk x hx)
      rw [← hEN] at h2 heB hev2 hEu
      (repeat first | simp only [go_sem, ↓reduceIte, Nat.reduceEqDiff, Nat.reduceAdd, reduceCtorEq] | with_reducible refine V_W ?_ | (with_reducible refine And.intro ?_ ?_; focus first | assumption | omega | decide | grind) | (with_reducible refine Br.mk ?_ ?_; focus (intros; omega)) | decide)
      refine V_loop (α := Nat) (S := fun k => ([(0, .pto [i64 v, mat F] 0), (3, i64 (dep F : Int)), (4, .mp 0), (63, i64 (dep F : Int)), (64, i64 (k : Int))], [some [.mpc (smap iV l)]])) (C := fun k => k ≤ dep F ∧ EulA F k) (μ := fun k => dep F - k) 0 ⟨Nat.zero_le _, fun k hk => by omega⟩ ?_ ?_
      · exact Ref.to rfl (by simp [sub, fget])
      rintro k ⟨k1, k2⟩
      (repeat first | simp only [go_sem, ↓reduceIte, Nat.reduceEqDiff, Nat.reduceAdd, reduceCtorEq] | with_reducible refine V_W ?_ | (with_reducible refine And.intro ?_ ?_; focus first | assumption | omega | decide | grind) | (with_reducible refine Br.mk ?_ ?_; focus (intros; omega)) | decide)
      refine ⟨fun hc1 => ?_, fun hc1 => ?_⟩
      · have hf := facesWith_z v F k (by omega) hl hr
        have hfl := fcs_len hr k
        have hrow : ∀ G ∈ fcs F k, G.length ≤ 6 ∧ Sml G := fun G hG => ⟨fcs_6 hr k G hG, h.sml hG⟩
        have hEk := hEu k
        have hEd := fun x => hEuD k x (by omega)
        obtain ⟨R, hR⟩ : ∃ R, R = fcs F k := ⟨_, rfl⟩
        rw [← hR] at hf hfl hrow hEk hEd
        (repeat first | simp only [go_sem, ↓reduceIte, Nat.reduceEqDiff, Nat.reduceAdd, reduceCtorEq] | with_reducible refine V_W ?_ | (with_reducible refine And.intro ?_ ?_; focus first | assumption | omega | decide | grind) | (with_reducible refine Br.mk ?_ ?_; focus (intros; omega)) | decide)
        refine call_pureG (hf) (by simp only [go_sem, ↓reduceIte, Nat.reduceEqDiff, Nat.reduceAdd, reduceCtorEq] <;> rfl) ?_
        (repeat first | simp only [go_sem, ↓reduceIte, Nat.reduceEqDiff, Nat.reduceAdd, reduceCtorEq] | with_reducible refine V_W ?_ | (with_reducible refine And.intro ?_ ?_; focus first | assumption | omega | decide | grind) | (with_reducible refine Br.mk ?_ ?_; focus (intros; omega)) | decide)
        have htk : ∀ Hx : Heap, (List.take R.length (R.map ints)).map (frz Hx 5) = R.map ints := fun Hx => by
          rw [List.take_of_length_le (by simp), map_frz_rows]
        refine V_ref (Ref.sel [0] (F' := [(0, .pto [i64 v, mat F] 0), (3, i64 (dep F : Int)), (4, .mp 0), (11, i64 (k : Int)), (63, i64 (dep F : Int)), (64, i64 (k : Int)), (69, mat R), (70, i64 (R.length : Int)), (71, i64 0)]) (H' := [some [.mpc (smap iV l)]]) rfl ?_ ?_) ?_
        · simp only [vwH, go_sem, ↓reduceIte, Nat.reduceEqDiff, Nat.reduceAdd, reduceCtorEq]
        · simp only [vwF, go_sem, ↓reduceIte, Nat.reduceEqDiff, Nat.reduceAdd, reduceCtorEq]
          simp [sub, fget]
        refine V_loop (α := Nat) (S := fun i => ([(0, .pto [i64 v, mat F] 0), (3, i64 (dep F : Int)), (4, .mp 0), (11, i64 (k : Int)), (63, i64 (dep F : Int)), (64, i64 (k : Int)), (69, mat R), (70, i64 (R.length : Int)), (71, i64 (i : Int))], [some [.mpc (smap iV l)]])) (C := fun i => i ≤ R.length ∧ ∀ x ∈ R.take i, sumE EN x = 2 * (((dep F : Int) - k) % 2)) (μ := fun i => R.length - i) 0 ⟨Nat.zero_le _, by simp⟩ ?_ ?_
        · exact Ref.to rfl (by simp [sub, fget])
        rintro i ⟨i1, i2⟩
        (repeat first | simp only [go_sem, ↓reduceIte, Nat.reduceEqDiff, Nat.reduceAdd, reduceCtorEq] | with_reducible refine V_W ?_ | (with_reducible refine And.intro ?_ ?_; focus first | assumption | omega | decide | grind) | (with_reducible refine Br.mk ?_ ?_; focus (intros; omega)) | decide)
        refine ⟨fun hc2 => ?_, fun hc2 => ?_⟩
        · have hiR : i < R.length := by omega
          have hmem := getD_mem hiR
          have hRx := hrow _ hmem
          have hEd2 := hEd _ hmem
          have htk1 := take_one hiR
          obtain ⟨x, hx⟩ : ∃ x, x = R.getD i [] := ⟨_, rfl⟩
          rw [← hx] at hRx hEd2 htk1
          have hkp := kT_c x hRx.2 (by omega)
          have hsb := sumE_b x EN hev2
          have hval := h2 x hRx.2
          have hrem : Int.tmod ((dep F : Int) - k) 2 = ((dep F : Int) - k) % 2 := by
            rw [Int.tmod_eq_emod_of_nonneg (by omega)]
          (repeat first | simp only [go_sem, ↓reduceIte, Nat.reduceEqDiff, Nat.reduceAdd, reduceCtorEq] | with_reducible refine V_W ?_ | (with_reducible refine And.intro ?_ ?_; focus first | assumption | omega | decide | grind) | (with_reducible refine Br.mk ?_ ?_; focus (intros; omega)) | decide)
          simp only [← hx, go_sem, ↓reduceIte, Nat.reduceEqDiff, Nat.reduceAdd, reduceCtorEq]
          refine pureC (hkp) (by simp only [go_sem, ↓reduceIte, Nat.reduceEqDiff, Nat.reduceAdd, reduceCtorEq] <;> rfl) (by first | rfl | simp only [go_sem, ↓reduceIte, Nat.reduceEqDiff, Nat.reduceAdd, reduceCtorEq]) ?_
          (repeat first | simp only [go_sem, ↓reduceIte, Nat.reduceEqDiff, Nat.reduceAdd, reduceCtorEq] | with_reducible refine V_W ?_ | (with_reducible refine And.intro ?_ ?_; focus first | assumption | omega | decide | grind) | (with_reducible refine Br.mk ?_ ?_; focus (intros; omega)) | decide)
          rcases look_cases (ilook (kT x) l) with ⟨e1, e2⟩ | ⟨z, e1, e2⟩
          · rw [e2] at hval
            simp only [e1, Option.map_none, hrem, go_sem, ↓reduceIte, Nat.reduceEqDiff, Nat.reduceAdd, reduceCtorEq]
            (repeat first | simp only [go_sem, ↓reduceIte, Nat.reduceEqDiff, Nat.reduceAdd, reduceCtorEq] | with_reducible refine V_W ?_ | (with_reducible refine And.intro ?_ ?_; focus first | assumption | omega | decide | grind) | (with_reducible refine Br.mk ?_ ?_; focus (intros; omega)) | decide)
            refine ⟨fun hs => ?_, fun hs => ?_⟩
            · rw [decide_eq_false (hEd2 (by omega))]
              (repeat first | simp only [go_sem, ↓reduceIte, Nat.reduceEqDiff, Nat.reduceAdd, reduceCtorEq] | with_reducible refine V_W ?_ | (with_reducible refine And.intro ?_ ?_; focus first | assumption | omega | decide | grind) | (with_reducible refine Br.mk ?_ ?_; focus (intros; omega)) | decide)
            · (repeat first | simp only [go_sem, ↓reduceIte, Nat.reduceEqDiff, Nat.reduceAdd, reduceCtorEq] | with_reducible refine V_W ?_ | (with_reducible refine And.intro ?_ ?_; focus first | assumption | omega | decide | grind) | (with_reducible refine Br.mk ?_ ?_; focus (intros; omega)) | decide)
              refine ⟨i + 1, ⟨by omega, fun y hy => ?_⟩, by omega, Ref.to rfl (by simp [sub, fget])⟩
              rw [htk1] at hy
              rcases List.mem_append.1 hy with hy | hy
              · exact i2 y hy
              · rw [List.mem_singleton.1 hy]; omega
          · rw [e2] at hval
            simp only [e1, Option.map_some, iV, hrem, go_sem, ↓reduceIte, Nat.reduceEqDiff, Nat.reduceAdd, reduceCtorEq]
            (repeat first | simp only [go_sem, ↓reduceIte, Nat.reduceEqDiff, Nat.reduceAdd, reduceCtorEq] | with_reducible refine V_W ?_ | (with_reducible refine And.intro ?_ ?_; focus first | assumption | omega | decide | grind) | (with_reducible refine Br.mk ?_ ?_; focus (intros; omega)) | decide)
            refine ⟨fun hs => ?_, fun hs => ?_⟩
            · rw [decide_eq_false (hEd2 (by omega))]
              (repeat first | simp only [go_sem, ↓reduceIte, Nat.reduceEqDiff, Nat.reduceAdd, reduceCtorEq] | with_reducible refine V_W ?_ | (with_reducible refine And.intro ?_ ?_; focus first | assumption | omega | decide | grind) | (with_reducible refine Br.mk ?_ ?_; focus (intros; omega)) | decide)
            · (repeat first | simp only [go_sem, ↓reduceIte, Nat.reduceEqDiff, Nat.reduceAdd, reduceCtorEq] | with_reducible refine V_W ?_ | (with_reducible refine And.intro ?_ ?_; focus first | assumption | omega | decide | grind) | (with_reducible refine Br.mk ?_ ?_; focus (intros; omega)) | decide)
              refine ⟨i + 1, ⟨by omega, fun y hy => ?_⟩, by omega, Ref.to rfl (by simp [sub, fget])⟩
              rw [htk1] at hy
              rcases List.mem_append.1 hy with hy | hy
              · exact i2 y hy
              · rw [List.mem_singleton.1 hy]; omega
        · obtain rfl : i = R.length := by omega
          rw [List.take_length] at i2
          (repeat first | simp only [go_sem, ↓reduceIte, Nat.reduceEqDiff, Nat.reduceAdd, reduceCtorEq] | with_reducible refine V_W ?_ | (with_reducible refine And.intro ?_ ?_; focus first | assumption | omega | decide | grind) | (with_reducible refine Br.mk ?_ ?_; focus (intros; omega)) | decide)
          exact ⟨k + 1, ⟨by omega, hEk.2 ⟨k2, i2⟩⟩, by omega, Ref.to rfl (by simp [sub, fget])⟩
      · obtain rfl : k = dep F := by omega
        rw [decide_eq_true k2]
        (repeat first | simp only [go_sem, ↓reduceIte, Nat.reduceEqDiff, Nat.reduceAdd, reduceCtorEq] | with_reducible refine V_W ?_ | (with_reducible refine And.intro ?_ ?_; focus first | assumption | omega | decide | grind) | (with_reducible refine Br.mk ?_ ?_; focus (intros; omega)) | decide)
  · rw [decide_eq_false hP] at hpu
    have e0 : decide (PurC F ∧ EulA F (dep F)) = false := by simp [hP]
    rw [e0]
    refine pureV0 ok44 rfl rfl ?_; unfold c44
    (repeat first | simp only [go_sem, ↓reduceIte, Nat.reduceEqDiff, Nat.reduceAdd, reduceCtorEq] | with_reducible refine V_W ?_ | (with_reducible refine And.intro ?_ ?_; focus first | assumption | omega | decide | grind) | (with_reducible refine Br.mk ?_ ?_; focus (intros; omega)) | decide)
    refine pureC (hpu) (by simp only [go_sem, ↓reduceIte, Nat.reduceEqDiff, Nat.reduceAdd, reduceCtorEq] <;> rfl) (by first | rfl | simp only [go_sem, ↓reduceIte, Nat.reduceEqDiff, Nat.reduceAdd, reduceCtorEq]) ?_
    (repeat first | simp only [go_sem, ↓reduceIte, Nat.reduceEqDiff, Nat.reduceAdd, reduceCtorEq] | with_reducible refine V_W ?_ | (with_reducible refine And.intro ?_ ?_; focus first | assumption | omega | decide | grind) | (with_reducible refine Br.mk ?_ ?_; focus (intros; omega)) | decide)
noncomputable def eiA (v : Int) (F : List (List Int)) : Bool := decide (CxOk v F) && eiB F
theorem implEi_c (v : Int) (F : List (List Int)) (hl : F.length ≤ 1099511627776) (hr : ∀ x ∈ F, x.length ≤ 1099511627776) : Pure Tryd.prog 11 [cpxA v F] (.tup [bl (eiA v F), i64 (okC v F)]) [] := by
  have hi := isComplex_c v F hl hr
  unfold eiA okC
  by_cases h : CxOk v F
  · have he := isEulerianM_c v F h
    rw [if_pos h]
    rw [decide_eq_true h] at hi ⊢
    rw [Bool.true_and]
    generalize eiB F = b at he ⊢
    refine pureV0 ok11 rfl rfl ?_; unfold c11
    (repeat first | simp only [go_sem, ↓reduceIte, Nat.reduceEqDiff, Nat.reduceAdd, reduceCtorEq] | with_reducible refine V_W ?_ | (with_reducible refine And.intro ?_ ?_; focus first | assumption | omega | decide | grind) | (with_reducible refine Br.mk ?_ ?_; focus (intros; omega)) | decide)
    refine pureC (hi) (by simp only [go_sem, ↓reduceIte, Nat.reduceEqDiff, Nat.reduceAdd, reduceCtorEq] <;> rfl) (by first | rfl | simp only [go_sem, ↓reduceIte, Nat.reduceEqDiff, Nat.reduceAdd, reduceCtorEq]) ?_
    (repeat first | simp only [go_sem, ↓reduceIte, Nat.reduceEqDiff, Nat.reduceAdd, reduceCtorEq] | with_reducible refine V_W ?_ | (with_reducible refine And.intro ?_ ?_; focus first | assumption | omega | decide | grind) | (with_reducible refine Br.mk ?_ ?_; focus (intros; omega)) | decide)
    refine pureC (he) (by simp only [go_sem, ↓reduceIte, Nat.reduceEqDiff, Nat.reduceAdd, reduceCtorEq] <;> rfl) (by first | rfl | simp only [go_sem, ↓reduceIte, Nat.reduceEqDiff, Nat.reduceAdd, reduceCtorEq]) ?_
    (repeat first | simp only [go_sem, ↓reduceIte, Nat.reduceEqDiff, Nat.reduceAdd, reduceCtorEq] | with_reducible refine V_W ?_ | (with_reducible refine And.intro ?_ ?_; focus first | assumption | omega | decide | grind) | (with_reducible refine Br.mk ?_ ?_; focus (intros; omega)) | decide)
  · rw [if_neg h]
    rw [decide_eq_false h] at hi ⊢
    rw [Bool.false_and]
    refine pureV0 ok11 rfl rfl ?_; unfold c11
    (repeat first | simp only [go_sem, ↓reduceIte, Nat.reduceEqDiff, Nat.reduceAdd, reduceCtorEq] | with_reducible refine V_W ?_ | (with_reducible refine And.intro ?_ ?_; focus first | assumption | omega | decide | grind) | (with_reducible refine Br.mk ?_ ?_; focus (intros; omega)) | decide)
    refine pureC (hi) (by simp only [go_sem, ↓reduceIte, Nat.reduceEqDiff, Nat.reduceAdd, reduceCtorEq] <;> rfl) (by first | rfl | simp only [go_sem, ↓reduceIte, Nat.reduceEqDiff, Nat.reduceAdd, reduceCtorEq]) ?_
    (repeat first | simp only [go_sem, ↓reduceIte, Nat.reduceEqDiff, Nat.reduceAdd, reduceCtorEq] | with_reducible refine V_W ?_ | (with_reducible refine And.intro ?_ ?_; focus first | assumption | omega | decide | grind) | (with_reducible refine Br.mk ?_ ?_; focus (intros; omega)) | decide)
set_option maxHeartbeats 4000000 in
theorem l17Link_p (v : Int) (F : List (List Int)) (x : List Int) (hl : F.length ≤ 400) (hr : ∀ x ∈ F, x.length ≤ 6) (hx : x.length ≤ 6) : Pure Tryd.prog 39 [cpxA v F, ints x] (.sl 0 1 0 (lnk F x).length) [some ((lnk F x).map oints)] := by
  have hrow : ∀ i : Nat, (F.getD i []).length ≤ 6 := fun i => getD_row6 hr
  refine pureRV ok39 rfl ?_; unfold c39
  (repeat first | simp only [go_sem, ↓reduceIte, Nat.reduceEqDiff, Nat.reduceAdd, reduceCtorEq] | with_reducible refine V_W ?_ | (with_reducible refine And.intro ?_ ?_; focus first | assumption | omega | decide | grind) | (with_reducible refine Br.mk ?_ ?_; focus (intros; omega)) | decide)
  refine V_loop (α := Nat) (S := fun i => ([(1, ints x), (2, .ref 0 0), (5, .sl 1 1 0 (lnk (F.take i) x).length), (6, i64 (i : Int))], [some [i64 v, mat F], some ((lnk (F.take i) x).map oints)])) (C := fun i => i ≤ F.length) (μ := fun i => F.length - i) 0 (Nat.zero_le _) (Ref.to (by simp [lnk]) (by simp [sub, fget, lnk])) ?_
  intro i hi
  have hLl := lnk_len (F.take i) x
  rw [List.length_take] at hLl
  obtain ⟨L, hL⟩ : ∃ L, L = lnk (F.take i) x := ⟨_, rfl⟩
  rw [← hL] at hLl ⊢
  obtain ⟨Ri, hRi⟩ : ∃ Ri, Ri = L.map oints := ⟨_, rfl⟩
  have hRl : Ri.length = L.length := by rw [hRi, List.length_map]
  have hrn : ∀ τ, rnmL τ Ri = Ri := fun τ => by rw [hRi]; exact rnmL_orows τ _
  have hrn2 : ∀ τ, Ri.map (rnm τ) = Ri := fun τ => by have := hrn τ; rwa [rnmL_map] at this
  rw [← hRi]
  (repeat first | simp only [go_sem, ↓reduceIte, Nat.reduceEqDiff, Nat.reduceAdd, reduceCtorEq] | with_reducible refine V_W ?_ | (with_reducible refine And.intro ?_ ?_; focus first | assumption | omega | decide | grind) | (with_reducible refine Br.mk ?_ ?_; focus (intros; omega)) | decide)
  refine ⟨fun hc => ?_, fun hc => ?_⟩
  · have hri := hrow i
    have hrt := lnk_succ (F := F) (x := x) (i := i) (by omega)
    rw [← hL] at hrt
    have hwi := withinL_c x (F.getD i []) (by omega) (by omega)
    (repeat first | simp only [go_sem, ↓reduceIte, Nat.reduceEqDiff, Nat.reduceAdd, reduceCtorEq] | with_reducible refine V_W ?_ | (with_reducible refine And.intro ?_ ?_; focus first | assumption | omega | decide | grind) | (with_reducible refine Br.mk ?_ ?_; focus (intros; omega)) | decide)
    refine pureC (hwi) (by simp only [go_sem, ↓reduceIte, Nat.reduceEqDiff, Nat.reduceAdd, reduceCtorEq] <;> rfl) (by first | rfl | simp only [go_sem, ↓reduceIte, Nat.reduceEqDiff, Nat.reduceAdd, reduceCtorEq]) ?_
    by_cases hw : Win x (F.getD i [])
    · rw [if_pos hw] at hrt
      have hle := l17Without_p (F.getD i []) x (by omega) (by omega)
      have hml := mns_len (F.getD i []) x
      change Pure Tryd.prog 47 _ (.sl 0 1 0 (mns (F.getD i []) x).length) [some (intsC (mns (F.getD i []) x))] at hle
      generalize mns (F.getD i []) x = y at hle hml hrt
      simp only [decide_eq_true hw, go_sem, ↓reduceIte, Nat.reduceEqDiff, Nat.reduceAdd, reduceCtorEq]
      (repeat first | simp only [go_sem, ↓reduceIte, Nat.reduceEqDiff, Nat.reduceAdd, reduceCtorEq] | with_reducible refine V_W ?_ | (with_reducible refine And.intro ?_ ?_; focus first | assumption | omega | decide | grind) | (with_reducible refine Br.mk ?_ ?_; focus (intros; omega)) | decide)
      refine pureC (hle) (by simp only [go_sem, ↓reduceIte, Nat.reduceEqDiff, Nat.reduceAdd, reduceCtorEq] <;> rfl) (by first | rfl | simp only [go_sem, ↓reduceIte, Nat.reduceEqDiff, Nat.reduceAdd, reduceCtorEq]) ?_
      (repeat first | simp only [go_sem, ↓reduceIte, Nat.reduceEqDiff, Nat.reduceAdd, reduceCtorEq] | with_reducible refine V_W ?_ | (with_reducible refine And.intro ?_ ?_; focus first | assumption | omega | decide | grind) | (with_reducible refine Br.mk ?_ ?_; focus (intros; omega)) | decide)
      rw [List.take_of_length_le (by omega : Ri.length ≤ L.length)]
      refine ⟨i + 1, by omega, by omega, (Ref.close 4 L.length 2 (k := 1) (n := y.length) (cs := Ri ++ [.sl 2 1 0 y.length]) (cs2 := intsC y) rfl (by rw [List.getElem?_append_right (by omega), hRl, Nat.sub_self]; rfl) rfl (by decide) (by simp [intsC])).trans (Ref.gc [0, 4] rfl ?_ (by rw [hrt]; simp [sub, fget, go_sem, ↓reduceIte, Nat.reduceEqDiff, Nat.reduceAdd, reduceCtorEq]))⟩
      have hse : (Ri ++ [AV.sl 2 1 0 y.length]).set L.length (.osl 1 y.length (intsC y)) = Ri ++ [oints y] := by
        rw [List.set_append_right _ _ (by omega), hRl, Nat.sub_self]
        rfl
      simp only [hse, go_sem, ↓reduceIte, Nat.reduceEqDiff, Nat.reduceAdd, reduceCtorEq]
      rw [hrt]
      simp [rnmL_map, rnm, hrn2, intsC, rnmL_ints, hRi]
    · rw [if_neg hw, List.append_nil] at hrt
      simp only [decide_eq_false hw, go_sem, ↓reduceIte, Nat.reduceEqDiff, Nat.reduceAdd, reduceCtorEq]
      (repeat first | simp only [go_sem, ↓reduceIte, Nat.reduceEqDiff, Nat.reduceAdd, reduceCtorEq] | with_reducible refine V_W ?_ | (with_reducible refine And.intro ?_ ?_; focus first | assumption | omega | decide | grind) | (with_reducible refine Br.mk ?_ ?_; focus (intros; omega)) | decide)
      refine ⟨i + 1, by omega, by omega, Ref.to ?_ (by rw [hrt]; simp [sub, fget])⟩
      rw [hrt, hRi]
  · obtain rfl : i = F.length := by omega
    rw [List.take_length] at hL
    (repeat first | simp only [go_sem, ↓reduceIte, Nat.reduceEqDiff, Nat.reduceAdd, reduceCtorEq] | with_reducible refine V_W ?_ | (with_reducible refine And.intro ?_ ?_; focus first | assumption | omega | decide | grind) | (with_reducible refine Br.mk ?_ ?_; focus (intros; omega)) | decide)
    rw [hRi, hL]
    exact Ref.gc [1] rfl (by simp only [go_sem, ↓reduceIte, Nat.reduceEqDiff, Nat.reduceAdd, reduceCtorEq]) (by simp [sub, fget, go_sem, ↓reduceIte, Nat.reduceEqDiff, Nat.reduceAdd, reduceCtorEq])
set_option maxHeartbeats 8000000 in
theorem specEi_c (v : Int) (F : List (List Int)) (hl0 : F.length ≤ 1099511627776) (hr0 : ∀ x ∈ F, x.length ≤ 1099511627776) : Pure Tryd.prog 9 [cpxA v F] (.tup [bl (eiA v F), i64 (okC v F)]) [] := by
  have hi := l17Is_c v F hl0 hr0
  have hp := pure17_c v F hl0 hr0
  unfold eiA okC
  by_cases h : CxOk v F
  · rw [if_pos h]
    rw [decide_eq_true h] at hi ⊢
    rw [Bool.true_and]
    unfold eiB
    obtain ⟨hl, hr⟩ := h.six
    have hSR := h.sst
    have hd : dep F ≤ 6 := dep_le.2 hr
    by_cases hP : PurC F
    · have e0 : decide (PurC F ∧ EulA F (dep F)) = decide (EulA F (dep F)) := by simp [hP]
      rw [e0]
      rw [decide_eq_true hP] at hp
      have hsz := size17_c v F hl0 (fun i => by have := getD_row6 (i := i) hr; omega)
      have htop := eulA_top (F := F) hSR
      have hEu : ∀ k, EulA F (k + 1) ↔ EulA F k ∧ ∀ x ∈ fcs F k, sumE (evN F (dep F)) x = 2 * (((dep F : Int) - k) % 2) := fun k => by
        constructor
        · exact fun h => ⟨fun j hj => h j (by omega), fun x hx => h k (by omega) x hx⟩
        · rintro ⟨h1, h2⟩ j hj
          by_cases e : j = k
          · subst e; exact h2
          · exact h1 j (by omega)
      refine pureVg [] ok9 rfl ?_; unfold c9
      (repeat first | simp only [go_sem, ↓reduceIte, Nat.reduceEqDiff, Nat.reduceAdd, reduceCtorEq] | with_reducible refine V_W ?_ | (with_reducible refine And.intro ?_ ?_; focus first | assumption | omega | decide | grind) | (with_reducible refine Br.mk ?_ ?_; focus (intros; omega)) | decide)
      refine pureC (hi) (by simp only [go_sem, ↓reduceIte, Nat.reduceEqDiff, Nat.reduceAdd, reduceCtorEq] <;> rfl) (by first | rfl | simp only [go_sem, ↓reduceIte, Nat.reduceEqDiff, Nat.reduceAdd, reduceCtorEq]) ?_
      (repeat first | simp only [go_sem, ↓reduceIte, Nat.reduceEqDiff, Nat.reduceAdd, reduceCtorEq] | with_reducible refine V_W ?_ | (with_reducible refine And.intro ?_ ?_; focus first | assumption | omega | decide | grind) | (with_reducible refine Br.mk ?_ ?_; focus (intros; omega)) | decide)
      refine pureC (hp) (by simp only [go_sem, ↓reduceIte, Nat.reduceEqDiff, Nat.reduceAdd, reduceCtorEq] <;> rfl) (by first | rfl | simp only [go_sem, ↓reduceIte, Nat.reduceEqDiff, Nat.reduceAdd, reduceCtorEq]) ?_
      (repeat first | simp only [go_sem, ↓reduceIte, Nat.reduceEqDiff, Nat.reduceAdd, reduceCtorEq] | with_reducible refine V_W ?_ | (with_reducible refine And.intro ?_ ?_; focus first | assumption | omega | decide | grind) | (with_reducible refine Br.mk ?_ ?_; focus (intros; omega)) | decide)
      refine pureC (hsz) (by simp only [go_sem, ↓reduceIte, Nat.reduceEqDiff, Nat.reduceAdd, reduceCtorEq] <;> rfl) (by first | rfl | simp only [go_sem, ↓reduceIte, Nat.reduceEqDiff, Nat.reduceAdd, reduceCtorEq]) ?_
      (repeat first | simp only [go_sem, ↓reduceIte, Nat.reduceEqDiff, Nat.reduceAdd, reduceCtorEq] | with_reducible refine V_W ?_ | (with_reducible refine And.intro ?_ ?_; focus first | assumption | omega | decide | grind) | (with_reducible refine Br.mk ?_ ?_; focus (intros; omega)) | decide)
      refine V_loop (α := Nat) (S := fun k => ([(1, .ref 0 0), (4, i64 (dep F : Int)), (5, i64 (k : Int))], [some [i64 v, mat F]])) (C := fun k => k ≤ dep F + 1 ∧ EulA F k) (μ := fun k => dep F + 1 - k) 0 ⟨Nat.zero_le _, fun k hk => by omega⟩ (Ref.to rfl (by simp [sub, fget])) ?_
      rintro k ⟨k1, k2⟩
      (repeat first | simp only [go_sem, ↓reduceIte, Nat.reduceEqDiff, Nat.reduceAdd, reduceCtorEq] | with_reducible refine V_W ?_ | (with_reducible refine And.intro ?_ ?_; focus first | assumption | omega | decide | grind) | (with_reducible refine Br.mk ?_ ?_; focus (intros; omega)) | decide)
      refine ⟨fun hc => ?_, fun hc => ?_⟩
      · have hf := l17Faces_p v F k (by omega) hl hr
        have hfl := fcs_len hr k
        have hEk := hEu k
        have hls := fun x (hx : x ∈ fcs F k) => link_sum h hx (by omega)
        have hrow : ∀ G ∈ fcs F k, G.length ≤ 6 := fcs_6 hr k
        have hno : ∀ x ∈ fcs F k, sumE (evN F (dep F)) x ≠ 2 * (((dep F : Int) - k) % 2) → ¬ EulA F (dep F) := fun x hx hne hE => hne (htop.2 hE k (by omega) x hx)
        obtain ⟨R, hR⟩ : ∃ R, R = fcs F k := ⟨_, rfl⟩
        rw [← hR] at hf hfl hEk hls hrow hno
        (repeat first | simp only [go_sem, ↓reduceIte, Nat.reduceEqDiff, Nat.reduceAdd, reduceCtorEq] | with_reducible refine V_W ?_ | (with_reducible refine And.intro ?_ ?_; focus first | assumption | omega | decide | grind) | (with_reducible refine Br.mk ?_ ?_; focus (intros; omega)) | decide)
        refine call_pureG (hf) (by simp only [go_sem, ↓reduceIte, Nat.reduceEqDiff, Nat.reduceAdd, reduceCtorEq] <;> rfl) ?_
        (repeat first | simp only [go_sem, ↓reduceIte, Nat.reduceEqDiff, Nat.reduceAdd, reduceCtorEq] | with_reducible refine V_W ?_ | (with_reducible refine And.intro ?_ ?_; focus first | assumption | omega | decide | grind) | (with_reducible refine Br.mk ?_ ?_; focus (intros; omega)) | decide)
        have htk : ∀ Hx : Heap, (List.take R.length (R.map ints)).map (frz Hx 5) = R.map ints := fun Hx => by
          rw [List.take_of_length_le (by simp), map_frz_rows]
        refine V_ref (Ref.sel [0] (F' := [(1, .ref 0 0), (4, i64 (dep F : Int)), (5, i64 (k : Int)), (6, mat R), (7, i64 0)]) (H' := [some [i64 v, mat F]]) rfl ?_ ?_) ?_
        · simp only [vwH, go_sem, ↓reduceIte, Nat.reduceEqDiff, Nat.reduceAdd, reduceCtorEq]
        · simp only [vwF, go_sem, ↓reduceIte, Nat.reduceEqDiff, Nat.reduceAdd, reduceCtorEq]
          simp [sub, fget]
        refine V_loop (α := Nat) (S := fun i => ([(1, .ref 0 0), (4, i64 (dep F : Int)), (5, i64 (k : Int)), (6, mat R), (7, i64 (i : Int))], [some [i64 v, mat F]])) (C := fun i => i ≤ R.length ∧ ∀ x ∈ R.take i, sumE (evN F (dep F)) x = 2 * (((dep F : Int) - k) % 2)) (μ := fun i => R.length - i) 0 ⟨Nat.zero_le _, by simp⟩ (Ref.to rfl (by simp [sub, fget])) ?_
        rintro i ⟨i1, i2⟩
        (repeat first | simp only [go_sem, ↓reduceIte, Nat.reduceEqDiff, Nat.reduceAdd, reduceCtorEq] | with_reducible refine V_W ?_ | (with_reducible refine And.intro ?_ ?_; focus first | assumption | omega | decide | grind) | (with_reducible refine Br.mk ?_ ?_; focus (intros; omega)) | decide)
        refine ⟨fun hc2 => ?_, fun hc2 => ?_⟩
        · have hiR : i < R.length := by omega
          have hmem := getD_mem hiR
          have hxl := hrow _ hmem
          have hsum := hls _ hmem
          have hno2 := hno _ hmem
          have htk1 := take_one hiR
          obtain ⟨x, hx⟩ : ∃ x, x = R.getD i [] := ⟨_, rfl⟩
          rw [← hx] at hxl hsum hno2 htk1
          have hlk := l17Link_p v F x hl hr hxl
          have hok := lnk_ok h x
          have hLS := lnk_SR hSR x
          have hll := lnk_len F x
          have hlr := lnk_row hr x
          have hmk := l17Make_g (lnk F x) (by omega) (fun i => by have := getD_row6 (i := i) hlr; omega) hLS
          obtain ⟨zb1, zb2⟩ := ckF_b hLS
          obtain ⟨L, hL⟩ : ∃ L, L = lnk F x := ⟨_, rfl⟩
          rw [← hL] at hlk hmk hsum hll zb1 zb2
          obtain ⟨Z, hZ⟩ : ∃ Z, Z = ckF L := ⟨_, rfl⟩
          rw [← hZ] at hmk hsum zb1 zb2
          have hfv := l17F_p (ckV L) Z zb1 zb2
          have hfl2 := fv_len Z
          have hdz : dep Z ≤ 6 := dep_le.2 zb2
          have heu := l17Euler_c (fv Z) (by omega) (by omega) (fun i => by have := fv_b zb1 zb2 i; omega)
          rw [hsum] at heu
          obtain ⟨V, hV⟩ : ∃ V, V = fv Z := ⟨_, rfl⟩
          rw [← hV] at hfv heu
          generalize ckV L = cv at hmk hfv
          generalize ckK L = ck at hmk
          have hrem : Int.tmod ((dep F : Int) - k) 2 = ((dep F : Int) - k) % 2 ∨ (dep F : Int) - k < 0 := by
            by_cases e : 0 ≤ (dep F : Int) - k
            · exact .inl (Int.tmod_eq_emod_of_nonneg e)
            · exact .inr (by omega)
          have hrem2 : Int.tmod ((dep F : Int) - k) 2 = ((dep F : Int) - k) % 2 := by
            rcases hrem with h | h
            · exact h
            · omega
          have htk2 := lnk_frz L L.length rfl
          have htk3 := lnk_frz Z Z.length rfl
          (repeat first | simp only [go_sem, ↓reduceIte, Nat.reduceEqDiff, Nat.reduceAdd, reduceCtorEq] | with_reducible refine V_W ?_ | (with_reducible refine And.intro ?_ ?_; focus first | assumption | omega | decide | grind) | (with_reducible refine Br.mk ?_ ?_; focus (intros; omega)) | decide)
          (try simp only [← hx, go_sem, ↓reduceIte, Nat.reduceEqDiff, Nat.reduceAdd, reduceCtorEq])
          refine V_altsS [(1, .ref 0 0), (4, i64 (dep F : Int)), (5, i64 (k : Int)), (6, mat R), (7, i64 (i : Int)), (8, .ref 1 0)] [some [i64 v, mat F], some [i64 cv, .sl 2 1 0 Z.length], some (Z.map oints)] ?_ ?_
          · repeat' first
              | simp only [← hx, go_sem, ↓reduceIte, Nat.reduceEqDiff, Nat.reduceAdd, reduceCtorEq]
              | with_reducible refine LT_reg ?_
              | with_reducible refine LT_fin ?_
              | with_reducible exact LT_tt
              | with_reducible refine LT_alt ?_ ?_
              | (with_reducible refine And.intro ?_ ?_; focus first | assumption | omega | grind)
              | (refine pureC (hlk) ?_ ?_ ?_; (focus (simp only [go_sem, ↓reduceIte, Nat.reduceEqDiff, Nat.reduceAdd, reduceCtorEq] <;> rfl)); (focus first | rfl | simp only [go_sem, ↓reduceIte, Nat.reduceEqDiff, Nat.reduceAdd, reduceCtorEq]))
              | (refine pureC hmk ?_ ?_ ?_; (focus simp only [htk2, go_sem, ↓reduceIte, Nat.reduceEqDiff, Nat.reduceAdd, reduceCtorEq]); (focus first | rfl | simp only [go_sem, ↓reduceIte, Nat.reduceEqDiff, Nat.reduceAdd, reduceCtorEq]))
            all_goals first
              | (refine Ref.gc [0, 3, 2] rfl ?_ ?_ <;> first | (simp only [go_sem, ↓reduceIte, Nat.reduceEqDiff, Nat.reduceAdd, reduceCtorEq]; done) | (simp [sub, fget, go_sem, ↓reduceIte, Nat.reduceEqDiff, Nat.reduceAdd, reduceCtorEq]; done))
              | (refine Ref.gc [0, 2, 3] rfl ?_ ?_ <;> first | (simp only [go_sem, ↓reduceIte, Nat.reduceEqDiff, Nat.reduceAdd, reduceCtorEq]; done) | (simp [sub, fget, go_sem, ↓reduceIte, Nat.reduceEqDiff, Nat.reduceAdd, reduceCtorEq]; done))
              | (refine Ref.gc [0, 1, 3] rfl ?_ ?_ <;> first | (simp only [go_sem, ↓reduceIte, Nat.reduceEqDiff, Nat.reduceAdd, reduceCtorEq]; done) | (simp [sub, fget, go_sem, ↓reduceIte, Nat.reduceEqDiff, Nat.reduceAdd, reduceCtorEq]; done))
          (repeat first | simp only [go_sem, ↓reduceIte, Nat.reduceEqDiff, Nat.reduceAdd, reduceCtorEq] | with_reducible refine V_W ?_ | (with_reducible refine And.intro ?_ ?_; focus first | assumption | omega | decide | grind) | (with_reducible refine Br.mk ?_ ?_; focus (intros; omega)) | decide)
          refine pureC hfv (by simp only [htk3, go_sem, ↓reduceIte, Nat.reduceEqDiff, Nat.reduceAdd, reduceCtorEq]) (by first | rfl | simp only [go_sem, ↓reduceIte, Nat.reduceEqDiff, Nat.reduceAdd, reduceCtorEq]) ?_
          (repeat first | simp only [go_sem, ↓reduceIte, Nat.reduceEqDiff, Nat.reduceAdd, reduceCtorEq] | with_reducible refine V_W ?_ | (with_reducible refine And.intro ?_ ?_; focus first | assumption | omega | decide | grind) | (with_reducible refine Br.mk ?_ ?_; focus (intros; omega)) | decide)
          have htk4 : ∀ Hx : Heap, (List.take V.length (intsC V)).map (frz Hx 5) = intsC V := fun Hx => by
            rw [take_intsC V rfl, map_frz_ints]
          refine pureC heu (by simp only [htk4, go_sem, ↓reduceIte, Nat.reduceEqDiff, Nat.reduceAdd, reduceCtorEq]) (by first | rfl | simp only [go_sem, ↓reduceIte, Nat.reduceEqDiff, Nat.reduceAdd, reduceCtorEq]) ?_
          (repeat first | simp only [go_sem, ↓reduceIte, Nat.reduceEqDiff, Nat.reduceAdd, reduceCtorEq] | with_reducible refine V_W ?_ | (with_reducible refine And.intro ?_ ?_; focus first | assumption | omega | decide | grind) | (with_reducible refine Br.mk ?_ ?_; focus (intros; omega)) | decide)
          simp only [hrem2, go_sem, ↓reduceIte, Nat.reduceEqDiff, Nat.reduceAdd, reduceCtorEq]
          (repeat first | simp only [go_sem, ↓reduceIte, Nat.reduceEqDiff, Nat.reduceAdd, reduceCtorEq] | with_reducible refine V_W ?_ | (with_reducible refine And.intro ?_ ?_; focus first | assumption | omega | decide | grind) | (with_reducible refine Br.mk ?_ ?_; focus (intros; omega)) | decide)
          refine ⟨fun hs => ?_, fun hs => ?_⟩
          · rw [decide_eq_false (hno2 (by omega))]
            (repeat first | simp only [go_sem, ↓reduceIte, Nat.reduceEqDiff, Nat.reduceAdd, reduceCtorEq] | with_reducible refine V_W ?_ | (with_reducible refine And.intro ?_ ?_; focus first | assumption | omega | decide | grind) | (with_reducible refine Br.mk ?_ ?_; focus (intros; omega)) | decide)
          · (repeat first | simp only [go_sem, ↓reduceIte, Nat.reduceEqDiff, Nat.reduceAdd, reduceCtorEq] | with_reducible refine V_W ?_ | (with_reducible refine And.intro ?_ ?_; focus first | assumption | omega | decide | grind) | (with_reducible refine Br.mk ?_ ?_; focus (intros; omega)) | decide)
            refine ⟨i + 1, ⟨by omega, fun y hy => ?_⟩, by omega, Ref.gc [0] rfl (by simp only [go_sem, ↓reduceIte, Nat.reduceEqDiff, Nat.reduceAdd, reduceCtorEq]) (by simp [sub, fget, go_sem, ↓reduceIte, Nat.reduceEqDiff, Nat.reduceAdd, reduceCtorEq])⟩
            rw [htk1] at hy
            rcases List.mem_append.1 hy with hy | hy
            · exact i2 y hy
            · rw [List.mem_singleton.1 hy]; omega
        · obtain rfl : i = R.length := by omega
          rw [List.take_length] at i2
          (repeat first | simp only [go_sem, ↓reduceIte, Nat.reduceEqDiff, Nat.reduceAdd, reduceCtorEq] | with_reducible refine V_W ?_ | (with_reducible refine And.intro ?_ ?_; focus first | assumption | omega | decide | grind) | (with_reducible refine Br.mk ?_ ?_; focus (intros; omega)) | decide)
          exact ⟨k + 1, ⟨by omega, hEk.2 ⟨k2, i2⟩⟩, by omega, Ref.to rfl (by simp [sub, fget])⟩
      · obtain rfl : k = dep F + 1 := by omega
        rw [decide_eq_true (htop.1 k2)]
        (repeat first | simp only [go_sem, ↓reduceIte, Nat.reduceEqDiff, Nat.reduceAdd, reduceCtorEq] | with_reducible refine V_W ?_ | (with_reducible refine And.intro ?_ ?_; focus first | assumption | omega | decide | grind) | (with_reducible refine Br.mk ?_ ?_; focus (intros; omega)) | decide)
    · have e0 : decide (PurC F ∧ EulA F (dep F)) = false := by simp [hP]
      rw [e0]
      rw [decide_eq_false hP] at hp
      refine pureV0 ok9 rfl rfl ?_; unfold c9
      (repeat first | simp only [go_sem, ↓reduceIte, Nat.reduceEqDiff, Nat.reduceAdd, reduceCtorEq] | with_reducible refine V_W ?_ | (with_reducible refine And.intro ?_ ?_; focus first | assumption | omega | decide | grind) | (with_reducible refine Br.mk ?_ ?_; focus (intros; omega)) | decide)
      refine pureC (hi) (by simp only [go_sem, ↓reduceIte, Nat.reduceEqDiff, Nat.reduceAdd, reduceCtorEq] <;> rfl) (by first | rfl | simp only [go_sem, ↓reduceIte, Nat.reduceEqDiff, Nat.reduceAdd, reduceCtorEq]) ?_
      (repeat first | simp only [go_sem, ↓reduceIte, Nat.reduceEqDiff, Nat.reduceAdd, reduceCtorEq] | with_reducible refine V_W ?_ | (with_reducible refine And.intro ?_ ?_; focus first | assumption | omega | decide | grind) | (with_reducible refine Br.mk ?_ ?_; focus (intros; omega)) | decide)
      refine pureC (hp) (by simp only [go_sem, ↓reduceIte, Nat.reduceEqDiff, Nat.reduceAdd, reduceCtorEq] <;> rfl) (by first | rfl | simp only [go_sem, ↓reduceIte, Nat.reduceEqDiff, Nat.reduceAdd, reduceCtorEq]) ?_
      (repeat first | simp only [go_sem, ↓reduceIte, Nat.reduceEqDiff, Nat.reduceAdd, reduceCtorEq] | with_reducible refine V_W ?_ | (with_reducible refine And.intro ?_ ?_; focus first | assumption | omega | decide | grind) | (with_reducible refine Br.mk ?_ ?_; focus (intros; omega)) | decide)
  · rw [if_neg h]
    rw [decide_eq_false h] at hi ⊢
    rw [Bool.false_and]
    refine pureV0 ok9 rfl rfl ?_; unfold c9
    (repeat first | simp only [go_sem, ↓reduceIte, Nat.reduceEqDiff, Nat.reduceAdd, reduceCtorEq] | with_reducible refine V_W ?_ | (with_reducible refine And.intro ?_ ?_; focus first | assumption | omega | decide | grind) | (with_reducible refine Br.mk ?_ ?_; focus (intros; omega)) | decide)
    refine pureC (hi) (by simp only [go_sem, ↓reduceIte, Nat.reduceEqDiff, Nat.reduceAdd, reduceCtorEq] <;> rfl) (by first | rfl | simp only [go_sem, ↓reduceIte, Nat.reduceEqDiff, Nat.reduceAdd, reduceCtorEq]) ?_
    (repeat first | simp only [go_sem, ↓reduceIte, Nat.reduceEqDiff, Nat.reduceAdd, reduceCtorEq] | with_reducible refine V_W ?_ | (with_reducible refine And.intro ?_ ?_; focus first | assumption | omega | decide | grind) | (with_reducible refine Br.mk ?_ ?_; focus (intros; omega)) | decide)
end Go.Proofs.YtghhlcioabdpfaaDoor
set_option maxRecDepth 100000
namespace Go.Proofs.YtghhlcioabdpfaaDoor
open Go.Gov
open Classical

set_option maxHeartbeats 8000000 in
theorem lawLEi_c (v0 : Int) (M0 : List (List Int)) (ha0 : M0.length ≤ 9223372036854775807) (hr0 : ∀ xs ∈ M0, xs.length ≤ 9223372036854775807) : Pure Tryd.prog 3 [cpxA v0 M0] (bl true) [] := by
  refine pureV0 ok3 rfl rfl ?_; unfold c3
  (repeat first | simp only [go_sem, ↓reduceIte, Nat.reduceEqDiff, Nat.reduceAdd, reduceCtorEq] | with_reducible refine V_W ?_ | (with_reducible refine And.intro ?_ ?_; focus first | assumption | omega | decide | grind) | (with_reducible refine Br.mk ?_ ?_; focus (intros; omega)) | decide)
  refine pureC (szCpx_c v0 M0 (1048576) (by omega) (by omega) ha0 hr0) (by simp only [go_sem, ↓reduceIte, Nat.reduceEqDiff, Nat.reduceAdd, reduceCtorEq] <;> rfl) (by first | rfl | simp only [go_sem, ↓reduceIte, Nat.reduceEqDiff, Nat.reduceAdd, reduceCtorEq]) ?_
  (repeat first | simp only [go_sem, ↓reduceIte, Nat.reduceEqDiff, Nat.reduceAdd, reduceCtorEq] | with_reducible refine V_W ?_ | (with_reducible refine And.intro ?_ ?_; focus first | assumption | omega | decide | grind) | (with_reducible refine Br.mk ?_ ?_; focus (intros; omega)) | decide)
  refine ⟨fun hs0 => ?_, fun hs0 => ?_⟩
  · (repeat first | simp only [go_sem, ↓reduceIte, Nat.reduceEqDiff, Nat.reduceAdd, reduceCtorEq] | with_reducible refine V_W ?_ | (with_reducible refine And.intro ?_ ?_; focus first | assumption | omega | decide | grind) | (with_reducible refine Br.mk ?_ ?_; focus (intros; omega)) | decide)
  obtain ⟨e0, e02⟩ := left_pos (b := 1048576) (n := M0.length + tot M0) (by omega) (by omega)
  obtain ⟨qa0, qt0, qr0⟩ := mat_b (n := 1048576) (B := M0) (by omega)
  have ga0 : M0.length ≤ 1099511627776 := by omega
  have gr0 : ∀ xs ∈ M0, xs.length ≤ 1099511627776 := fun xs hx => by have := qr0 xs hx; omega
  (repeat first | simp only [go_sem, ↓reduceIte, Nat.reduceEqDiff, Nat.reduceAdd, reduceCtorEq] | with_reducible refine V_W ?_ | (with_reducible refine And.intro ?_ ?_; focus first | assumption | omega | decide | grind) | (with_reducible refine Br.mk ?_ ?_; focus (intros; omega)) | decide)
  have hS := specEi_c v0 M0 ga0 gr0
  have hI := implEi_c v0 M0 ga0 gr0
  generalize eiA v0 M0 = Z0 at hS hI
  generalize okC v0 M0 = Z1 at hS hI
  refine pureC (toCpx_c v0 M0 ga0 gr0) (by simp only [go_sem, ↓reduceIte, Nat.reduceEqDiff, Nat.reduceAdd, reduceCtorEq] <;> rfl) (by first | rfl | simp only [go_sem, ↓reduceIte, Nat.reduceEqDiff, Nat.reduceAdd, reduceCtorEq]) ?_
  (repeat first | simp only [go_sem, ↓reduceIte, Nat.reduceEqDiff, Nat.reduceAdd, reduceCtorEq] | with_reducible refine V_W ?_ | (with_reducible refine And.intro ?_ ?_; focus first | assumption | omega | decide | grind) | (with_reducible refine Br.mk ?_ ?_; focus (intros; omega)) | decide)
  refine pureC (hS) (by simp only [go_sem, ↓reduceIte, Nat.reduceEqDiff, Nat.reduceAdd, reduceCtorEq] <;> rfl) (by first | rfl | simp only [go_sem, ↓reduceIte, Nat.reduceEqDiff, Nat.reduceAdd, reduceCtorEq]) ?_
  (repeat first | simp only [go_sem, ↓reduceIte, Nat.reduceEqDiff, Nat.reduceAdd, reduceCtorEq] | with_reducible refine V_W ?_ | (with_reducible refine And.intro ?_ ?_; focus first | assumption | omega | decide | grind) | (with_reducible refine Br.mk ?_ ?_; focus (intros; omega)) | decide)
  refine pureC (toCpx_c v0 M0 ga0 gr0) (by simp only [go_sem, ↓reduceIte, Nat.reduceEqDiff, Nat.reduceAdd, reduceCtorEq] <;> rfl) (by first | rfl | simp only [go_sem, ↓reduceIte, Nat.reduceEqDiff, Nat.reduceAdd, reduceCtorEq]) ?_
  (repeat first | simp only [go_sem, ↓reduceIte, Nat.reduceEqDiff, Nat.reduceAdd, reduceCtorEq] | with_reducible refine V_W ?_ | (with_reducible refine And.intro ?_ ?_; focus first | assumption | omega | decide | grind) | (with_reducible refine Br.mk ?_ ?_; focus (intros; omega)) | decide)
  refine pureC (hI) (by simp only [go_sem, ↓reduceIte, Nat.reduceEqDiff, Nat.reduceAdd, reduceCtorEq] <;> rfl) (by first | rfl | simp only [go_sem, ↓reduceIte, Nat.reduceEqDiff, Nat.reduceAdd, reduceCtorEq]) ?_
  (repeat first | simp only [go_sem, ↓reduceIte, Nat.reduceEqDiff, Nat.reduceAdd, reduceCtorEq] | with_reducible refine V_W ?_ | (with_reducible refine And.intro ?_ ?_; focus first | assumption | omega | decide | grind) | (with_reducible refine Br.mk ?_ ?_; focus (intros; omega)) | decide)
  (try with_reducible refine fun _ => ?_)
  (repeat first | simp only [go_sem, ↓reduceIte, Nat.reduceEqDiff, Nat.reduceAdd, reduceCtorEq] | with_reducible refine V_W ?_ | (with_reducible refine And.intro ?_ ?_; focus first | assumption | omega | decide | grind) | (with_reducible refine Br.mk ?_ ?_; focus (intros; omega)) | decide)
  refine pureC (toCpx_c v0 M0 ga0 gr0) (by simp only [go_sem, ↓reduceIte, Nat.reduceEqDiff, Nat.reduceAdd, reduceCtorEq] <;> rfl) (by first | rfl | simp only [go_sem, ↓reduceIte, Nat.reduceEqDiff, Nat.reduceAdd, reduceCtorEq]) ?_
  (repeat first | simp only [go_sem, ↓reduceIte, Nat.reduceEqDiff, Nat.reduceAdd, reduceCtorEq] | with_reducible refine V_W ?_ | (with_reducible refine And.intro ?_ ?_; focus first | assumption | omega | decide | grind) | (with_reducible refine Br.mk ?_ ?_; focus (intros; omega)) | decide)
  refine pureC (eqCpx_c v0 v0 M0 M0 ga0 gr0 ga0 gr0) (by simp only [go_sem, ↓reduceIte, Nat.reduceEqDiff, Nat.reduceAdd, reduceCtorEq] <;> rfl) (by first | rfl | simp only [go_sem, ↓reduceIte, Nat.reduceEqDiff, Nat.reduceAdd, reduceCtorEq]) ?_
  (repeat first | simp only [go_sem, ↓reduceIte, Nat.reduceEqDiff, Nat.reduceAdd, reduceCtorEq] | with_reducible refine V_W ?_ | (with_reducible refine And.intro ?_ ?_; focus first | assumption | omega | decide | grind) | (with_reducible refine Br.mk ?_ ?_; focus (intros; omega)) | decide)
  (try with_reducible refine fun _ => ?_)
  (repeat first | simp only [go_sem, ↓reduceIte, Nat.reduceEqDiff, Nat.reduceAdd, reduceCtorEq] | with_reducible refine V_W ?_ | (with_reducible refine And.intro ?_ ?_; focus first | assumption | omega | decide | grind) | (with_reducible refine Br.mk ?_ ?_; focus (intros; omega)) | decide)

end Go.Proofs.YtghhlcioabdpfaaDoor
set_option maxRecDepth 100000
namespace Go.Proofs.YtghhlcioabdpfaaDoor.JEi
open Go.Proofs.YtghhlcioabdpfaaDoor
open Go.ChangeShapes Go.WideShapes Go.ChangeAt Go.RowKit Go.Gov

theorem door_met (os : Os) (args : Array Value) : laidMetH Tryd.prog Rows.fnExactIsEulerianRow.laid ((World.doorLaid Tryd.prog 400 os).forCall (fun _ _ => 0) ⟨#[], args, []⟩).memory :=
  laidMetH_of_parts3 (fuel := 8) (laidMet_of_run' 8 (by kernel_rfl) (by kernel_rfl)) (by kernel_rfl) (by kernel_rfl)
set_option maxRecDepth 100000 in
set_option maxHeartbeats 2000000 in
theorem lifted (os : Os) (started : os.Started) (H : Type) (enc : TypeId × Value → H) :
    ReturnsInHanded {} Tryd.checked os 3 .any (fun w args => (Rows.fnExactIsEulerianSpec.pre enc Tryd.prog Tryd.f3 [] false w args ∧ laidMetH Tryd.prog Rows.fnExactIsEulerianRow.laid w) ∧ sizedMet enc Tryd.prog Tryd.f3 (OpenSpec.ofChange Rows.fnExactIsEulerianSpec) false w args) (Rows.fnExactIsEulerianSpec.post enc Tryd.prog Tryd.f3 false true false false) := by
  refine returnsInHanded_of_change_and (C := Tryd.checked) (X := fun w _ => laidMetH Tryd.prog Rows.fnExactIsEulerianRow.laid w) (fun _ _ _ hh h => h.of_heap hh) Tryd.own started (by kernel_rfl) Tryd.func3
    (ChangeSpec.witness_shaped (enc := enc) (C := Tryd.checked) (os := os) (X := fun w _ => laidMetH Tryd.prog Rows.fnExactIsEulerianRow.laid w) false (World.doorLaid Tryd.prog 400 os) #[.agg #[.int .i64 0, .slice none 0 0]] 8 rfl (World.shaped_of_RefB (by kernel_rfl) (by kernel_rfl)) (by kernel_rfl) (by kernel_rfl) (by kernel_rfl) (door_met os _)) ?_
  intro W base args ds gs before hval0 hW hcnd _ hLaid _
  have hval : ∀ (j : Nat) t v, Tryd.f3.params[j]? = some t → args[j]? = some v → Value.okWide Tryd.prog W .any base t v := hval0
  have hW' := hW
  obtain ⟨p, q, hA0, hV, rfl, hfz, hnd⟩ := hW
  have hA : DataW.TrodAll enc Tryd.prog W 0 (fun _ => true) true Tryd.f3.params.toList args.toList ds p := hA0
  rw [Tryd.params3] at hA hval
  obtain ⟨v0, l0, d0, e0, p0, q0, ha0, rfl, rfl, h0, hA1⟩ := trodAll_cons hA
  obtain ⟨rfl, rfl, rfl⟩ := trodAll_nil hA1
  obtain rfl : args = #[v0] := by rw [← Array.toArray_toList (xs := args), ha0]
  have hv0 := hval 0 24 v0 rfl rfl
  obtain ⟨rfl, rfl⟩ := trodVars_none hV
  obtain ⟨a0, b0, x0, y0, m0, rfl, rfl, hp0, ta0, tb0⟩ := Go.Joins.open_agg2 Tryd.underlying24 (by kernel_rfl) (by kernel_rfl) hv0 h0
  obtain ⟨r0, hr0, _, _⟩ := DataW.trod_int Tryd.underlying2 ta0
  obtain ⟨u0, B0, hu0, hB0, hBr0, rdB0⟩ := rd_rows Tryd.underlying22 Tryd.underlying32 Tryd.underlying2 (by kernel_rfl) (by kernel_rfl) tb0
  simp only [List.cons.injEq, and_true] at hr0 hu0
  subst hr0 hu0
  have hrd : ∀ m (h : m < ([cpxA r0 B0] : List AV).length), Rd W ((g0 W).tr []) (g0 W).G ([cpxA r0 B0] : List AV)[m] ((#[Value.agg #[.int .i64 r0, b0]] : Array Value).getD m undef) [] := fun m h => by
    match m, h with
    | 0, _ => exact .agg rfl fun k hk => match k, hk with
      | 0, _ => .val
      | 1, _ => rdB0 _
  refine (below_of (lawLEi_c r0 B0 hB0 hBr0) rfl hrd).mono fun e W' ⟨he, hb, hz⟩ => ?_
  simp only [List.append_nil] at hW'
  have hS0 : ∀ sp : Nat → Bool, (∀ x ∈ p0, sp x.block = true) → DataW.Trod enc Tryd.prog W' 0 sp true 24 (.agg #[.int .i64 r0, b0]) _ p0 := fun sp hsp =>
    WideElems.Trod_stays Tryd.laidOut (by kernel_rfl) (of_decide_eq_true (by kernel_rfl)) h0 (fun x hx => hb.same (hW'.lt x (by simp [hx]))) (fun x hx => hsp x (by simp [hx]))
  have hR1 : ∀ (b : Nat) (sp : Nat → Bool) (hd : Bool), DataW.Trod enc Tryd.prog W' b sp hd 4 (.bool true) (.lit (.bool true)) [] := fun _ _ _ => shut_bool Tryd.underlying4 true
  refine ⟨_, he, post_of_new (pa := p0) (pv := []) hW' (fun b sp hd => trodAll_mk1 (hR1 b sp hd)) (fun sp hsp => trodAll_mk1 (hS0 sp hsp)) (fun _ _ => ?_) ?_ ?_ hz ?_⟩
  · rfl
  · simp
  · exact hb.frame _
  · exact ok_one (by kernel_rfl) rfl (okWide_bool_mk Tryd.underlying4 true)

theorem holds : Rows.FnExactIsEulerianSaid :=
  OpenClaim.holds_of_wide 3 Tryd.f3 rfl rfl rfl rfl rfl rfl rfl ⟨rfl, rfl, rfl, rfl, rfl⟩ rfl rfl rfl rfl rfl (by kernel_rfl) Tryd.func3 (by kernel_rfl)
    (of_decide_eq_true (by kernel_rfl)) (by unfold Func.isWrapper; first | (rw [if_pos (by decide +kernel)]; kernel_rfl) | (rw [if_neg (by decide +kernel)]; exact ⟨rfl, rfl⟩))
    (fun os started H enc _ => lifted os started H enc)

theorem card_holds : Rows.FnExactIsEulerianCardSaid :=
  Claim7.holds_tied_plain_at .later [] [.data, .data, .data] true Rows.fnExactIsEulerianCard.stood.harness Rows.fnExactIsEulerianCard.stood.looks
    holds (fun _ h => by cases h) (by kernel_rfl) (fun _ h => by cases h) fnExactIsEulerian_row_tie rfl ⟨rfl, rfl⟩ (by kernel_rfl) rfl
    (fun f fn hf hfn => by
      obtain rfl : f = 3 := Option.some.inj ((show Tryd.prog.funcNamed "loop.example/g01108/laws.FnExactIsEulerian" = some 3 by kernel_rfl).symm.trans hf) |>.symm
      obtain rfl : fn = Tryd.f3 := (Option.some.inj (Tryd.func3.symm.trans hfn)).symm
      exact ⟨by kernel_rfl, fun j t ht => by
        rw [Tryd.params3] at ht
        have hm : t ∈ [24] := by simpa using Array.mem_of_getElem? ht
        have hall : ([24].all fun u => !Tryd.prog.wantsStandIn u) = true := by kernel_rfl
        exact (show Tryd.prog.wantsStandIn t = false by simpa using List.all_eq_true.1 hall t hm)⟩)
    (by kernel_rfl)

end Go.Proofs.YtghhlcioabdpfaaDoor.JEi
