/- Texts that belong together. -/
import Derived.Test.YtfcbamfkfadabaaGreatZe
import Derived.Test.YtfcbamfkfadabaaGreatV1
import Derived.Test.YtfcbamfkfadabaaGreatZl
import Derived.Test.YtfcbamfkfadabaaGreatZt
import Derived.Test.YtfcbamfkfadabaaGreatWg
import Derived.Test.YtfcbamfkfadabaaGreatR1
set_option linter.unusedSimpArgs false
set_option linter.unusedVariables false
set_option maxRecDepth 100000
namespace Go.Proofs.YtfcbamfkfadabaaGreat
open Go.Gov Go.Ce
open Classical

theorem frz_im (H : Heap) (d : Nat) (I : List (List Int)) (n : Nat) (h : I.length = n) : ((I.map oints).take n).map (frz H (d + 2)) = I.map ints := by
  rw [List.take_of_length_le (by simp [h]), List.map_map]
  refine List.map_congr_left fun z _ => ?_
  simp [frz, intsC]
theorem frz_li (H : Heap) (d : Nat) (l : List Int) (n : Nat) (h : l.length = n) : ((intsC l).take n).map (frz H (d + 1)) = intsC l := by
  rw [List.take_of_length_le (by rw [len_intsC]; omega), map_frz_ints]
theorem orow_at {I : List (List Int)} {c : Nat} (h : c < I.length) : (I.map oints)[c]? = some (.osl 1 (I.getD c []).length (intsC (I.getD c []))) := by simp [h, oints]
theorem two_open {I : List (List Int)} {c d : Nat} (hc : c < I.length) (hd : d < I.length) (hne : c ≠ d) (x y : AV) : (((I.map oints).set c x).set d y).length = I.length ∧ (((I.map oints).set c x).set d y)[c]? = some x ∧ (((I.map oints).set c x).set d y)[d]? = some y ∧
    ∀ a b : List Int, ((((I.map oints).set c x).set d y).set c (oints a)).set d (oints b) = ((I.set c a).set d b).map oints := by
  refine ⟨by simp, ?_, ?_, fun a b => ?_⟩
  · rw [List.getElem?_set_ne (fun h => hne h.symm), List.getElem?_set_self (by simpa using hc)]
  · rw [List.getElem?_set_self (by simpa using hd)]
  · rw [List.set_comm _ _ (fun h => hne h.symm), List.set_set, List.set_set, List.map_set, List.map_set]
theorem one_open {I : List (List Int)} {c : Nat} (hc : c < I.length) (x : AV) : ((I.map oints).set c x).length = I.length ∧ ((I.map oints).set c x)[c]? = some x ∧ ∀ a : List Int, ((I.map oints).set c x).set c (oints a) = (I.set c a).map oints := by
  refine ⟨by simp, by rw [List.getElem?_set_self (by simpa using hc)], fun a => by rw [List.set_set, List.map_set]⟩
theorem getD_of {l : List AV} {i : Nat} {x d : AV} (h : l[i]? = some x) : l.getD i d = x := by rw [List.getD_eq_getElem?_getD, h]; rfl
end Go.Proofs.YtfcbamfkfadabaaGreat
set_option maxRecDepth 100000
namespace Go.Proofs.YtfcbamfkfadabaaGreat
open Go.Gov Go.Ce
open Classical

end Go.Proofs.YtfcbamfkfadabaaGreat
set_option maxRecDepth 100000
namespace Go.Proofs.YtfcbamfkfadabaaGreat
open Go.Gov Go.Ce
open Classical

end Go.Proofs.YtfcbamfkfadabaaGreat
set_option maxRecDepth 100000
namespace Go.Ce
open Classical
theorem mI_set {I : List (List Int)} {lo hi : Nat} (h1 : lo < I.length) (hne : lo ≠ hi) : ∀ k : Nat, mI I lo hi k = I.set lo ((mI I lo hi k).getD lo []) ∧ (mI I lo hi k).getD hi [] = I.getD hi []
  | 0 => by
    unfold mI
    refine ⟨?_, rfl⟩
    refine List.ext_getElem (by simp) fun j a b => ?_
    rw [List.getElem_set]
    split
    · rename_i e; subst e; simp [a]
    · rfl
  | k + 1 => by
    obtain ⟨e1, e2⟩ := mI_set h1 hne k
    unfold mI
    split
    · exact ⟨e1, e2⟩
    · generalize mI I lo hi k = M at *
      have hl : M.length = I.length := by rw [e1]; simp
      unfold put2
      refine ⟨?_, ?_⟩
      · have e3 : (M.set lo ((M.getD lo []).set k (at2 M hi k))).getD lo [] = (M.getD lo []).set k (at2 M hi k) := by
          rw [List.getD_eq_getElem?_getD, List.getElem?_set_self (by omega)]; rfl
        rw [e3]
        generalize (M.getD lo []).set k (at2 M hi k) = r at *
        rw [e1, List.set_set]
      · rw [List.getD_eq_getElem?_getD, List.getElem?_set_ne hne, ← List.getD_eq_getElem?_getD]
        exact e2
theorem mI_len (I : List (List Int)) (lo hi : Nat) : ∀ k : Nat, (mI I lo hi k).length = I.length
  | 0 => rfl
  | k + 1 => by
    unfold mI
    split
    · exact mI_len I lo hi k
    · rw [put2_len]; exact mI_len I lo hi k
def mR (I : List (List Int)) (lo hi k : Nat) : List Int := (mI I lo hi k).getD lo []
theorem mR_step {I : List (List Int)} {lo hi : Nat} (h1 : lo < I.length) (hne : lo ≠ hi) (k : Nat) :
    mR I lo hi (k + 1) = (if (I.getD hi []).getD k 0 < 0 ∨ 0 ≤ (mR I lo hi k).getD k 0 then mR I lo hi k else (mR I lo hi k).set k ((I.getD hi []).getD k 0)) ∧
    mQ I lo hi (k + 1) = (if 0 ≤ (I.getD hi []).getD k 0 ∧ 0 ≤ (mR I lo hi k).getD k 0 then mQ I lo hi k ++ [(((I.getD hi []).getD k 0).toNat, ((mR I lo hi k).getD k 0).toNat)] else mQ I lo hi k) := by
  obtain ⟨e1, e2⟩ := mI_set h1 hne k
  have a1 : at2 (mI I lo hi k) hi k = (I.getD hi []).getD k 0 := by unfold at2; rw [e2]
  have a2 : at2 (mI I lo hi k) lo k = (mR I lo hi k).getD k 0 := rfl
  refine ⟨?_, ?_⟩
  · unfold mR
    rw [mI, a1, a2]
    unfold mR
    split
    · rfl
    · unfold put2
      rw [List.getD_eq_getElem?_getD, List.getElem?_set_self (by rw [mI_len]; exact h1)]
      rfl
  · rw [mQ, a1, a2]
theorem mR_len {I : List (List Int)} {lo hi : Nat} (h1 : lo < I.length) (hne : lo ≠ hi) : ∀ k : Nat, (mR I lo hi k).length = (I.getD lo []).length
  | 0 => rfl
  | k + 1 => by
    rw [(mR_step h1 hne k).1]
    split
    · exact mR_len h1 hne k
    · rw [List.length_set]; exact mR_len h1 hne k
end Go.Ce
namespace Go.Proofs.YtfcbamfkfadabaaGreat
open Go.Gov Go.Ce
open Classical

end Go.Proofs.YtfcbamfkfadabaaGreat
set_option maxRecDepth 100000
namespace Go.Ce
open Classical
theorem clK_stay {G : Nat} {S : St} {w : List Int} {c k : Nat} (h : (clK G S w c k).1.bad = true) : ∀ m, clK G S w c (k + m) = clK G S w c k
  | 0 => rfl
  | m + 1 => by
    have ih := clK_stay h m
    rw [← Nat.add_assoc, clK, ih, if_pos h]
theorem clK_bad {G : Nat} {S : St} {w : List Int} {c k n : Nat} (h : (clK G S w c k).1.bad = true) (hk : k ≤ n) : clK G S w c n = clK G S w c k := by
  have := clK_stay h (n - k)
  rwa [show k + (n - k) = n by omega] at this
end Go.Ce
namespace Go.Proofs.YtfcbamfkfadabaaGreat
open Go.Gov Go.Ce
open Classical

end Go.Proofs.YtfcbamfkfadabaaGreat
set_option maxRecDepth 100000
namespace Go.Ce
open Classical
variable {G : Nat} {S : St} {rs : List (List Int)} {c k n : Nat}
end Go.Ce
namespace Go.Proofs.YtfcbamfkfadabaaGreat
open Go.Gov Go.Ce
open Classical

abbrev preA (G : Nat) (rs : List (List Int)) : AV := .agg [i64 (G : Int), mat rs]
end Go.Proofs.YtfcbamfkfadabaaGreat
set_option maxRecDepth 100000
namespace Go.Ce
open Classical
def oz (O : List Nat) : List Int := O.map fun (x : Nat) => (x : Int)
theorem oz_len (O : List Nat) : (oz O).length = O.length := by simp [oz]
theorem oz_at {O : List Nat} {i : Nat} (h : i < O.length) : (oz O).getD i 0 = (O.getD i 0 : Nat) := by simp [oz, h]
theorem plc_new {O : List Nat} {d : Nat} (h : d ∉ O) : plc (O ++ [d]) d = O.length := by
  unfold plc
  rw [List.idxOf_append, if_neg h]
  simp
theorem ei_end {G : Nat} (hG : G ≤ 5) {rs : List (List Int)} (hr : ∀ k, k < rs.length → Let G (rs.getD k [])) : ∀ (k : Nat) (S : St) (c : Nat), Ei G rs S c → 2001 ≤ c + k → ∃ c', Ei G rs (enum G rs) c' ∧ ¬ (c' < (enum G rs).le.length ∧ (enum G rs).bad = false)
  | 0, S, c, h, hk => by
    have h1 := h.ok.few
    have h2 := h.le
    omega
  | k + 1, S, c, h, hk => by
    by_cases hc : c < S.le.length ∧ S.bad = false
    · exact ei_end hG hr k _ _ (h.step hG hr hc.1 hc.2) (by omega)
    · have e := h.done hc
      rw [← e]
      exact ⟨c, h, hc⟩
theorem enum_ed {G : Nat} (hG : G ≤ 5) {rs : List (List Int)} (hr : ∀ k, k < rs.length → Let G (rs.getD k [])) (hb : (enum G rs).bad = false) : Ed G (enum G rs) := by
  obtain ⟨c, h1, h2⟩ := ei_end hG hr 2001 _ _ (ei_start G rs) (by omega)
  exact ed_of h1 hb h2
end Go.Ce
namespace Go.Proofs.YtfcbamfkfadabaaGreat
open Go.Gov Go.Ce
open Classical

end Go.Proofs.YtfcbamfkfadabaaGreat
