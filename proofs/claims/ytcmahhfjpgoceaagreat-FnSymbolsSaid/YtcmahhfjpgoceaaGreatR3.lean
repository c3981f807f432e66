/- Texts that belong together. -/
import Derived.Test.YtcmahhfjpgoceaaGreatR2
set_option linter.unusedSimpArgs false
set_option linter.unusedVariables false
set_option maxRecDepth 100000
namespace Go.Ce
open Classical
theorem clK_stay {G : Nat} {S : St} {w : List Int} {c k : Nat} (h : (clK G S w c k).1.bad = true) : ∀ m, clK G S w c (k + m) = clK G S w c k
  | 0 => rfl
  | m + 1 => by
    have ih := clK_stay h m
    rw [← Nat.add_assoc, clK, ih, if_pos h]
theorem clK_bad {G : Nat} {S : St} {w : List Int} {c k n : Nat} (h : (clK G S w c k).1.bad = true) (hk : k ≤ n) : clK G S w c n = clK G S w c k := by
  have := clK_stay h (n - k)
  rwa [show k + (n - k) = n by omega] at this
end Go.Ce
namespace Go.Proofs.YtcmahhfjpgoceaaGreat
open Go.Gov Go.Ce
open Classical

set_option maxHeartbeats 8000000 in
theorem l11Close_w (G : Nat) (hG : G ≤ 5) (S : St) (h : Ss G S) (hb : S.bad = false) (c : Nat) (hc : c < S.le.length) (w : List Int) (hw : Let G w) (hwl : w.length ≤ 1048576) :
    Wri Tryz.prog 158 [stO 0 1 S, i64 (c : Int), ints w] [some (S.im.map oints), some (intsC S.le)]
      (stO 2 3 (cls G S w c)) [none, none, some ((cls G S w c).im.map oints), some (intsC (cls G S w c).le)] := by
  have hSl := h.ok.len
  by_cases h0 : w.length = 0
  · have e : cls G S w c = S := by unfold cls; rw [if_pos h0]
    rw [e]
    refine wriRV ok158 rfl ?_; unfold c158
    refine RN ?_
    refine ⟨fun _ => ?_, fun hc1 => absurd (by omega) hc1⟩
    refine RN ?_
    refine Ref.trans (Ref.gc [0, 1] rfl ?_ ?_) (mv2a 2 S.im S.le S.im.length S.le.length S.bad (by omega))
    · simp only [go_sem, ↓reduceIte, Nat.reduceEqDiff, Nat.reduceAdd, reduceCtorEq]
    · simp [sub, fget, go_sem, ↓reduceIte, Nat.reduceEqDiff, Nat.reduceAdd, reduceCtorEq]
  · have ecl : cls G S w c = if (clK G S w c (w.length - 1)).1.bad = true then (clK G S w c (w.length - 1)).1 else fin G (clK G S w c (w.length - 1)).1 c (clK G S w c (w.length - 1)).2 (w.getD (w.length - 1) 0).toNat := by unfold cls; rw [if_neg h0]
    refine wriRV ok158 rfl ?_; unfold c158
    refine RN ?_
    intro _
    refine RN ?_
    refine V_loop (α := Nat) (S := fun k => ([(1, i64 (c : Int)), (2, ints w), (3, .ref 2 0), (6, .ref 3 0), (7, i64 ((clK G S w c k).2 : Int)), (8, i64 (k : Int))],
      [none, none, some [.sl 4 1 0 (clK G S w c k).1.im.length, .sl 5 1 0 (clK G S w c k).1.le.length, bl (clK G S w c k).1.bad], some [nilS, nilS, bl false], some ((clK G S w c k).1.im.map oints), some (intsC (clK G S w c k).1.le)]))
      (C := fun k => k + 1 ≤ w.length ∧ (clK G S w c k).1.bad = false) (μ := fun k => w.length - k) 0 ⟨by omega, hb⟩ ?_ ?_
    · refine (Ref.mv 0 (cs := S.im.map oints) (F' := [(1, i64 (c : Int)), (2, ints w), (3, .ref 2 0), (6, .ref 3 0), (7, i64 (c : Int)), (8, i64 0)]) (H' := [none, some (intsC S.le), some [.sl 4 1 0 S.im.length, .sl 1 1 0 S.le.length, bl S.bad], some [nilS, nilS, bl false], some (S.im.map oints)]) rfl (by simp only [go_sem, ↓reduceIte, Nat.reduceEqDiff, Nat.reduceAdd, reduceCtorEq]) (by simp [sub, fget, go_sem, ↓reduceIte, Nat.reduceEqDiff, Nat.reduceAdd, reduceCtorEq])).trans
        (Ref.mv 1 (cs := intsC S.le) rfl (by simp only [go_sem, ↓reduceIte, Nat.reduceEqDiff, Nat.reduceAdd, reduceCtorEq] <;> rfl) (by simp [sub, fget, go_sem, ↓reduceIte, Nat.reduceEqDiff, Nat.reduceAdd, reduceCtorEq, clK]))
    rintro k ⟨hk, hkb⟩
    obtain ⟨s1, s2, s3⟩ := clK_ok h hw hc k (by omega)
    have hnx := nx_ok s1 s3 (g := (w.getD k 0).toNat)
    have hcs : clK G S w c (k + 1) = nx G (clK G S w c k).1 (clK G S w c k).2 (w.getD k 0).toNat := by rw [clK, if_neg (by rw [hkb]; decide)]
    have hct := Nat.lt_of_lt_of_le hc s2.len
    have hN := fun g hg => l11Next_w G hG (clK G S w c k).1 s1 hkb (clK G S w c k).2 g s3 hg
    have hcb := fun hb2 => clK_bad (G := G) (S := S) (w := w) (c := c) (k := k + 1) (n := w.length - 1) hb2
    obtain ⟨p, hp⟩ : ∃ p, p = clK G S w c k := ⟨_, rfl⟩
    rw [← hp] at s1 s2 s3 hnx hcs hct hN hkb ⊢
    obtain ⟨T, d⟩ := p
    dsimp only at s1 s2 s3 hnx hcs hct hN hkb ⊢
    refine RN ?_
    refine ⟨fun hc2 => ?_, fun hc2 => ?_⟩
    · have hkl : k + 1 < w.length := by omega
      have hlet := hw k (by omega)
      have hN2 := hN (w.getD k 0).toNat (by omega)
      rw [← hcs] at hN2
      rw [show (((w.getD k 0).toNat : Nat) : Int) = w.getD k 0 by omega] at hN2
      have hnx2 := hnx (by omega)
      rw [← hcs] at hnx2
      obtain ⟨q, hq⟩ : ∃ q, q = clK G S w c (k + 1) := ⟨_, rfl⟩
      rw [← hq] at hN2 hnx2 hcb
      obtain ⟨U, e⟩ := q
      dsimp only at hN2 hnx2 hcb
      refine RN ?_
      refine V_altsS [(1, i64 (c : Int)), (2, ints w), (3, .ref 2 0), (6, .ref 3 0), (7, i64 (d : Int)), (8, i64 (k : Int)), (9, .ref 6 0), (10, i64 (e : Int))]
        [none, none, some [.any, .any, bl T.bad], some [nilS, nilS, bl false], some (U.im.map oints), some (intsC U.le), some [.sl 4 1 0 U.im.length, .sl 5 1 0 U.le.length, bl U.bad]] ?_ ?_
      · repeat' first
          | simp only [go_sem, ↓reduceIte, Nat.reduceEqDiff, Nat.reduceAdd, reduceCtorEq]
          | with_reducible refine LT_reg ?_
          | with_reducible refine LT_fin ?_
          | with_reducible exact LT_tt
          | with_reducible refine LT_alt ?_ ?_
          | (with_reducible refine And.intro ?_ ?_; focus first | assumption | omega | grind)
          | (refine wriC (hN2) [4, 5] ?_ ?_ ?_ ?_ ?_; (focus first | rfl | simp); (focus (simp only [go_sem, ↓reduceIte, Nat.reduceEqDiff, Nat.reduceAdd, reduceCtorEq] <;> rfl)); (focus (simp only [go_sem, ↓reduceIte, Nat.reduceEqDiff, Nat.reduceAdd, reduceCtorEq] <;> rfl)); (focus first | rfl | simp only [go_sem, ↓reduceIte, Nat.reduceEqDiff, Nat.reduceAdd, reduceCtorEq]))
        all_goals first
          | (refine Ref.gc [0, 1, 2, 3, 6, 7, 8] rfl ?_ ?_ <;> first | (simp only [go_sem, ↓reduceIte, Nat.reduceEqDiff, Nat.reduceAdd, reduceCtorEq]; done) | (simp only [go_sem, ↓reduceIte, Nat.reduceEqDiff, Nat.reduceAdd, reduceCtorEq]; rfl) | (simp [sub, fget, go_sem, ↓reduceIte, Nat.reduceEqDiff, Nat.reduceAdd, reduceCtorEq]; done))
          | (refine Ref.gc [0, 1, 2, 3, 7, 8, 6] rfl ?_ ?_ <;> first | (simp only [go_sem, ↓reduceIte, Nat.reduceEqDiff, Nat.reduceAdd, reduceCtorEq]; done) | (simp only [go_sem, ↓reduceIte, Nat.reduceEqDiff, Nat.reduceAdd, reduceCtorEq]; rfl) | (simp [sub, fget, go_sem, ↓reduceIte, Nat.reduceEqDiff, Nat.reduceAdd, reduceCtorEq]; done))
      · (refine RN ?_; try with_reducible exact trivial)
        refine ⟨fun hc3 => ?_, fun hc3 => ?_⟩
        · have hb2 : U.bad = true := by simpa using hc3
          have hcl := hcb hb2 (by omega)
          rw [hcl] at ecl
          dsimp only at ecl
          rw [if_pos hb2] at ecl
          rw [ecl]
          refine RN ?_
          exact Ref.gc1 [0, 1, 4, 5]
        · have hb2 : U.bad = false := by simpa using hc3
          refine RN ?_
          refine ⟨k + 1, ⟨by omega, by rw [← hq]; exact hb2⟩, by omega, ?_⟩
          rw [← hq]
          exact Ref.gc1 [0, 1, 2, 3, 4, 5]
    · obtain rfl : k = w.length - 1 := by omega
      rw [← hp] at ecl
      dsimp only at ecl
      rw [if_neg (by rw [hkb]; decide)] at ecl
      have hlet := hw (w.length - 1) (by omega)
      obtain ⟨g, hg⟩ : ∃ g, g = (w.getD (w.length - 1) 0).toNat := ⟨_, rfl⟩
      have hgz : w.getD (w.length - 1) 0 = (g : Int) := by omega
      rw [← hg] at ecl
      have hI1 := l11Image_c G T.im T.le T.bad s1.ok s1.few d g s3 (by omega) hG
      have hI2 := l11Image_c G T.im T.le T.bad s1.ok s1.few c g hct (by omega) hG
      have hTl := s1.ok.len
      have hTf := s1.few
      have b1 := s1.ok.img (c := d) (g := g) (by omega) (by omega)
      have b2 := s1.ok.img (c := c) (g := g) (by omega) (by omega)
      have hfin : fin G T c d g = if 0 ≤ img T.im T.le d g then ⟨(ident G T.im T.le (img T.im T.le d g).toNat c).1, (ident G T.im T.le (img T.im T.le d g).toNat c).2, T.bad⟩
        else if 0 ≤ img T.im T.le c g then ⟨(ident G T.im T.le (img T.im T.le c g).toNat d).1, (ident G T.im T.le (img T.im T.le c g).toNat d).2, T.bad⟩
        else ⟨put2 (put2 T.im d g (c : Int)) c g (d : Int), T.le, T.bad⟩ := rfl
      rw [← ecl] at hfin
      clear ecl
      generalize cls G S w c = Z at *
      have hD1 := fun a ha => l11Identify_w G hG T.im T.le T.bad s1.ok s1.few a c ha hct
      have hD2 := fun a ha => l11Identify_w G hG T.im T.le T.bad s1.ok s1.few a d ha s3
      have hrw := s1.ok.row
      obtain ⟨I, l, tb⟩ := T
      dsimp only at *
      subst hkb
      refine RN ?_
      simp only [hgz]
      refine pureC1 (hI1) ?_
      simp only [go_sem, ↓reduceIte, Nat.reduceEqDiff, Nat.reduceAdd, reduceCtorEq]
      refine pureC1 (hI2) ?_
      refine RN ?_
      refine ⟨fun hc3 => ?_, fun hc3 => ?_⟩
      · rw [if_pos hc3] at hfin
        have hD := hD1 (img I l d g).toNat (by omega)
        rw [show (((img I l d g).toNat : Nat) : Int) = img I l d g by omega] at hD
        rw [hfin]
        generalize ident G I l (img I l d g).toNat c = R at *
        refine wriC (hD) [4, 5] (by first | rfl | simp) (by simp only [go_sem, ↓reduceIte, Nat.reduceEqDiff, Nat.reduceAdd, reduceCtorEq] <;> rfl) (by simp only [go_sem, ↓reduceIte, Nat.reduceEqDiff, Nat.reduceAdd, reduceCtorEq] <;> rfl) (by first | rfl | simp only [go_sem, ↓reduceIte, Nat.reduceEqDiff, Nat.reduceAdd, reduceCtorEq]) ?_
        refine RN ?_
        exact Ref.gc1 [0, 1, 6, 7]
      · rw [if_neg (by omega)] at hfin
        refine RN ?_
        refine ⟨fun hc4 => ?_, fun hc4 => ?_⟩
        · rw [if_pos hc4] at hfin
          have hD := hD2 (img I l c g).toNat (by omega)
          rw [show (((img I l c g).toNat : Nat) : Int) = img I l c g by omega] at hD
          rw [hfin]
          generalize ident G I l (img I l c g).toNat d = R at *
          refine wriC (hD) [4, 5] (by first | rfl | simp) (by simp only [go_sem, ↓reduceIte, Nat.reduceEqDiff, Nat.reduceAdd, reduceCtorEq] <;> rfl) (by simp only [go_sem, ↓reduceIte, Nat.reduceEqDiff, Nat.reduceAdd, reduceCtorEq] <;> rfl) (by first | rfl | simp only [go_sem, ↓reduceIte, Nat.reduceEqDiff, Nat.reduceAdd, reduceCtorEq]) ?_
          refine RN ?_
          exact Ref.gc1 [0, 1, 6, 7]
        · rw [if_neg (by omega)] at hfin
          have hrc := hrw c (by omega)
          have hrd := hrw d (by omega)
          rw [hfin]
          by_cases hcd : d = c
          · subst hcd
            have hput : put2 (put2 I d g (d : Int)) d g (d : Int) = I.set d (((I.getD d []).set g (d : Int)).set g (d : Int)) := by
              unfold put2
              rw [List.getD_eq_getElem?_getD (l := List.set _ _ _), List.getElem?_set_self (by omega), List.set_set]
              rfl
            rw [hput]
            obtain ⟨t1, t2, t3⟩ := one_open (I := I) (c := d) (by omega) (.sl 6 1 0 (I.getD d []).length)
            have t5 := t3 (((I.getD d []).set g (d : Int)).set g (d : Int))
            refine V_ref ((Ref.open 4 d (cs := I.map oints) rfl (orow_at (by omega))).trans (Ref.to (F' := [(1, i64 (d : Int)), (3, .ref 2 0), (6, .ref 3 0), (7, i64 (d : Int)), (11, i64 (g : Int))])
              (H' := [none, none, some [.sl 4 1 0 I.length, .sl 5 1 0 l.length, bl false], some [nilS, nilS, bl false], some ((I.map oints).set d (.sl 6 1 0 (I.getD d []).length)), some (intsC l), some (intsC (I.getD d []))]) rfl (by simp [sub, fget]))) ?_
            generalize (I.map oints).set d (AV.sl 6 1 0 (I.getD d []).length) = D at *
            have g1 : ∀ z, D.getD d z = .sl 6 1 0 (I.getD d []).length := fun z => getD_of t2
            generalize I.getD d [] = A at *
            (repeat first | simp only [g1, t1, Int.toNat_natCast, go_sem, ↓reduceIte, Nat.reduceEqDiff, Nat.reduceAdd, reduceCtorEq] | with_reducible refine V_W ?_ | (with_reducible refine And.intro ?_ ?_; focus first | assumption | omega | decide | grind))
            have e1 : AV.osl 1 A.length (intsC ((A.set g (d : Int)).set g (d : Int))) = oints ((A.set g (d : Int)).set g (d : Int)) := by simp [oints]
            refine (Ref.close 4 d 6 (cs := D) (cs2 := intsC ((A.set g (d : Int)).set g (d : Int))) rfl t2 rfl (by decide) (by simp [intsC])).trans ?_
            rw [e1, t5]
            refine Ref.gc [0, 1, 4, 5] rfl ?_ ?_
            · simp only [go_sem, ↓reduceIte, Nat.reduceEqDiff, Nat.reduceAdd, reduceCtorEq]
            · simp [sub, fget, go_sem, ↓reduceIte, Nat.reduceEqDiff, Nat.reduceAdd, reduceCtorEq]
          · have hput : put2 (put2 I d g (c : Int)) c g (d : Int) = (I.set d ((I.getD d []).set g (c : Int))).set c ((I.getD c []).set g (d : Int)) := by
              unfold put2
              rw [List.getD_eq_getElem?_getD (l := List.set _ _ _), List.getElem?_set_ne hcd, ← List.getD_eq_getElem?_getD]
            rw [hput]
            obtain ⟨t1, t2, t3, t4⟩ := two_open (I := I) (c := d) (d := c) (by omega) (by omega) hcd (.sl 6 1 0 (I.getD d []).length) (.sl 7 1 0 (I.getD c []).length)
            have o2 : ((I.map oints).set d (.sl 6 1 0 (I.getD d []).length))[c]? = some (.osl 1 (I.getD c []).length (intsC (I.getD c []))) := by
              rw [List.getElem?_set_ne hcd]; exact orow_at (by omega)
            have t5 := t4 ((I.getD d []).set g (c : Int)) ((I.getD c []).set g (d : Int))
            refine V_ref ((Ref.open 4 d (cs := I.map oints) rfl (orow_at (by omega))).trans ((Ref.open 4 c (cs := (I.map oints).set d (.sl 6 1 0 (I.getD d []).length)) rfl o2).trans (Ref.to (F' := [(1, i64 (c : Int)), (3, .ref 2 0), (6, .ref 3 0), (7, i64 (d : Int)), (11, i64 (g : Int))])
              (H' := [none, none, some [.sl 4 1 0 I.length, .sl 5 1 0 l.length, bl false], some [nilS, nilS, bl false], some (((I.map oints).set d (.sl 6 1 0 (I.getD d []).length)).set c (.sl 7 1 0 (I.getD c []).length)), some (intsC l), some (intsC (I.getD d [])), some (intsC (I.getD c []))]) rfl (by simp [sub, fget])))) ?_
            generalize ((I.map oints).set d (AV.sl 6 1 0 (I.getD d []).length)).set c (AV.sl 7 1 0 (I.getD c []).length) = D at *
            have g1 : ∀ z, D.getD d z = .sl 6 1 0 (I.getD d []).length := fun z => getD_of t2
            have g2 : ∀ z, D.getD c z = .sl 7 1 0 (I.getD c []).length := fun z => getD_of t3
            generalize I.getD d [] = A at *
            generalize I.getD c [] = B at *
            (repeat first | simp only [g1, g2, t1, Int.toNat_natCast, go_sem, ↓reduceIte, Nat.reduceEqDiff, Nat.reduceAdd, reduceCtorEq] | with_reducible refine V_W ?_ | (with_reducible refine And.intro ?_ ?_; focus first | assumption | omega | decide | grind))
            have e1 : ∀ v : Int, AV.osl 1 A.length (intsC (A.set g v)) = oints (A.set g v) := fun v => by simp [oints]
            have e2 : ∀ v : Int, AV.osl 1 B.length (intsC (B.set g v)) = oints (B.set g v) := fun v => by simp [oints]
            have t6 : (D.set d (oints (A.set g (c : Int))))[c]? = some (.sl 7 1 0 B.length) := by rw [List.getElem?_set_ne hcd]; exact t3
            refine (Ref.close 4 d 6 (cs := D) (cs2 := intsC (A.set g (c : Int))) rfl t2 rfl (by decide) (by simp [intsC])).trans ?_
            rw [e1]
            refine (Ref.close 4 c 7 (cs := D.set d (oints (A.set g (c : Int)))) (cs2 := intsC (B.set g (d : Int))) rfl t6 rfl (by decide) (by simp [intsC])).trans ?_
            rw [e2, t5]
            refine Ref.gc [0, 1, 4, 5] rfl ?_ ?_
            · simp only [go_sem, ↓reduceIte, Nat.reduceEqDiff, Nat.reduceAdd, reduceCtorEq]
            · simp [sub, fget, go_sem, ↓reduceIte, Nat.reduceEqDiff, Nat.reduceAdd, reduceCtorEq]
end Go.Proofs.YtcmahhfjpgoceaaGreat
set_option maxRecDepth 100000
namespace Go.Ce
open Classical
variable {G : Nat} {S : St} {rs : List (List Int)} {c k n : Nat}
theorem rlK_stay (h : ¬ Go (rlK G S rs c k) c) : ∀ m, rlK G S rs c (k + m) = rlK G S rs c k
  | 0 => rfl
  | m + 1 => by
    have ih := rlK_stay h m
    rw [← Nat.add_assoc, rlK, ih, if_neg h]
theorem rlK_end (h : ¬ Go (rlK G S rs c k) c) (hk : k ≤ n) : rlK G S rs c n = rlK G S rs c k := by
  have := rlK_stay h (n - k)
  rwa [show k + (n - k) = n by omega] at this
theorem glK_stay (h : ¬ Go (glK G S c k) c) : ∀ m, glK G S c (k + m) = glK G S c k
  | 0 => rfl
  | m + 1 => by
    have ih := glK_stay h m
    rw [← Nat.add_assoc, glK, ih, if_neg h]
theorem glK_end (h : ¬ Go (glK G S c k) c) (hk : k ≤ n) : glK G S c n = glK G S c k := by
  have := glK_stay h (n - k)
  rwa [show k + (n - k) = n by omega] at this
end Go.Ce
namespace Go.Proofs.YtcmahhfjpgoceaaGreat
open Go.Gov Go.Ce
open Classical

abbrev preA (G : Nat) (rs : List (List Int)) : AV := .agg [i64 (G : Int), mat rs]
set_option maxHeartbeats 8000000 in
theorem l11Run_p (G : Nat) (hG1 : 1 ≤ G) (hG : G ≤ 5) (rs : List (List Int)) (hrl : rs.length ≤ 1048576) (hrs : ∀ k, k < rs.length → Let G (rs.getD k []) ∧ (rs.getD k []).length ≤ 1048576) :
    Pure Tryz.prog 154 [preA G rs, nilS] (stO 0 1 (enum G rs)) [some ((enum G rs).im.map oints), some (intsC (enum G rs).le)] := by
  have hlet : ∀ k, k < rs.length → Let G (rs.getD k []) := fun k hk => (hrs k hk).1
  have hD0 := l11Define_0 G hG
  refine pureRV ok154 rfl ?_; unfold c154
  refine RN ?_
  refine pureC1 (hD0) ?_
  refine RN ?_
  refine V_loop (α := Unit) (S := fun _ => ([(1, nilS), (2, .ref 0 0), (4, .ref 1 0), (5, .ref 2 0), (6, i64 0), (7, i64 0)], [some [i64 (G : Int), mat rs], some [nilS, nilS, bl false], some [.sl 3 1 0 1, .sl 4 1 0 1, bl false], some [oints (List.replicate G (-1))], some (intsC [0])])) (C := fun _ => True) (μ := fun _ => 0) () trivial ?_ ?_
  · exact Ref.gc [0, 1, 4, 2, 3] rfl (by simp only [go_sem, ↓reduceIte, Nat.reduceEqDiff, Nat.reduceAdd, reduceCtorEq]; simp [oints]) (by simp [sub, fget, go_sem, ↓reduceIte, Nat.reduceEqDiff, Nat.reduceAdd, reduceCtorEq])
  rintro _ _
  refine RN ?_
  intro _
  refine RN ?_
  refine V_loop (α := St × Nat) (S := fun p => ([(2, .ref 0 0), (4, .ref 1 0), (5, .ref 2 0), (8, i64 (p.2 : Int))], [some [i64 (G : Int), mat rs], some [nilS, nilS, bl false], some [.sl 3 1 0 p.1.im.length, .sl 4 1 0 p.1.le.length, bl p.1.bad], some (p.1.im.map oints), some (intsC p.1.le)]))
    (C := fun p => Ei G rs p.1 p.2) (μ := fun p => 2001 - p.2) (Go.Ce.start G, 0) (ei_start G rs) (Ref.to (by simp [Go.Ce.start, oints]) (by simp [sub, fget])) ?_
  rintro ⟨S, c⟩ hE
  dsimp only at hE ⊢
  have hfew := hE.ok.few
  have hle := hE.le
  have hSl := hE.ok.ok.len
  refine RN ?_
  refine ⟨fun hc1 => ?_, fun hc1 => ?_⟩
  · obtain ⟨hcl, hcb⟩ := hc1
    have hcl' : c < S.le.length := by omega
    have hES := hE.step hG hlet hcl' hcb
    obtain ⟨r1, r2⟩ := rlK_ok hG hE.ok hlet hcl' rs.length (Nat.le_refl _)
    have hrk := fun k hk => rlK_ok hG hE.ok hlet hcl' k (hk : k ≤ rs.length)
    refine RN ?_
    refine V_loop (α := Nat) (S := fun k => ([(2, .ref 0 0), (4, .ref 1 0), (5, .ref 2 0), (8, i64 (c : Int)), (9, i64 (k : Int))], [some [i64 (G : Int), mat rs], some [nilS, nilS, bl false], some [.sl 3 1 0 (rlK G S rs c k).im.length, .sl 4 1 0 (rlK G S rs c k).le.length, bl (rlK G S rs c k).bad], some ((rlK G S rs c k).im.map oints), some (intsC (rlK G S rs c k).le)]))
      (C := fun k => k ≤ rs.length) (μ := fun k => rs.length - k) 0 (Nat.zero_le _) (Ref.to rfl (by simp [sub, fget])) ?_
    intro k hk
    obtain ⟨q1, q2⟩ := hrk k hk
    have hst : rlK G S rs c (k + 1) = if Go (rlK G S rs c k) c then cls G (rlK G S rs c k) (rs.getD k []) c else rlK G S rs c k := rfl
    have hen := fun h => rlK_end (G := G) (S := S) (rs := rs) (c := c) (k := k) (n := rs.length) h hk
    obtain ⟨T, hT⟩ : ∃ T, T = rlK G S rs c k := ⟨_, rfl⟩
    rw [← hT] at q1 q2 hst hen ⊢
    have hcT : c < T.le.length := Nat.lt_of_lt_of_le hcl' q2.len
    have hTl := q1.ok.len
    have hTf := q1.few
    refine RN ?_
    refine ⟨fun hc2 => ?_, fun hc2 => ?_⟩
    · obtain ⟨⟨hc3, hc4⟩, hc5⟩ := hc2
      rw [if_pos ⟨hc4, hc5⟩] at hst
      obtain ⟨w1, w2⟩ := hrs k (by omega)
      have hC := l11Close_w G hG T q1 hc5 c hcT (rs.getD k []) w1 w2
      rw [← hst] at hC
      obtain ⟨U, hU⟩ : ∃ U, U = rlK G S rs c (k + 1) := ⟨_, rfl⟩
      rw [← hU] at hC
      refine RN ?_
      refine wriC (hC) [3, 4] (by first | rfl | simp) (by simp only [go_sem, ↓reduceIte, Nat.reduceEqDiff, Nat.reduceAdd, reduceCtorEq] <;> rfl) (by simp only [go_sem, ↓reduceIte, Nat.reduceEqDiff, Nat.reduceAdd, reduceCtorEq] <;> rfl) (by first | rfl | simp only [go_sem, ↓reduceIte, Nat.reduceEqDiff, Nat.reduceAdd, reduceCtorEq]) ?_
      refine RN ?_
      refine ⟨k + 1, by omega, by omega, ?_⟩
      rw [← hU]
      exact Ref.gc1 [0, 1, 2, 5, 6]
    · have hTe : rlK G S rs c rs.length = T := by
        by_cases hg : Go T c
        · have : k = rs.length := by
            unfold Go at hg
            rcases hc2 with (hc2 | hc2) | hc2
            · omega
            · exact absurd hg.1 hc2
            · rw [hg.2] at hc2; cases hc2
          rw [← this, ← hT]
        · exact hen hg
      rw [hTe] at r1 r2 hES
      have hgk := fun m hm => glK_ok r1 hcT m (hm : m ≤ G)
      refine RN ?_
      refine V_loop (α := Nat) (S := fun m => ([(2, .ref 0 0), (4, .ref 1 0), (5, .ref 2 0), (8, i64 (c : Int)), (10, i64 (m : Int))], [some [i64 (G : Int), mat rs], some [nilS, nilS, bl false], some [.sl 3 1 0 (glK G T c m).im.length, .sl 4 1 0 (glK G T c m).le.length, bl (glK G T c m).bad], some ((glK G T c m).im.map oints), some (intsC (glK G T c m).le)]))
        (C := fun m => m ≤ G) (μ := fun m => G - m) 0 (Nat.zero_le _) (Ref.to rfl (by simp [sub, fget])) ?_
      intro m hm
      obtain ⟨u1, u2, u3⟩ := hgk m hm
      have hgs : glK G T c (m + 1) = if Go (glK G T c m) c then (nx G (glK G T c m) c m).1 else glK G T c m := rfl
      have hge := fun h => glK_end (G := G) (S := T) (c := c) (k := m) (n := G) h hm
      obtain ⟨V, hV⟩ : ∃ V, V = glK G T c m := ⟨_, rfl⟩
      rw [← hV] at u1 u2 u3 hgs hge ⊢
      have hcV : c < V.le.length := Nat.lt_of_lt_of_le hcT u2.len
      have hVl := u1.ok.len
      have hVf := u1.few
      refine RN ?_
      refine ⟨fun hc6 => ?_, fun hc6 => ?_⟩
      · obtain ⟨⟨hc7, hc8⟩, hc9⟩ := hc6
        rw [if_pos ⟨hc8, hc9⟩] at hgs
        have hN := l11Next_w G hG V u1 hc9 c m hcV (by omega)
        generalize nx G V c m = Y at hN hgs
        refine RN ?_
        refine wriC (hN) [3, 4] (by first | rfl | simp) (by simp only [go_sem, ↓reduceIte, Nat.reduceEqDiff, Nat.reduceAdd, reduceCtorEq] <;> rfl) (by simp only [go_sem, ↓reduceIte, Nat.reduceEqDiff, Nat.reduceAdd, reduceCtorEq] <;> rfl) (by first | rfl | simp only [go_sem, ↓reduceIte, Nat.reduceEqDiff, Nat.reduceAdd, reduceCtorEq]) ?_
        refine RN ?_
        refine ⟨m + 1, by omega, by omega, ?_⟩
        rw [hgs]
        exact Ref.gc1 [0, 1, 2, 5, 6]
      · have hVe : glK G T c G = V := by
          by_cases hg : Go V c
          · have : m = G := by
              unfold Go at hg
              rcases hc6 with (hc6 | hc6) | hc6
              · omega
              · exact absurd hg.1 hc6
              · rw [hg.2] at hc6; cases hc6
            rw [hV, this]
          · exact hge hg
        rw [hVe] at hES
        refine RN ?_
        refine ⟨(V, c + 1), hES, by dsimp only; omega, ?_⟩
        exact Ref.to rfl (by simp [sub, fget])
  · have hdone := hE.done (by rintro ⟨h1, h2⟩; rcases hc1 with h | h; omega; rw [h2] at h; cases h)
    rw [← hdone]
    refine RN ?_
    exact Ref.gc1 [3, 4]
end Go.Proofs.YtcmahhfjpgoceaaGreat
set_option maxRecDepth 100000
namespace Go.Ce
open Classical
def oz (O : List Nat) : List Int := O.map fun (x : Nat) => (x : Int)
theorem oz_len (O : List Nat) : (oz O).length = O.length := by simp [oz]
theorem oz_at {O : List Nat} {i : Nat} (h : i < O.length) : (oz O).getD i 0 = (O.getD i 0 : Nat) := by simp [oz, h]
noncomputable def nmV (O : List Nat) (n : Nat) : List Int := (List.range n).map fun d => if d ∈ O then (plc O d : Int) else -1
theorem nmV_len (O : List Nat) (n : Nat) : (nmV O n).length = n := by simp [nmV]
theorem nmV_at {O : List Nat} {n d : Nat} (h : d < n) : (nmV O n).getD d 0 = if d ∈ O then (plc O d : Int) else -1 := by simp [nmV, h]
theorem plc_new {O : List Nat} {d : Nat} (h : d ∉ O) : plc (O ++ [d]) d = O.length := by
  unfold plc
  rw [List.idxOf_append, if_neg h]
  simp
theorem nmV_set {O : List Nat} {n d : Nat} (h : d ∉ O) : (nmV O n).set d (O.length : Int) = nmV (O ++ [d]) n := by
  refine List.ext_getElem (by simp [nmV]) fun j h1 h2 => ?_
  rw [List.getElem_set]
  simp only [nmV, List.getElem_map, List.getElem_range]
  by_cases e : d = j
  · subst e
    rw [if_pos rfl, if_pos (by simp), plc_new h]
  · rw [if_neg e]
    by_cases hj : j ∈ O
    · rw [if_pos hj, if_pos (by simp [hj]), plc_pre hj]
    · rw [if_neg hj, if_neg (by simp [hj]; exact fun h => e h.symm)]
theorem nmV_ge {O : List Nat} {n d : Nat} (h : d < n) : (nmV O n).getD d 0 < 0 ↔ d ∉ O := by
  rw [nmV_at h]
  split
  · rename_i hm; simp [hm]
  · rename_i hm; simp [hm]
def nmI (n i : Nat) : List Int := (List.range n).map fun d => if d = 0 then 0 else if d < i then -1 else 0
theorem nmI_len (n i : Nat) : (nmI n i).length = n := by simp [nmI]
theorem nmI_one (n : Nat) : nmI n 1 = List.replicate n 0 := by
  refine List.ext_getElem (by simp [nmI]) fun j h1 h2 => ?_
  simp only [nmI, List.getElem_map, List.getElem_range, List.getElem_replicate]
  split
  · rfl
  · rw [if_neg (by omega)]
theorem nmI_set {n i : Nat} (hi : 1 ≤ i) : (nmI n i).set i (-1) = nmI n (i + 1) := by
  refine List.ext_getElem (by simp [nmI]) fun j h1 h2 => ?_
  rw [List.getElem_set]
  simp only [nmI, List.getElem_map, List.getElem_range]
  by_cases e : i = j
  · subst e
    rw [if_pos rfl, if_neg (by omega), if_pos (by omega)]
  · rw [if_neg e]
    by_cases h0 : j = 0
    · rw [if_pos h0, if_pos h0]
    · rw [if_neg h0, if_neg h0]
      by_cases h3 : j < i
      · rw [if_pos h3, if_pos (by omega)]
      · rw [if_neg h3, if_neg (by omega)]
theorem ei_end {G : Nat} (hG : G ≤ 5) {rs : List (List Int)} (hr : ∀ k, k < rs.length → Let G (rs.getD k [])) : ∀ (k : Nat) (S : St) (c : Nat), Ei G rs S c → 2001 ≤ c + k → ∃ c', Ei G rs (enum G rs) c' ∧ ¬ (c' < (enum G rs).le.length ∧ (enum G rs).bad = false)
  | 0, S, c, h, hk => by
    have h1 := h.ok.few
    have h2 := h.le
    omega
  | k + 1, S, c, h, hk => by
    by_cases hc : c < S.le.length ∧ S.bad = false
    · exact ei_end hG hr k _ _ (h.step hG hr hc.1 hc.2) (by omega)
    · have e := h.done hc
      rw [← e]
      exact ⟨c, h, hc⟩
theorem enum_ed {G : Nat} (hG : G ≤ 5) {rs : List (List Int)} (hr : ∀ k, k < rs.length → Let G (rs.getD k [])) (hb : (enum G rs).bad = false) : Ed G (enum G rs) := by
  obtain ⟨c, h1, h2⟩ := ei_end hG hr 2001 _ _ (ei_start G rs) (by omega)
  exact ed_of h1 hb h2
theorem nmI_end (n : Nat) : nmI n n = nmV [0] n := by
  refine List.ext_getElem (by simp [nmI, nmV]) fun j h1 h2 => ?_
  simp only [nmI, nmV, List.getElem_map, List.getElem_range]
  by_cases h0 : j = 0
  · subst h0; simp [plc]
  · rw [if_neg h0, if_pos (by simpa [nmI] using h1), if_neg (by simpa using h0)]
end Go.Ce
namespace Go.Proofs.YtcmahhfjpgoceaaGreat
open Go.Gov Go.Ce
open Classical

theorem l11Table_bad (G : Nat) (hG1 : 1 ≤ G) (hG : G ≤ 5) (rs : List (List Int)) (hrl : rs.length ≤ 1048576) (hrs : ∀ k, k < rs.length → Let G (rs.getD k []) ∧ (rs.getD k []).length ≤ 1048576) (hb : (enum G rs).bad = true) :
    Pure Tryz.prog 148 [preA G rs, nilS] (.tup [nilS, bl false]) [] := by
  have hR := l11Run_p G hG1 hG rs hrl hrs
  generalize enum G rs = S at *
  refine pureV0 ok148 rfl rfl ?_; unfold c148
  refine RN ?_
  refine pureC1 (hR) ?_
  refine RN ?_
  refine ⟨fun _ => ?_, fun h => absurd (hb.symm.trans h) (by decide)⟩
  (refine RN ?_; try with_reducible exact trivial)
set_option maxHeartbeats 8000000 in
theorem l11Table_p (G : Nat) (hG1 : 1 ≤ G) (hG : G ≤ 5) (rs : List (List Int)) (hrl : rs.length ≤ 1048576) (hrs : ∀ k, k < rs.length → Let G (rs.getD k []) ∧ (rs.getD k []).length ≤ 1048576) (hb : (enum G rs).bad = false) :
    Pure Tryz.prog 148 [preA G rs, nilS] (.tup [.sl 0 1 0 G, bl true]) [some ((tbl G (enum G rs)).map oints)] := by
  have hR := l11Run_p G hG1 hG rs hrl hrs
  have hE := enum_ed hG (fun k hk => (hrs k hk).1) hb
  generalize enum G rs = S at *
  have hSl := hE.ok.ok.len
  have hSf := hE.ok.few
  have hSp := hE.ok.pos
  refine pureRV ok148 rfl ?_; unfold c148
  refine RN ?_
  refine pureC1 (hR) ?_
  refine RN ?_
  refine ⟨fun h => absurd (hb.symm.trans h) (by decide), fun _ => ?_⟩
  refine RN ?_
  refine V_loop (α := Nat) (S := fun i => ([(2, .ref 0 0), (6, .ref 3 0), (7, .sl 4 1 0 1), (8, .sl 5 1 0 S.le.length), (9, i64 (i : Int))], [some [i64 (G : Int), mat rs], some (S.im.map oints), some (intsC S.le), some [.sl 1 1 0 S.im.length, .sl 2 1 0 S.le.length, bl S.bad], some (intsC [0]), some (intsC (nmI S.le.length i))]))
    (C := fun i => 1 ≤ i ∧ i ≤ S.le.length) (μ := fun i => S.le.length - i) 1 ⟨Nat.le_refl _, hSp⟩ ?_ ?_
  · exact Ref.to (by rw [nmI_one]; rfl) (by simp [sub, fget])
  rintro i ⟨hi1, hi⟩
  have hnl := nmI_len S.le.length i
  refine RN ?_
  refine ⟨fun hc1 => ?_, fun hc1 => ?_⟩
  · have hst := nmI_set (n := S.le.length) hi1
    refine RN ?_
    exact ⟨i + 1, ⟨by omega, by omega⟩, by omega, Ref.to (by rw [hst]) (by simp [sub, fget])⟩
  obtain rfl : i = S.le.length := by omega
  rw [nmI_end]
  refine RN ?_
  refine V_loop (α := List Nat × Nat) (S := fun p => ([(2, .ref 0 0), (6, .ref 3 0), (7, .sl 4 1 0 p.1.length), (8, .sl 5 1 0 S.le.length), (10, i64 (p.2 : Int))], [some [i64 (G : Int), mat rs], some (S.im.map oints), some (intsC S.le), some [.sl 1 1 0 S.im.length, .sl 2 1 0 S.le.length, bl S.bad], some (intsC (oz p.1)), some (intsC (nmV p.1 S.le.length))]))
    (C := fun p => Oi G S p.1 p.2) (μ := fun p => 2001 - p.2) ([0], 0) (oi_start hE) (Ref.to rfl (by simp [sub, fget])) ?_
  rintro ⟨O, i⟩ hO
  dsimp only at hO ⊢
  have hol := od_len hO.od
  have hle := hO.le
  have hoz := oz_len O
  refine RN ?_
  refine ⟨fun hc2 => ?_, fun hc2 => ?_⟩
  · have hiO : i < O.length := by omega
    have hmem := getD_memN hiO
    have hrt := hO.od.rt _ hmem
    have hgok := fun m hm => oG_ok hE hO.od hmem m (hm : m ≤ G)
    have hgp := oG_pre S O (O.getD i 0)
    have hOs := hO.step hE hiO
    refine RN ?_
    refine V_loop (α := Nat) (S := fun m => ([(2, .ref 0 0), (6, .ref 3 0), (7, .sl 4 1 0 (oG S O (O.getD i 0) m).length), (8, .sl 5 1 0 S.le.length), (10, i64 (i : Int)), (11, i64 (m : Int))], [some [i64 (G : Int), mat rs], some (S.im.map oints), some (intsC S.le), some [.sl 1 1 0 S.im.length, .sl 2 1 0 S.le.length, bl S.bad], some (intsC (oz (oG S O (O.getD i 0) m))), some (intsC (nmV (oG S O (O.getD i 0) m) S.le.length))]))
      (C := fun m => m ≤ G) (μ := fun m => G - m) 0 (Nat.zero_le _) (Ref.to rfl (by simp [sub, fget, oG])) ?_
    intro m hm
    obtain ⟨v1, v2⟩ := hgok m hm
    obtain ⟨L, hL⟩ := hgp m
    have hst : oG S O (O.getD i 0) (m + 1) = psN (oG S O (O.getD i 0) m) (im2 S (O.getD i 0) m) := rfl
    obtain ⟨x, hx⟩ : ∃ x, x = O.getD i 0 := ⟨_, rfl⟩
    rw [← hx] at hrt hst hL v1 v2 ⊢
    have hat : (oG S O x m).getD i 0 = x := by rw [hL, getD_pre hiO, hx]
    obtain ⟨V, hV⟩ : ∃ V, V = oG S O x m := ⟨_, rfl⟩
    rw [← hV] at v1 v2 hst hL hat ⊢
    have hvl := od_len v1
    have hvz := oz_len V
    have hiV : i < V.length := by rw [hL, List.length_append]; omega
    have hoa := oz_at hiV
    rw [hat] at hoa
    refine RN ?_
    refine ⟨fun hc3 => ?_, fun hc3 => ?_⟩
    · have hmG : m < G := by omega
      obtain ⟨i1, i2⟩ := im2_ok hE hrt hmG
      have hIm := l11Image_c G S.im S.le S.bad hE.ok.ok hSf x m hrt.1 hmG hG
      rw [i1] at hIm
      obtain ⟨d, hd⟩ : ∃ d, d = im2 S x m := ⟨_, rfl⟩
      rw [← hd] at hIm i2 hst
      have hdl := i2.1
      have hge := nmV_ge (O := V) hdl
      have hnv := nmV_len V S.le.length
      refine RN ?_
      simp only [hoa]
      refine pureC1 (hIm) ?_
      refine RN ?_
      refine ⟨fun hc4 => ?_, fun hc4 => ?_⟩
      · have hdV := hge.1 hc4
        unfold psN at hst
        rw [if_neg hdV] at hst
        have hse := nmV_set (n := S.le.length) hdV
        refine RN ?_
        refine ⟨m + 1, by omega, by omega, ?_⟩
        rw [hst]
        have tk1 : (intsC (oz V)).take V.length = intsC (oz V) := List.take_of_length_le (by rw [len_intsC, hvz]; exact Nat.le_refl _)
        refine Ref.gc [0, 1, 2, 3, 7, 5] rfl ?_ (by simp [sub, fget, go_sem, ↓reduceIte, Nat.reduceEqDiff, Nat.reduceAdd, reduceCtorEq])
        simp only [go_sem, ↓reduceIte, Nat.reduceEqDiff, Nat.reduceAdd, reduceCtorEq]
        rw [tk1, rnmL_ints, hse]
        simp [intsC, oz]
      · have hdV : d ∈ V := Classical.byContradiction fun h => by have := hge.2 h; omega
        unfold psN at hst
        rw [if_pos hdV] at hst
        refine RN ?_
        refine ⟨m + 1, by omega, by omega, ?_⟩
        rw [hst]
        exact Ref.to rfl (by simp [sub, fget])
    · obtain rfl : m = G := by omega
      rw [← hx, ← hV] at hOs
      refine RN ?_
      exact ⟨(V, i + 1), hOs, by dsimp only; omega, Ref.to rfl (by simp [sub, fget])⟩
  · have hdo := hO.done hE (by omega)
    have hok := ord_ok hE
    rw [← hdo] at hok
    have htb : tbl G S = (List.range G).map fun g => tbR S O g O.length := by unfold tbl; rw [hdo]
    have hcl := hok.cl
    rw [htb]
    clear htb hdo
    have hnv := nmV_len O S.le.length
    refine RN ?_
    refine V_loop (α := Nat) (S := fun g => ([(2, .ref 0 0), (6, .ref 3 0), (7, .sl 4 1 0 O.length), (8, .sl 5 1 0 S.le.length), (13, .sl 6 1 0 g), (14, i64 (g : Int))], [some [i64 (G : Int), mat rs], some (S.im.map oints), some (intsC S.le), some [.sl 1 1 0 S.im.length, .sl 2 1 0 S.le.length, bl S.bad], some (intsC (oz O)), some (intsC (nmV O S.le.length)), some (((List.range g).map fun g => tbR S O g O.length).map oints)]))
      (C := fun g => g ≤ G) (μ := fun g => G - g) 0 (Nat.zero_le _) (Ref.to rfl (by simp [sub, fget])) ?_
    intro g hg
    refine RN ?_
    refine ⟨fun hc5 => ?_, fun hc5 => ?_⟩
    · have hgG : g < G := by omega
      refine RN ?_
      refine V_loop (α := Nat) (S := fun j => ([(2, .ref 0 0), (6, .ref 3 0), (7, .sl 4 1 0 O.length), (8, .sl 5 1 0 S.le.length), (13, .sl 6 1 0 g), (14, i64 (g : Int)), (15, .sl 7 1 0 j), (16, i64 (j : Int))], [some [i64 (G : Int), mat rs], some (S.im.map oints), some (intsC S.le), some [.sl 1 1 0 S.im.length, .sl 2 1 0 S.le.length, bl S.bad], some (intsC (oz O)), some (intsC (nmV O S.le.length)), some (((List.range g).map fun g => tbR S O g O.length).map oints), some (intsC (tbR S O g j))]))
        (C := fun j => j ≤ O.length) (μ := fun j => O.length - j) 0 (Nat.zero_le _) (Ref.to rfl (by simp [sub, fget])) ?_
      intro j hj
      have htl := tbR_len S O g j
      refine RN ?_
      refine ⟨fun hc6 => ?_, fun hc6 => ?_⟩
      · have hjO : j < O.length := by omega
        have hoa := oz_at hjO
        obtain ⟨x, hx⟩ : ∃ x, x = O.getD j 0 := ⟨_, rfl⟩
        have hrt := hok.od.rt _ (getD_memN hjO)
        obtain ⟨i1, i2⟩ := im2_ok hE hrt hgG
        have hIm := l11Image_c G S.im S.le S.bad hE.ok.ok hSf (O.getD j 0) g hrt.1 hgG hG
        have hin := hcl j hjO g hgG
        have hts := tbR_succ S O g j
        have hna := nmV_at (O := O) i2.1
        rw [if_pos hin] at hna
        rw [i1] at hIm
        have hdl := i2.1
        rw [← hna] at hts
        generalize im2 S (O.getD j 0) g = d at *
        generalize tbR S O g j = R at *
        refine RN ?_
        simp only [hoa]
        refine pureC1 (hIm) ?_
        refine RN ?_
        refine ⟨j + 1, by omega, by omega, ?_⟩
        rw [hts]
        have tk1 : (intsC R).take j = intsC R := List.take_of_length_le (by rw [len_intsC, htl]; exact Nat.le_refl _)
        refine Ref.gc [0, 1, 2, 3, 4, 5, 6, 9] rfl ?_ (by simp [sub, fget, go_sem, ↓reduceIte, Nat.reduceEqDiff, Nat.reduceAdd, reduceCtorEq])
        simp only [go_sem, ↓reduceIte, Nat.reduceEqDiff, Nat.reduceAdd, reduceCtorEq]
        rw [tk1, rnmL_ints]
        simp [intsC]
      · obtain rfl : j = O.length := by omega
        have hgl : (((List.range g).map fun g => tbR S O g O.length)).length = g := by simp
        have hgs : ((List.range (g + 1)).map fun g => tbR S O g O.length) = ((List.range g).map fun g => tbR S O g O.length) ++ [tbR S O g O.length] := by simp [List.range_succ]
        rw [List.length_map] at hgl
        refine RN ?_
        refine ⟨g + 1, by omega, by omega, ?_⟩
        rw [hgs]
        generalize hM : (List.range g).map (fun g => tbR S O g O.length) = Mx at *
        have hMl : Mx.length = g := by rw [← hM]; simp
        refine (Ref.close 9 g 7 (k := 1) (n := O.length) (cs2 := intsC (tbR S O g O.length)) rfl (by rw [List.getElem?_append_right (by simp [hMl])]; simp [hMl]) rfl (by decide) (by simp [intsC, htl])).trans (Ref.gc [0, 1, 2, 3, 4, 5, 9] rfl ?_ (by simp [sub, fget, go_sem, ↓reduceIte, Nat.reduceEqDiff, Nat.reduceAdd, reduceCtorEq]))
        have hset : ∀ x y : AV, (Mx.map oints ++ [x]).set g y = Mx.map oints ++ [y] := fun x y => by
          rw [List.set_append_right _ _ (by simp [hMl])]; simp [hMl]
        have tk1 : (Mx.map oints).take g = Mx.map oints := List.take_of_length_le (by simp [hMl])
        simp only [go_sem, ↓reduceIte, Nat.reduceEqDiff, Nat.reduceAdd, reduceCtorEq]
        rw [tk1, rnmL_orows, hset]
        simp [oints, htl]
    · obtain rfl : g = G := by omega
      refine RN ?_
      exact Ref.gc1 [6]
end Go.Proofs.YtcmahhfjpgoceaaGreat
