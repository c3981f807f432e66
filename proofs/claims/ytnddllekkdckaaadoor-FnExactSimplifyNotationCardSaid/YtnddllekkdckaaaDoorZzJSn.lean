/- FnExactSimplifyNotation: the given statement. -/
import Derived.Shelf.SlGeneric
import Derived.Shelf.Strings.Replace
import Derived.Ground.NamesProg
import Derived.Shelf.Strings.Prefix
import Derived.Test.YtnddllekkdckaaaDoorProg
import Derived.Lib.ReplaceLaws
import Derived.Lib.LaidTab
import Derived.Test.YtnddllekkdckaaaDoorRows
import Derived.Test.YtnddllekkdckaaaDoorCards
import Derived.Test.YtnddllekkdckaaaDoorTie
import Derived.Shelf.Vars
import Derived.ProofKit
import Derived.LaidMore
import Derived.SevenTiedAt
import Derived.Lay
import Derived.MakeChecks
import Derived.ChangeMaps5
import Derived.Lib.SmallJoins
import Derived.OpenShut
import Derived.Test.YtnddllekkdckaaaDoorZp
import Derived.Test.YtnddllekkdckaaaDoorT9
import Derived.Test.YtnddllekkdckaaaDoorT7
set_option linter.unusedSimpArgs false
set_option linter.unusedVariables false
set_option maxRecDepth 100000
namespace Go.Proofs
open Go.Shelf
def Tryd.repL_ren : Go.Shelf.Ren := ⟨fun | 154 => 46 | 138 => 57 | 165 => 58 | 143 => 54 | 166 => 59 | 197 => 60 | 169 => 61 | 195 => 70 | 218 => 71 | 240 => 72 | 241 => 73 | 219 => 66 | 260 => 74 | 276 => 86 | 277 => 87 | 217 => 76 | 225 => 77 | 224 => 78 | 267 => 79 | 266 => 90 | 314 => 91 | n => n, fun | 9 => 9 | 3 => 3 | 4 => 4 | 72 => 69 | 0 => 0 | 76 => 71 | 105 => 73 | 21 => 21 | 5 => 5 | 70 => 67 | 20 => 20 | 37 => 46 | 75 => 63 | 127 => 80 | 164 => 91 | 46 => 83 | 119 => 94 | 139 => 97 | 138 => 96 | 146 => 100 | 51 => 99 | 80 => 36 | n => n, fun | 1 => 1 | 3 => 2 | 4 => 3 | n => n⟩
theorem Tryd.repL : Go.Proofs.Lays.n154 Tryd.prog Tryd.repL_ren := {
  mixed := by kernel_rfl
  f138 := Tryd.func57.trans (congrArg some (by kernel_rfl))
  f143 := Tryd.func54.trans (congrArg some (by kernel_rfl))
  f154 := Tryd.func46.trans (congrArg some (by kernel_rfl))
  f165 := Tryd.func58.trans (congrArg some (by kernel_rfl))
  f166 := Tryd.func59.trans (congrArg some (by kernel_rfl))
  f169 := Tryd.func61.trans (congrArg some (by kernel_rfl))
  f195 := Tryd.func70.trans (congrArg some (by kernel_rfl))
  f197 := Tryd.func60.trans (congrArg some (by kernel_rfl))
  f217 := Tryd.func76.trans (congrArg some (by kernel_rfl))
  f218 := Tryd.func71.trans (congrArg some (by kernel_rfl))
  f219 := Tryd.func66.trans (congrArg some (by kernel_rfl))
  f224 := Tryd.func78.trans (congrArg some (by kernel_rfl))
  f225 := Tryd.func77.trans (congrArg some (by kernel_rfl))
  f240 := Tryd.func72.trans (congrArg some (by kernel_rfl))
  f241 := Tryd.func73.trans (congrArg some (by kernel_rfl))
  f260 := Tryd.func74.trans (congrArg some (by kernel_rfl))
  f266 := Tryd.func90.trans (congrArg some (by kernel_rfl))
  f267 := Tryd.func79.trans (congrArg some (by kernel_rfl))
  f276 := Tryd.func86.trans (congrArg some (by kernel_rfl))
  f277 := Tryd.func87.trans (congrArg some (by kernel_rfl))
  f314 := Tryd.func91.trans (congrArg some (by kernel_rfl))
  t0 := Tryd.underlying0
  a0 := Tryd.isAgg0
  z0 := Tryd.sizeOf0
  v0 := Tryd.zeroValue0
  t3 := Tryd.underlying3
  a3 := Tryd.isAgg3
  z3 := Tryd.sizeOf3
  v3 := Tryd.zeroValue3
  t4 := Tryd.underlying4
  a4 := Tryd.isAgg4
  z4 := Tryd.sizeOf4
  v4 := Tryd.zeroValue4
  t5 := Tryd.underlying5
  a5 := Tryd.isAgg5
  z5 := Tryd.sizeOf5
  v5 := Tryd.zeroValue5
  t9 := Tryd.underlying9
  a9 := Tryd.isAgg9
  z9 := Tryd.sizeOf9
  v9 := Tryd.zeroValue9
  t20 := Tryd.underlying20
  a20 := Tryd.isAgg20
  z20 := Tryd.sizeOf20
  v20 := Tryd.zeroValue20
  t21 := Tryd.underlying21
  a21 := Tryd.isAgg21
  z21 := Tryd.sizeOf21
  v21 := Tryd.zeroValue21
  t37 := Tryd.underlying46
  a37 := Tryd.isAgg46
  z37 := Tryd.sizeOf46
  v37 := Tryd.zeroValue46
  t46 := Tryd.underlying83
  a46 := Tryd.isAgg83
  z46 := Tryd.sizeOf83
  v46 := Tryd.zeroValue83
  t51 := Tryd.underlying99
  a51 := Tryd.isAgg99
  z51 := Tryd.sizeOf99
  v51 := Tryd.zeroValue99
  t70 := Tryd.underlying67
  a70 := Tryd.isAgg67
  z70 := Tryd.sizeOf67
  v70 := Tryd.zeroValue67
  t72 := Tryd.underlying69
  a72 := Tryd.isAgg69
  z72 := Tryd.sizeOf69
  v72 := Tryd.zeroValue69
  t75 := Tryd.underlying63
  a75 := Tryd.isAgg63
  z75 := Tryd.sizeOf63
  v75 := Tryd.zeroValue63
  t76 := Tryd.underlying71
  a76 := Tryd.isAgg71
  z76 := Tryd.sizeOf71
  v76 := Tryd.zeroValue71
  t105 := Tryd.underlying73
  a105 := Tryd.isAgg73
  z105 := Tryd.sizeOf73
  v105 := Tryd.zeroValue73
  t119 := Tryd.underlying94
  a119 := Tryd.isAgg94
  z119 := Tryd.sizeOf94
  t127 := Tryd.underlying80
  a127 := Tryd.isAgg80
  z127 := Tryd.sizeOf80
  v127 := Tryd.zeroValue80
  t138 := Tryd.underlying96
  a138 := Tryd.isAgg96
  z138 := Tryd.sizeOf96
  v138 := Tryd.zeroValue96
  t139 := Tryd.underlying97
  a139 := Tryd.isAgg97
  z139 := Tryd.sizeOf97
  v139 := Tryd.zeroValue97
  t146 := Tryd.underlying100
  a146 := Tryd.isAgg100
  z146 := Tryd.sizeOf100
  v146 := Tryd.zeroValue100
  t164 := Tryd.underlying91
  a164 := Tryd.isAgg91
  z164 := Tryd.sizeOf91
  v164 := Tryd.zeroValue91
  g1 := by kernel_rfl
  g3 := by kernel_rfl
  g4 := by kernel_rfl }
def Tryd.hasL_ren : Go.Shelf.Ren := ⟨fun | 100 => 47 | 207 => 62 | n => n, fun | 9 => 9 | 4 => 4 | 3 => 3 | n => n, fun | n => n⟩
theorem Tryd.hasL : Go.Proofs.Lays.n100 Tryd.prog Tryd.hasL_ren := {
  mixed := by kernel_rfl
  f100 := Tryd.func47.trans (congrArg some (by kernel_rfl))
  f207 := Tryd.func62.trans (congrArg some (by kernel_rfl))
  t3 := Tryd.underlying3
  a3 := Tryd.isAgg3
  z3 := Tryd.sizeOf3
  v3 := Tryd.zeroValue3
  t4 := Tryd.underlying4
  a4 := Tryd.isAgg4
  z4 := Tryd.sizeOf4
  v4 := Tryd.zeroValue4
  t9 := Tryd.underlying9
  a9 := Tryd.isAgg9
  z9 := Tryd.sizeOf9
  v9 := Tryd.zeroValue9 }
def Tryd.trsL_ren : Go.Shelf.Ren := ⟨fun | 102 => 48 | 209 => 63 | 207 => 62 | n => n, fun | 9 => 9 | 4 => 4 | 3 => 3 | n => n, fun | n => n⟩
theorem Tryd.trsL : Go.Proofs.Lays.n102 Tryd.prog Tryd.trsL_ren := {
  mixed := by kernel_rfl
  f102 := Tryd.func48.trans (congrArg some (by kernel_rfl))
  f207 := Tryd.func62.trans (congrArg some (by kernel_rfl))
  f209 := Tryd.func63.trans (congrArg some (by kernel_rfl))
  t3 := Tryd.underlying3
  a3 := Tryd.isAgg3
  z3 := Tryd.sizeOf3
  v3 := Tryd.zeroValue3
  t4 := Tryd.underlying4
  a4 := Tryd.isAgg4
  z4 := Tryd.sizeOf4
  v4 := Tryd.zeroValue4
  t9 := Tryd.underlying9
  a9 := Tryd.isAgg9
  z9 := Tryd.sizeOf9
  v9 := Tryd.zeroValue9 }
end Go.Proofs
set_option maxRecDepth 100000
namespace Go.Nt
open Go.Lib

def rls : List (List UInt8 × List UInt8) :=
  [([100, 100], []), ([97, 100], [97]), ([100, 84], [84]), ([100, 67], [79]), ([100, 79], [67]), ([100, 68], [73]), ([100, 73], [68]), ([100, 72], [90]), ([100, 90], [72]),
   ([97, 84], [79]), ([97, 79], [97, 67]), ([97, 73], [97, 68]), ([97, 90], [97, 72])]
def rep (p q s : List UInt8) : List UInt8 := if index s p = -1 then s else s.take (index s p).toNat ++ q ++ s.drop ((index s p).toNat + p.length)
def stpR : List (List UInt8 × List UInt8) → List UInt8 → Option (List UInt8)
  | [], _ => none
  | x :: r, s => if index s x.1 = -1 then stpR r s else some (rep x.1 x.2 s)
def z2 (s : List UInt8) : Bool := hasSuffix s [90, 50]
def stp (s : List UInt8) : Option (List UInt8) := match stpR rls s with
  | some t => some t
  | none => if z2 s = true then some (s.take (s.length - 2) ++ [72, 50]) else none
def wt (b : UInt8) : Nat := if b = 79 ∨ b = 73 ∨ b = 90 then 3 else 2
def mes (s : List UInt8) : Nat := (s.map wt).sum
theorem mes_app (a b : List UInt8) : mes (a ++ b) = mes a + mes b := by simp [mes]
def ruleOk (x : List UInt8 × List UInt8) : Prop := mes x.2 < mes x.1 ∧ x.2.length ≤ x.1.length ∧ x.1.length = 2
theorem rls_ok : ∀ x ∈ rls, ruleOk x := by unfold ruleOk; decide
theorem occ_split {s p : List UInt8} {i : Nat} (h : occAt s p i = true) : s = s.take i ++ p ++ s.drop (i + p.length) := by
  unfold occAt at h
  obtain ⟨r, hr⟩ := List.isPrefixOf_iff_prefix.1 h
  have h1 : s.drop (i + p.length) = r := by
    rw [← List.drop_drop, ← hr, List.drop_left]
  rw [h1, List.append_assoc, hr, List.take_append_drop]
theorem rep_hit {s p q : List UInt8} (h : index s p ≠ -1) : ∃ i : Nat, index s p = i ∧ s = s.take i ++ p ++ s.drop (i + p.length) ∧ rep p q s = s.take i ++ q ++ s.drop (i + p.length) := by
  rcases index_spec s p with ⟨h1, _⟩ | ⟨i, h1, h2, h3, _⟩
  · exact absurd h1 h
  · refine ⟨i, h1, occ_split h3, ?_⟩
    unfold rep
    rw [if_neg h, h1, Int.toNat_natCast]
theorem rep_less {x : List UInt8 × List UInt8} {s : List UInt8} (hx : ruleOk x) (h : index s x.1 ≠ -1) : mes (rep x.1 x.2 s) < mes s ∧ (rep x.1 x.2 s).length ≤ s.length := by
  obtain ⟨i, _, h2, h3⟩ := rep_hit (q := x.2) h
  obtain ⟨h4, h5, _⟩ := hx
  rw [h3]
  have e1 : mes s = mes (s.take i) + mes x.1 + mes (s.drop (i + x.1.length)) := by rw [← mes_app, ← mes_app, ← h2]
  have e2 : s.length = (s.take i).length + x.1.length + (s.drop (i + x.1.length)).length := by rw [← List.length_append, ← List.length_append, ← h2]
  rw [mes_app, mes_app, List.length_append, List.length_append]
  omega
theorem rep_miss {p q s : List UInt8} (h : index s p = -1) : rep p q s = s := by unfold rep; rw [if_pos h]
theorem rep_ne {x : List UInt8 × List UInt8} {s : List UInt8} (hx : ruleOk x) (h : index s x.1 ≠ -1) : rep x.1 x.2 s ≠ s := fun e => by
  have := (rep_less hx h).1
  rw [e] at this
  omega
theorem rep_eq_iff {x : List UInt8 × List UInt8} {s : List UInt8} (hx : ruleOk x) : rep x.1 x.2 s = s ↔ index s x.1 = -1 :=
  ⟨fun h => Classical.byContradiction fun hn => rep_ne hx hn h, rep_miss⟩
theorem stpR_some : ∀ {l : List (List UInt8 × List UInt8)} {s t : List UInt8}, (∀ x ∈ l, ruleOk x) → stpR l s = some t → mes t < mes s ∧ t.length ≤ s.length
  | [], _, _, _, h => by cases h
  | x :: r, s, t, hl, h => by
    unfold stpR at h
    split at h
    · exact stpR_some (fun y hy => hl y (by simp [hy])) h
    · rename_i hn
      cases h
      exact rep_less (hl x (by simp)) hn
theorem z2_split {s : List UInt8} (h : z2 s = true) : 2 ≤ s.length ∧ s = s.take (s.length - 2) ++ [90, 50] := by
  unfold z2 hasSuffix at h
  obtain ⟨r, hr⟩ := List.isSuffixOf_iff_suffix.1 h
  subst hr
  simp
theorem stp_some {s t : List UInt8} (h : stp s = some t) : mes t < mes s ∧ t.length ≤ s.length := by
  unfold stp at h
  split at h
  · rename_i u hu
    cases h
    exact stpR_some rls_ok hu
  · split at h
    · rename_i hz
      cases h
      obtain ⟨h1, h2⟩ := z2_split hz
      have e1 : mes s = mes (s.take (s.length - 2)) + mes [90, 50] := by rw [← mes_app, ← h2]
      have e3 : mes [90, 50] = 5 := rfl
      have e4 : mes [72, 50] = 4 := rfl
      rw [mes_app]
      simp only [List.length_append, List.length_take, List.length_cons, List.length_nil]
      omega
    · cases h
def smp (s : List UInt8) : List UInt8 := match h : stp s with
  | none => s
  | some t => smp t
termination_by mes s
decreasing_by exact (stp_some h).1
theorem smp_none {s : List UInt8} (h : stp s = none) : smp s = s := by
  rw [smp]
  split
  · rfl
  · rename_i t ht
    rw [h] at ht
    cases ht
theorem smp_some {s t : List UInt8} (h : stp s = some t) : smp s = smp t := by
  rw [smp]
  split
  · rename_i ht
    rw [h] at ht
    cases ht
  · rename_i u ht
    rw [h] at ht
    cases ht
    rfl
theorem stpR_drop {l : List (List UInt8 × List UInt8)} {i : Nat} (h : i < l.length) (s : List UInt8) : stpR (l.drop i) s = if index s (l[i]).1 = -1 then stpR (l.drop (i + 1)) s else some (rep (l[i]).1 (l[i]).2 s) := by
  rw [List.drop_eq_getElem_cons h, stpR]
theorem stpR_end {l : List (List UInt8 × List UInt8)} {i : Nat} (h : l.length ≤ i) (s : List UInt8) : stpR (l.drop i) s = none := by
  rw [List.drop_eq_nil_of_le h, stpR]
theorem stp_rule {s t : List UInt8} (h : stpR rls s = some t) : stp s = some t := by unfold stp; rw [h]
theorem stp_z2 {s : List UInt8} (h : stpR rls s = none) (hz : z2 s = true) : stp s = some (s.take (s.length - 2) ++ [72, 50]) := by unfold stp; rw [h]; exact if_pos hz
theorem stp_end {s : List UInt8} (h : stpR rls s = none) (hz : z2 s ≠ true) : stp s = none := by unfold stp; rw [h]; exact if_neg hz
theorem smp_len (s : List UInt8) : (smp s).length ≤ s.length := by
  rw [smp]
  split
  · exact Nat.le_refl _
  · rename_i t ht
    exact Nat.le_trans (smp_len t) (stp_some ht).2
termination_by mes s
decreasing_by exact (stp_some (by assumption)).1
theorem replace_one {s p q : List UInt8} (hp : p ≠ []) (hne : p ≠ q) : replace s p q 1 = rep p q s := by
  have hb : (p == q) = false := by simpa using hne
  unfold replace
  rw [if_neg (by rw [hb]; exact Bool.false_ne_true)]
  unfold replaceNum
  by_cases hm : index s p = -1
  · have h0 : count s p = 0 := count_miss hm
    rw [h0, if_pos (by omega), replaceK, rep_miss hm]
  · obtain ⟨i, hi, _, h3⟩ := rep_hit (q := q) hm
    have h2 := count_hit hp hi
    rw [if_neg (by omega), show (1 : Int).toNat = 1 from rfl, replaceK_hit p q 0 s i hi, replaceK, h3]
theorem rule_ne {x : List UInt8 × List UInt8} (hx : ruleOk x) : x.1 ≠ [] ∧ x.1 ≠ x.2 := ⟨fun e => (by have := hx.2.2; rw [e] at this; cases this), fun e => (by have := hx.1; rw [e] at this; omega)⟩
theorem replace_rule {x : List UInt8 × List UInt8} (hx : ruleOk x) (s : List UInt8) : replace s x.1 x.2 1 = rep x.1 x.2 s := replace_one (rule_ne hx).1 (rule_ne hx).2
theorem occ_two {s p : List UInt8} {i : Nat} (hp : p.length = 2) (h : i + 2 ≤ s.length) : occAt s p i = true ↔ (s.take (i + 2)).drop i = p := by
  rw [occAt_iff_take s p i (by omega), hp, List.drop_take, show i + 2 - i = 2 by omega]
  exact beq_iff_eq
theorem idx_found {s p : List UInt8} {i : Nat} (hp : p.length = 2) (h : i + 2 ≤ s.length) (h1 : (s.take (i + 2)).drop i = p) (hno : ∀ j, j < i → occAt s p j = false) : index s p = i :=
  index_first (by omega) ((occ_two hp h).2 h1) hno
theorem idx_next {s p : List UInt8} {i : Nat} (hp : p.length = 2) (h : i + 2 ≤ s.length) (h1 : (s.take (i + 2)).drop i ≠ p) (hno : ∀ j, j < i → occAt s p j = false) : ∀ j, j < i + 1 → occAt s p j = false := fun j hj => by
  by_cases e : j = i
  · subst e
    exact Bool.eq_false_iff.2 fun h2 => h1 ((occ_two hp h).1 h2)
  · exact hno j (by omega)
theorem idx_none {s p : List UInt8} {i : Nat} (hp : p.length = 2) (h : ¬ i + 2 ≤ s.length) (hno : ∀ j, j < i → occAt s p j = false) : index s p = -1 :=
  index_none fun j _ => by
    by_cases e : j < i
    · exact hno j e
    · refine Bool.eq_false_iff.2 fun h2 => ?_
      rcases occAt_room h2 with h3 | h3
      · omega
      · rw [h3] at hp
        cases hp
theorem z2_iff {s : List UInt8} (h : 2 ≤ s.length) : z2 s = true ↔ s.drop (s.length - 2) = [90, 50] := by
  constructor
  · intro hz
    obtain ⟨_, h2⟩ := z2_split hz
    have := congrArg (List.drop (s.length - 2)) h2
    rwa [List.drop_left' (by rw [List.length_take]; omega)] at this
  · intro h2
    unfold z2 hasSuffix
    exact List.isSuffixOf_iff_suffix.2 ⟨s.take (s.length - 2), by rw [← h2, List.take_append_drop]⟩
theorem trim_z2 {s : List UInt8} (h : z2 s = true) : trimSuffix s [90, 50] = s.take (s.length - 2) := by
  unfold trimSuffix
  unfold z2 at h
  rw [if_pos h]
  rfl
end Go.Nt
set_option maxRecDepth 100000
namespace Go.Proofs.YtnddllekkdckaaaDoor
open Go.Gov Go.Nt
open Classical

set_option maxHeartbeats 2000000 in
theorem l15Find_c (s p : List UInt8) (hp : p.length = 2) (hs : s.length ≤ 1099511627776) : Pure Tryd.prog 45 [sV s, sV p] (i64 (Go.Lib.index s p)) [] := by
  refine pureV0 ok45 rfl rfl ?_; unfold c45
  (repeat first | simp only [go_sem, ↓reduceIte, Nat.reduceEqDiff, Nat.reduceAdd, reduceCtorEq] | with_reducible refine V_W ?_ | (with_reducible refine And.intro ?_ ?_; focus first | assumption | omega | decide | grind) | (with_reducible refine Br.mk ?_ ?_; focus (intros; omega)) | decide)
  refine V_loop (α := Nat) (S := fun i => ([(0, sV s), (1, sV p), (5, i64 (i : Int))], [])) (C := fun i => i ≤ s.length ∧ ∀ j, j < i → Go.Lib.occAt s p j = false) (μ := fun i => s.length + 1 - i) 0 ⟨Nat.zero_le _, fun j hj => by omega⟩ (Ref.to rfl (by simp [sub, fget])) ?_
  rintro i ⟨h1, h2⟩
  have hn := idx_none (s := s) (p := p) (i := i) hp
  have hf := idx_found (s := s) (p := p) (i := i) hp
  have hx := idx_next (s := s) (p := p) (i := i) hp
  (repeat first | simp only [go_sem, ↓reduceIte, Nat.reduceEqDiff, Nat.reduceAdd, reduceCtorEq] | with_reducible refine V_W ?_ | (with_reducible refine And.intro ?_ ?_; focus first | assumption | omega | decide | grind) | (with_reducible refine Br.mk ?_ ?_; focus (intros; omega)) | decide)
  refine ⟨fun hi => ?_, fun hi => ?_⟩
  · have h3 : i + 2 ≤ s.length := by omega
    have h4 : i + p.length = i + 2 := by omega
    (repeat first | simp only [go_sem, ↓reduceIte, Nat.reduceEqDiff, Nat.reduceAdd, reduceCtorEq] | with_reducible refine V_W ?_ | (with_reducible refine And.intro ?_ ?_; focus first | assumption | omega | decide | grind) | (with_reducible refine Br.mk ?_ ?_; focus (intros; omega)) | decide)
    have h5 : ((i : Int) + (p.length : Int)).toNat = i + 2 := by omega
    rw [h5]
    refine ⟨fun hc => ?_, fun hc => ?_⟩
    · rw [hf h3 hc h2]
      (repeat first | simp only [go_sem, ↓reduceIte, Nat.reduceEqDiff, Nat.reduceAdd, reduceCtorEq] | with_reducible refine V_W ?_ | (with_reducible refine And.intro ?_ ?_; focus first | assumption | omega | decide | grind) | (with_reducible refine Br.mk ?_ ?_; focus (intros; omega)) | decide)
    · (repeat first | simp only [go_sem, ↓reduceIte, Nat.reduceEqDiff, Nat.reduceAdd, reduceCtorEq] | with_reducible refine V_W ?_ | (with_reducible refine And.intro ?_ ?_; focus first | assumption | omega | decide | grind) | (with_reducible refine Br.mk ?_ ?_; focus (intros; omega)) | decide)
      exact ⟨i + 1, ⟨by omega, hx h3 hc h2⟩, by omega, Ref.to rfl (by simp [sub, fget])⟩
  · rw [hn (by omega) h2]
    (repeat first | simp only [go_sem, ↓reduceIte, Nat.reduceEqDiff, Nat.reduceAdd, reduceCtorEq] | with_reducible refine V_W ?_ | (with_reducible refine And.intro ?_ ?_; focus first | assumption | omega | decide | grind) | (with_reducible refine Br.mk ?_ ?_; focus (intros; omega)) | decide)
def rlL : List (List UInt8) := rls.flatMap fun x => [x.1, x.2]
def RLd : List AV := rlL.map fun l => sV l
@[go_sem] theorem RLd_all : RLd.all (nf 6) = true := rfl
@[go_sem] theorem RLd_len : RLd.length = 26 := rfl
theorem RLd_at13 (d : AV) : ∀ (j : Nat) (h : j < rls.length), RLd.getD (2 * j) d = sV (rls[j]).1 ∧ RLd.getD (2 * j + 1) d = sV (rls[j]).2
  | 0, _ => ⟨rfl, rfl⟩
  | 1, _ => ⟨rfl, rfl⟩
  | 2, _ => ⟨rfl, rfl⟩
  | 3, _ => ⟨rfl, rfl⟩
  | 4, _ => ⟨rfl, rfl⟩
  | 5, _ => ⟨rfl, rfl⟩
  | 6, _ => ⟨rfl, rfl⟩
  | 7, _ => ⟨rfl, rfl⟩
  | 8, _ => ⟨rfl, rfl⟩
  | 9, _ => ⟨rfl, rfl⟩
  | 10, _ => ⟨rfl, rfl⟩
  | 11, _ => ⟨rfl, rfl⟩
  | 12, _ => ⟨rfl, rfl⟩
  | _ + 13, h => absurd (show _ < 13 from h) (by omega)
set_option maxHeartbeats 2000000 in
theorem l15Rules_c : Pure Tryd.prog 44 [] (.sl 0 1 0 26) [some RLd] := by
  refine pureV ok44 rfl ?_; unfold c44
  (repeat first | simp only [go_sem, ↓reduceIte, Nat.reduceEqDiff, Nat.reduceAdd, reduceCtorEq] | with_reducible refine V_W ?_ | (with_reducible refine And.intro ?_ ?_; focus first | assumption | omega | decide | grind) | (with_reducible refine Br.mk ?_ ?_; focus (intros; omega)) | decide)
  rfl
set_option maxHeartbeats 4000000 in
theorem l15Simple_c (s : List UInt8) (hs : s.length ≤ 1099511627776) : Pure Tryd.prog 32 [sV s] (sV (smp s)) [] := by
  have hR := l15Rules_c
  refine pureV0 ok32 rfl rfl ?_; unfold c32
  (repeat first | simp only [go_sem, ↓reduceIte, Nat.reduceEqDiff, Nat.reduceAdd, reduceCtorEq] | with_reducible refine V_W ?_ | (with_reducible refine And.intro ?_ ?_; focus first | assumption | omega | decide | grind) | (with_reducible refine Br.mk ?_ ?_; focus (intros; omega)) | decide)
  refine pureC (hR) (by simp only [go_sem, ↓reduceIte, Nat.reduceEqDiff, Nat.reduceAdd, reduceCtorEq] <;> rfl) (by first | rfl | simp only [go_sem, ↓reduceIte, Nat.reduceEqDiff, Nat.reduceAdd, reduceCtorEq]) ?_
  (repeat first | simp only [go_sem, ↓reduceIte, Nat.reduceEqDiff, Nat.reduceAdd, reduceCtorEq] | with_reducible refine V_W ?_ | (with_reducible refine And.intro ?_ ?_; focus first | assumption | omega | decide | grind) | (with_reducible refine Br.mk ?_ ?_; focus (intros; omega)) | decide)
  refine V_loop (α := List UInt8 × Bool) (S := fun x => ([(0, sV x.1), (3, .sl 0 1 0 26), (4, bl x.2)], [some RLd])) (C := fun x => smp x.1 = smp s ∧ x.1.length ≤ s.length ∧ (x.2 = false → stp x.1 = none)) (μ := fun x => mes x.1 + if x.2 = true then 1 else 0) (s, true) ⟨rfl, Nat.le_refl _, fun h => by cases h⟩ (Ref.to rfl (by simp [sub, fget])) ?_
  rintro ⟨T, again⟩ ⟨h1, h2, h3⟩
  dsimp only at h1 h2 h3 ⊢
  (repeat first | simp only [go_sem, ↓reduceIte, Nat.reduceEqDiff, Nat.reduceAdd, reduceCtorEq] | with_reducible refine V_W ?_ | (with_reducible refine And.intro ?_ ?_; focus first | assumption | omega | decide | grind) | (with_reducible refine Br.mk ?_ ?_; focus (intros; omega)) | decide)
  refine ⟨fun hc => ?_, fun hc => ?_⟩
  · (repeat first | simp only [go_sem, ↓reduceIte, Nat.reduceEqDiff, Nat.reduceAdd, reduceCtorEq] | with_reducible refine V_W ?_ | (with_reducible refine And.intro ?_ ?_; focus first | assumption | omega | decide | grind) | (with_reducible refine Br.mk ?_ ?_; focus (intros; omega)) | decide)
    refine V_loop (α := List UInt8 × Bool × Nat) (S := fun x => ([(0, sV x.1), (3, .sl 0 1 0 26), (4, bl x.2.1), (5, i64 (2 * (x.2.2 : Int)))], [some RLd])) (C := fun x => x.2.2 ≤ 13 ∧ (x.2.1 = false → x.1 = T ∧ stpR rls T = stpR (rls.drop x.2.2) T) ∧ (x.2.1 = true → stpR rls T = some x.1)) (μ := fun x => 13 - x.2.2) (T, false, 0) ⟨Nat.zero_le _, fun _ => ⟨rfl, rfl⟩, fun h => by cases h⟩ (Ref.to rfl (by simp [sub, fget])) ?_
    rintro ⟨U, b, j⟩ ⟨g1, g2, g3⟩
    dsimp only at g1 g2 g3 ⊢
    (repeat first | simp only [go_sem, ↓reduceIte, Nat.reduceEqDiff, Nat.reduceAdd, reduceCtorEq] | with_reducible refine V_W ?_ | (with_reducible refine And.intro ?_ ?_; focus first | assumption | omega | decide | grind) | (with_reducible refine Br.mk ?_ ?_; focus (intros; omega)) | decide)
    refine ⟨fun hc2 => ?_, fun hc2 => ?_⟩
    · obtain ⟨hj, rfl⟩ := hc2
      have hj2 : j < rls.length := by show j < 13; omega
      obtain ⟨rfl, g5⟩ := g2 rfl
      rw [stpR_drop hj2] at g5
      have hok := rls_ok _ (List.getElem_mem hj2)
      have ha := fun d => (RLd_at13 d j hj2).1
      have hb := fun d => (RLd_at13 d j hj2).2
      generalize rls[j] = x at g5 hok ha hb
      obtain ⟨p, q⟩ := x
      dsimp only at g5 ha hb
      have hp : p.length = 2 := hok.2.2
      have hq : q.length ≤ 2 := by have := hok.2.1; dsimp only at this; omega
      have hF := l15Find_c U p hp (by omega)
      have n1 : (2 * (j : Int)).toNat = 2 * j := by omega
      have n2 : (2 * (j : Int) + 1).toNat = 2 * j + 1 := by omega
      have hroom := Go.Lib.index_room U p
      have hmx := max_big
      by_cases hi : Go.Lib.index U p = -1
      · rw [if_pos hi] at g5
        rw [hi] at hF
        (repeat first | simp only [go_sem, ↓reduceIte, Nat.reduceEqDiff, Nat.reduceAdd, reduceCtorEq] | with_reducible refine V_W ?_ | (with_reducible refine And.intro ?_ ?_; focus first | assumption | omega | decide | grind) | (with_reducible refine Br.mk ?_ ?_; focus (intros; omega)) | decide)
        simp only [n1, ha, go_sem, ↓reduceIte, Nat.reduceEqDiff, Nat.reduceAdd, reduceCtorEq]
        (repeat first | simp only [go_sem, ↓reduceIte, Nat.reduceEqDiff, Nat.reduceAdd, reduceCtorEq] | with_reducible refine V_W ?_ | (with_reducible refine And.intro ?_ ?_; focus first | assumption | omega | decide | grind) | (with_reducible refine Br.mk ?_ ?_; focus (intros; omega)) | decide)
        refine pureC (hF) (by simp only [go_sem, ↓reduceIte, Nat.reduceEqDiff, Nat.reduceAdd, reduceCtorEq] <;> rfl) (by first | rfl | simp only [go_sem, ↓reduceIte, Nat.reduceEqDiff, Nat.reduceAdd, reduceCtorEq]) ?_
        (iterate 16 ((repeat first | simp only [go_sem, ↓reduceIte, Nat.reduceEqDiff, Nat.reduceAdd, reduceCtorEq] | with_reducible refine V_W ?_ | (with_reducible refine And.intro ?_ ?_; focus first | assumption | omega | decide | grind) | (with_reducible refine Br.mk ?_ ?_; focus (intros; omega)) | decide); (try with_reducible refine fun _ => ?_)))
        exact ⟨(U, false, j + 1), ⟨by dsimp only; omega, fun _ => ⟨rfl, g5⟩, fun h => by cases h⟩, by dsimp only; omega, Ref.to rfl (by simp [sub, fget]; omega)⟩
      · obtain ⟨i, hi1, _, hi3⟩ := rep_hit (q := q) hi
        rw [if_neg hi, hi3] at g5
        rw [hi1] at hF hroom
        have hr2 : i + 2 ≤ U.length := by have := hroom (by omega); omega
        have n3 : ((i : Int) + (p.length : Int)).toNat = i + p.length := by omega
        (repeat first | simp only [go_sem, ↓reduceIte, Nat.reduceEqDiff, Nat.reduceAdd, reduceCtorEq] | with_reducible refine V_W ?_ | (with_reducible refine And.intro ?_ ?_; focus first | assumption | omega | decide | grind) | (with_reducible refine Br.mk ?_ ?_; focus (intros; omega)) | decide)
        simp only [n1, ha, go_sem, ↓reduceIte, Nat.reduceEqDiff, Nat.reduceAdd, reduceCtorEq]
        (repeat first | simp only [go_sem, ↓reduceIte, Nat.reduceEqDiff, Nat.reduceAdd, reduceCtorEq] | with_reducible refine V_W ?_ | (with_reducible refine And.intro ?_ ?_; focus first | assumption | omega | decide | grind) | (with_reducible refine Br.mk ?_ ?_; focus (intros; omega)) | decide)
        refine pureC (hF) (by simp only [go_sem, ↓reduceIte, Nat.reduceEqDiff, Nat.reduceAdd, reduceCtorEq] <;> rfl) (by first | rfl | simp only [go_sem, ↓reduceIte, Nat.reduceEqDiff, Nat.reduceAdd, reduceCtorEq]) ?_
        (repeat first | simp only [go_sem, ↓reduceIte, Nat.reduceEqDiff, Nat.reduceAdd, reduceCtorEq] | with_reducible refine V_W ?_ | (with_reducible refine And.intro ?_ ?_; focus first | assumption | omega | decide | grind) | (with_reducible refine Br.mk ?_ ?_; focus (intros; omega)) | decide)
        simp only [n1, n2, n3, ha, hb, List.take_length, List.length_drop, go_sem, ↓reduceIte, Nat.reduceEqDiff, Nat.reduceAdd, reduceCtorEq]
        refine ⟨fun _ => ?_, fun h => absurd h (by omega)⟩
        (repeat first | simp only [go_sem, ↓reduceIte, Nat.reduceEqDiff, Nat.reduceAdd, reduceCtorEq] | with_reducible refine V_W ?_ | (with_reducible refine And.intro ?_ ?_; focus first | assumption | omega | decide | grind) | (with_reducible refine Br.mk ?_ ?_; focus (intros; omega)) | decide)
        exact ⟨(U.take i ++ q ++ U.drop (i + p.length), true, j + 1), ⟨by dsimp only; omega, fun h => (by cases h), fun _ => g5⟩, by dsimp only; omega, Ref.to rfl (by simp [sub, fget]; omega)⟩
    · subst hc
      cases b with
      | true =>
        have hst := stp_rule (g3 rfl)
        have hm := stp_some hst
        (repeat first | simp only [go_sem, ↓reduceIte, Nat.reduceEqDiff, Nat.reduceAdd, reduceCtorEq] | with_reducible refine V_W ?_ | (with_reducible refine And.intro ?_ ?_; focus first | assumption | omega | decide | grind) | (with_reducible refine Br.mk ?_ ?_; focus (intros; omega)) | decide)
        exact ⟨(U, true), ⟨(smp_some hst).symm.trans h1, by dsimp only; omega, fun h => by cases h⟩, by dsimp only; exact Nat.add_lt_add_right hm.1 _, Ref.to rfl (by simp [sub, fget])⟩
      | false =>
        obtain ⟨rfl, g4⟩ := g2 rfl
        have hj : 13 ≤ j := by
          rcases hc2 with h | h
          · omega
          · cases h
        rw [stpR_end hj] at g4
        have n4 : ((U.length : Int) - 2).toNat = U.length - 2 := by omega
        have hmx := max_big
        (repeat first | simp only [go_sem, ↓reduceIte, Nat.reduceEqDiff, Nat.reduceAdd, reduceCtorEq] | with_reducible refine V_W ?_ | (with_reducible refine And.intro ?_ ?_; focus first | assumption | omega | decide | grind) | (with_reducible refine Br.mk ?_ ?_; focus (intros; omega)) | decide)
        simp only [n4, List.take_length, go_sem, ↓reduceIte, Nat.reduceEqDiff, Nat.reduceAdd, reduceCtorEq]
        refine ⟨fun h => ?_, fun h => ?_⟩
        · obtain ⟨h5, h6⟩ := h
          have hst := stp_z2 g4 ((z2_iff (by omega)).2 h6)
          have hm := stp_some hst
          (repeat first | simp only [go_sem, ↓reduceIte, Nat.reduceEqDiff, Nat.reduceAdd, reduceCtorEq] | with_reducible refine V_W ?_ | (with_reducible refine And.intro ?_ ?_; focus first | assumption | omega | decide | grind) | (with_reducible refine Br.mk ?_ ?_; focus (intros; omega)) | decide)
          exact ⟨(U.take (U.length - 2) ++ [72, 50], true), ⟨(smp_some hst).symm.trans h1, by dsimp only; omega, fun h => by cases h⟩, by dsimp only; exact Nat.add_lt_add_right hm.1 _, Ref.to rfl (by simp [sub, fget])⟩
        · have hz : z2 U ≠ true := fun hz => by
            have h7 := (z2_split hz).1
            rcases h with h | h
            · omega
            · exact h ((z2_iff h7).1 hz)
          (repeat first | simp only [go_sem, ↓reduceIte, Nat.reduceEqDiff, Nat.reduceAdd, reduceCtorEq] | with_reducible refine V_W ?_ | (with_reducible refine And.intro ?_ ?_; focus first | assumption | omega | decide | grind) | (with_reducible refine Br.mk ?_ ?_; focus (intros; omega)) | decide)
          exact ⟨(U, false), ⟨h1, h2, fun _ => stp_end g4 hz⟩, by simp, Ref.to rfl (by simp [sub, fget])⟩
  · (repeat first | simp only [go_sem, ↓reduceIte, Nat.reduceEqDiff, Nat.reduceAdd, reduceCtorEq] | with_reducible refine V_W ?_ | (with_reducible refine And.intro ?_ ?_; focus first | assumption | omega | decide | grind) | (with_reducible refine Br.mk ?_ ?_; focus (intros; omega)) | decide)
    rw [← h1, smp_none (h3 hc)]
noncomputable def snA (l : List UInt8) : List UInt8 := if NtOk l then smp (basL (ntO l) ++ ntS l) else []
theorem specSn_c (l : List UInt8) (hs : l.length ≤ 1048576) : Pure Tryd.prog 22 [sV l] (.tup [sV (snA l), i64 (ntK l)]) [] := by
  have h := l15Seed_c l (by omega)
  have hl := nt_len l
  have hsl := nt_slen l
  by_cases hk : NtOk l
  · have e1 : snA l = smp (basL (ntO l) ++ ntS l) := if_pos hk
    have e2 : ntK l = 0 := if_pos hk
    have hb := l15Basic_c l (ntO l).length hl (by omega)
    rw [nt_take, nt_drop] at hb
    rw [if_pos hk] at h
    have hbl := basL_len (ntO l)
    have hc := l15Simple_c (basL (ntO l) ++ ntS l) (by rw [List.length_append]; omega)
    rw [e1, e2]
    refine pureV0 ok22 rfl rfl ?_; unfold c22
    (repeat first | simp only [go_sem, ↓reduceIte, Nat.reduceEqDiff, Nat.reduceAdd, reduceCtorEq] | with_reducible refine V_W ?_ | (with_reducible refine And.intro ?_ ?_; focus first | assumption | omega | decide | grind) | (with_reducible refine Br.mk ?_ ?_; focus (intros; omega)) | decide)
    refine pureC (h) (by simp only [go_sem, ↓reduceIte, Nat.reduceEqDiff, Nat.reduceAdd, reduceCtorEq] <;> rfl) (by first | rfl | simp only [go_sem, ↓reduceIte, Nat.reduceEqDiff, Nat.reduceAdd, reduceCtorEq]) ?_
    (iterate 16 ((repeat first | simp only [go_sem, ↓reduceIte, Nat.reduceEqDiff, Nat.reduceAdd, reduceCtorEq] | with_reducible refine V_W ?_ | (with_reducible refine And.intro ?_ ?_; focus first | assumption | omega | decide | grind) | (with_reducible refine Br.mk ?_ ?_; focus (intros; omega)) | decide); (try with_reducible refine fun _ => ?_)))
    refine pureC (hb) (by simp only [go_sem, ↓reduceIte, Nat.reduceEqDiff, Nat.reduceAdd, reduceCtorEq] <;> rfl) (by first | rfl | simp only [go_sem, ↓reduceIte, Nat.reduceEqDiff, Nat.reduceAdd, reduceCtorEq]) ?_
    (iterate 16 ((repeat first | simp only [go_sem, ↓reduceIte, Nat.reduceEqDiff, Nat.reduceAdd, reduceCtorEq] | with_reducible refine V_W ?_ | (with_reducible refine And.intro ?_ ?_; focus first | assumption | omega | decide | grind) | (with_reducible refine Br.mk ?_ ?_; focus (intros; omega)) | decide); (try with_reducible refine fun _ => ?_)))
    refine pureC (hc) (by simp only [go_sem, ↓reduceIte, Nat.reduceEqDiff, Nat.reduceAdd, reduceCtorEq] <;> rfl) (by first | rfl | simp only [go_sem, ↓reduceIte, Nat.reduceEqDiff, Nat.reduceAdd, reduceCtorEq]) ?_
    (iterate 16 ((repeat first | simp only [go_sem, ↓reduceIte, Nat.reduceEqDiff, Nat.reduceAdd, reduceCtorEq] | with_reducible refine V_W ?_ | (with_reducible refine And.intro ?_ ?_; focus first | assumption | omega | decide | grind) | (with_reducible refine Br.mk ?_ ?_; focus (intros; omega)) | decide); (try with_reducible refine fun _ => ?_)))
  · have e1 : snA l = [] := if_neg hk
    have e2 : ntK l = 6 := if_neg hk
    rw [if_neg hk] at h
    rw [e1, e2]
    refine pureV0 ok22 rfl rfl ?_; unfold c22
    (repeat first | simp only [go_sem, ↓reduceIte, Nat.reduceEqDiff, Nat.reduceAdd, reduceCtorEq] | with_reducible refine V_W ?_ | (with_reducible refine And.intro ?_ ?_; focus first | assumption | omega | decide | grind) | (with_reducible refine Br.mk ?_ ?_; focus (intros; omega)) | decide)
    refine pureC (h) (by simp only [go_sem, ↓reduceIte, Nat.reduceEqDiff, Nat.reduceAdd, reduceCtorEq] <;> rfl) (by first | rfl | simp only [go_sem, ↓reduceIte, Nat.reduceEqDiff, Nat.reduceAdd, reduceCtorEq]) ?_
    (repeat first | simp only [go_sem, ↓reduceIte, Nat.reduceEqDiff, Nat.reduceAdd, reduceCtorEq] | with_reducible refine V_W ?_ | (with_reducible refine And.intro ?_ ?_; focus first | assumption | omega | decide | grind) | (with_reducible refine Br.mk ?_ ?_; focus (intros; omega)) | decide)
    refine ⟨fun _ => ?_, fun h => absurd h (by decide)⟩
    (repeat first | simp only [go_sem, ↓reduceIte, Nat.reduceEqDiff, Nat.reduceAdd, reduceCtorEq] | with_reducible refine V_W ?_ | (with_reducible refine And.intro ?_ ?_; focus first | assumption | omega | decide | grind) | (with_reducible refine Br.mk ?_ ?_; focus (intros; omega)) | decide)
end Go.Proofs.YtnddllekkdckaaaDoor
set_option maxRecDepth 100000
namespace Go.Proofs.YtnddllekkdckaaaDoor
open Go.Gov Go.Shelf Go.Proofs Go.Nt Go.RowKit
open Classical

theorem repX : Builder.Extra Tryd.prog Tryd.repL_ren where
  sizeBuilder := by kernel_rfl
  liesBuilder := by kernel_rfl
  t5 := Tryd.repL.t5
  a5 := Tryd.repL.a5
  z5 := Tryd.repL.z5
  v5 := Tryd.repL.v5
  infoByte := by kernel_rfl
  cellsByte := by kernel_rfl
  sizeByte := by kernel_rfl
  neB5 := by decide
noncomputable def gMax : Nat := (Tryd.prog.globalNamed "internal/bytealg.MaxLen").getD 0
noncomputable def gRul : Nat := (Tryd.prog.globalNamed "loop.example/g01108/impl.rules").getD 0
def rlV : List Value := rlL.map fun l => Value.string (bA l)
noncomputable def LR (m : Int) : List (Nat × List Value) := [(gRul, rlV), (gMax, [.int .i64 m])]
theorem gMax_eq : Tryd.repL_ren.g 1 = gMax := by unfold gMax; kernel_rfl
theorem gRul_eq : gRul = 0 := by unfold gRul; kernel_rfl
theorem hasSuffix_c (s p : List UInt8) (hs : s.length ≤ 1099511627776) : Pure Tryd.prog 47 [sV s, sV p] (bl (Go.Lib.hasSuffix s p)) [] := by
  refine pure_one [.string (bA s), .string (bA p)] fun w => ?_
  refine (Any.strings_HasSuffix Tryd.hasL (bA s) (bA p) w (by rw [bA_size]; omega)).mono fun e w' ⟨h1, h2⟩ => ?_
  subst h2
  rw [bA_data, bA_data] at h1
  exact ⟨h1, rfl, ⟨rfl, Nat.le_refl _⟩, rfl, Nat.le_refl _, fun _ _ => rfl⟩
theorem trimSuffix_c (s p : List UInt8) (hs : s.length ≤ 1099511627776) : Pure Tryd.prog 48 [sV s, sV p] (sV (Go.Lib.trimSuffix s p)) [] := by
  refine pure_one [.string (bA s), .string (bA p)] fun w => ?_
  refine (Any.strings_TrimSuffix Tryd.trsL (bA s) (bA p) w (by rw [bA_size]; omega)).mono fun e w' ⟨h1, h2⟩ => ?_
  subst h2
  rw [bA_data, bA_data] at h1
  exact ⟨h1, rfl, ⟨rfl, Nat.le_refl _⟩, rfl, Nat.le_refl _, fun _ _ => rfl⟩
theorem replace_c (m : Int) (s : List UInt8) (x : List UInt8 × List UInt8) (hx : ruleOk x) (hs : s.length ≤ 1048640) : PureG Tryd.prog (LR m) 46 [sV s, sV x.1, sV x.2, i64 1] (sV (rep x.1 x.2 s)) [] := by
  refine pureG_one [.string (bA s), .string (bA x.1), .string (bA x.2), .int .i64 1] fun w hv => ?_
  obtain ⟨ty, z, h1⟩ := hv (gMax, [.int .i64 m]) (by simp [LR])
  have h2 := hx.2.2
  have h3 := hx.2.1
  have hc := Go.Lib.countB_mul_le (bA x.1) (by rw [bA_size]; omega) _ (bA s) (Nat.le_refl _)
  have hq : Go.Lib.countB (bA s) (bA x.1) * (bA x.2).size ≤ Go.Lib.countB (bA s) (bA x.1) * (bA x.1).size := Nat.mul_le_mul_left _ (by rw [bA_size, bA_size]; exact h3)
  have hsz : (bA s).size = s.length := bA_size s
  refine (Any.strings_Replace Tryd.repL repX (bA s) (bA x.1) (bA x.2) 1 m w (by omega) ?_ (by rw [bA_size]; omega) (by omega)).mono fun e w' ⟨h4, h5⟩ => ?_
  · rw [gMax_eq]
    simp [World.cell?, h1]
  · rw [bA_data, bA_data, bA_data, replace_rule hx] at h4
    exact ⟨h4, below_ok h5⟩
end Go.Proofs.YtnddllekkdckaaaDoor
set_option maxRecDepth 100000
namespace Go.Proofs.YtnddllekkdckaaaDoor
open Go.Gov Go.Nt
open Classical

@[go_sem] theorem ghoOf_LR (m : Int) : ghoOf 0 (gvs (LR m)) = some rlV := by simp [LR, gvs, ghoOf, gRul_eq]
@[go_sem] theorem rlV_map : rlV.map AV.val = RLd := by simp [rlV, RLd]
@[go_sem] theorem RLd_plain : RLd.all plainC = true := rfl
@[go_sem] theorem RLd_take : RLd.take 26 = RLd := rfl
@[go_sem] theorem RLd_rnm (τ : Nat → Option Nat) : rnmL τ RLd = RLd := rfl
theorem RLd_pair : ∀ (j : Nat) (h : j < rls.length), (RLd.drop (j * 2)).take 2 = [sV (rls[j]).1, sV (rls[j]).2]
  | 0, _ => rfl
  | 1, _ => rfl
  | 2, _ => rfl
  | 3, _ => rfl
  | 4, _ => rfl
  | 5, _ => rfl
  | 6, _ => rfl
  | 7, _ => rfl
  | 8, _ => rfl
  | 9, _ => rfl
  | 10, _ => rfl
  | 11, _ => rfl
  | 12, _ => rfl
  | _ + 13, h => absurd (show _ < 13 from h) (by omega)
set_option maxHeartbeats 4000000 in
theorem simplified_c (m : Int) (s : List UInt8) (hs : s.length ≤ 1048640) : PureG Tryd.prog (LR m) 33 [sV s] (sV (smp s)) [] := by
  refine pureGV ok33 rfl ?_; unfold c33
  (repeat first | simp only [go_sem, ↓reduceIte, Nat.reduceEqDiff, Nat.reduceAdd, reduceCtorEq] | with_reducible refine V_W ?_ | (with_reducible refine And.intro ?_ ?_; focus first | assumption | omega | decide | grind) | (with_reducible refine Br.mk ?_ ?_; focus (intros; omega)) | decide)
  refine V_loop (α := List UInt8) (S := fun T => ([(0, sV T)], [some (gvs (LR m))])) (C := fun T => smp T = smp s ∧ T.length ≤ s.length) (μ := fun T => mes T) s ⟨rfl, Nat.le_refl _⟩ (Ref.to rfl (by simp [sub, fget])) ?_
  rintro T ⟨h1, h2⟩
  (repeat first | simp only [go_sem, ↓reduceIte, Nat.reduceEqDiff, Nat.reduceAdd, reduceCtorEq] | with_reducible refine V_W ?_ | (with_reducible refine And.intro ?_ ?_; focus first | assumption | omega | decide | grind) | (with_reducible refine Br.mk ?_ ?_; focus (intros; omega)) | decide)
  refine V_loop (α := Nat) (S := fun j => ([(0, sV T), (3, sV T), (7, .agg RLd), (8, i64 (j : Int))], [some (gvs (LR m))])) (C := fun j => j ≤ 13 ∧ stpR rls T = stpR (rls.drop j) T) (μ := fun j => 13 - j) 0 ⟨Nat.zero_le _, rfl⟩ (Ref.to rfl (by simp [sub, fget])) ?_
  rintro j ⟨g1, g2⟩
  (repeat first | simp only [go_sem, ↓reduceIte, Nat.reduceEqDiff, Nat.reduceAdd, reduceCtorEq] | with_reducible refine V_W ?_ | (with_reducible refine And.intro ?_ ?_; focus first | assumption | omega | decide | grind) | (with_reducible refine Br.mk ?_ ?_; focus (intros; omega)) | decide)
  refine ⟨fun hc => ?_, fun hc => ?_⟩
  · have hj2 : j < rls.length := by show j < 13; omega
    rw [stpR_drop hj2] at g2
    have hok := rls_ok _ (List.getElem_mem hj2)
    have ha := RLd_pair j hj2
    generalize rls[j] = x at g2 hok ha
    have hR := replace_c m T x hok (by omega)
    (repeat first | simp only [go_sem, ↓reduceIte, Nat.reduceEqDiff, Nat.reduceAdd, reduceCtorEq] | with_reducible refine V_W ?_ | (with_reducible refine And.intro ?_ ?_; focus first | assumption | omega | decide | grind) | (with_reducible refine Br.mk ?_ ?_; focus (intros; omega)) | decide)
    simp only [Int.toNat_natCast, ha, go_sem, ↓reduceIte, Nat.reduceEqDiff, Nat.reduceAdd, reduceCtorEq]
    refine ⟨by have := congrArg List.length ha; rwa [List.length_take] at this, ?_⟩
    (repeat first | simp only [go_sem, ↓reduceIte, Nat.reduceEqDiff, Nat.reduceAdd, reduceCtorEq] | with_reducible refine V_W ?_ | (with_reducible refine And.intro ?_ ?_; focus first | assumption | omega | decide | grind) | (with_reducible refine Br.mk ?_ ?_; focus (intros; omega)) | decide)
    refine pureGC 0 (hR) rfl (by simp only [go_sem, ↓reduceIte, Nat.reduceEqDiff, Nat.reduceAdd, reduceCtorEq] <;> rfl) (by first | rfl | simp only [go_sem, ↓reduceIte, Nat.reduceEqDiff, Nat.reduceAdd, reduceCtorEq]) ?_
    by_cases hi : Go.Lib.index T x.1 = -1
    · rw [if_pos hi] at g2
      rw [rep_miss hi]
      (repeat first | simp only [go_sem, ↓reduceIte, Nat.reduceEqDiff, Nat.reduceAdd, reduceCtorEq] | with_reducible refine V_W ?_ | (with_reducible refine And.intro ?_ ?_; focus first | assumption | omega | decide | grind) | (with_reducible refine Br.mk ?_ ?_; focus (intros; omega)) | decide)
      exact ⟨j + 1, ⟨by omega, g2⟩, by omega, Ref.gc [0] rfl (by simp only [go_sem, ↓reduceIte, Nat.reduceEqDiff, Nat.reduceAdd, reduceCtorEq]) (by simp [sub, fget, go_sem, ↓reduceIte, Nat.reduceEqDiff, Nat.reduceAdd, reduceCtorEq])⟩
    · rw [if_neg hi] at g2
      have hne := rep_ne hok hi
      have hst := stp_rule g2
      have hm := stp_some hst
      generalize rep x.1 x.2 T = U at g2 hne hst hm ⊢
      (repeat first | simp only [go_sem, ↓reduceIte, Nat.reduceEqDiff, Nat.reduceAdd, reduceCtorEq] | with_reducible refine V_W ?_ | (with_reducible refine And.intro ?_ ?_; focus first | assumption | omega | decide | grind) | (with_reducible refine Br.mk ?_ ?_; focus (intros; omega)) | decide)
      refine ⟨fun _ => ?_, fun h => absurd h hne⟩
      have hne2 : (U == T) = false := by simpa using hne
      (repeat first | simp only [go_sem, ↓reduceIte, Nat.reduceEqDiff, Nat.reduceAdd, reduceCtorEq] | with_reducible refine V_W ?_ | (with_reducible refine And.intro ?_ ?_; focus first | assumption | omega | decide | grind) | (with_reducible refine Br.mk ?_ ?_; focus (intros; omega)) | decide)
      refine GCall_no (bl false) hne2 ?_
      (repeat first | simp only [go_sem, ↓reduceIte, Nat.reduceEqDiff, Nat.reduceAdd, reduceCtorEq] | with_reducible refine V_W ?_ | (with_reducible refine And.intro ?_ ?_; focus first | assumption | omega | decide | grind) | (with_reducible refine Br.mk ?_ ?_; focus (intros; omega)) | decide)
      refine ⟨fun h => absurd h hne, fun _ => ?_⟩
      exact ⟨U, ⟨(smp_some hst).symm.trans h1, by omega⟩, hm.1, Ref.gc [0] rfl (by simp only [go_sem, ↓reduceIte, Nat.reduceEqDiff, Nat.reduceAdd, reduceCtorEq]) (by simp [sub, fget, go_sem, ↓reduceIte, Nat.reduceEqDiff, Nat.reduceAdd, reduceCtorEq])⟩
  · have hj : 13 ≤ j := by omega
    rw [stpR_end hj] at g2
    have hH := hasSuffix_c T [90, 50] (by omega)
    have hT := trimSuffix_c T [90, 50] (by omega)
    have hmx := max_big
    (repeat first | simp only [go_sem, ↓reduceIte, Nat.reduceEqDiff, Nat.reduceAdd, reduceCtorEq] | with_reducible refine V_W ?_ | (with_reducible refine And.intro ?_ ?_; focus first | assumption | omega | decide | grind) | (with_reducible refine Br.mk ?_ ?_; focus (intros; omega)) | decide)
    refine GCall.mk (bl (Go.Lib.hasSuffix T [90, 50])) (fun hg => by first | exact pureC (hH) (by simp only [go_sem, ↓reduceIte, Nat.reduceEqDiff, Nat.reduceAdd, reduceCtorEq] <;> rfl) (by first | rfl | simp only [go_sem, ↓reduceIte, Nat.reduceEqDiff, Nat.reduceAdd, reduceCtorEq]) (by first | exact ⟨rfl, rfl⟩ | simp only [go_sem, ↓reduceIte, Nat.reduceEqDiff, Nat.reduceAdd, reduceCtorEq]) | exact ⟨hg, pureC (hH) (by simp only [go_sem, ↓reduceIte, Nat.reduceEqDiff, Nat.reduceAdd, reduceCtorEq] <;> rfl) (by first | rfl | simp only [go_sem, ↓reduceIte, Nat.reduceEqDiff, Nat.reduceAdd, reduceCtorEq]) (by first | exact ⟨rfl, rfl⟩ | simp only [go_sem, ↓reduceIte, Nat.reduceEqDiff, Nat.reduceAdd, reduceCtorEq])⟩ | exact ⟨by grind, pureC (hH) (by simp only [go_sem, ↓reduceIte, Nat.reduceEqDiff, Nat.reduceAdd, reduceCtorEq] <;> rfl) (by first | rfl | simp only [go_sem, ↓reduceIte, Nat.reduceEqDiff, Nat.reduceAdd, reduceCtorEq]) (by first | exact ⟨rfl, rfl⟩ | simp only [go_sem, ↓reduceIte, Nat.reduceEqDiff, Nat.reduceAdd, reduceCtorEq])⟩) ?_
    by_cases hz : z2 T = true
    · have hst := stp_z2 g2 hz
      have hm := stp_some hst
      rw [trim_z2 hz] at hT
      unfold z2 at hz
      rw [hz]
      (repeat first | simp only [go_sem, ↓reduceIte, Nat.reduceEqDiff, Nat.reduceAdd, reduceCtorEq] | with_reducible refine V_W ?_ | (with_reducible refine And.intro ?_ ?_; focus first | assumption | omega | decide | grind) | (with_reducible refine Br.mk ?_ ?_; focus (intros; omega)) | decide)
      refine pureC (hT) (by simp only [go_sem, ↓reduceIte, Nat.reduceEqDiff, Nat.reduceAdd, reduceCtorEq] <;> rfl) (by first | rfl | simp only [go_sem, ↓reduceIte, Nat.reduceEqDiff, Nat.reduceAdd, reduceCtorEq]) ?_
      (repeat first | simp only [go_sem, ↓reduceIte, Nat.reduceEqDiff, Nat.reduceAdd, reduceCtorEq] | with_reducible refine V_W ?_ | (with_reducible refine And.intro ?_ ?_; focus first | assumption | omega | decide | grind) | (with_reducible refine Br.mk ?_ ?_; focus (intros; omega)) | decide)
      have hne : T.take (T.length - 2) ++ [72, 50] ≠ T := fun e => by
        have h3 := hm.1
        rw [e] at h3
        omega
      refine ⟨fun h => absurd h hne, fun _ => ?_⟩
      (repeat first | simp only [go_sem, ↓reduceIte, Nat.reduceEqDiff, Nat.reduceAdd, reduceCtorEq] | with_reducible refine V_W ?_ | (with_reducible refine And.intro ?_ ?_; focus first | assumption | omega | decide | grind) | (with_reducible refine Br.mk ?_ ?_; focus (intros; omega)) | decide)
      exact ⟨T.take (T.length - 2) ++ [72, 50], ⟨(smp_some hst).symm.trans h1, by omega⟩, hm.1, Ref.gc [0] rfl (by simp only [go_sem, ↓reduceIte, Nat.reduceEqDiff, Nat.reduceAdd, reduceCtorEq]) (by simp [sub, fget, go_sem, ↓reduceIte, Nat.reduceEqDiff, Nat.reduceAdd, reduceCtorEq])⟩
    · have hst := stp_end g2 hz
      rw [← h1, smp_none hst]
      unfold z2 at hz
      rw [Bool.eq_false_iff.2 hz]
      (repeat first | simp only [go_sem, ↓reduceIte, Nat.reduceEqDiff, Nat.reduceAdd, reduceCtorEq] | with_reducible refine V_W ?_ | (with_reducible refine And.intro ?_ ?_; focus first | assumption | omega | decide | grind) | (with_reducible refine Br.mk ?_ ?_; focus (intros; omega)) | decide)
      exact Ref.gc [] rfl (by simp only [go_sem, ↓reduceIte, Nat.reduceEqDiff, Nat.reduceAdd, reduceCtorEq]) (by simp [sub, fget, go_sem, ↓reduceIte, Nat.reduceEqDiff, Nat.reduceAdd, reduceCtorEq])
noncomputable def LS (tp tq : TypeId) (p q : Value) (m : Int) : List (Nat × List Value) := LV tp tq p q ++ LR m
variable (tp tq : TypeId) (p q : Value) (m : Int)
theorem parse_s {av : List AV} {f : FuncId} {α : Type} {Q : α → Prop} {x : α → AV} {h : α → Heap} (hp : PureGE Tryd.prog (LV tp tq p q) f av Q x h) : PureGE Tryd.prog (LS tp tq p q m) f av Q x h :=
  fun w vals hv => hp w vals fun y hy => hv y (List.mem_append_left _ hy)
theorem simp_s {av : List AV} {f : FuncId} {x : AV} {h : Heap} (hp : PureG Tryd.prog (LR m) f av x h) : PureG Tryd.prog (LS tp tq p q m) f av x h :=
  fun w vals hv => hp w vals fun y hy => hv y (List.mem_append_right _ hy)
theorem implSn_c (l : List UInt8) (hs : l.length ≤ 1048576) : PureG Tryd.prog (LS tp tq p q m) 23 [sV l] (.tup [sV (snA l), i64 (ntK l)]) [] := by
  have h := parse_s tp tq p q m (parse_c tp tq p q l (by omega))
  have hsl := nt_slen l
  have hmx := max_big
  refine pureGV ok23 rfl ?_; unfold c23
  (repeat first | simp only [go_sem, ↓reduceIte, Nat.reduceEqDiff, Nat.reduceAdd, reduceCtorEq] | with_reducible refine V_W ?_ | (with_reducible refine And.intro ?_ ?_; focus first | assumption | omega | decide | grind) | (with_reducible refine Br.mk ?_ ?_; focus (intros; omega)) | decide)
  refine pureGEC 0 (h) rfl (by simp only [go_sem, ↓reduceIte, Nat.reduceEqDiff, Nat.reduceAdd, reduceCtorEq] <;> rfl) (fun o => by first | rfl | simp only [go_sem, ↓reduceIte, Nat.reduceEqDiff, Nat.reduceAdd, reduceCtorEq]) fun o ho => ?_
  obtain ⟨⟨a, b, c⟩, d⟩ := o
  obtain ⟨ho1, ho2⟩ := ho
  dsimp only at ho1 ho2
  subst ho1
  by_cases hk : NtOk l
  · obtain ⟨rfl, rfl, rfl⟩ : a = ntO l ∧ b = ntS l ∧ c = (if (ntS l).length = 1 then 0 else numS (ntS l)) := by have := ho2 hk; simpa using this
    have e1 : snA l = smp (basL (ntO l) ++ ntS l) := if_pos hk
    have e2 : ntK l = 0 := if_pos hk
    have hbl := basL_len (ntO l)
    have hd := basic_c (ntO l) (ntS l) (if (ntS l).length = 1 then 0 else numS (ntS l)) hk.1
    have hk1 := hk.1
    have hc := simp_s tp tq p q m (simplified_c m (basL (ntO l) ++ ntS l) (by rw [List.length_append]; omega))
    rw [decide_eq_true hk, e1, e2]
    clear ho2
    generalize (if (ntS l).length = 1 then 0 else numS (ntS l)) = z at hd ⊢
    (repeat first | simp only [go_sem, ↓reduceIte, Nat.reduceEqDiff, Nat.reduceAdd, reduceCtorEq] | with_reducible refine V_W ?_ | (with_reducible refine And.intro ?_ ?_; focus first | assumption | omega | decide | grind) | (with_reducible refine Br.mk ?_ ?_; focus (intros; omega)) | decide)
    refine pureC (hd) (by simp only [go_sem, ↓reduceIte, Nat.reduceEqDiff, Nat.reduceAdd, reduceCtorEq] <;> rfl) (by first | rfl | simp only [go_sem, ↓reduceIte, Nat.reduceEqDiff, Nat.reduceAdd, reduceCtorEq]) ?_
    (repeat first | simp only [go_sem, ↓reduceIte, Nat.reduceEqDiff, Nat.reduceAdd, reduceCtorEq] | with_reducible refine V_W ?_ | (with_reducible refine And.intro ?_ ?_; focus first | assumption | omega | decide | grind) | (with_reducible refine Br.mk ?_ ?_; focus (intros; omega)) | decide)
    refine pureGC 0 (hc) rfl (by simp only [go_sem, ↓reduceIte, Nat.reduceEqDiff, Nat.reduceAdd, reduceCtorEq] <;> rfl) (by first | rfl | simp only [go_sem, ↓reduceIte, Nat.reduceEqDiff, Nat.reduceAdd, reduceCtorEq]) ?_
    (repeat first | simp only [go_sem, ↓reduceIte, Nat.reduceEqDiff, Nat.reduceAdd, reduceCtorEq] | with_reducible refine V_W ?_ | (with_reducible refine And.intro ?_ ?_; focus first | assumption | omega | decide | grind) | (with_reducible refine Br.mk ?_ ?_; focus (intros; omega)) | decide)
    exact Ref.gc [] rfl (by simp only [go_sem, ↓reduceIte, Nat.reduceEqDiff, Nat.reduceAdd, reduceCtorEq]) (by simp [sub, fget, go_sem, ↓reduceIte, Nat.reduceEqDiff, Nat.reduceAdd, reduceCtorEq])
  · have e1 : snA l = [] := if_neg hk
    have e2 : ntK l = 6 := if_neg hk
    rw [decide_eq_false hk, e1, e2]
    (repeat first | simp only [go_sem, ↓reduceIte, Nat.reduceEqDiff, Nat.reduceAdd, reduceCtorEq] | with_reducible refine V_W ?_ | (with_reducible refine And.intro ?_ ?_; focus first | assumption | omega | decide | grind) | (with_reducible refine Br.mk ?_ ?_; focus (intros; omega)) | decide)
    exact Ref.gc [] rfl (by simp only [go_sem, ↓reduceIte, Nat.reduceEqDiff, Nat.reduceAdd, reduceCtorEq]) (by simp [sub, fget, go_sem, ↓reduceIte, Nat.reduceEqDiff, Nat.reduceAdd, reduceCtorEq])
theorem lawLSn_c (l : List UInt8) (hs : l.length ≤ 9223372036854775807) : PureG Tryd.prog (LS tp tq p q m) 8 [sV l] (bl true) [] := by
  refine pureGV ok8 rfl ?_; unfold c8
  (repeat first | simp only [go_sem, ↓reduceIte, Nat.reduceEqDiff, Nat.reduceAdd, reduceCtorEq] | with_reducible refine V_W ?_ | (with_reducible refine And.intro ?_ ?_; focus first | assumption | omega | decide | grind) | (with_reducible refine Br.mk ?_ ?_; focus (intros; omega)) | decide)
  refine ⟨fun hc => ?_, fun hc => ?_⟩
  · (repeat first | simp only [go_sem, ↓reduceIte, Nat.reduceEqDiff, Nat.reduceAdd, reduceCtorEq] | with_reducible refine V_W ?_ | (with_reducible refine And.intro ?_ ?_; focus first | assumption | omega | decide | grind) | (with_reducible refine Br.mk ?_ ?_; focus (intros; omega)) | decide)
    exact Ref.gc [] rfl (by simp only [go_sem, ↓reduceIte, Nat.reduceEqDiff, Nat.reduceAdd, reduceCtorEq]) (by simp [sub, fget, go_sem, ↓reduceIte, Nat.reduceEqDiff, Nat.reduceAdd, reduceCtorEq])
  have hS := specSn_c l (by omega)
  have hI := implSn_c tp tq p q m l (by omega)
  generalize snA l = a at hS hI
  generalize ntK l = b at hS hI
  (repeat first | simp only [go_sem, ↓reduceIte, Nat.reduceEqDiff, Nat.reduceAdd, reduceCtorEq] | with_reducible refine V_W ?_ | (with_reducible refine And.intro ?_ ?_; focus first | assumption | omega | decide | grind) | (with_reducible refine Br.mk ?_ ?_; focus (intros; omega)) | decide)
  refine pureC (hS) (by simp only [go_sem, ↓reduceIte, Nat.reduceEqDiff, Nat.reduceAdd, reduceCtorEq] <;> rfl) (by first | rfl | simp only [go_sem, ↓reduceIte, Nat.reduceEqDiff, Nat.reduceAdd, reduceCtorEq]) ?_
  (repeat first | simp only [go_sem, ↓reduceIte, Nat.reduceEqDiff, Nat.reduceAdd, reduceCtorEq] | with_reducible refine V_W ?_ | (with_reducible refine And.intro ?_ ?_; focus first | assumption | omega | decide | grind) | (with_reducible refine Br.mk ?_ ?_; focus (intros; omega)) | decide)
  refine pureGC 0 (hI) rfl (by simp only [go_sem, ↓reduceIte, Nat.reduceEqDiff, Nat.reduceAdd, reduceCtorEq] <;> rfl) (by first | rfl | simp only [go_sem, ↓reduceIte, Nat.reduceEqDiff, Nat.reduceAdd, reduceCtorEq]) ?_
  (iterate 16 ((repeat first | simp only [go_sem, ↓reduceIte, Nat.reduceEqDiff, Nat.reduceAdd, reduceCtorEq] | with_reducible refine V_W ?_ | (with_reducible refine And.intro ?_ ?_; focus first | assumption | omega | decide | grind) | (with_reducible refine Br.mk ?_ ?_; focus (intros; omega)) | decide); (try with_reducible refine fun _ => ?_)))
  exact Ref.gc [] rfl (by simp only [go_sem, ↓reduceIte, Nat.reduceEqDiff, Nat.reduceAdd, reduceCtorEq]) (by simp [sub, fget, go_sem, ↓reduceIte, Nat.reduceEqDiff, Nat.reduceAdd, reduceCtorEq])
end Go.Proofs.YtnddllekkdckaaaDoor
set_option maxRecDepth 100000
namespace Go.Gov
open Go.Lib
theorem trod_arr {H : Type} {enc : TypeId × Value → H} {P : Program} {w : World} {base : Nat} {sp : Nat → Bool} {held : Bool} {fuel : Nat} {t e : TypeId} {n k : Nat} {cs : List Value} {ds : List (DataW H)} {p : List MemPlace}
    (ht : P.underlying t = some (.array n e)) (hce : P.cellsOf e = k) (hct : P.cellsOf t = n * k)
    (h : DataW.trod enc P w base sp held (fuel + 1) t cs = some (.agg ds, p)) : cs.length = n * k ∧ ds.length = n ∧ ∀ i d, ds[i]? = some d → ∃ q, DataW.trod enc P w base sp held fuel e ((cs.drop (i * k)).take k) = some (d, q) := by
  simp only [DataW.trod, ht, hce, hct] at h
  split at h
  · rename_i hl
    obtain ⟨xs, hm, hx⟩ := Option.map_eq_some_iff.1 h
    have hxs : xs.map (·.1) = ds := by
      have := congrArg Prod.fst hx
      simpa using this
    have hxl : xs.length = n := by simpa using mapM_length hm
    refine ⟨by simpa using hl, by rw [← hxs, List.length_map]; exact hxl, fun i d hd => ?_⟩
    rw [← hxs, List.getElem?_map, Option.map_eq_some_iff] at hd
    obtain ⟨y, hy, rfl⟩ := hd
    have hi : i < n := by rw [← hxl]; exact (List.getElem?_eq_some_iff.1 hy).1
    obtain ⟨b, hb, hf⟩ := mapM_at hm i i (by simp [hi])
    rw [hy] at hb
    obtain rfl := Option.some.inj hb
    exact ⟨y.2, hf⟩
  · cases h
end Go.Gov
namespace Go.Proofs.YtnddllekkdckaaaDoor
open Go.Gov Go.Nt Go.ChangeShapes Go.WideShapes Go.ChangeAt Go.RowKit
def pairD {H : Type} (x : List UInt8 × List UInt8) : DataW H := .agg [.lit (.string x.1), .lit (.string x.2)]
theorem rlV_at : ∀ (j : Nat) (h : j < rls.length), rlV[j * 2]? = some (.string (bA (rls[j]).1)) ∧ rlV[j * 2 + 1]? = some (.string (bA (rls[j]).2))
  | 0, _ => ⟨rfl, rfl⟩
  | 1, _ => ⟨rfl, rfl⟩
  | 2, _ => ⟨rfl, rfl⟩
  | 3, _ => ⟨rfl, rfl⟩
  | 4, _ => ⟨rfl, rfl⟩
  | 5, _ => ⟨rfl, rfl⟩
  | 6, _ => ⟨rfl, rfl⟩
  | 7, _ => ⟨rfl, rfl⟩
  | 8, _ => ⟨rfl, rfl⟩
  | 9, _ => ⟨rfl, rfl⟩
  | 10, _ => ⟨rfl, rfl⟩
  | 11, _ => ⟨rfl, rfl⟩
  | 12, _ => ⟨rfl, rfl⟩
  | _ + 13, h => absurd (show _ < 13 from h) (by omega)
theorem rules_of {H : Type} {enc : TypeId × Value → H} {w : World} {base : Nat} {sp : Nat → Bool} {held : Bool} {fuel : Nat} {cs : List Value} {p : List MemPlace}
    (h : DataW.trod enc Tryd.prog w base sp held fuel 53 cs = some (.agg (rls.map pairD), p)) : cs = rlV := by
  cases fuel with
  | zero => simp [DataW.trod] at h
  | succ fuel =>
    obtain ⟨h1, _, h3⟩ := trod_arr (n := 13) (k := 2) (e := 52) Tryd.underlying53 (by kernel_rfl) (by kernel_rfl) h
    have hat : ∀ i (hi : i < rls.length), cs[i * 2]? = some (.string (bA (rls[i]).1)) ∧ cs[i * 2 + 1]? = some (.string (bA (rls[i]).2)) := by
      intro i hi
      obtain ⟨q, hq⟩ := h3 i (pairD rls[i]) (by rw [List.getElem?_map, List.getElem?_eq_getElem hi]; rfl)
      generalize rls[i] = x at hq
      cases fuel with
      | zero => simp [DataW.trod] at hq
      | succ fuel =>
        obtain ⟨h4, _, h5⟩ := trod_arr (n := 2) (k := 1) (e := 9) Tryd.underlying52 (by kernel_rfl) (by kernel_rfl) hq
        obtain ⟨q0, h6⟩ := h5 0 _ rfl
        obtain ⟨q1, h7⟩ := h5 1 _ rfl
        obtain ⟨s0, h8, h9, _⟩ := DataW.trod_string Tryd.underlying9 h6
        obtain ⟨s1, h10, h11, _⟩ := DataW.trod_string Tryd.underlying9 h7
        simp only [Prod.mk.injEq, DataW.lit.injEq, Lit.string.injEq] at h9 h11
        have e0 : bA x.1 = s0 := by rw [h9.1, bA_all]
        have e1 : bA x.2 = s1 := by rw [h11.1, bA_all]
        rw [e0, e1]
        have k0 := congrArg (fun l => l[0]?) h8
        have k1 := congrArg (fun l => l[0]?) h10
        simp [List.getElem?_take, List.getElem?_drop] at k0 k1
        exact ⟨k0, k1⟩
    apply List.ext_getElem?
    intro i
    by_cases hi : i < 26
    · obtain ⟨j, hj, hij⟩ : ∃ j, j < 13 ∧ (i = j * 2 ∨ i = j * 2 + 1) := ⟨i / 2, by omega, by omega⟩
      obtain ⟨a, b⟩ := hat j hj
      obtain ⟨c, d⟩ := rlV_at j hj
      rcases hij with rfl | rfl
      · rw [a, c]
      · rw [b, d]
    · rw [List.getElem?_eq_none (by omega), List.getElem?_eq_none (by show 26 ≤ i; omega)]
theorem rules_in {laid : List (String × DataW Unit)} {W : World} (hL : laidMetH Tryd.prog laid W)
    (h1 : laid.filter (fun x => x.1 == "loop.example/g01108/impl.rules") = [("loop.example/g01108/impl.rules", .agg (rls.map pairD))]) : ∃ ty z, W.heap[gRul]? = some (.cells rlV.toArray ty z) := by
  have h := hL.filter (fun x => x.1 == "loop.example/g01108/impl.rules")
  rw [h1] at h
  have h : laidMet Tryd.prog [("loop.example/g01108/impl.rules", .agg (rls.map pairD))] W := h
  obtain ⟨ps, ⟨g', t', cs, fuel, p, q, hg', ht', hvar, hd, _, _⟩, _⟩ := h
  have hg : Tryd.prog.globalNamed "loop.example/g01108/impl.rules" = some 0 := by kernel_rfl
  have hty : (Tryd.prog.globals[0]?).map (·.type) = some 53 := by kernel_rfl
  obtain rfl := Option.some.inj (hg.symm.trans hg')
  obtain rfl := Option.some.inj (hty.symm.trans ht')
  have hc := rules_of hd
  obtain ⟨ty, z, h2⟩ := var_heap hg hvar
  rw [gRul_eq, ← hc]
  exact ⟨ty, z, h2⟩
end Go.Proofs.YtnddllekkdckaaaDoor
set_option maxRecDepth 100000
namespace Go.Proofs.YtnddllekkdckaaaDoor.JSn
open Go.Proofs.YtnddllekkdckaaaDoor
open Go.ChangeShapes Go.WideShapes Go.ChangeAt Go.RowKit Go.Gov Go.ChangeMaps

theorem wrap_shp {H : Type} {enc : TypeId × Value → H} {a : Assume} {C : Checked} {os : Os} {f : FuncId} {fn : Func} {s : ChangeSpec} {conds : List PathCond} {apart fresh handsOn again : Bool} {X : World → Array Value → Prop}
    (hX : ∀ (w w' : World) (args : Array Value), w.heap = w'.heap → X w args → X w' args)
    (own : ownKnob C.prog.godebug = none) (started : os.Started) (noInit : C.prog.inits.idxOf? f = none) (hfn : C.prog.funcs[f]? = some fn)
    (witness : ∃ (w : World) (tape : Tape) (i : Input), w.os = os ∧ (w.forCall tape i).Shaped C.prog ∧ i.vars = [] ∧ Input.okWide C.prog (w.forCall tape i) .any w.heap.size f i ∧
      ((s.pre enc C.prog fn conds apart (w.forCall tape i).memory i.args ∧ X (w.forCall tape i).memory i.args) ∧ sizedMet enc C.prog fn (OpenSpec.ofChange s) apart (w.forCall tape i).memory i.args) ∧ a.holds C.prog (lone (Frame.enter C.prog f i.args .normal) [] (w.forCall tape i)))
    (contract : ∀ (W : World) (base : Nat) (args : Array Value) (ds gs : List (DataW H)) (before : List MemPlace),
      (∀ (j : Nat) t v, fn.params[j]? = some t → args[j]? = some v → Value.okWide C.prog W .any base t v) →
      DataW.Whole enc C.prog fn.params.toList s.vars apart W args.toList ds gs before → X W args → W.ShapedOpen C.prog →
      Calls C.prog f args W fun e W' => ∃ v, e = .returned v ∧ s.post enc C.prog fn apart fresh handsOn again W args v W') :
    ReturnsInHanded a C os f .any (fun w args => (s.pre enc C.prog fn conds apart w args ∧ X w args) ∧ sizedMet enc C.prog fn (OpenSpec.ofChange s) apart w args) (s.post enc C.prog fn apart fresh handsOn again) := by
  refine returnsInHanded_of_calls own started noInit witness ?_
  intro w tape i _ hsh _ hok hpre hholds
  obtain ⟨_, _, _, fn', hfn', _, _, _, _, hval⟩ := hok
  obtain rfl : fn' = fn := Option.some.inj (hfn'.symm.trans hfn)
  obtain ⟨⟨⟨ds, gs, before, hw, hc⟩, hx⟩, hz⟩ := hpre
  have hw' := DataW.Whole.of_heap (w' := w.forCall tape i) (by rfl) hw
  refine (contract (w.forCall tape i) w.heap.size i.args ds gs before hval hw' (hX _ _ _ (by rfl) hx) hsh).mono fun e W' ⟨v, he, hp⟩ => ?_
  subst he
  exact ChangeSpec.post_blind hp
theorem max_in {W : World} (h : W.ShapedOpen Tryd.prog) : ∃ mm : Int, ∃ ty z, W.heap[gMax]? = some (.cells #[.int .i64 mm] ty z) := by
  have hg : 1 < Tryd.prog.globals.size := of_decide_eq_true (by kernel_rfl)
  have h0 : ((begin Tryd.prog (fun _ _ => 0) default).world.heap[1]?).bind Obj.row? = some (#[.int .i64 0], 3) := by kernel_rfl
  obtain ⟨mm, hm⟩ := cell_of_shapedOpen_int h hg h0 rfl (by kernel_rfl) (by kernel_rfl) Tryd.underlying3
  obtain ⟨cs, hh, hs, _⟩ := h.1 1 _ _ hg h0
  have hs1 : cs.size = 1 := hs
  obtain ⟨x, rfl⟩ : ∃ x, cs = #[x] := by
    obtain ⟨l⟩ := cs
    match l, hs1 with
    | [x], _ => exact ⟨x, rfl⟩
  have hx : x = .int .i64 mm := by simpa [World.cell?, hh] using hm
  subst hx
  have h1 : gMax = 1 := by unfold gMax; kernel_rfl
  rw [h1]
  exact ⟨mm, _, _, hh⟩
theorem vars_stay {H : Type} {enc : TypeId × Value → H} {W W' : World} {n : String} {g1 : DataW H} {q : List MemPlace} {sp' : Nat → Bool} {b : Nat} (hg : Tryd.prog.globalNamed n = some b) (hty : (Tryd.prog.globals[b]?).map (·.type) = some 53)
    (h : DataW.TrodVars enc Tryd.prog W (fun _ => true) [n] [g1] q) (hb : W'.heap[b]? = W.heap[b]?) (hsame : ∀ p ∈ q, W.sameAt W' p) (hs : ∀ p ∈ q, sp' p.block = true) : DataW.TrodVars enc Tryd.prog W' sp' [n] [g1] q := by
  obtain ⟨g, t, cs, fuel, p, r, h1, h2, h3, h4, h5, rfl⟩ := h
  obtain rfl := Option.some.inj (hg.symm.trans h1)
  obtain rfl := Option.some.inj (hty.symm.trans h2)
  refine ⟨_, _, cs, fuel, p, r, h1, h2, ?_, ?_, h5, rfl⟩
  · rw [← h3]
    unfold World.var?
    rw [hg]
    simp only [Option.bind_some]
    rw [hb]
  · exact DataW.trod_stays (kids_book Tryd.laidOut (by kernel_rfl)) (book_sized (by kernel_rfl)) (fun h => by cases h) ⟨of_decide_eq_true (by kernel_rfl), book_self 53⟩ h4 (fun x hx => hsame x (by simp [hx])) (fun x hx => hs x (by simp [hx]))

set_option maxRecDepth 100000 in
set_option maxHeartbeats 2000000 in
theorem lifted (os : Os) (started : os.Started) (H : Type) (enc : TypeId × Value → H) :
    ReturnsInHanded {} Tryd.checked os 8 .any (fun w args => (Rows.fnExactSimplifyNotationSpec.pre enc Tryd.prog Tryd.f8 [] false w args ∧ laidMetH Tryd.prog Rows.fnExactSimplifyNotationRow.laid w) ∧ sizedMet enc Tryd.prog Tryd.f8 (OpenSpec.ofChange Rows.fnExactSimplifyNotationSpec) false w args) (Rows.fnExactSimplifyNotationSpec.post enc Tryd.prog Tryd.f8 false true false false) := by
  refine wrap_shp (C := Tryd.checked) (X := fun w _ => laidMetH Tryd.prog Rows.fnExactSimplifyNotationRow.laid w) (fun _ _ _ hh h => h.of_heap hh) Tryd.own started (by kernel_rfl) Tryd.func8
    (ChangeSpec.witness_shaped (enc := enc) (C := Tryd.checked) (os := os) (X := fun w _ => laidMetH Tryd.prog Rows.fnExactSimplifyNotationRow.laid w) false (World.laidAll Tryd.prog os Rows.fnExactSimplifyNotationRow.laid) #[.string ⟨#[]⟩] 8 (World.laidAll_os _ _ _) (World.shaped_of_ZipB (by kernel_rfl) (by kernel_rfl)) (by kernel_rfl) (by kernel_rfl) (by kernel_rfl) (by rw [MakeChecks.laidMetH_plain _ _ _ (by kernel_rfl)]; exact laidMet_laidAll _ (by kernel_rfl) (by kernel_rfl))) ?_
  intro W base args ds gs before hval0 hW hLaid hShp
  have hval : ∀ (j : Nat) t v, Tryd.f8.params[j]? = some t → args[j]? = some v → Value.okWide Tryd.prog W .any base t v := hval0
  have hW' := hW
  obtain ⟨p, q, hA0, hV, rfl, hfz, hnd⟩ := hW
  have hA : DataW.TrodAll enc Tryd.prog W 0 (fun _ => true) true Tryd.f8.params.toList args.toList ds p := hA0
  rw [Tryd.params8] at hA hval
  obtain ⟨v0, l0, d0, e0, p0, q0, ha0, rfl, rfl, h0, hA1⟩ := trodAll_cons hA
  obtain ⟨rfl, rfl, rfl⟩ := trodAll_nil hA1
  obtain rfl : args = #[v0] := by rw [← Array.toArray_toList (xs := args), ha0]
  have hv0 := hval 0 9 v0 rfl rfl
  obtain ⟨g1, rfl⟩ : ∃ g1, gs = [g1] := by
    match gs, hV with
    | [g1], _ => exact ⟨g1, rfl⟩
    | _ :: _ :: _, h => obtain ⟨_, _, _, _, _, _, _, _, _, _, h, _⟩ := h; exact h.elim
  obtain ⟨s0, rfl, rfl, hp0, hs0⟩ := open_string Tryd.underlying9 hv0 h0
  obtain ⟨t0, rfl⟩ : ∃ l, s0 = bA l := ⟨s0.data.toList, (bA_all s0).symm⟩
  have hb0 : t0.length ≤ 9223372036854775807 := by rw [bA_size] at hs0; unfold maxLen at hs0; omega
  have hrd : ∀ m (h : m < ([sV t0] : List AV).length), Rd W ((g0 W).tr []) (g0 W).G ([sV t0] : List AV)[m] ((#[Value.string (bA t0)] : Array Value).getD m undef) [] := fun m h => by
    match m, h with
    | 0, _ => exact .val
  obtain ⟨tp, tq, pp, qq, hVs0⟩ := vars_in hLaid rfl rfl rfl
  obtain ⟨mm, hMx⟩ := max_in hShp
  have hVs : VarsIn W (LS tp tq pp qq mm) := fun x hx => by
    rcases List.mem_append.1 hx with hx | hx
    · exact hVs0 x hx
    · simp only [LR, List.mem_cons, List.not_mem_nil, or_false] at hx
      rcases hx with rfl | rfl
      · exact rules_in hLaid rfl
      · exact hMx
  refine (below_ofG (lawLSn_c tp tq pp qq mm t0 hb0) hVs rfl hrd).mono fun e W' ⟨he, hb, hz⟩ => ?_
  have hW0 : 0 < W.heap.size := by
    obtain ⟨_, _, h⟩ := hMx
    have := (Array.getElem?_eq_some_iff.1 h).1
    omega
  simp only [List.append_nil] at hW'
  have hS0 : ∀ sp : Nat → Bool, (∀ x ∈ p0, sp x.block = true) → DataW.Trod enc Tryd.prog W' 0 sp true 9 (.string (bA t0)) _ p0 := fun sp hsp =>
    WideElems.Trod_stays Tryd.laidOut (by kernel_rfl) (of_decide_eq_true (by kernel_rfl)) h0 (fun x hx => hb.same (hW'.lt x (by simp [hx]))) (fun x hx => hsp x (by simp [hx]))
  have hR1 : ∀ (b : Nat) (sp : Nat → Bool) (hd : Bool), DataW.Trod enc Tryd.prog W' b sp hd 4 (.bool true) (.lit (.bool true)) [] := fun _ _ _ => shut_bool Tryd.underlying4 true
  refine ⟨_, he, post_of_new (pa := p0) (pv := q) hW' (fun b sp hd => trodAll_mk1 (hR1 b sp hd)) (fun sp hsp => trodAll_mk1 (hS0 sp fun x hx => hsp x (by simp [hx]))) (fun sp hsp => ?_) ?_ ?_ hz ?_⟩
  · exact vars_stay (by kernel_rfl) (by kernel_rfl) hV (hb.block 0 hW0) (fun x hx => hb.same (hW'.lt x (by simp [hx]))) (fun x hx => hsp x (by simp [hx]))
  · simp
  · exact hb.frame _
  · exact ok_one (by kernel_rfl) rfl (okWide_bool_mk Tryd.underlying4 true)

theorem holds : Rows.FnExactSimplifyNotationSaid :=
  OpenClaim.holds_of_wide 8 Tryd.f8 rfl rfl rfl rfl rfl rfl rfl ⟨rfl, rfl, rfl, rfl, rfl⟩ rfl rfl rfl rfl rfl (by kernel_rfl) Tryd.func8 (by kernel_rfl)
    (of_decide_eq_true (by kernel_rfl)) (by unfold Func.isWrapper; first | (rw [if_pos (by decide +kernel)]; kernel_rfl) | (rw [if_neg (by decide +kernel)]; exact ⟨rfl, rfl⟩))
    (fun os started H enc _ => lifted os started H enc)

theorem card_holds : Rows.FnExactSimplifyNotationCardSaid :=
  Claim7.holds_tied_plain_at .later [] [.data, .data, .data, .data, .sentinel, .sentinel, .data, .pinned] true Rows.fnExactSimplifyNotationCard.stood.harness Rows.fnExactSimplifyNotationCard.stood.looks
    holds (fun _ h => by cases h) (by kernel_rfl) (fun _ h => by cases h) fnExactSimplifyNotation_row_tie rfl ⟨rfl, rfl⟩ (by kernel_rfl) rfl
    (fun f fn hf hfn => by
      obtain rfl : f = 8 := Option.some.inj ((show Tryd.prog.funcNamed "loop.example/g01108/laws.FnExactSimplifyNotation" = some 8 by kernel_rfl).symm.trans hf) |>.symm
      obtain rfl : fn = Tryd.f8 := (Option.some.inj (Tryd.func8.symm.trans hfn)).symm
      exact ⟨by kernel_rfl, fun j t ht => by
        rw [Tryd.params8] at ht
        have hm : t ∈ [9] := by simpa using Array.mem_of_getElem? ht
        have hall : ([9].all fun u => !Tryd.prog.wantsStandIn u) = true := by kernel_rfl
        exact (show Tryd.prog.wantsStandIn t = false by simpa using List.all_eq_true.1 hall t hm)⟩)
    (by kernel_rfl)

end Go.Proofs.YtnddllekkdckaaaDoor.JSn
