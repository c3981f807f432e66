/- FnNotationParts: the given statement. -/
import Derived.Shelf.SlGeneric
import Derived.Shelf.Strings.Replace
import Derived.Ground.NamesProg
import Derived.Shelf.Strings.Prefix
import Derived.Test.YtfcbamfkfadabaaGreatDoorProg
import Derived.Lib.ReplaceLaws
import Derived.Lib.LaidTab
import Derived.Test.YtfcbamfkfadabaaGreatDoorRows
import Derived.Test.YtfcbamfkfadabaaGreatDoorCards
import Derived.Test.YtfcbamfkfadabaaGreatDoorTie
import Derived.Shelf.Vars
import Derived.ProofKit
import Derived.LaidMore
import Derived.SevenTiedAt
import Derived.Lay
import Derived.MakeChecks
import Derived.ChangeMaps5
import Derived.Lib.SmallJoins
import Derived.OpenShut
import Derived.Test.YtfcbamfkfadabaaGreatDoorZp
import Derived.Test.YtfcbamfkfadabaaGreatDoorT3
import Derived.Test.YtfcbamfkfadabaaGreatDoorT5
import Derived.Test.YtfcbamfkfadabaaGreatDoorT9
import Derived.Test.YtfcbamfkfadabaaGreatDoorTa
import Derived.Test.YtfcbamfkfadabaaGreatDoorQ3
import Derived.Test.YtfcbamfkfadabaaGreatDoorT7
import Derived.Test.YtfcbamfkfadabaaGreatDoorR5
import Derived.Test.YtfcbamfkfadabaaGreatDoorRb
import Derived.Test.YtfcbamfkfadabaaGreatDoorRd
import Derived.Test.YtfcbamfkfadabaaGreatDoorRp
import Derived.Test.YtfcbamfkfadabaaGreatDoorS1
import Derived.Test.YtfcbamfkfadabaaGreatDoorS4
set_option linter.unusedSimpArgs false
set_option linter.unusedVariables false
set_option maxRecDepth 100000
namespace Go.Proofs
open Go.Shelf
def Tryz.repL_ren : Go.Shelf.Ren := ⟨fun | 154 => 89 | 138 => 144 | 165 => 145 | 143 => 140 | 166 => 146 | 197 => 147 | 169 => 148 | 195 => 196 | 218 => 197 | 240 => 198 | 241 => 199 | 219 => 192 | 260 => 200 | 276 => 235 | 277 => 236 | 217 => 225 | 225 => 226 | 224 => 227 | 267 => 228 | 266 => 268 | 314 => 269 | n => n, fun | 9 => 9 | 3 => 3 | 4 => 4 | 72 => 147 | 0 => 0 | 76 => 149 | 105 => 151 | 21 => 21 | 5 => 5 | 70 => 145 | 20 => 20 | 37 => 22 | 75 => 142 | 127 => 184 | 164 => 217 | 46 => 113 | 119 => 220 | 139 => 223 | 138 => 222 | 146 => 225 | 51 => 224 | 80 => 60 | n => n, fun | 1 => 1 | 3 => 2 | 4 => 3 | n => n⟩
theorem Tryz.repL : Go.Proofs.Lays.n154 Tryz.prog Tryz.repL_ren := {
  mixed := by kernel_rfl
  f138 := Tryz.func144.trans (congrArg some (by kernel_rfl))
  f143 := Tryz.func140.trans (congrArg some (by kernel_rfl))
  f154 := Tryz.func89.trans (congrArg some (by kernel_rfl))
  f165 := Tryz.func145.trans (congrArg some (by kernel_rfl))
  f166 := Tryz.func146.trans (congrArg some (by kernel_rfl))
  f169 := Tryz.func148.trans (congrArg some (by kernel_rfl))
  f195 := Tryz.func196.trans (congrArg some (by kernel_rfl))
  f197 := Tryz.func147.trans (congrArg some (by kernel_rfl))
  f217 := Tryz.func225.trans (congrArg some (by kernel_rfl))
  f218 := Tryz.func197.trans (congrArg some (by kernel_rfl))
  f219 := Tryz.func192.trans (congrArg some (by kernel_rfl))
  f224 := Tryz.func227.trans (congrArg some (by kernel_rfl))
  f225 := Tryz.func226.trans (congrArg some (by kernel_rfl))
  f240 := Tryz.func198.trans (congrArg some (by kernel_rfl))
  f241 := Tryz.func199.trans (congrArg some (by kernel_rfl))
  f260 := Tryz.func200.trans (congrArg some (by kernel_rfl))
  f266 := Tryz.func268.trans (congrArg some (by kernel_rfl))
  f267 := Tryz.func228.trans (congrArg some (by kernel_rfl))
  f276 := Tryz.func235.trans (congrArg some (by kernel_rfl))
  f277 := Tryz.func236.trans (congrArg some (by kernel_rfl))
  f314 := Tryz.func269.trans (congrArg some (by kernel_rfl))
  t0 := Tryz.underlying0
  a0 := Tryz.isAgg0
  z0 := Tryz.sizeOf0
  v0 := Tryz.zeroValue0
  t3 := Tryz.underlying3
  a3 := Tryz.isAgg3
  z3 := Tryz.sizeOf3
  v3 := Tryz.zeroValue3
  t4 := Tryz.underlying4
  a4 := Tryz.isAgg4
  z4 := Tryz.sizeOf4
  v4 := Tryz.zeroValue4
  t5 := Tryz.underlying5
  a5 := Tryz.isAgg5
  z5 := Tryz.sizeOf5
  v5 := Tryz.zeroValue5
  t9 := Tryz.underlying9
  a9 := Tryz.isAgg9
  z9 := Tryz.sizeOf9
  v9 := Tryz.zeroValue9
  t20 := Tryz.underlying20
  a20 := Tryz.isAgg20
  z20 := Tryz.sizeOf20
  v20 := Tryz.zeroValue20
  t21 := Tryz.underlying21
  a21 := Tryz.isAgg21
  z21 := Tryz.sizeOf21
  v21 := Tryz.zeroValue21
  t37 := Tryz.underlying22
  a37 := Tryz.isAgg22
  z37 := Tryz.sizeOf22
  v37 := Tryz.zeroValue22
  t46 := Tryz.underlying113
  a46 := Tryz.isAgg113
  z46 := Tryz.sizeOf113
  v46 := Tryz.zeroValue113
  t51 := Tryz.underlying224
  a51 := Tryz.isAgg224
  z51 := Tryz.sizeOf224
  v51 := Tryz.zeroValue224
  t70 := Tryz.underlying145
  a70 := Tryz.isAgg145
  z70 := Tryz.sizeOf145
  v70 := Tryz.zeroValue145
  t72 := Tryz.underlying147
  a72 := Tryz.isAgg147
  z72 := Tryz.sizeOf147
  v72 := Tryz.zeroValue147
  t75 := Tryz.underlying142
  a75 := Tryz.isAgg142
  z75 := Tryz.sizeOf142
  v75 := Tryz.zeroValue142
  t76 := Tryz.underlying149
  a76 := Tryz.isAgg149
  z76 := Tryz.sizeOf149
  v76 := Tryz.zeroValue149
  t105 := Tryz.underlying151
  a105 := Tryz.isAgg151
  z105 := Tryz.sizeOf151
  v105 := Tryz.zeroValue151
  t119 := Tryz.underlying220
  a119 := Tryz.isAgg220
  z119 := Tryz.sizeOf220
  t127 := Tryz.underlying184
  a127 := Tryz.isAgg184
  z127 := Tryz.sizeOf184
  v127 := Tryz.zeroValue184
  t138 := Tryz.underlying222
  a138 := Tryz.isAgg222
  z138 := Tryz.sizeOf222
  v138 := Tryz.zeroValue222
  t139 := Tryz.underlying223
  a139 := Tryz.isAgg223
  z139 := Tryz.sizeOf223
  v139 := Tryz.zeroValue223
  t146 := Tryz.underlying225
  a146 := Tryz.isAgg225
  z146 := Tryz.sizeOf225
  v146 := Tryz.zeroValue225
  t164 := Tryz.underlying217
  a164 := Tryz.isAgg217
  z164 := Tryz.sizeOf217
  v164 := Tryz.zeroValue217
  g1 := by kernel_rfl
  g3 := by kernel_rfl
  g4 := by kernel_rfl }
def Tryz.hasL_ren : Go.Shelf.Ren := ⟨fun | 100 => 90 | 207 => 149 | n => n, fun | 9 => 9 | 4 => 4 | 3 => 3 | n => n, fun | n => n⟩
theorem Tryz.hasL : Go.Proofs.Lays.n100 Tryz.prog Tryz.hasL_ren := {
  mixed := by kernel_rfl
  f100 := Tryz.func90.trans (congrArg some (by kernel_rfl))
  f207 := Tryz.func149.trans (congrArg some (by kernel_rfl))
  t3 := Tryz.underlying3
  a3 := Tryz.isAgg3
  z3 := Tryz.sizeOf3
  v3 := Tryz.zeroValue3
  t4 := Tryz.underlying4
  a4 := Tryz.isAgg4
  z4 := Tryz.sizeOf4
  v4 := Tryz.zeroValue4
  t9 := Tryz.underlying9
  a9 := Tryz.isAgg9
  z9 := Tryz.sizeOf9
  v9 := Tryz.zeroValue9 }
def Tryz.trsL_ren : Go.Shelf.Ren := ⟨fun | 102 => 91 | 209 => 150 | 207 => 149 | n => n, fun | 9 => 9 | 4 => 4 | 3 => 3 | n => n, fun | n => n⟩
theorem Tryz.trsL : Go.Proofs.Lays.n102 Tryz.prog Tryz.trsL_ren := {
  mixed := by kernel_rfl
  f102 := Tryz.func91.trans (congrArg some (by kernel_rfl))
  f207 := Tryz.func149.trans (congrArg some (by kernel_rfl))
  f209 := Tryz.func150.trans (congrArg some (by kernel_rfl))
  t3 := Tryz.underlying3
  a3 := Tryz.isAgg3
  z3 := Tryz.sizeOf3
  v3 := Tryz.zeroValue3
  t4 := Tryz.underlying4
  a4 := Tryz.isAgg4
  z4 := Tryz.sizeOf4
  v4 := Tryz.zeroValue4
  t9 := Tryz.underlying9
  a9 := Tryz.isAgg9
  z9 := Tryz.sizeOf9
  v9 := Tryz.zeroValue9 }
end Go.Proofs
set_option maxRecDepth 100000
namespace Go.Nt
open Go.Lib

def rls : List (List UInt8 × List UInt8) :=
  [([100, 100], []), ([97, 100], [97]), ([100, 84], [84]), ([100, 67], [79]), ([100, 79], [67]), ([100, 68], [73]), ([100, 73], [68]), ([100, 72], [90]), ([100, 90], [72]),
   ([97, 84], [79]), ([97, 79], [97, 67]), ([97, 73], [97, 68]), ([97, 90], [97, 72])]
def rep (p q s : List UInt8) : List UInt8 := if index s p = -1 then s else s.take (index s p).toNat ++ q ++ s.drop ((index s p).toNat + p.length)
def stpR : List (List UInt8 × List UInt8) → List UInt8 → Option (List UInt8)
  | [], _ => none
  | x :: r, s => if index s x.1 = -1 then stpR r s else some (rep x.1 x.2 s)
def z2 (s : List UInt8) : Bool := hasSuffix s [90, 50]
def stp (s : List UInt8) : Option (List UInt8) := match stpR rls s with
  | some t => some t
  | none => if z2 s = true then some (s.take (s.length - 2) ++ [72, 50]) else none
def wt (b : UInt8) : Nat := if b = 79 ∨ b = 73 ∨ b = 90 then 3 else 2
def mes (s : List UInt8) : Nat := (s.map wt).sum
theorem mes_app (a b : List UInt8) : mes (a ++ b) = mes a + mes b := by simp [mes]
def ruleOk (x : List UInt8 × List UInt8) : Prop := mes x.2 < mes x.1 ∧ x.2.length ≤ x.1.length ∧ x.1.length = 2
theorem rls_ok : ∀ x ∈ rls, ruleOk x := by unfold ruleOk; decide
theorem occ_split {s p : List UInt8} {i : Nat} (h : occAt s p i = true) : s = s.take i ++ p ++ s.drop (i + p.length) := by
  unfold occAt at h
  obtain ⟨r, hr⟩ := List.isPrefixOf_iff_prefix.1 h
  have h1 : s.drop (i + p.length) = r := by
    rw [← List.drop_drop, ← hr, List.drop_left]
  rw [h1, List.append_assoc, hr, List.take_append_drop]
theorem rep_hit {s p q : List UInt8} (h : index s p ≠ -1) : ∃ i : Nat, index s p = i ∧ s = s.take i ++ p ++ s.drop (i + p.length) ∧ rep p q s = s.take i ++ q ++ s.drop (i + p.length) := by
  rcases index_spec s p with ⟨h1, _⟩ | ⟨i, h1, h2, h3, _⟩
  · exact absurd h1 h
  · refine ⟨i, h1, occ_split h3, ?_⟩
    unfold rep
    rw [if_neg h, h1, Int.toNat_natCast]
theorem rep_less {x : List UInt8 × List UInt8} {s : List UInt8} (hx : ruleOk x) (h : index s x.1 ≠ -1) : mes (rep x.1 x.2 s) < mes s ∧ (rep x.1 x.2 s).length ≤ s.length := by
  obtain ⟨i, _, h2, h3⟩ := rep_hit (q := x.2) h
  obtain ⟨h4, h5, _⟩ := hx
  rw [h3]
  have e1 : mes s = mes (s.take i) + mes x.1 + mes (s.drop (i + x.1.length)) := by rw [← mes_app, ← mes_app, ← h2]
  have e2 : s.length = (s.take i).length + x.1.length + (s.drop (i + x.1.length)).length := by rw [← List.length_append, ← List.length_append, ← h2]
  rw [mes_app, mes_app, List.length_append, List.length_append]
  omega
theorem rep_miss {p q s : List UInt8} (h : index s p = -1) : rep p q s = s := by unfold rep; rw [if_pos h]
theorem rep_ne {x : List UInt8 × List UInt8} {s : List UInt8} (hx : ruleOk x) (h : index s x.1 ≠ -1) : rep x.1 x.2 s ≠ s := fun e => by
  have := (rep_less hx h).1
  rw [e] at this
  omega
theorem stpR_some : ∀ {l : List (List UInt8 × List UInt8)} {s t : List UInt8}, (∀ x ∈ l, ruleOk x) → stpR l s = some t → mes t < mes s ∧ t.length ≤ s.length
  | [], _, _, _, h => by cases h
  | x :: r, s, t, hl, h => by
    unfold stpR at h
    split at h
    · exact stpR_some (fun y hy => hl y (by simp [hy])) h
    · rename_i hn
      cases h
      exact rep_less (hl x (by simp)) hn
theorem z2_split {s : List UInt8} (h : z2 s = true) : 2 ≤ s.length ∧ s = s.take (s.length - 2) ++ [90, 50] := by
  unfold z2 hasSuffix at h
  obtain ⟨r, hr⟩ := List.isSuffixOf_iff_suffix.1 h
  subst hr
  simp
theorem stp_some {s t : List UInt8} (h : stp s = some t) : mes t < mes s ∧ t.length ≤ s.length := by
  unfold stp at h
  split at h
  · rename_i u hu
    cases h
    exact stpR_some rls_ok hu
  · split at h
    · rename_i hz
      cases h
      obtain ⟨h1, h2⟩ := z2_split hz
      have e1 : mes s = mes (s.take (s.length - 2)) + mes [90, 50] := by rw [← mes_app, ← h2]
      have e3 : mes [90, 50] = 5 := rfl
      have e4 : mes [72, 50] = 4 := rfl
      rw [mes_app]
      simp only [List.length_append, List.length_take, List.length_cons, List.length_nil]
      omega
    · cases h
def smp (s : List UInt8) : List UInt8 := match h : stp s with
  | none => s
  | some t => smp t
termination_by mes s
decreasing_by exact (stp_some h).1
theorem smp_none {s : List UInt8} (h : stp s = none) : smp s = s := by
  rw [smp]
  split
  · rfl
  · rename_i t ht
    rw [h] at ht
    cases ht
theorem smp_some {s t : List UInt8} (h : stp s = some t) : smp s = smp t := by
  rw [smp]
  split
  · rename_i ht
    rw [h] at ht
    cases ht
  · rename_i u ht
    rw [h] at ht
    cases ht
    rfl
theorem stpR_drop {l : List (List UInt8 × List UInt8)} {i : Nat} (h : i < l.length) (s : List UInt8) : stpR (l.drop i) s = if index s (l[i]).1 = -1 then stpR (l.drop (i + 1)) s else some (rep (l[i]).1 (l[i]).2 s) := by
  rw [List.drop_eq_getElem_cons h, stpR]
theorem stpR_end {l : List (List UInt8 × List UInt8)} {i : Nat} (h : l.length ≤ i) (s : List UInt8) : stpR (l.drop i) s = none := by
  rw [List.drop_eq_nil_of_le h, stpR]
theorem stp_rule {s t : List UInt8} (h : stpR rls s = some t) : stp s = some t := by unfold stp; rw [h]
theorem stp_z2 {s : List UInt8} (h : stpR rls s = none) (hz : z2 s = true) : stp s = some (s.take (s.length - 2) ++ [72, 50]) := by unfold stp; rw [h]; exact if_pos hz
theorem stp_end {s : List UInt8} (h : stpR rls s = none) (hz : z2 s ≠ true) : stp s = none := by unfold stp; rw [h]; exact if_neg hz
theorem smp_len (s : List UInt8) : (smp s).length ≤ s.length := by
  rw [smp]
  split
  · exact Nat.le_refl _
  · rename_i t ht
    exact Nat.le_trans (smp_len t) (stp_some ht).2
termination_by mes s
decreasing_by exact (stp_some (by assumption)).1
theorem replace_one {s p q : List UInt8} (hp : p ≠ []) (hne : p ≠ q) : replace s p q 1 = rep p q s := by
  have hb : (p == q) = false := by simpa using hne
  unfold replace
  rw [if_neg (by rw [hb]; exact Bool.false_ne_true)]
  unfold replaceNum
  by_cases hm : index s p = -1
  · have h0 : count s p = 0 := count_miss hm
    rw [h0, if_pos (by omega), replaceK, rep_miss hm]
  · obtain ⟨i, hi, _, h3⟩ := rep_hit (q := q) hm
    have h2 := count_hit hp hi
    rw [if_neg (by omega), show (1 : Int).toNat = 1 from rfl, replaceK_hit p q 0 s i hi, replaceK, h3]
theorem rule_ne {x : List UInt8 × List UInt8} (hx : ruleOk x) : x.1 ≠ [] ∧ x.1 ≠ x.2 := ⟨fun e => (by have := hx.2.2; rw [e] at this; cases this), fun e => (by have := hx.1; rw [e] at this; omega)⟩
theorem replace_rule {x : List UInt8 × List UInt8} (hx : ruleOk x) (s : List UInt8) : replace s x.1 x.2 1 = rep x.1 x.2 s := replace_one (rule_ne hx).1 (rule_ne hx).2
theorem occ_two {s p : List UInt8} {i : Nat} (hp : p.length = 2) (h : i + 2 ≤ s.length) : occAt s p i = true ↔ (s.take (i + 2)).drop i = p := by
  rw [occAt_iff_take s p i (by omega), hp, List.drop_take, show i + 2 - i = 2 by omega]
  exact beq_iff_eq
theorem idx_found {s p : List UInt8} {i : Nat} (hp : p.length = 2) (h : i + 2 ≤ s.length) (h1 : (s.take (i + 2)).drop i = p) (hno : ∀ j, j < i → occAt s p j = false) : index s p = i :=
  index_first (by omega) ((occ_two hp h).2 h1) hno
theorem idx_next {s p : List UInt8} {i : Nat} (hp : p.length = 2) (h : i + 2 ≤ s.length) (h1 : (s.take (i + 2)).drop i ≠ p) (hno : ∀ j, j < i → occAt s p j = false) : ∀ j, j < i + 1 → occAt s p j = false := fun j hj => by
  by_cases e : j = i
  · subst e
    exact Bool.eq_false_iff.2 fun h2 => h1 ((occ_two hp h).1 h2)
  · exact hno j (by omega)
theorem idx_none {s p : List UInt8} {i : Nat} (hp : p.length = 2) (h : ¬ i + 2 ≤ s.length) (hno : ∀ j, j < i → occAt s p j = false) : index s p = -1 :=
  index_none fun j _ => by
    by_cases e : j < i
    · exact hno j e
    · refine Bool.eq_false_iff.2 fun h2 => ?_
      rcases occAt_room h2 with h3 | h3
      · omega
      · rw [h3] at hp
        cases hp
theorem z2_iff {s : List UInt8} (h : 2 ≤ s.length) : z2 s = true ↔ s.drop (s.length - 2) = [90, 50] := by
  constructor
  · intro hz
    obtain ⟨_, h2⟩ := z2_split hz
    have := congrArg (List.drop (s.length - 2)) h2
    rwa [List.drop_left' (by rw [List.length_take]; omega)] at this
  · intro h2
    unfold z2 hasSuffix
    exact List.isSuffixOf_iff_suffix.2 ⟨s.take (s.length - 2), by rw [← h2, List.take_append_drop]⟩
theorem trim_z2 {s : List UInt8} (h : z2 s = true) : trimSuffix s [90, 50] = s.take (s.length - 2) := by
  unfold trimSuffix
  unfold z2 at h
  rw [if_pos h]
  rfl
end Go.Nt
set_option maxRecDepth 100000
namespace Go.Proofs.YtfcbamfkfadabaaGreatDoor
open Go.Gov Go.Nt
open Classical

set_option maxHeartbeats 2000000 in
theorem l15Find_c (s p : List UInt8) (hp : p.length = 2) (hs : s.length ≤ 1099511627776) : Pure Tryz.prog 119 [sV s, sV p] (i64 (Go.Lib.index s p)) [] := by
  refine pureV0 ok119 rfl rfl ?_; unfold c119
  refine RN ?_
  refine V_loop (α := Nat) (S := fun i => ([(0, sV s), (1, sV p), (5, i64 (i : Int))], [])) (C := fun i => i ≤ s.length ∧ ∀ j, j < i → Go.Lib.occAt s p j = false) (μ := fun i => s.length + 1 - i) 0 ⟨Nat.zero_le _, fun j hj => by omega⟩ (Ref.to1) ?_
  rintro i ⟨h1, h2⟩
  have hn := idx_none (s := s) (p := p) (i := i) hp
  have hf := idx_found (s := s) (p := p) (i := i) hp
  have hx := idx_next (s := s) (p := p) (i := i) hp
  refine RN ?_
  refine ⟨fun hi => ?_, fun hi => ?_⟩
  · have h3 : i + 2 ≤ s.length := by omega
    have h4 : i + p.length = i + 2 := by omega
    refine RN ?_
    have h5 : ((i : Int) + (p.length : Int)).toNat = i + 2 := by omega
    rw [h5]
    refine ⟨fun hc => ?_, fun hc => ?_⟩
    · rw [hf h3 hc h2]
      (refine RN ?_; try with_reducible exact trivial)
    · (refine RN ?_; try with_reducible exact trivial)
      exact ⟨i + 1, ⟨by omega, hx h3 hc h2⟩, by omega, Ref.to1⟩
  · rw [hn (by omega) h2]
    (refine RN ?_; try with_reducible exact trivial)
def rlL : List (List UInt8) := rls.flatMap fun x => [x.1, x.2]
def RLd : List AV := rlL.map fun l => sV l
@[go_sem] theorem RLd_all : RLd.all (nf 6) = true := rfl
@[go_sem] theorem RLd_len : RLd.length = 26 := rfl
theorem RLd_at13 (d : AV) : ∀ (j : Nat) (h : j < rls.length), RLd.getD (2 * j) d = sV (rls[j]).1 ∧ RLd.getD (2 * j + 1) d = sV (rls[j]).2
  | 0, _ => ⟨rfl, rfl⟩
  | 1, _ => ⟨rfl, rfl⟩
  | 2, _ => ⟨rfl, rfl⟩
  | 3, _ => ⟨rfl, rfl⟩
  | 4, _ => ⟨rfl, rfl⟩
  | 5, _ => ⟨rfl, rfl⟩
  | 6, _ => ⟨rfl, rfl⟩
  | 7, _ => ⟨rfl, rfl⟩
  | 8, _ => ⟨rfl, rfl⟩
  | 9, _ => ⟨rfl, rfl⟩
  | 10, _ => ⟨rfl, rfl⟩
  | 11, _ => ⟨rfl, rfl⟩
  | 12, _ => ⟨rfl, rfl⟩
  | _ + 13, h => absurd (show _ < 13 from h) (by omega)
set_option maxHeartbeats 2000000 in
theorem l15Rules_c : Pure Tryz.prog 118 [] (.sl 0 1 0 26) [some RLd] := by
  refine pureV ok118 rfl ?_; unfold c118
  refine RN ?_
  rfl
set_option maxHeartbeats 4000000 in
theorem l15Simple_c (s : List UInt8) (hs : s.length ≤ 1099511627776) : Pure Tryz.prog 67 [sV s] (sV (smp s)) [] := by
  have hR := l15Rules_c
  refine pureV0 ok67 rfl rfl ?_; unfold c67
  refine RN ?_
  refine pureC1 (hR) ?_
  refine RN ?_
  refine V_loop (α := List UInt8 × Bool) (S := fun x => ([(0, sV x.1), (3, .sl 0 1 0 26), (4, bl x.2)], [some RLd])) (C := fun x => smp x.1 = smp s ∧ x.1.length ≤ s.length ∧ (x.2 = false → stp x.1 = none)) (μ := fun x => mes x.1 + if x.2 = true then 1 else 0) (s, true) ⟨rfl, Nat.le_refl _, fun h => by cases h⟩ (Ref.to1) ?_
  rintro ⟨T, again⟩ ⟨h1, h2, h3⟩
  dsimp only at h1 h2 h3 ⊢
  refine RN ?_
  refine ⟨fun hc => ?_, fun hc => ?_⟩
  · (refine RN ?_; try with_reducible exact trivial)
    refine V_loop (α := List UInt8 × Bool × Nat) (S := fun x => ([(0, sV x.1), (3, .sl 0 1 0 26), (4, bl x.2.1), (5, i64 (2 * (x.2.2 : Int)))], [some RLd])) (C := fun x => x.2.2 ≤ 13 ∧ (x.2.1 = false → x.1 = T ∧ stpR rls T = stpR (rls.drop x.2.2) T) ∧ (x.2.1 = true → stpR rls T = some x.1)) (μ := fun x => 13 - x.2.2) (T, false, 0) ⟨Nat.zero_le _, fun _ => ⟨rfl, rfl⟩, fun h => by cases h⟩ (Ref.to1) ?_
    rintro ⟨U, b, j⟩ ⟨g1, g2, g3⟩
    dsimp only at g1 g2 g3 ⊢
    refine RN ?_
    refine ⟨fun hc2 => ?_, fun hc2 => ?_⟩
    · obtain ⟨hj, rfl⟩ := hc2
      have hj2 : j < rls.length := by show j < 13; omega
      obtain ⟨rfl, g5⟩ := g2 rfl
      rw [stpR_drop hj2] at g5
      have hok := rls_ok _ (List.getElem_mem hj2)
      have ha := fun d => (RLd_at13 d j hj2).1
      have hb := fun d => (RLd_at13 d j hj2).2
      generalize rls[j] = x at g5 hok ha hb
      obtain ⟨p, q⟩ := x
      dsimp only at g5 ha hb
      have hp : p.length = 2 := hok.2.2
      have hq : q.length ≤ 2 := by have := hok.2.1; dsimp only at this; omega
      have hF := l15Find_c U p hp (by omega)
      have n1 : (2 * (j : Int)).toNat = 2 * j := by omega
      have n2 : (2 * (j : Int) + 1).toNat = 2 * j + 1 := by omega
      have hroom := Go.Lib.index_room U p
      have hmx := max_big
      by_cases hi : Go.Lib.index U p = -1
      · rw [if_pos hi] at g5
        rw [hi] at hF
        refine RN ?_
        simp only [n1, ha, go_sem, ↓reduceIte, Nat.reduceEqDiff, Nat.reduceAdd, reduceCtorEq]
        refine RN ?_
        refine pureC1 (hF) ?_
        (iterate 16 ((try (refine RN ?_; try with_reducible exact trivial)); (try with_reducible refine fun _ => ?_)))
        exact ⟨(U, false, j + 1), ⟨by dsimp only; omega, fun _ => ⟨rfl, g5⟩, fun h => by cases h⟩, by dsimp only; omega, Ref.to rfl (by simp [sub, fget]; omega)⟩
      · obtain ⟨i, hi1, _, hi3⟩ := rep_hit (q := q) hi
        rw [if_neg hi, hi3] at g5
        rw [hi1] at hF hroom
        have hr2 : i + 2 ≤ U.length := by have := hroom (by omega); omega
        have n3 : ((i : Int) + (p.length : Int)).toNat = i + p.length := by omega
        refine RN ?_
        simp only [n1, ha, go_sem, ↓reduceIte, Nat.reduceEqDiff, Nat.reduceAdd, reduceCtorEq]
        refine RN ?_
        refine pureC1 (hF) ?_
        refine RN ?_
        simp only [n1, n2, n3, ha, hb, List.take_length, List.length_drop, go_sem, ↓reduceIte, Nat.reduceEqDiff, Nat.reduceAdd, reduceCtorEq]
        refine ⟨fun _ => ?_, fun h => absurd h (by omega)⟩
        refine RN ?_
        exact ⟨(U.take i ++ q ++ U.drop (i + p.length), true, j + 1), ⟨by dsimp only; omega, fun h => (by cases h), fun _ => g5⟩, by dsimp only; omega, Ref.to rfl (by simp [sub, fget]; omega)⟩
    · subst hc
      cases b with
      | true =>
        have hst := stp_rule (g3 rfl)
        have hm := stp_some hst
        refine RN ?_
        exact ⟨(U, true), ⟨(smp_some hst).symm.trans h1, by dsimp only; omega, fun h => by cases h⟩, by dsimp only; exact Nat.add_lt_add_right hm.1 _, Ref.to1⟩
      | false =>
        obtain ⟨rfl, g4⟩ := g2 rfl
        have hj : 13 ≤ j := by
          rcases hc2 with h | h
          · omega
          · cases h
        rw [stpR_end hj] at g4
        have n4 : ((U.length : Int) - 2).toNat = U.length - 2 := by omega
        have hmx := max_big
        refine RN ?_
        simp only [n4, List.take_length, go_sem, ↓reduceIte, Nat.reduceEqDiff, Nat.reduceAdd, reduceCtorEq]
        refine ⟨fun h => ?_, fun h => ?_⟩
        · obtain ⟨h5, h6⟩ := h
          have hst := stp_z2 g4 ((z2_iff (by omega)).2 h6)
          have hm := stp_some hst
          refine RN ?_
          exact ⟨(U.take (U.length - 2) ++ [72, 50], true), ⟨(smp_some hst).symm.trans h1, by dsimp only; omega, fun h => by cases h⟩, by dsimp only; exact Nat.add_lt_add_right hm.1 _, Ref.to1⟩
        · have hz : z2 U ≠ true := fun hz => by
            have h7 := (z2_split hz).1
            rcases h with h | h
            · omega
            · exact h ((z2_iff h7).1 hz)
          refine RN ?_
          exact ⟨(U, false), ⟨h1, h2, fun _ => stp_end g4 hz⟩, by simp, Ref.to1⟩
  · (refine RN ?_; try with_reducible exact trivial)
    rw [← h1, smp_none (h3 hc)]
noncomputable def snA (l : List UInt8) : List UInt8 := if NtOk l then smp (basL (ntO l) ++ ntS l) else []
theorem specSn_c (l : List UInt8) (hs : l.length ≤ 1048576) : Pure Tryz.prog 29 [sV l] (.tup [sV (snA l), i64 (ntK l)]) [] := by
  have h := l15Seed_c l (by omega)
  have hl := nt_len l
  have hsl := nt_slen l
  by_cases hk : NtOk l
  · have e1 : snA l = smp (basL (ntO l) ++ ntS l) := if_pos hk
    have e2 : ntK l = 0 := if_pos hk
    have hb := l15Basic_c l (ntO l).length hl (by omega)
    rw [nt_take, nt_drop] at hb
    rw [if_pos hk] at h
    have hbl := basL_len (ntO l)
    have hc := l15Simple_c (basL (ntO l) ++ ntS l) (by rw [List.length_append]; omega)
    rw [e1, e2]
    refine pureV0 ok29 rfl rfl ?_; unfold c29
    refine RN ?_
    refine pureC1 (h) ?_
    (iterate 16 ((try (refine RN ?_; try with_reducible exact trivial)); (try with_reducible refine fun _ => ?_)))
    refine pureC1 (hb) ?_
    (iterate 16 ((try (refine RN ?_; try with_reducible exact trivial)); (try with_reducible refine fun _ => ?_)))
    refine pureC1 (hc) ?_
    (iterate 16 ((try (refine RN ?_; try with_reducible exact trivial)); (try with_reducible refine fun _ => ?_)))
  · have e1 : snA l = [] := if_neg hk
    have e2 : ntK l = 6 := if_neg hk
    rw [if_neg hk] at h
    rw [e1, e2]
    refine pureV0 ok29 rfl rfl ?_; unfold c29
    refine RN ?_
    refine pureC1 (h) ?_
    refine RN ?_
    refine ⟨fun _ => ?_, fun h => absurd h (by decide)⟩
    (refine RN ?_; try with_reducible exact trivial)
end Go.Proofs.YtfcbamfkfadabaaGreatDoor
set_option maxRecDepth 100000
namespace Go.Proofs.YtfcbamfkfadabaaGreatDoor
open Go.Gov Go.Shelf Go.Proofs Go.Nt Go.RowKit
open Classical

theorem repX : Builder.Extra Tryz.prog Tryz.repL_ren where
  sizeBuilder := by kernel_rfl
  liesBuilder := by kernel_rfl
  t5 := Tryz.repL.t5
  a5 := Tryz.repL.a5
  z5 := Tryz.repL.z5
  v5 := Tryz.repL.v5
  infoByte := by kernel_rfl
  cellsByte := by kernel_rfl
  sizeByte := by kernel_rfl
  neB5 := by decide
noncomputable def gMax : Nat := (Tryz.prog.globalNamed "internal/bytealg.MaxLen").getD 0
noncomputable def gRul : Nat := (Tryz.prog.globalNamed "loop.example/g01108/impl.rules").getD 0
def rlV : List Value := rlL.map fun l => Value.string (bA l)
noncomputable def LR (m : Int) : List (Nat × List Value) := [(gRul, rlV), (gMax, [.int .i64 m])]
theorem gMax_eq : Tryz.repL_ren.g 1 = gMax := by unfold gMax; kernel_rfl
theorem gRul_eq : gRul = 0 := by unfold gRul; kernel_rfl
theorem hasSuffix_c (s p : List UInt8) (hs : s.length ≤ 1099511627776) : Pure Tryz.prog 90 [sV s, sV p] (bl (Go.Lib.hasSuffix s p)) [] := by
  refine pure_one [.string (bA s), .string (bA p)] fun w => ?_
  refine (Any.strings_HasSuffix Tryz.hasL (bA s) (bA p) w (by rw [bA_size]; omega)).mono fun e w' ⟨h1, h2⟩ => ?_
  subst h2
  rw [bA_data, bA_data] at h1
  exact ⟨h1, rfl, ⟨rfl, Nat.le_refl _⟩, rfl, Nat.le_refl _, fun _ _ => rfl⟩
theorem trimSuffix_c (s p : List UInt8) (hs : s.length ≤ 1099511627776) : Pure Tryz.prog 91 [sV s, sV p] (sV (Go.Lib.trimSuffix s p)) [] := by
  refine pure_one [.string (bA s), .string (bA p)] fun w => ?_
  refine (Any.strings_TrimSuffix Tryz.trsL (bA s) (bA p) w (by rw [bA_size]; omega)).mono fun e w' ⟨h1, h2⟩ => ?_
  subst h2
  rw [bA_data, bA_data] at h1
  exact ⟨h1, rfl, ⟨rfl, Nat.le_refl _⟩, rfl, Nat.le_refl _, fun _ _ => rfl⟩
theorem replace_c (m : Int) (s : List UInt8) (x : List UInt8 × List UInt8) (hx : ruleOk x) (hs : s.length ≤ 1048640) : PureG Tryz.prog (LR m) 89 [sV s, sV x.1, sV x.2, i64 1] (sV (rep x.1 x.2 s)) [] := by
  refine pureG_one [.string (bA s), .string (bA x.1), .string (bA x.2), .int .i64 1] fun w hv => ?_
  obtain ⟨ty, z, h1⟩ := hv (gMax, [.int .i64 m]) (by simp [LR])
  have h2 := hx.2.2
  have h3 := hx.2.1
  have hc := Go.Lib.countB_mul_le (bA x.1) (by rw [bA_size]; omega) _ (bA s) (Nat.le_refl _)
  have hq : Go.Lib.countB (bA s) (bA x.1) * (bA x.2).size ≤ Go.Lib.countB (bA s) (bA x.1) * (bA x.1).size := Nat.mul_le_mul_left _ (by rw [bA_size, bA_size]; exact h3)
  have hsz : (bA s).size = s.length := bA_size s
  refine (Any.strings_Replace Tryz.repL repX (bA s) (bA x.1) (bA x.2) 1 m w (by omega) ?_ (by rw [bA_size]; omega) (by omega)).mono fun e w' ⟨h4, h5⟩ => ?_
  · rw [gMax_eq]
    simp [World.cell?, h1]
  · rw [bA_data, bA_data, bA_data, replace_rule hx] at h4
    exact ⟨h4, below_ok h5⟩
end Go.Proofs.YtfcbamfkfadabaaGreatDoor
set_option maxRecDepth 100000
namespace Go.Proofs.YtfcbamfkfadabaaGreatDoor
open Go.Gov Go.Nt
open Classical

@[go_sem] theorem ghoOf_LR (m : Int) : ghoOf 0 (gvs (LR m)) = some rlV := by simp [LR, gvs, ghoOf, gRul_eq]
@[go_sem] theorem rlV_map : rlV.map AV.val = RLd := by simp [rlV, RLd]
@[go_sem] theorem RLd_plain : RLd.all plainC = true := rfl
@[go_sem] theorem RLd_take : RLd.take 26 = RLd := rfl
@[go_sem] theorem RLd_rnm (τ : Nat → Option Nat) : rnmL τ RLd = RLd := rfl
theorem RLd_pair : ∀ (j : Nat) (h : j < rls.length), (RLd.drop (j * 2)).take 2 = [sV (rls[j]).1, sV (rls[j]).2]
  | 0, _ => rfl
  | 1, _ => rfl
  | 2, _ => rfl
  | 3, _ => rfl
  | 4, _ => rfl
  | 5, _ => rfl
  | 6, _ => rfl
  | 7, _ => rfl
  | 8, _ => rfl
  | 9, _ => rfl
  | 10, _ => rfl
  | 11, _ => rfl
  | 12, _ => rfl
  | _ + 13, h => absurd (show _ < 13 from h) (by omega)
set_option maxHeartbeats 4000000 in
theorem simplified_c (m : Int) (s : List UInt8) (hs : s.length ≤ 1048640) : PureG Tryz.prog (LR m) 42 [sV s] (sV (smp s)) [] := by
  refine pureGV ok42 rfl ?_; unfold c42
  refine RN ?_
  refine V_loop (α := List UInt8) (S := fun T => ([(0, sV T)], [some (gvs (LR m))])) (C := fun T => smp T = smp s ∧ T.length ≤ s.length) (μ := fun T => mes T) s ⟨rfl, Nat.le_refl _⟩ (Ref.to1) ?_
  rintro T ⟨h1, h2⟩
  refine RN ?_
  refine V_loop (α := Nat) (S := fun j => ([(0, sV T), (3, sV T), (7, .agg RLd), (8, i64 (j : Int))], [some (gvs (LR m))])) (C := fun j => j ≤ 13 ∧ stpR rls T = stpR (rls.drop j) T) (μ := fun j => 13 - j) 0 ⟨Nat.zero_le _, rfl⟩ (Ref.to1) ?_
  rintro j ⟨g1, g2⟩
  refine RN ?_
  refine ⟨fun hc => ?_, fun hc => ?_⟩
  · have hj2 : j < rls.length := by show j < 13; omega
    rw [stpR_drop hj2] at g2
    have hok := rls_ok _ (List.getElem_mem hj2)
    have ha := RLd_pair j hj2
    generalize rls[j] = x at g2 hok ha
    have hR := replace_c m T x hok (by omega)
    refine RN ?_
    simp only [Int.toNat_natCast, ha, go_sem, ↓reduceIte, Nat.reduceEqDiff, Nat.reduceAdd, reduceCtorEq]
    refine ⟨by have := congrArg List.length ha; rwa [List.length_take] at this, ?_⟩
    refine RN ?_
    refine pureGC1 (hR) ?_
    by_cases hi : Go.Lib.index T x.1 = -1
    · rw [if_pos hi] at g2
      rw [rep_miss hi]
      refine RN ?_
      exact ⟨j + 1, ⟨by omega, g2⟩, by omega, Ref.gc1 [0]⟩
    · rw [if_neg hi] at g2
      have hne := rep_ne hok hi
      have hst := stp_rule g2
      have hm := stp_some hst
      generalize rep x.1 x.2 T = U at g2 hne hst hm ⊢
      refine RN ?_
      refine ⟨fun _ => ?_, fun h => absurd h hne⟩
      have hne2 : (U == T) = false := by simpa using hne
      refine RN ?_
      refine GCall_no (bl false) hne2 ?_
      refine RN ?_
      refine ⟨fun h => absurd h hne, fun _ => ?_⟩
      exact ⟨U, ⟨(smp_some hst).symm.trans h1, by omega⟩, hm.1, Ref.gc1 [0]⟩
  · have hj : 13 ≤ j := by omega
    rw [stpR_end hj] at g2
    have hH := hasSuffix_c T [90, 50] (by omega)
    have hT := trimSuffix_c T [90, 50] (by omega)
    have hmx := max_big
    refine RN ?_
    refine GC1 (bl (Go.Lib.hasSuffix T [90, 50])) (fun hg => hH) ?_
    by_cases hz : z2 T = true
    · have hst := stp_z2 g2 hz
      have hm := stp_some hst
      rw [trim_z2 hz] at hT
      unfold z2 at hz
      rw [hz]
      refine RN ?_
      refine pureC1 (hT) ?_
      refine RN ?_
      have hne : T.take (T.length - 2) ++ [72, 50] ≠ T := fun e => by
        have h3 := hm.1
        rw [e] at h3
        omega
      refine ⟨fun h => absurd h hne, fun _ => ?_⟩
      refine RN ?_
      exact ⟨T.take (T.length - 2) ++ [72, 50], ⟨(smp_some hst).symm.trans h1, by omega⟩, hm.1, Ref.gc1 [0]⟩
    · have hst := stp_end g2 hz
      rw [← h1, smp_none hst]
      unfold z2 at hz
      rw [Bool.eq_false_iff.2 hz]
      refine RN ?_
      exact Ref.gc1 []
noncomputable def LS (tp tq : TypeId) (p q : Value) (m : Int) : List (Nat × List Value) := LV tp tq p q ++ LR m
variable (tp tq : TypeId) (p q : Value) (m : Int)
theorem parse_s {av : List AV} {f : FuncId} {α : Type} {Q : α → Prop} {x : α → AV} {h : α → Heap} (hp : PureGE Tryz.prog (LV tp tq p q) f av Q x h) : PureGE Tryz.prog (LS tp tq p q m) f av Q x h :=
  fun w vals hv => hp w vals fun y hy => hv y (List.mem_append_left _ hy)
theorem simp_s {av : List AV} {f : FuncId} {x : AV} {h : Heap} (hp : PureG Tryz.prog (LR m) f av x h) : PureG Tryz.prog (LS tp tq p q m) f av x h :=
  fun w vals hv => hp w vals fun y hy => hv y (List.mem_append_right _ hy)
theorem implSn_c (l : List UInt8) (hs : l.length ≤ 1048576) : PureG Tryz.prog (LS tp tq p q m) 16 [sV l] (.tup [sV (snA l), i64 (ntK l)]) [] := by
  have h := parse_s tp tq p q m (parse_c tp tq p q l (by omega))
  have hsl := nt_slen l
  have hmx := max_big
  refine pureGV ok16 rfl ?_; unfold c16
  refine RN ?_
  refine pureGEC1 (h) fun o ho => ?_
  obtain ⟨⟨a, b, c⟩, d⟩ := o
  obtain ⟨ho1, ho2⟩ := ho
  dsimp only at ho1 ho2
  subst ho1
  by_cases hk : NtOk l
  · obtain ⟨rfl, rfl, rfl⟩ : a = ntO l ∧ b = ntS l ∧ c = (if (ntS l).length = 1 then 0 else numS (ntS l)) := by have := ho2 hk; simpa using this
    have e1 : snA l = smp (basL (ntO l) ++ ntS l) := if_pos hk
    have e2 : ntK l = 0 := if_pos hk
    have hbl := basL_len (ntO l)
    have hd := basic_c (ntO l) (ntS l) (if (ntS l).length = 1 then 0 else numS (ntS l)) hk.1
    have hk1 := hk.1
    have hc := simp_s tp tq p q m (simplified_c m (basL (ntO l) ++ ntS l) (by rw [List.length_append]; omega))
    rw [decide_eq_true hk, e1, e2]
    clear ho2
    generalize (if (ntS l).length = 1 then 0 else numS (ntS l)) = z at hd ⊢
    refine RN ?_
    refine pureC1 (hd) ?_
    refine RN ?_
    refine pureGC1 (hc) ?_
    refine RN ?_
    exact Ref.gc1 []
  · have e1 : snA l = [] := if_neg hk
    have e2 : ntK l = 6 := if_neg hk
    rw [decide_eq_false hk, e1, e2]
    refine RN ?_
    exact Ref.gc1 []
end Go.Proofs.YtfcbamfkfadabaaGreatDoor
set_option maxRecDepth 100000
namespace Go.Gov
open Go.Lib
theorem trod_arr {H : Type} {enc : TypeId × Value → H} {P : Program} {w : World} {base : Nat} {sp : Nat → Bool} {held : Bool} {fuel : Nat} {t e : TypeId} {n k : Nat} {cs : List Value} {ds : List (DataW H)} {p : List MemPlace}
    (ht : P.underlying t = some (.array n e)) (hce : P.cellsOf e = k) (hct : P.cellsOf t = n * k)
    (h : DataW.trod enc P w base sp held (fuel + 1) t cs = some (.agg ds, p)) : cs.length = n * k ∧ ds.length = n ∧ ∀ i d, ds[i]? = some d → ∃ q, DataW.trod enc P w base sp held fuel e ((cs.drop (i * k)).take k) = some (d, q) := by
  simp only [DataW.trod, ht, hce, hct] at h
  split at h
  · rename_i hl
    obtain ⟨xs, hm, hx⟩ := Option.map_eq_some_iff.1 h
    have hxs : xs.map (·.1) = ds := by
      have := congrArg Prod.fst hx
      simpa using this
    have hxl : xs.length = n := by simpa using mapM_length hm
    refine ⟨by simpa using hl, by rw [← hxs, List.length_map]; exact hxl, fun i d hd => ?_⟩
    rw [← hxs, List.getElem?_map, Option.map_eq_some_iff] at hd
    obtain ⟨y, hy, rfl⟩ := hd
    have hi : i < n := by rw [← hxl]; exact (List.getElem?_eq_some_iff.1 hy).1
    obtain ⟨b, hb, hf⟩ := mapM_at hm i i (by simp [hi])
    rw [hy] at hb
    obtain rfl := Option.some.inj hb
    exact ⟨y.2, hf⟩
  · cases h
end Go.Gov
namespace Go.Proofs.YtfcbamfkfadabaaGreatDoor
open Go.Gov Go.Nt Go.ChangeShapes Go.WideShapes Go.ChangeAt Go.RowKit
def pairD {H : Type} (x : List UInt8 × List UInt8) : DataW H := .agg [.lit (.string x.1), .lit (.string x.2)]
theorem rlV_at : ∀ (j : Nat) (h : j < rls.length), rlV[j * 2]? = some (.string (bA (rls[j]).1)) ∧ rlV[j * 2 + 1]? = some (.string (bA (rls[j]).2))
  | 0, _ => ⟨rfl, rfl⟩
  | 1, _ => ⟨rfl, rfl⟩
  | 2, _ => ⟨rfl, rfl⟩
  | 3, _ => ⟨rfl, rfl⟩
  | 4, _ => ⟨rfl, rfl⟩
  | 5, _ => ⟨rfl, rfl⟩
  | 6, _ => ⟨rfl, rfl⟩
  | 7, _ => ⟨rfl, rfl⟩
  | 8, _ => ⟨rfl, rfl⟩
  | 9, _ => ⟨rfl, rfl⟩
  | 10, _ => ⟨rfl, rfl⟩
  | 11, _ => ⟨rfl, rfl⟩
  | 12, _ => ⟨rfl, rfl⟩
  | _ + 13, h => absurd (show _ < 13 from h) (by omega)
theorem rules_of {H : Type} {enc : TypeId × Value → H} {w : World} {base : Nat} {sp : Nat → Bool} {held : Bool} {fuel : Nat} {cs : List Value} {p : List MemPlace}
    (h : DataW.trod enc Tryz.prog w base sp held fuel 98 cs = some (.agg (rls.map pairD), p)) : cs = rlV := by
  cases fuel with
  | zero => simp [DataW.trod] at h
  | succ fuel =>
    obtain ⟨h1, _, h3⟩ := trod_arr (n := 13) (k := 2) (e := 97) Tryz.underlying98 (by kernel_rfl) (by kernel_rfl) h
    have hat : ∀ i (hi : i < rls.length), cs[i * 2]? = some (.string (bA (rls[i]).1)) ∧ cs[i * 2 + 1]? = some (.string (bA (rls[i]).2)) := by
      intro i hi
      obtain ⟨q, hq⟩ := h3 i (pairD rls[i]) (by rw [List.getElem?_map, List.getElem?_eq_getElem hi]; rfl)
      generalize rls[i] = x at hq
      cases fuel with
      | zero => simp [DataW.trod] at hq
      | succ fuel =>
        obtain ⟨h4, _, h5⟩ := trod_arr (n := 2) (k := 1) (e := 9) Tryz.underlying97 (by kernel_rfl) (by kernel_rfl) hq
        obtain ⟨q0, h6⟩ := h5 0 _ rfl
        obtain ⟨q1, h7⟩ := h5 1 _ rfl
        obtain ⟨s0, h8, h9, _⟩ := DataW.trod_string Tryz.underlying9 h6
        obtain ⟨s1, h10, h11, _⟩ := DataW.trod_string Tryz.underlying9 h7
        simp only [Prod.mk.injEq, DataW.lit.injEq, Lit.string.injEq] at h9 h11
        have e0 : bA x.1 = s0 := by rw [h9.1, bA_all]
        have e1 : bA x.2 = s1 := by rw [h11.1, bA_all]
        rw [e0, e1]
        have k0 := congrArg (fun l => l[0]?) h8
        have k1 := congrArg (fun l => l[0]?) h10
        simp [List.getElem?_take, List.getElem?_drop] at k0 k1
        exact ⟨k0, k1⟩
    apply List.ext_getElem?
    intro i
    by_cases hi : i < 26
    · obtain ⟨j, hj, hij⟩ : ∃ j, j < 13 ∧ (i = j * 2 ∨ i = j * 2 + 1) := ⟨i / 2, by omega, by omega⟩
      obtain ⟨a, b⟩ := hat j hj
      obtain ⟨c, d⟩ := rlV_at j hj
      rcases hij with rfl | rfl
      · rw [a, c]
      · rw [b, d]
    · rw [List.getElem?_eq_none (by omega), List.getElem?_eq_none (by show 26 ≤ i; omega)]
theorem rules_in {laid : List (String × DataW Unit)} {W : World} (hL : laidMetH Tryz.prog laid W)
    (h1 : laid.filter (fun x => x.1 == "loop.example/g01108/impl.rules") = [("loop.example/g01108/impl.rules", .agg (rls.map pairD))]) : ∃ ty z, W.heap[gRul]? = some (.cells rlV.toArray ty z) := by
  have h := hL.filter (fun x => x.1 == "loop.example/g01108/impl.rules")
  rw [h1] at h
  have h : laidMet Tryz.prog [("loop.example/g01108/impl.rules", .agg (rls.map pairD))] W := h
  obtain ⟨ps, ⟨g', t', cs, fuel, p, q, hg', ht', hvar, hd, _, _⟩, _⟩ := h
  have hg : Tryz.prog.globalNamed "loop.example/g01108/impl.rules" = some 0 := by kernel_rfl
  have hty : (Tryz.prog.globals[0]?).map (·.type) = some 98 := by kernel_rfl
  obtain rfl := Option.some.inj (hg.symm.trans hg')
  obtain rfl := Option.some.inj (hty.symm.trans ht')
  have hc := rules_of hd
  obtain ⟨ty, z, h2⟩ := var_heap hg hvar
  rw [gRul_eq, ← hc]
  exact ⟨ty, z, h2⟩
end Go.Proofs.YtfcbamfkfadabaaGreatDoor
set_option maxRecDepth 100000
namespace Go.Nt
open Go.Lib

theorem cstep_eul (b : UInt8) (c : C3) (h : c.1 - c.2.1 + c.2.2 = 2) : (cstep b c).1 - (cstep b c).2.1 + (cstep b c).2.2 = 2 := by
  obtain ⟨v, e, f⟩ := c
  unfold cstep
  dsimp only at h ⊢
  repeat' split
  all_goals (dsimp only; omega)
theorem cnt_eul (l : List UInt8) (c : C3) (h : c.1 - c.2.1 + c.2.2 = 2) : (cnt l c).1 - (cnt l c).2.1 + (cnt l c).2.2 = 2 := by
  induction l with
  | nil => exact h
  | cons b l ih => exact cstep_eul b _ ih
theorem seedC_eul (s : List UInt8) : (seedC s).1 - (seedC s).2.1 + (seedC s).2.2 = 2 := by
  unfold seedC
  dsimp only
  repeat' split
  all_goals (dsimp only; omega)
def Bsc (s : List UInt8) : Prop := ∀ b ∈ s, opB b = true → b = 100 ∨ b = 97 ∨ b = 116 ∨ b = 99
theorem Bsc.app {a b : List UInt8} (h : Bsc a) (k : Bsc b) : Bsc (a ++ b) := fun x hx => (List.mem_append.1 hx).elim (h x) (k x)
theorem Bsc.take {a : List UInt8} (h : Bsc a) (n : Nat) : Bsc (a.take n) := fun x hx => h x (List.mem_of_mem_take hx)
theorem Bsc.drop {a : List UInt8} (h : Bsc a) (n : Nat) : Bsc (a.drop n) := fun x hx => h x (List.mem_of_mem_drop hx)
theorem Bsc.rep {p q s : List UInt8} (hq : Bsc q) (h : Bsc s) : Bsc (rep p q s) := by
  unfold Go.Nt.rep
  split
  · exact h
  · exact ((h.take _).app hq).app (h.drop _)
theorem rls_bsc : ∀ x ∈ rls, Bsc x.2 := by unfold Bsc; decide
theorem stpR_bsc : ∀ {l : List (List UInt8 × List UInt8)} {s t : List UInt8}, (∀ x ∈ l, Bsc x.2) → Bsc s → stpR l s = some t → Bsc t
  | [], _, _, _, _, h => by cases h
  | x :: r, s, t, hl, hs, h => by
    unfold stpR at h
    split at h
    · exact stpR_bsc (fun y hy => hl y (by simp [hy])) hs h
    · cases h
      exact .rep (hl x (by simp)) hs
theorem stp_bsc {s t : List UInt8} (hs : Bsc s) (h : stp s = some t) : Bsc t := by
  unfold stp at h
  split at h
  · rename_i u hu
    cases h
    exact stpR_bsc rls_bsc hs hu
  · split at h
    · cases h
      exact (hs.take _).app (by unfold Bsc; decide)
    · cases h
theorem smp_bsc (s : List UInt8) (hs : Bsc s) : Bsc (smp s) := by
  rw [smp]
  split
  · exact hs
  · rename_i t ht
    exact smp_bsc t (stp_bsc hs ht)
termination_by mes s
decreasing_by exact (stp_some (by assumption)).1
theorem stp_smp (s : List UInt8) : stp (smp s) = none := by
  rw [smp]
  split
  · assumption
  · rename_i t ht
    exact stp_smp t
termination_by mes s
decreasing_by exact (stp_some (by assumption)).1
theorem smp_smp (s : List UInt8) : smp (smp s) = smp s := smp_none (stp_smp s)
theorem word_basic {b : UInt8} (h : b = 100 ∨ b = 97 ∨ b = 116 ∨ b = 99) : wordOf b = [b] := by
  unfold wordOf
  rw [if_pos h]
theorem flat_basic : ∀ (l : List UInt8), (∀ b ∈ l, b = 100 ∨ b = 97 ∨ b = 116 ∨ b = 99) → (l.flatMap fun b => (wordOf b).reverse) = l
  | [], _ => rfl
  | b :: l, h => by
    rw [List.flatMap_cons, flat_basic l fun c hc => h c (by simp [hc]), word_basic (h b (by simp))]
    rfl
theorem takeWhile_op : ∀ {l : List UInt8} {b : UInt8}, b ∈ l.takeWhile opB → b ∈ l ∧ opB b = true
  | [], _, h => by cases h
  | c :: l, b, h => by
    by_cases hc : opB c = true
    · rw [List.takeWhile_cons_of_pos hc] at h
      rcases List.mem_cons.1 h with rfl | h
      · exact ⟨by simp, hc⟩
      · have := takeWhile_op h
        exact ⟨by simp [this.1], this.2⟩
    · rw [List.takeWhile_cons_of_neg hc] at h
      cases h
theorem bas_self {t : List UInt8} (h : Bsc t) : ((ntO t).flatMap fun b => (wordOf b).reverse) ++ ntS t = t := by
  rw [flat_basic (ntO t) fun b hb => ?_, nt_app]
  obtain ⟨h1, h2⟩ := takeWhile_op hb
  exact h b h1 h2
theorem dig_op : ∀ b : UInt8, (dig b → opB b = false) := by
  intro b h
  unfold dig at h
  cases ho : opB b with
  | false => rfl
  | true =>
    unfold opB at ho
    have := List.contains_iff_mem.1 ho
    simp only [List.mem_cons, List.not_mem_nil, or_false] at this
    rcases this with rfl | rfl | rfl | rfl | rfl | rfl | rfl | rfl | rfl | rfl | rfl | rfl <;> exact absurd h (by decide)
theorem seed_no {s : List UInt8} (h : SeedOk s) : ∀ b ∈ s, opB b = false := by
  rcases h with ⟨b, rfl, hb⟩ | ⟨b, r, rfl, hb, hv⟩
  · intro x hx
    rw [List.mem_singleton.1 hx]
    unfold seedL at hb
    have := List.contains_iff_mem.1 hb
    simp only [List.mem_cons, List.not_mem_nil, or_false] at this
    rcases this with rfl | rfl | rfl | rfl | rfl <;> rfl
  · intro x hx
    rcases List.mem_cons.1 hx with rfl | hx
    · rcases hb with rfl | rfl <;> rfl
    · obtain ⟨v, h1, h2, rfl, _⟩ := valS_some hv
      refine dig_op x ?_
      revert hx
      have : ∀ v, v < 31 → ∀ x ∈ tx v, dig x := by decide
      exact this v (by omega) x
theorem seed_ne {s : List UInt8} (h : SeedOk s) : 0 < s.length := by
  rcases h with ⟨b, rfl, _⟩ | ⟨b, r, rfl, _⟩ <;> simp
theorem bas_bsc {o s : List UInt8} (h : SeedOk s) : Bsc ((o.flatMap fun b => (wordOf b).reverse) ++ s) := by
  refine Bsc.app (fun x hx _ => ?_) fun x hx ho => ?_
  · obtain ⟨b, _, h1⟩ := List.mem_flatMap.1 hx
    exact word_mem (List.mem_reverse.1 h1)
  · rw [seed_no h x hx] at ho
    cases ho
theorem seed_parts {s : List UInt8} (h : SeedOk s) : ntO s = [] ∧ ntS s = s := by
  have h1 : ntO s = [] := List.eq_nil_iff_forall_not_mem.2 fun b hb => by
    obtain ⟨h2, h3⟩ := takeWhile_op hb
    rw [seed_no h b h2] at h3
    cases h3
  have h2 := nt_app s
  rw [h1] at h2
  exact ⟨h1, h2⟩
end Go.Nt
set_option maxRecDepth 100000
namespace Go.Proofs.YtfcbamfkfadabaaGreatDoor
open Go.Gov Go.Nt

def Fiv (a b : Nat) : Prop := a = 2 ∨ b = 2 ∨ (a = 3 ∧ b = 3) ∨ (a = 4 ∧ b = 3) ∨ (a = 3 ∧ b = 4) ∨ (a = 5 ∧ b = 3) ∨ (a = 3 ∧ b = 5)
def ordB : Bool := (List.range 29).all fun v => decide (ordP 2 ((v + 2 : Nat) : Int) 7 = 4 * ((v + 2 : Nat) : Int)) && decide (ordP ((v + 2 : Nat) : Int) 2 7 = 4 * ((v + 2 : Nat) : Int))
theorem ordB_t : ordB = true := by decide +kernel
theorem ord_2 {v : Nat} (h : v < 29) : ordP 2 ((v + 2 : Nat) : Int) 7 = 4 * ((v + 2 : Nat) : Int) ∧ ordP ((v + 2 : Nat) : Int) 2 7 = 4 * ((v + 2 : Nat) : Int) := by
  have h1 := List.all_eq_true.1 ordB_t v (List.mem_range.2 h)
  rw [Bool.and_eq_true] at h1
  exact ⟨of_decide_eq_true h1.1, of_decide_eq_true h1.2⟩
theorem ord_seed {s : List UInt8} (h : SeedOk s) : ∃ a b : Nat, diaL s = [(a : Int), (b : Int)] ∧ (2 ≤ a ∧ a ≤ 32) ∧ (2 ≤ b ∧ b ≤ 32) ∧ Fiv a b ∧ ordP a b 7 = 4 * (seedC s).2.1 := by
  rcases h with ⟨b, rfl, hb⟩ | ⟨b, r, rfl, hb, h2, h3⟩
  · have hb2 : b = 84 ∨ b = 67 ∨ b = 79 ∨ b = 68 ∨ b = 73 := by
      unfold seedL at hb
      rw [List.contains_iff_mem] at hb
      simpa using hb
    rcases hb2 with rfl | rfl | rfl | rfl | rfl
    · exact ⟨3, 3, rfl, by omega, by omega, by unfold Fiv; omega, by decide +kernel⟩
    · exact ⟨4, 3, rfl, by omega, by omega, by unfold Fiv; omega, by decide +kernel⟩
    · exact ⟨3, 4, rfl, by omega, by omega, by unfold Fiv; omega, by decide +kernel⟩
    · exact ⟨5, 3, rfl, by omega, by omega, by unfold Fiv; omega, by decide +kernel⟩
    · exact ⟨3, 5, rfl, by omega, by omega, by unfold Fiv; omega, by decide +kernel⟩
  · obtain ⟨v, hv⟩ : ∃ v : Nat, valS r = (v + 2 : Nat) := ⟨(valS r - 2).toNat, by omega⟩
    have hn : numS (b :: r) = ((v + 2 : Nat) : Int) := hv
    have hv2 : v < 29 := by omega
    obtain ⟨o1, o2⟩ := ord_2 hv2
    rcases hb with rfl | rfl
    · refine ⟨2, v + 2, ?_, by omega, by omega, .inl rfl, ?_⟩
      · show [2, numS (72 :: r)] = _
        rw [hn]; rfl
      · show ordP 2 ((v + 2 : Nat) : Int) 7 = 4 * numS (72 :: r)
        rw [hn, o1]
    · refine ⟨v + 2, 2, ?_, by omega, by omega, .inr (.inl rfl), ?_⟩
      · show [numS (90 :: r), 2] = _
        rw [hn]; rfl
      · show ordP ((v + 2 : Nat) : Int) 2 7 = 4 * numS (90 :: r)
        rw [hn, o2]
theorem isMask7_c (a b : Int) : Pure Tryz.prog 70 [ints [a, b], i64 7] (bl true) [] := by
  have h1 := allNodes_c a b
  have h2 := within_c 7 0 7
  refine pureV ok70 rfl ?_; unfold c70
  refine RN ?_
  refine pureC1 (h1) ?_
  refine RN ?_
  refine pureC1 (h2) ?_
  refine RN ?_
  rfl
theorem orderNodes_c (a b : Nat) (ha : 2 ≤ a ∧ a ≤ 32) (hb : 2 ≤ b ∧ b ≤ 32) (hF : Fiv a b) : Pure Tryz.prog 32 [ints [(a : Int), (b : Int)], i64 7] (.tup [i64 (ordP a b 7), i64 0]) [] := by
  have hF2 := hF
  unfold Fiv at hF2
  have hi := isDiagram_c a b ha hb
  have hm := isMask7_c (a : Int) b
  have ho := orderOf_c a b 7 (by omega) (by omega) (by omega) (cpS_ok a b 7 (by omega) (by omega) (by omega) (by omega))
  rw [ordP_eq] at ho
  change Pure Tryz.prog _ [ints [(a : Int), (b : Int)], i64 7] _ _ at ho
  refine pureV0 ok32 rfl rfl ?_; unfold c32
  refine RN ?_
  refine pureC1 (hi) ?_
  refine RN ?_
  refine pureC1 (hm) ?_
  refine RN ?_
  refine pureC1 (ho) ?_
  (refine RN ?_; try with_reducible exact trivial)
end Go.Proofs.YtfcbamfkfadabaaGreatDoor
set_option maxRecDepth 100000
namespace Go.Proofs.YtfcbamfkfadabaaGreatDoor
open Go.Gov Go.Nt
open Classical

def drN : List UInt8 := [100, 97, 116, 99, 98, 101, 106, 107, 109, 110, 111, 122]
def drS : List (List UInt8) := [[84], [67], [79], [68], [73], [72], [90], [84], [67], [79]]
theorem drS_one : ∀ k, (drS.getD k []).length ≤ 1 := fun k => by
  rcases Nat.lt_or_ge k 10 with h | h
  · have : ∀ s ∈ drS, s.length ≤ 1 := by decide
    have hk : k < drS.length := h
    rw [List.getD_eq_getElem?_getD, List.getElem?_eq_getElem hk]
    exact this _ (List.getElem_mem hk)
  · rw [List.getD_eq_getElem?_getD, List.getElem?_eq_none (show drS.length ≤ k from h)]
    exact Nat.zero_le _
theorem vwC_src (ks : List Nat) (H : Heap) (bs : List Int) (a : Nat) (h : Int) : (srcC bs a h).map (vwC ks H) = srcC bs a h := by
  simp [srcC, bytA', vwC, rnm, u8s, rnmL_map]
attribute [go_sem] vwC_src
set_option maxHeartbeats 4000000 in
theorem l15Draw_w (bs : List Int) (hb : Byt bs) (a : Nat) (h : Int) (hs : a ≤ bs.length) (m : Nat) (hm : m ≤ 13) :
    WriE Tryz.prog 61 [.ref 0 0, i64 (m : Int)] [some (srcC bs a h)] (fun o : Nat × Int × List UInt8 => o.1 ≤ bs.length ∧ o.2.2.length ≤ m + 3) (fun o => sV o.2.2) (fun o => [some (srcC bs o.1 o.2.1)]) := by
  refine wriREV ok61 rfl ?_; unfold c61
  refine RN ?_
  refine wriEF (l01Next_w bs hb a h hs ((m : Int) + 1)) [0] (by first | rfl | simp) (by simp only [go_sem, ↓reduceIte, Nat.reduceEqDiff, Nat.reduceAdd, reduceCtorEq] <;> rfl) (by simp only [go_sem, ↓reduceIte, Nat.reduceEqDiff, Nat.reduceAdd, reduceCtorEq] <;> rfl) fun o ho => ?_
  obtain ⟨a1, b1, k⟩ := o
  obtain ⟨q1, q2, q3⟩ := ho
  dsimp only at q1 q2 q3
  obtain ⟨k, rfl⟩ := Int.eq_ofNat_of_zero_le q2
  refine RN ?_
  refine V_loop (α := (Nat × Int) × (Nat × List UInt8)) (S := fun o => ([(0, .ref 0 0), (5, sV drN), (6, sV o.2.2), (7, i64 (o.2.1 : Int))], [some (srcC bs o.1.1 o.1.2)])) (C := fun o => o.1.1 ≤ bs.length ∧ o.2.2.length + o.2.1 ≤ m) (μ := fun o => o.2.1) ((a1, b1), (k, [])) ⟨q1, by simp only [List.length_nil]; omega⟩ ?_ ?_
  · exact Ref.sel [0] rfl (by simp only [go_sem, ↓reduceIte, Nat.reduceEqDiff, Nat.reduceAdd, reduceCtorEq]) (by simp [sub, fget, go_sem, ↓reduceIte, Nat.reduceEqDiff, Nat.reduceAdd, reduceCtorEq, drN])
  rintro ⟨⟨a2, b2⟩, ⟨k, out⟩⟩ ⟨h1, h2⟩
  dsimp only at h1 h2 ⊢
  refine RN ?_
  refine ⟨fun hc => ?_, fun hc => ?_⟩
  · (refine RN ?_; try with_reducible exact trivial)
    refine wriEF (l01Next_w bs hb a2 b2 h1 12) [0] (by first | rfl | simp) (by simp only [go_sem, ↓reduceIte, Nat.reduceEqDiff, Nat.reduceAdd, reduceCtorEq] <;> rfl) (by simp only [go_sem, ↓reduceIte, Nat.reduceEqDiff, Nat.reduceAdd, reduceCtorEq] <;> rfl) fun o ho => ?_
    obtain ⟨a3, b3, i⟩ := o
    obtain ⟨r1, r2, r3⟩ := ho
    dsimp only at r1 r2 r3
    obtain ⟨i, rfl⟩ := Int.eq_ofNat_of_zero_le r2
    have hi : i < 12 := by omega
    have hdl : drN.length = 12 := rfl
    have e1 : ((i : Int) + 1).toNat = i + 1 := by omega
    have hpl : ((drN.take (i + 1)).drop i).length ≤ 1 := by rw [List.length_drop, List.length_take]; omega
    generalize drN = D at hdl hpl ⊢
    have hmx : 1099511627776000 ≤ maxLen := by decide
    generalize hpc : (D.take (i + 1)).drop i = pc at hpl ⊢
    (repeat first | simp only [e1, hdl, hpc, go_sem, ↓reduceIte, Nat.reduceEqDiff, Nat.reduceAdd, reduceCtorEq] | refine RX ?_ | decide)
    refine ⟨((a3, b3), (k - 1, out ++ pc)), ⟨r1, by simp only [List.length_append]; omega⟩, by simp only; omega, ?_⟩
    exact Ref.sel [0] rfl (by simp only [go_sem, ↓reduceIte, Nat.reduceEqDiff, Nat.reduceAdd, reduceCtorEq]) (by simp [sub, fget, go_sem, ↓reduceIte, Nat.reduceEqDiff, Nat.reduceAdd, reduceCtorEq]; omega)
  · obtain rfl : k = 0 := by omega
    (repeat first | simp only [hs, go_sem, ↓reduceIte, Nat.reduceEqDiff, Nat.reduceAdd, reduceCtorEq] | (with_reducible refine And.intro ?_ ?_; focus first | assumption | omega | decide | grind))
    refine V_W ?_
    (repeat first | simp only [hs, go_sem, ↓reduceIte, Nat.reduceEqDiff, Nat.reduceAdd, reduceCtorEq] | (with_reducible refine And.intro ?_ ?_; focus first | assumption | omega | decide | grind))
    refine W_ref (Ref.sel [0, 1] (F' := [(0, .ref 0 0), (6, sV out), (9, .sl 1 1 0 10)]) (H' := [some (srcC bs a2 b2), some (sVs drS)]) rfl ?_ ?_) ?_
    · simp [go_sem, ↓reduceIte, Nat.reduceEqDiff, Nat.reduceAdd, reduceCtorEq, drS, sVs]
    · simp [sub, fget, go_sem, ↓reduceIte, Nat.reduceEqDiff, Nat.reduceAdd, reduceCtorEq]
    have hmx : 1099511627776000 ≤ maxLen := by decide
    have hdl : drS.length = 10 := rfl
    refine RN ?_
    refine wriEF (l01Next_w bs hb a2 b2 h1 10) [0] (by first | rfl | simp) (by simp only [go_sem, ↓reduceIte, Nat.reduceEqDiff, Nat.reduceAdd, reduceCtorEq] <;> rfl) (by simp only [go_sem, ↓reduceIte, Nat.reduceEqDiff, Nat.reduceAdd, reduceCtorEq] <;> rfl) fun o ho => ?_
    obtain ⟨a3, b3, i⟩ := o
    obtain ⟨r1, r2, r3⟩ := ho
    dsimp only at r1 r2 r3
    obtain ⟨i, rfl⟩ := Int.eq_ofNat_of_zero_le r2
    have hi : i < 10 := by omega
    have hsl := drS_one i
    generalize hsd : drS.getD i [] = sd at hsl
    (repeat first | simp only [hdl, hsd, go_sem, ↓reduceIte, Nat.reduceEqDiff, Nat.reduceAdd, reduceCtorEq] | refine RX ?_ | decide)
    refine ⟨fun hc1 => ?_, fun hc1 => ?_⟩
    · refine wriEF (l01Next_w bs hb a3 b3 r1 6) [0] (by first | rfl | simp) (by simp only [go_sem, ↓reduceIte, Nat.reduceEqDiff, Nat.reduceAdd, reduceCtorEq] <;> rfl) (by simp only [go_sem, ↓reduceIte, Nat.reduceEqDiff, Nat.reduceAdd, reduceCtorEq] <;> rfl) fun o ho => ?_
      obtain ⟨a4, b4, n⟩ := o
      obtain ⟨t1, t2, t3⟩ := ho
      dsimp only at t1 t2 t3
      obtain ⟨n, rfl⟩ := Int.eq_ofNat_of_zero_le t2
      have e5 : (2 : Int) + (n : Int) = ((2 + n : Nat) : Int) := by omega
      have hd := l01Dec_c (2 + n) (by omega)
      have ht := tx_len (2 + n)
      generalize tx (2 + n) = t at hd ht
      (repeat first | simp only [e5, go_sem, ↓reduceIte, Nat.reduceEqDiff, Nat.reduceAdd, reduceCtorEq] | refine RX ?_ | decide)
      refine pureC1 (hd) ?_
      refine RN ?_
      exact ⟨(a4, b4, out ++ (sd ++ t)), ⟨t1, by simp only [List.length_append]; omega⟩, Ref.sel [0] rfl (by simp only [go_sem, ↓reduceIte, Nat.reduceEqDiff, Nat.reduceAdd, reduceCtorEq]) (by simp [sub, fget, go_sem, ↓reduceIte, Nat.reduceEqDiff, Nat.reduceAdd, reduceCtorEq])⟩
    · (refine RN ?_; try with_reducible exact trivial)
      exact ⟨(a3, b3, out ++ sd), ⟨r1, by simp only [List.length_append]; omega⟩, Ref.sel [0] rfl (by simp only [go_sem, ↓reduceIte, Nat.reduceEqDiff, Nat.reduceAdd, reduceCtorEq]) (by simp [sub, fget, go_sem, ↓reduceIte, Nat.reduceEqDiff, Nat.reduceAdd, reduceCtorEq])⟩
def sgL : List (List UInt8) := [[48], [49], [50], [53], [57], [45], [47], [32], [44], [59], [40], [41], [123], [125], [58], [97], [100], [116], [107], [114], [46], [10]]
theorem sgL_one : ∀ k, (sgL.getD k []).length ≤ 1 := fun k => by
  rcases Nat.lt_or_ge k 22 with h | h
  · have : ∀ s ∈ sgL, s.length ≤ 1 := by decide
    have hk : k < sgL.length := h
    rw [List.getD_eq_getElem?_getD, List.getElem?_eq_getElem hk]
    exact this _ (List.getElem_mem hk)
  · rw [List.getD_eq_getElem?_getD, List.getElem?_eq_none (show sgL.length ≤ k from h)]
    exact Nat.zero_le _
set_option maxHeartbeats 4000000 in
theorem l01Damage_w (bs : List Int) (hb : Byt bs) (a : Nat) (h : Int) (hs : a ≤ bs.length) (t : List UInt8) (ht : t.length ≤ 1000) :
    WriE Tryz.prog 72 [.ref 0 0, sV t] [some (srcC bs a h)] (fun o : Nat × Int × List UInt8 => o.1 ≤ bs.length ∧ o.2.2.length ≤ t.length + 1) (fun o => sV o.2.2) (fun o => [some (srcC bs o.1 o.2.1)]) := by
  have hmx : 1099511627776000 ≤ maxLen := by decide
  have hsl : sgL.length = 22 := rfl
  refine wriREV ok72 rfl ?_; unfold c72
  (repeat first | simp only [hs, go_sem, ↓reduceIte, Nat.reduceEqDiff, Nat.reduceAdd, reduceCtorEq] | (with_reducible refine And.intro ?_ ?_; focus first | assumption | omega | decide | grind))
  refine V_W ?_
  (repeat first | simp only [hs, go_sem, ↓reduceIte, Nat.reduceEqDiff, Nat.reduceAdd, reduceCtorEq] | (with_reducible refine And.intro ?_ ?_; focus first | assumption | omega | decide | grind))
  refine W_ref (Ref.sel [0, 1] (F' := [(0, .ref 0 0), (1, sV t), (5, .sl 1 1 0 22)]) (H' := [some (srcC bs a h), some (sVs sgL)]) rfl ?_ ?_) ?_
  · simp [go_sem, ↓reduceIte, Nat.reduceEqDiff, Nat.reduceAdd, reduceCtorEq, sgL, sVs]
  · simp [sub, fget, go_sem, ↓reduceIte, Nat.reduceEqDiff, Nat.reduceAdd, reduceCtorEq]
  refine RN ?_
  refine wriEF (l01Next_w bs hb a h hs 22) [0] (by first | rfl | simp) (by simp only [go_sem, ↓reduceIte, Nat.reduceEqDiff, Nat.reduceAdd, reduceCtorEq] <;> rfl) (by simp only [go_sem, ↓reduceIte, Nat.reduceEqDiff, Nat.reduceAdd, reduceCtorEq] <;> rfl) fun o ho => ?_
  obtain ⟨a1, b1, i⟩ := o
  obtain ⟨q1, q2, q3⟩ := ho
  dsimp only at q1 q2 q3
  obtain ⟨i, rfl⟩ := Int.eq_ofNat_of_zero_le q2
  have hi : i < 22 := by omega
  have hcl := sgL_one i
  generalize hcd : sgL.getD i [] = c at hcl
  (repeat first | simp only [hsl, hcd, go_sem, ↓reduceIte, Nat.reduceEqDiff, Nat.reduceAdd, reduceCtorEq] | refine RX ?_ | decide)
  refine ⟨fun hc1 => ?_, fun hc1 => ?_⟩
  · (refine RN ?_; try with_reducible exact trivial)
    exact ⟨(a1, b1, c), ⟨q1, by simp only; omega⟩, Ref.sel [0] rfl (by simp only [go_sem, ↓reduceIte, Nat.reduceEqDiff, Nat.reduceAdd, reduceCtorEq]) (by simp [sub, fget, go_sem, ↓reduceIte, Nat.reduceEqDiff, Nat.reduceAdd, reduceCtorEq])⟩
  · (refine RN ?_; try with_reducible exact trivial)
    refine wriEF (l01Next_w bs hb a1 b1 q1 t.length) [0] (by first | rfl | simp) (by simp only [go_sem, ↓reduceIte, Nat.reduceEqDiff, Nat.reduceAdd, reduceCtorEq] <;> rfl) (by simp only [go_sem, ↓reduceIte, Nat.reduceEqDiff, Nat.reduceAdd, reduceCtorEq] <;> rfl) fun o ho => ?_
    obtain ⟨a2, b2, k⟩ := o
    obtain ⟨r1, r2, r3⟩ := ho
    dsimp only at r1 r2 r3
    obtain ⟨k, rfl⟩ := Int.eq_ofNat_of_zero_le r2
    have hk : k < t.length := by omega
    have e1 : ((k : Int) + 1).toNat = k + 1 := by omega
    have e2 : (k : Int).toNat = k := by omega
    have h1 : (t.take k).length = k := by rw [List.length_take]; omega
    have h2 : (t.drop (k + 1)).length = t.length - (k + 1) := List.length_drop
    have h3 : (t.drop k).length = t.length - k := List.length_drop
    have tk : t.take t.length = t := List.take_length
    refine RN ?_
    refine wriEF (l01Next_w bs hb a2 b2 r1 3) [0] (by first | rfl | simp) (by simp only [go_sem, ↓reduceIte, Nat.reduceEqDiff, Nat.reduceAdd, reduceCtorEq] <;> rfl) (by simp only [go_sem, ↓reduceIte, Nat.reduceEqDiff, Nat.reduceAdd, reduceCtorEq] <;> rfl) fun o ho => ?_
    obtain ⟨a3, b3, n⟩ := o
    obtain ⟨t1, t2, t3⟩ := ho
    dsimp only at t1 t2 t3
    refine RN ?_
    refine ⟨fun hc2 => ?_, fun hc2 => ?_⟩
    · (repeat first | simp only [e1, e2, tk, go_sem, ↓reduceIte, Nat.reduceEqDiff, Nat.reduceAdd, reduceCtorEq] | refine RX ?_ | decide)
      exact ⟨(a3, b3, t.take k ++ c ++ t.drop (k + 1)), ⟨t1, by simp only [List.length_append]; omega⟩, Ref.sel [0] rfl (by simp only [go_sem, ↓reduceIte, Nat.reduceEqDiff, Nat.reduceAdd, reduceCtorEq]) (by simp [sub, fget, go_sem, ↓reduceIte, Nat.reduceEqDiff, Nat.reduceAdd, reduceCtorEq])⟩
    · (refine RN ?_; try with_reducible exact trivial)
      refine ⟨fun hc3 => ?_, fun hc3 => ?_⟩
      · (repeat first | simp only [e1, e2, tk, go_sem, ↓reduceIte, Nat.reduceEqDiff, Nat.reduceAdd, reduceCtorEq] | refine RX ?_ | decide)
        exact ⟨(a3, b3, t.take k ++ t.drop (k + 1)), ⟨t1, by simp only [List.length_append]; omega⟩, Ref.sel [0] rfl (by simp only [go_sem, ↓reduceIte, Nat.reduceEqDiff, Nat.reduceAdd, reduceCtorEq]) (by simp [sub, fget, go_sem, ↓reduceIte, Nat.reduceEqDiff, Nat.reduceAdd, reduceCtorEq])⟩
      · (repeat first | simp only [e1, e2, tk, go_sem, ↓reduceIte, Nat.reduceEqDiff, Nat.reduceAdd, reduceCtorEq] | refine RX ?_ | decide)
        exact ⟨(a3, b3, t.take k ++ c ++ t.drop k), ⟨t1, by simp only [List.length_append]; omega⟩, Ref.sel [0] rfl (by simp only [go_sem, ↓reduceIte, Nat.reduceEqDiff, Nat.reduceAdd, reduceCtorEq]) (by simp [sub, fget, go_sem, ↓reduceIte, Nat.reduceEqDiff, Nat.reduceAdd, reduceCtorEq])⟩
theorem l15DrawAny_w (bs : List Int) (hb : Byt bs) (a : Nat) (h : Int) (hs : a ≤ bs.length) (m : Nat) (hm : m ≤ 13) :
    WriE Tryz.prog 33 [.ref 0 0, i64 (m : Int)] [some (srcC bs a h)] (fun o : Nat × Int × List UInt8 => o.1 ≤ bs.length ∧ o.2.2.length ≤ m + 4) (fun o => sV o.2.2) (fun o => [some (srcC bs o.1 o.2.1)]) := by
  refine wriREV ok33 rfl ?_; unfold c33
  refine RN ?_
  refine wriEF (l15Draw_w bs hb a h hs m hm) [0] (by first | rfl | simp) (by simp only [go_sem, ↓reduceIte, Nat.reduceEqDiff, Nat.reduceAdd, reduceCtorEq] <;> rfl) (by simp only [go_sem, ↓reduceIte, Nat.reduceEqDiff, Nat.reduceAdd, reduceCtorEq] <;> rfl) fun o ho => ?_
  obtain ⟨a1, b1, t⟩ := o
  obtain ⟨q1, q2⟩ := ho
  dsimp only at q1 q2
  refine RN ?_
  refine wriEF (l01Next_w bs hb a1 b1 q1 10) [0] (by first | rfl | simp) (by simp only [go_sem, ↓reduceIte, Nat.reduceEqDiff, Nat.reduceAdd, reduceCtorEq] <;> rfl) (by simp only [go_sem, ↓reduceIte, Nat.reduceEqDiff, Nat.reduceAdd, reduceCtorEq] <;> rfl) fun o ho => ?_
  obtain ⟨a2, b2, n⟩ := o
  obtain ⟨r1, r2, r3⟩ := ho
  dsimp only at r1 r2 r3
  refine RN ?_
  refine ⟨fun hc => ?_, fun hc => ?_⟩
  · (refine RN ?_; try with_reducible exact trivial)
    refine wriEF (l01Damage_w bs hb a2 b2 r1 t (by omega)) [0] (by first | rfl | simp) (by simp only [go_sem, ↓reduceIte, Nat.reduceEqDiff, Nat.reduceAdd, reduceCtorEq] <;> rfl) (by simp only [go_sem, ↓reduceIte, Nat.reduceEqDiff, Nat.reduceAdd, reduceCtorEq] <;> rfl) fun o ho => ?_
    obtain ⟨a3, b3, u⟩ := o
    obtain ⟨t1, t2⟩ := ho
    dsimp only at t1 t2
    refine RN ?_
    exact ⟨(a3, b3, u), ⟨t1, by simp only; omega⟩, Ref.sel [0] rfl (by simp only [go_sem, ↓reduceIte, Nat.reduceEqDiff, Nat.reduceAdd, reduceCtorEq]) (by simp [sub, fget, go_sem, ↓reduceIte, Nat.reduceEqDiff, Nat.reduceAdd, reduceCtorEq])⟩
  · (refine RN ?_; try with_reducible exact trivial)
    exact ⟨(a2, b2, t), ⟨r1, by simp only; omega⟩, Ref.sel [0] rfl (by simp only [go_sem, ↓reduceIte, Nat.reduceEqDiff, Nat.reduceAdd, reduceCtorEq]) (by simp [sub, fget, go_sem, ↓reduceIte, Nat.reduceEqDiff, Nat.reduceAdd, reduceCtorEq])⟩
theorem drawSimplify_e (bs : List Int) (hb : Byt bs) : PureE Tryz.prog 28 [bytA' bs] (fun l : List UInt8 => l.length ≤ 12) (fun l => sV l) (fun _ => []) := by
  have hf := l01From_p bs hb
  unfold bytA' at *
  refine pureREV ok28 rfl ?_; unfold c28
  refine RN ?_
  refine pureEG hf (by first | rfl | simp only [go_sem, ↓reduceIte, Nat.reduceEqDiff, Nat.reduceAdd, reduceCtorEq]) fun h0 _ => ?_
  refine RN ?_
  refine wriEF (l15DrawAny_w bs hb 0 h0 (Nat.zero_le _) 8 (by omega)) [0] (by first | rfl | simp) (by simp only [go_sem, ↓reduceIte, Nat.reduceEqDiff, Nat.reduceAdd, reduceCtorEq] <;> rfl) (by simp only [go_sem, ↓reduceIte, Nat.reduceEqDiff, Nat.reduceAdd, reduceCtorEq] <;> rfl) fun o ho => ?_
  obtain ⟨a1, b1, t⟩ := o
  obtain ⟨q1, q2⟩ := ho
  dsimp only at q1 q2
  refine RN ?_
  exact ⟨t, (show t.length ≤ 12 by omega), Ref.gc1 []⟩
end Go.Proofs.YtfcbamfkfadabaaGreatDoor
set_option maxRecDepth 100000
namespace Go.Proofs.YtfcbamfkfadabaaGreatDoor
open Go.Gov Go.Nt
open Classical

variable (tp tq : TypeId) (p q : Value) (m : Int)
theorem lv_s {av : List AV} {f : FuncId} {x : AV} {h : Heap} (hp : PureG Tryz.prog (LV tp tq p q) f av x h) : PureG Tryz.prog (LS tp tq p q m) f av x h :=
  fun w vals hv => hp w vals fun y hy => hv y (List.mem_append_left _ hy)
theorem vwC_gv (ks : List Nat) (H : Heap) (L : List (Nat × List Value)) : (gvs L).map (vwC ks H) = gvs L := by simp [gvs, vwC, rnm]
attribute [go_sem] vwC_gv
set_option maxHeartbeats 16000000 in
theorem lawNp_c (bs : List Int) (hl : bs.length ≤ 9223372036854775807) (h8 : ∀ k, k < bs.length → 0 ≤ bs.getD k 0 ∧ bs.getD k 0 ≤ 255) : PureG Tryz.prog (LS tp tq p q m) 6 [bytA' bs] (bl true) [] := by
  have hbig := big_c bs hl
  unfold bytA' at *
  refine pureGV ok6 rfl ?_; unfold c6
  refine RN ?_
  refine pureC1 (hbig) ?_
  refine RN ?_
  refine ⟨fun hc => ?_, fun hc => ?_⟩
  · (refine RN ?_; try with_reducible exact trivial)
    exact Ref.gc1 []
  have hb : Byt bs := ⟨by omega, h8⟩
  have hdr := drawSimplify_e bs hb
  unfold bytA' at hdr
  refine RN ?_
  refine pureEG hdr (by simp only [go_sem, ↓reduceIte, Nat.reduceEqDiff, Nat.reduceAdd, reduceCtorEq]) fun l hll => ?_
  have hsi := implSn_c tp tq p q m l (by omega)
  have hss := specSn_c l (by omega)
  have hop := lv_s tp tq p q m (implOp_c tp tq p q l (by omega))
  have hsd := lv_s tp tq p q m (implSd_c tp tq p q l (by omega))
  have hct := lv_s tp tq p q m (implCt_c tp tq p q l (by omega))
  by_cases hk : NtOk l
  · have e1 : ntK l = 0 := if_pos hk
    have e2 : snA l = smp (basL (ntO l) ++ ntS l) := if_pos hk
    have e3 : opA l = ntO l := if_pos hk
    have e4 : dgA l = diaL (ntS l) := if_pos hk
    have e5 : ctA l = [(cnt (basL (ntO l)) (seedC (ntS l))).1, (cnt (basL (ntO l)) (seedC (ntS l))).2.1, (cnt (basL (ntO l)) (seedC (ntS l))).2.2] := if_pos hk
    obtain ⟨a, b, d1, d2, d3, d4, d5⟩ := ord_seed hk.2
    obtain ⟨p1, p2⟩ := seed_parts hk.2
    have hks : NtOk (ntS l) := ⟨by rw [p1]; exact Nat.zero_le _, by rw [p2]; exact hk.2⟩
    have hcs := lv_s tp tq p q m (implCt_c tp tq p q (ntS l) (by have := nt_slen l; omega))
    have e6 : ctA (ntS l) = [(seedC (ntS l)).1, (seedC (ntS l)).2.1, (seedC (ntS l)).2.2] := by
      unfold ctA
      rw [if_pos hks, p1, p2]
      rfl
    have e7 : ntK (ntS l) = 0 := if_pos hks
    have hlen : (ntO l).length + (ntS l).length = l.length := by rw [← List.length_append, nt_app]
    have hsn := seed_ne hk.2
    have htk : l.take (ntO l).length = ntO l := by
      have h := List.take_left' (l₁ := ntO l) (l₂ := ntS l) rfl
      rwa [nt_app] at h
    have hdp : l.drop (ntO l).length = ntS l := by
      have h := List.drop_left' (l₁ := ntO l) (l₂ := ntS l) rfl
      rwa [nt_app] at h
    have heu := cnt_eul (basL (ntO l)) (seedC (ntS l)) (seedC_eul (ntS l))
    have hcb := cnt_b (ntO l) (ntS l) hk.1 hk.2 0
    rw [List.drop_zero] at hcb
    unfold Go.Nt.Good at hcb
    obtain ⟨⟨g1, g2, g3⟩, g4, g5⟩ := hcb
    obtain ⟨sg1, sg2, sg3⟩ := seedC_good hk.2
    have hord := orderNodes_c a b d2 d3 d4
    rw [d5] at hord
    have hbl := basL_len (ntO l)
    have hsl := smp_len (basL (ntO l) ++ ntS l)
    rw [List.length_append] at hsl
    have hsimp := implSn_c tp tq p q m (snA l) (by rw [e2]; omega)
    have hin := specIn_c (snA l) (by rw [e2]; omega)
    have hself : NtOk (snA l) → snA (snA l) = snA l := fun h => by
      rw [show snA (snA l) = smp (basL (ntO (snA l)) ++ ntS (snA l)) from if_pos h]
      have hbs : Bsc (snA l) := by rw [e2]; exact smp_bsc _ (bas_bsc hk.2)
      rw [show basL (ntO (snA l)) ++ ntS (snA l) = snA l from bas_self hbs, e2, smp_smp]
    have hkk : NtOk (snA l) → ntK (snA l) = 0 := fun h => if_pos h
    rw [e3, e1] at hop
    rw [e4, e1, d1] at hsd
    rw [e5, e1] at hct
    rw [e6, e7] at hcs
    rw [e1] at hsi hss
    clear e3 e4 e5 e6 e7 e2 hsl hbl
    generalize snA l = sn at *
    generalize cnt (basL (ntO l)) (seedC (ntS l)) = C at *
    generalize seedC (ntS l) = D at *
    obtain ⟨v, e, f⟩ := C
    obtain ⟨v', e', f'⟩ := D
    dsimp only at *
    generalize ntS l = s at *
    generalize ntO l = o at *
    refine RN ?_
    refine pureGC1 (hsi) ?_
    refine RN ?_
    refine pureC1 (hss) ?_
    (iterate 16 ((try (refine RN ?_; try with_reducible exact trivial)); (try with_reducible refine fun _ => ?_)))
    refine pureGC1 (hop) ?_
    refine RN ?_
    refine pureGC1 (hsd) ?_
    (iterate 16 ((try (refine RN ?_; try with_reducible exact trivial)); (try with_reducible refine fun _ => ?_)))
    refine pureGC1 (hct) ?_
    (repeat first | simp only [htk, go_sem, ↓reduceIte, Nat.reduceEqDiff, Nat.reduceAdd, reduceCtorEq] | refine RX ?_ | decide)
    intro _
    refine W_ref (Ref.sel [0] (F' := [(3, sV l), (4, sV sn), (8, sV o), (10, ints [(a : Int), (b : Int)]), (12, ints [v, e, f])]) (H' := [some (gvs (LS tp tq p q m))]) rfl (by simp only [go_sem, ↓reduceIte, Nat.reduceEqDiff, Nat.reduceAdd, reduceCtorEq]) ?_) ?_
    · simp [sub, fget, go_sem, ↓reduceIte, Nat.reduceEqDiff, Nat.reduceAdd, reduceCtorEq]
      exact ⟨rfl, rfl⟩
    have htl : l.take l.length = l := List.take_length
    refine V_W ?_
    refine RN ?_
    refine pureC1 (hord) ?_
    (repeat first | simp only [hdp, htl, go_sem, ↓reduceIte, Nat.reduceEqDiff, Nat.reduceAdd, reduceCtorEq] | refine RX ?_ | decide)
    have c1 : [v', e', f'].getD 1 0 = e' := rfl
    have c2 : [v, e, f].getD 0 0 = v := rfl
    have c3 : [v, e, f].getD 1 0 = e := rfl
    have c4 : [v, e, f].getD 2 0 = f := rfl
    refine pureGC1 (hcs) ?_
    (repeat first | simp only [c1, c2, c3, c4, heu, go_sem, ↓reduceIte, Nat.reduceEqDiff, Nat.reduceAdd, reduceCtorEq] | refine RX ?_ | decide)
    intro _
    by_cases hsk : NtOk sn
    · rw [decide_eq_true hsk] at hin
      rw [hself hsk, hkk hsk] at hsimp
      refine RN ?_
      refine pureC1 (hin) ?_
      refine RN ?_
      refine pureGC1 (hsimp) ?_
      refine RN ?_
      exact Ref.gc1 []
    · rw [decide_eq_false hsk] at hin
      refine RN ?_
      refine pureC1 (hin) ?_
      refine RN ?_
      exact Ref.gc1 []
  · have e1 : ntK l = 6 := if_neg hk
    have e2 : snA l = [] := if_neg hk
    have e3 : opA l = [] := if_neg hk
    have e4 : dgA l = [] := if_neg hk
    rw [e2, e1] at hsi hss
    rw [e3, e1] at hop
    rw [e4, e1] at hsd
    refine RN ?_
    refine pureGC1 (hsi) ?_
    refine RN ?_
    refine pureC1 (hss) ?_
    (iterate 16 ((try (refine RN ?_; try with_reducible exact trivial)); (try with_reducible refine fun _ => ?_)))
    refine pureGC1 (hop) ?_
    refine RN ?_
    refine pureGC1 (hsd) ?_
    (iterate 16 ((try (refine RN ?_; try with_reducible exact trivial)); (try with_reducible refine fun _ => ?_)))
    refine ⟨fun _ => ?_, fun h => absurd h (by decide)⟩
    refine RN ?_
    exact Ref.gc1 []
end Go.Proofs.YtfcbamfkfadabaaGreatDoor
set_option maxRecDepth 100000
namespace Go.Proofs.YtfcbamfkfadabaaGreatDoor.JNp
open Go.Proofs.YtfcbamfkfadabaaGreatDoor
open Go.ChangeShapes Go.WideShapes Go.ChangeAt Go.RowKit Go.Gov Go.ChangeMaps

theorem wrap_shp {H : Type} {enc : TypeId × Value → H} {a : Assume} {C : Checked} {os : Os} {f : FuncId} {fn : Func} {s : ChangeSpec} {conds : List PathCond} {apart fresh handsOn again : Bool} {X : World → Array Value → Prop}
    (hX : ∀ (w w' : World) (args : Array Value), w.heap = w'.heap → X w args → X w' args)
    (own : ownKnob C.prog.godebug = none) (started : os.Started) (noInit : C.prog.inits.idxOf? f = none) (hfn : C.prog.funcs[f]? = some fn)
    (witness : ∃ (w : World) (tape : Tape) (i : Input), w.os = os ∧ (w.forCall tape i).Shaped C.prog ∧ i.vars = [] ∧ Input.okWide C.prog (w.forCall tape i) .any w.heap.size f i ∧
      ((s.pre enc C.prog fn conds apart (w.forCall tape i).memory i.args ∧ X (w.forCall tape i).memory i.args) ∧ sizedMet enc C.prog fn (OpenSpec.ofChange s) apart (w.forCall tape i).memory i.args) ∧ a.holds C.prog (lone (Frame.enter C.prog f i.args .normal) [] (w.forCall tape i)))
    (contract : ∀ (W : World) (base : Nat) (args : Array Value) (ds gs : List (DataW H)) (before : List MemPlace),
      (∀ (j : Nat) t v, fn.params[j]? = some t → args[j]? = some v → Value.okWide C.prog W .any base t v) →
      DataW.Whole enc C.prog fn.params.toList s.vars apart W args.toList ds gs before → X W args → W.ShapedOpen C.prog →
      Calls C.prog f args W fun e W' => ∃ v, e = .returned v ∧ s.post enc C.prog fn apart fresh handsOn again W args v W') :
    ReturnsInHanded a C os f .any (fun w args => (s.pre enc C.prog fn conds apart w args ∧ X w args) ∧ sizedMet enc C.prog fn (OpenSpec.ofChange s) apart w args) (s.post enc C.prog fn apart fresh handsOn again) := by
  refine returnsInHanded_of_calls own started noInit witness ?_
  intro w tape i _ hsh _ hok hpre hholds
  obtain ⟨_, _, _, fn', hfn', _, _, _, _, hval⟩ := hok
  obtain rfl : fn' = fn := Option.some.inj (hfn'.symm.trans hfn)
  obtain ⟨⟨⟨ds, gs, before, hw, hc⟩, hx⟩, hz⟩ := hpre
  have hw' := DataW.Whole.of_heap (w' := w.forCall tape i) (by rfl) hw
  refine (contract (w.forCall tape i) w.heap.size i.args ds gs before hval hw' (hX _ _ _ (by rfl) hx) hsh).mono fun e W' ⟨v, he, hp⟩ => ?_
  subst he
  exact ChangeSpec.post_blind hp
theorem max_in {W : World} (h : W.ShapedOpen Tryz.prog) : ∃ mm : Int, ∃ ty z, W.heap[gMax]? = some (.cells #[.int .i64 mm] ty z) := by
  have hg : 1 < Tryz.prog.globals.size := of_decide_eq_true (by kernel_rfl)
  have h0 : ((begin Tryz.prog (fun _ _ => 0) default).world.heap[1]?).bind Obj.row? = some (#[.int .i64 0], 3) := by kernel_rfl
  obtain ⟨mm, hm⟩ := cell_of_shapedOpen_int h hg h0 rfl (by kernel_rfl) (by kernel_rfl) Tryz.underlying3
  obtain ⟨cs, hh, hs, _⟩ := h.1 1 _ _ hg h0
  have hs1 : cs.size = 1 := hs
  obtain ⟨x, rfl⟩ : ∃ x, cs = #[x] := by
    obtain ⟨l⟩ := cs
    match l, hs1 with
    | [x], _ => exact ⟨x, rfl⟩
  have hx : x = .int .i64 mm := by simpa [World.cell?, hh] using hm
  subst hx
  have h1 : gMax = 1 := by unfold gMax; kernel_rfl
  rw [h1]
  exact ⟨mm, _, _, hh⟩
theorem vars_stay {H : Type} {enc : TypeId × Value → H} {W W' : World} {n : String} {g1 : DataW H} {q : List MemPlace} {sp' : Nat → Bool} {b : Nat} (hg : Tryz.prog.globalNamed n = some b) (hty : (Tryz.prog.globals[b]?).map (·.type) = some 98)
    (h : DataW.TrodVars enc Tryz.prog W (fun _ => true) [n] [g1] q) (hb : W'.heap[b]? = W.heap[b]?) (hsame : ∀ p ∈ q, W.sameAt W' p) (hs : ∀ p ∈ q, sp' p.block = true) : DataW.TrodVars enc Tryz.prog W' sp' [n] [g1] q := by
  obtain ⟨g, t, cs, fuel, p, r, h1, h2, h3, h4, h5, rfl⟩ := h
  obtain rfl := Option.some.inj (hg.symm.trans h1)
  obtain rfl := Option.some.inj (hty.symm.trans h2)
  refine ⟨_, _, cs, fuel, p, r, h1, h2, ?_, ?_, h5, rfl⟩
  · rw [← h3]
    unfold World.var?
    rw [hg]
    simp only [Option.bind_some]
    rw [hb]
  · exact DataW.trod_stays (kids_book Tryz.laidOut (by kernel_rfl)) (book_sized (by kernel_rfl)) (fun h => by cases h) ⟨of_decide_eq_true (by kernel_rfl), book_self 98⟩ h4 (fun x hx => hsame x (by simp [hx])) (fun x hx => hs x (by simp [hx]))

set_option maxRecDepth 100000 in
set_option maxHeartbeats 2000000 in
theorem lifted (os : Os) (started : os.Started) (H : Type) (enc : TypeId × Value → H) :
    ReturnsInHanded {} Tryz.checked os 6 .any (fun w args => (Rows.fnNotationPartsSpec.pre enc Tryz.prog Tryz.f6 [] false w args ∧ laidMetH Tryz.prog Rows.fnNotationPartsRow.laid w) ∧ sizedMet enc Tryz.prog Tryz.f6 (OpenSpec.ofChange Rows.fnNotationPartsSpec) false w args) (Rows.fnNotationPartsSpec.post enc Tryz.prog Tryz.f6 false true false false) := by
  refine wrap_shp (C := Tryz.checked) (X := fun w _ => laidMetH Tryz.prog Rows.fnNotationPartsRow.laid w) (fun _ _ _ hh h => h.of_heap hh) Tryz.own started (by kernel_rfl) Tryz.func6
    (ChangeSpec.witness_shaped (enc := enc) (C := Tryz.checked) (os := os) (X := fun w _ => laidMetH Tryz.prog Rows.fnNotationPartsRow.laid w) false (World.laidAll Tryz.prog os Rows.fnNotationPartsRow.laid) #[.slice none 0 0] 8 (World.laidAll_os _ _ _) (World.shaped_of_ZipB (by kernel_rfl) (by kernel_rfl)) (by kernel_rfl) (by kernel_rfl) (by kernel_rfl) (by rw [MakeChecks.laidMetH_plain _ _ _ (by kernel_rfl)]; exact laidMet_laidAll _ (by kernel_rfl) (by kernel_rfl))) ?_
  intro W base args ds gs before hval0 hW hLaid hShp
  have hval : ∀ (j : Nat) t v, Tryz.f6.params[j]? = some t → args[j]? = some v → Value.okWide Tryz.prog W .any base t v := hval0
  have hW' := hW
  obtain ⟨p, q, hA0, hV, rfl, hfz, hnd⟩ := hW
  have hA : DataW.TrodAll enc Tryz.prog W 0 (fun _ => true) true Tryz.f6.params.toList args.toList ds p := hA0
  rw [Tryz.params6] at hA hval
  obtain ⟨v0, l0, d0, e0, p0, q0, ha0, rfl, rfl, h0, hA1⟩ := trodAll_cons hA
  obtain ⟨rfl, rfl, rfl⟩ := trodAll_nil hA1
  obtain rfl : args = #[v0] := by rw [← Array.toArray_toList (xs := args), ha0]
  have hv0 := hval 0 22 v0 rfl rfl
  obtain ⟨g1, rfl⟩ : ∃ g1, gs = [g1] := by
    match gs, hV with
    | [g1], _ => exact ⟨g1, rfl⟩
    | _ :: _ :: _, h => obtain ⟨_, _, _, _, _, _, _, _, _, _, h, _⟩ := h; exact h.elim
  obtain ⟨a0, b0, c0, rfl⟩ := okWide_slice Tryz.underlying22 hv0
  obtain ⟨m0, t0⟩ := h0
  obtain ⟨s0, X0, hs0, hX0, hX80, rdX0⟩ := rd_bytes Tryz.underlying22 Tryz.underlying5 (by kernel_rfl) t0
  have h0 : DataW.Trod enc Tryz.prog W 0 (fun _ => true) true 22 (.slice a0 b0 c0) d0 p0 := ⟨m0, t0⟩
  obtain rfl : Value.slice a0 b0 c0 = s0 := by simpa [Value.cells] using hs0
  have hrd : ∀ m (h : m < ([bytA' X0] : List AV).length), Rd W ((g0 W).tr []) (g0 W).G ([bytA' X0] : List AV)[m] ((#[Value.slice a0 b0 c0] : Array Value).getD m undef) [] := fun m h => by
    match m, h with
    | 0, _ => exact rdX0 _
  obtain ⟨tp, tq, pp, qq, hVs0⟩ := vars_in hLaid rfl rfl rfl
  obtain ⟨mm, hMx⟩ := max_in hShp
  have hVs : VarsIn W (LS tp tq pp qq mm) := fun x hx => by
    rcases List.mem_append.1 hx with hx | hx
    · exact hVs0 x hx
    · simp only [LR, List.mem_cons, List.not_mem_nil, or_false] at hx
      rcases hx with rfl | rfl
      · exact rules_in hLaid rfl
      · exact hMx
  refine (below_ofG (lawNp_c tp tq pp qq mm X0 (Nat.le_trans hX0 (by decide)) hX80) hVs rfl hrd).mono fun e W' ⟨he, hb, hz⟩ => ?_
  have hW0 : 0 < W.heap.size := by
    obtain ⟨_, _, h⟩ := hMx
    have := (Array.getElem?_eq_some_iff.1 h).1
    omega
  simp only [List.append_nil] at hW'
  have hS0 : ∀ sp : Nat → Bool, (∀ x ∈ p0, sp x.block = true) → DataW.Trod enc Tryz.prog W' 0 sp true 22 (.slice a0 b0 c0) _ p0 := fun sp hsp =>
    WideElems.Trod_stays Tryz.laidOut (by kernel_rfl) (of_decide_eq_true (by kernel_rfl)) h0 (fun x hx => hb.same (hW'.lt x (by simp [hx]))) (fun x hx => hsp x (by simp [hx]))
  have hR1 : ∀ (b : Nat) (sp : Nat → Bool) (hd : Bool), DataW.Trod enc Tryz.prog W' b sp hd 4 (.bool true) (.lit (.bool true)) [] := fun _ _ _ => shut_bool Tryz.underlying4 true
  refine ⟨_, he, post_of_new (pa := p0) (pv := q) hW' (fun b sp hd => trodAll_mk1 (hR1 b sp hd)) (fun sp hsp => trodAll_mk1 (hS0 sp fun x hx => hsp x (by simp [hx]))) (fun sp hsp => ?_) ?_ ?_ hz ?_⟩
  · exact vars_stay (by kernel_rfl) (by kernel_rfl) hV (hb.block 0 hW0) (fun x hx => hb.same (hW'.lt x (by simp [hx]))) (fun x hx => hsp x (by simp [hx]))
  · simp
  · exact hb.frame _
  · exact ok_one (by kernel_rfl) rfl (okWide_bool_mk Tryz.underlying4 true)

theorem holds : Rows.FnNotationPartsSaid :=
  OpenClaim.holds_of_wide 6 Tryz.f6 rfl rfl rfl rfl rfl rfl rfl ⟨rfl, rfl, rfl, rfl, rfl⟩ rfl rfl rfl rfl rfl (by kernel_rfl) Tryz.func6 (by kernel_rfl)
    (of_decide_eq_true (by kernel_rfl)) (by unfold Func.isWrapper; first | (rw [if_pos (by decide +kernel)]; kernel_rfl) | (rw [if_neg (by decide +kernel)]; exact ⟨rfl, rfl⟩))
    (fun os started H enc _ => lifted os started H enc)

theorem card_holds : Rows.FnNotationPartsCardSaid :=
  Claim7.holds_tied_plain_at .later [] [.data, .data, .data, .data, .sentinel, .sentinel, .data, .pinned] true Rows.fnNotationPartsCard.stood.harness Rows.fnNotationPartsCard.stood.looks
    holds (fun _ h => by cases h) (by kernel_rfl) (fun _ h => by cases h) fnNotationParts_row_tie rfl ⟨rfl, rfl⟩ (by kernel_rfl) rfl
    (fun f fn hf hfn => by
      obtain rfl : f = 6 := Option.some.inj ((show Tryz.prog.funcNamed "loop.example/g01108/laws.FnNotationParts" = some 6 by kernel_rfl).symm.trans hf) |>.symm
      obtain rfl : fn = Tryz.f6 := (Option.some.inj (Tryz.func6.symm.trans hfn)).symm
      exact ⟨by kernel_rfl, fun j t ht => by
        rw [Tryz.params6] at ht
        have hm : t ∈ [22] := by simpa using Array.mem_of_getElem? ht
        have hall : ([22].all fun u => !Tryz.prog.wantsStandIn u) = true := by kernel_rfl
        exact (show Tryz.prog.wantsStandIn t = false by simpa using List.all_eq_true.1 hall t hm)⟩)
    (by kernel_rfl)

end Go.Proofs.YtfcbamfkfadabaaGreatDoor.JNp
