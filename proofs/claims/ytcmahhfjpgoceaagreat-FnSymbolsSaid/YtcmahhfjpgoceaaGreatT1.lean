/- Texts that belong together. -/
import Derived.Below
import Derived.Lib.Strings
import Derived.Test.YtcmahhfjpgoceaaGreatV1
set_option linter.unusedSimpArgs false
set_option linter.unusedVariables false
namespace Go.Gov
variable {P : Program} {N : Nat} {g : Gh} {F : Frame} {H : Heap} {a : Act} {w : World} {M : List Nat}

abbrev gvs (L : List (Nat × List Value)) : List AV := L.map fun p => .gho p.1 p.2
end Go.Gov
set_option maxRecDepth 100000
namespace Go.Gov
variable {P : Program}
abbrev u8 (b : UInt8) : AV := .val (.int .u8 (b.toNat : Int))
theorem strA_one (n : Int) : strA [.val (.int .u8 n)] = some [UInt8.ofNat n.toNat] := rfl
theorem strOk_neq (a b : ByteArray) : strOk .neq a b = True := rfl
theorem strOk_eql (a b : ByteArray) : strOk .eql a b = True := rfl
theorem strOk_add (a b : ByteArray) : strOk .add a b = (a.size + b.size ≤ maxLen) := rfl
theorem strV_neq (a b : ByteArray) : strV .neq a b = .bool (!(a.toList == b.toList)) := rfl
theorem strV_eql (a b : ByteArray) : strV .eql a b = .bool (a.toList == b.toList) := rfl
theorem strV_add (a b : ByteArray) : strV .add a b = .string (a ++ b) := rfl
theorem one_strV (s : ByteArray) : (Value.string s).oneCell' = true := rfl
attribute [go_sem] one_strV strOk_neq strOk_eql strOk_add strV_neq strV_eql strV_add
theorem rnmL_u8 (τ : Nat → Option Nat) (l : List UInt8) : rnmL τ (l.map fun b => u8 b) = l.map fun b => u8 b := by
  rw [rnmL_map, List.map_map]
  rfl
theorem map_frz_u8 (H : Heap) (d : Nat) (l : List UInt8) : (l.map fun b => u8 b).map (frz H (d + 1)) = l.map fun b => u8 b := by
  rw [List.map_map]; rfl
theorem map_shf_u8 (n d : Nat) (l : List UInt8) : (l.map fun b => u8 b).map (shf n (d + 1)) = l.map fun b => u8 b := by
  rw [List.map_map]; rfl
theorem map_shr_u8 (σ : Nat → Nat) (d : Nat) (l : List UInt8) : (l.map fun b => u8 b).map (shr σ (d + 1)) = l.map fun b => u8 b := by
  rw [List.map_map]; rfl
theorem all_nf_u8 (d : Nat) (l : List UInt8) : (l.map fun b => u8 b).all (nf (d + 1)) = true := List.all_eq_true.2 fun x hx => by obtain ⟨_, _, rfl⟩ := List.mem_map.1 hx; rfl
attribute [go_sem] rnmL_u8 map_frz_u8 map_shf_u8 map_shr_u8 all_nf_u8
theorem rnmL_gvs (τ : Nat → Option Nat) (L : List (Nat × List Value)) : rnmL τ (gvs L) = gvs L := by
  rw [rnmL_map, gvs, List.map_map]
  rfl
attribute [go_sem] rnmL_gvs
theorem beq_nil8 (l : List UInt8) : (l == []) = l.isEmpty := by cases l <;> rfl
attribute [go_sem] List.toList_toArray beq_nil8 strA_one
end Go.Gov
