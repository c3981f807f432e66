/- Texts that belong together. -/
import Derived.Below
import Derived.Lib.Strings
import Derived.Test.YtfcbamfkfadabaaGreatV1
set_option linter.unusedSimpArgs false
set_option linter.unusedVariables false
namespace Go.Gov
variable {P : Program} {N : Nat} {g : Gh} {F : Frame} {H : Heap} {a : Act} {w : World} {M : List Nat}

abbrev gvs (L : List (Nat × List Value)) : List AV := L.map fun p => .gho p.1 p.2
end Go.Gov
set_option maxRecDepth 100000
namespace Go.Gov
variable {P : Program}
def bA (l : List UInt8) : ByteArray := ⟨l.toArray⟩
abbrev sV (l : List UInt8) : AV := .val (.string (bA l))
abbrev u8 (b : UInt8) : AV := .val (.int .u8 (b.toNat : Int))
theorem bA_of (a : Array UInt8) : ByteArray.mk a = bA a.toList := by simp [bA]
theorem bA_size (l : List UInt8) : (bA l).size = l.length := by simp [bA, ByteArray.size]
theorem bA_data (l : List UInt8) : (bA l).data.toList = l := by simp [bA]
theorem bA_all (s : ByteArray) : bA s.data.toList = s := by simp [bA]
theorem bA_toList (l : List UInt8) : (bA l).toList = l := by rw [Go.Lib.toList_data, bA_data]
theorem bA_ext (l : List UInt8) (i j : Nat) : (bA l).extract i j = bA ((l.take j).drop i) := by
  have : ((bA l).extract i j).data.toList = (l.take j).drop i := by
    simp [bA, ByteArray.extract, ByteArray.copySlice, List.drop_take, List.extract_eq_take_drop]
  rw [← bA_all ((bA l).extract i j), this]
theorem strA_one (n : Int) : strA [.val (.int .u8 n)] = some [UInt8.ofNat n.toNat] := rfl
theorem strOk_neq (a b : ByteArray) : strOk .neq a b = True := rfl
theorem strOk_eql (a b : ByteArray) : strOk .eql a b = True := rfl
theorem strOk_add (a b : ByteArray) : strOk .add a b = (a.size + b.size ≤ maxLen) := rfl
theorem strV_neq (a b : ByteArray) : strV .neq a b = .bool (!(a.toList == b.toList)) := rfl
theorem strV_eql (a b : ByteArray) : strV .eql a b = .bool (a.toList == b.toList) := rfl
theorem strV_add (a b : ByteArray) : strV .add a b = .string (a ++ b) := rfl
theorem one_strV (s : ByteArray) : (Value.string s).oneCell' = true := rfl
attribute [go_sem] one_strV strOk_neq strOk_eql strOk_add strV_neq strV_eql strV_add
theorem rnmL_u8 (τ : Nat → Option Nat) (l : List UInt8) : rnmL τ (l.map fun b => u8 b) = l.map fun b => u8 b := by
  rw [rnmL_map, List.map_map]
  rfl
theorem map_frz_u8 (H : Heap) (d : Nat) (l : List UInt8) : (l.map fun b => u8 b).map (frz H (d + 1)) = l.map fun b => u8 b := by
  rw [List.map_map]; rfl
theorem map_shf_u8 (n d : Nat) (l : List UInt8) : (l.map fun b => u8 b).map (shf n (d + 1)) = l.map fun b => u8 b := by
  rw [List.map_map]; rfl
theorem map_shr_u8 (σ : Nat → Nat) (d : Nat) (l : List UInt8) : (l.map fun b => u8 b).map (shr σ (d + 1)) = l.map fun b => u8 b := by
  rw [List.map_map]; rfl
theorem all_nf_u8 (d : Nat) (l : List UInt8) : (l.map fun b => u8 b).all (nf (d + 1)) = true := List.all_eq_true.2 fun x hx => by obtain ⟨_, _, rfl⟩ := List.mem_map.1 hx; rfl
attribute [go_sem] rnmL_u8 map_frz_u8 map_shf_u8 map_shr_u8 all_nf_u8
theorem rnmL_gvs (τ : Nat → Option Nat) (L : List (Nat × List Value)) : rnmL τ (gvs L) = gvs L := by
  rw [rnmL_map, gvs, List.map_map]
  rfl
attribute [go_sem] rnmL_gvs
theorem beq_nil8 (l : List UInt8) : (l == []) = l.isEmpty := by cases l <;> rfl
attribute [go_sem] bA_of List.toList_toArray beq_nil8 strA_one bA_size bA_data bA_toList bA_ext
end Go.Gov
set_option maxRecDepth 100000
namespace Go.Gov
def sVs (L : List (List UInt8)) : List AV := L.map sV
theorem len_sVs (L : List (List UInt8)) : (sVs L).length = L.length := by simp [sVs]
theorem getD_sVs (L : List (List UInt8)) (i : Nat) : (sVs L).getD i (.val (.string (bA []))) = sV (L.getD i []) := by
  simp only [sVs, List.getD_eq_getElem?_getD, List.getElem?_map]
  cases L[i]? <;> rfl
theorem plain_sVs (L : List (List UInt8)) (i : Nat) : plainC ((sVs L).getD i .any) = true := by
  simp only [sVs, List.getD_eq_getElem?_getD, List.getElem?_map]
  cases L[i]? <;> rfl
theorem map_frz_sVs (H : Heap) (d : Nat) (L : List (List UInt8)) : (sVs L).map (frz H (d + 1)) = sVs L := by simp [sVs, frz]
attribute [go_sem] len_sVs getD_sVs plain_sVs map_frz_sVs
end Go.Gov
