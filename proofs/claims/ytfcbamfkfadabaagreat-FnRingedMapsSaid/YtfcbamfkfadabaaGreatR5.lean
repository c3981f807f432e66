/- Texts that belong together. -/
import Derived.Test.YtfcbamfkfadabaaGreatR4
set_option linter.unusedSimpArgs false
set_option linter.unusedVariables false
set_option maxRecDepth 100000
namespace Go.Gov
def u8s (bs : List Int) : List AV := bs.map fun b => .val (.int .u8 b)
theorem len_u8s (xs : List Int) : (u8s xs).length = xs.length := by simp [u8s]
theorem map_frz_u8s (H : Heap) (d : Nat) (xs : List Int) : (u8s xs).map (frz H (d + 1)) = u8s xs := by simp [u8s, frz]
theorem getD_u8s (xs : List Int) (i : Nat) : (u8s xs).getD i (.val (.int .u8 0)) = .val (.int .u8 (xs.getD i 0)) := by
  simp only [u8s, List.getD_eq_getElem?_getD, List.getElem?_map]
  cases xs[i]? <;> rfl
theorem plain_u8s (xs : List Int) (i : Nat) : plainC ((u8s xs).getD i .any) = true := by
  simp only [u8s, List.getD_eq_getElem?_getD, List.getElem?_map]
  cases xs[i]? <;> rfl
theorem rnmL_u8s (τ : Nat → Option Nat) (xs : List Int) : rnmL τ (u8s xs) = u8s xs := by simp [rnmL_map, u8s, rnm]
attribute [go_sem] len_u8s map_frz_u8s getD_u8s plain_u8s rnmL_u8s
def bytA' (bs : List Int) : AV := .slc 1 bs.length (u8s bs)
def srcC (bs : List Int) (a : Nat) (h : Int) : List AV := [bytA' bs, .val (.int .i64 (a : Int)), .val (.int .u64 h)]
theorem rnmL_src (τ : Nat → Option Nat) (bs : List Int) (a : Nat) (h : Int) : rnmL τ (srcC bs a h) = srcC bs a h := by simp [srcC, bytA', go_sem]
attribute [go_sem] rnmL_src
theorem msk24 (x : Int) : 0 ≤ bitsV .and .u64 x 16777215 ∧ bitsV .and .u64 x 16777215 ≤ 16777215 := by
  have h : (BitVec.ofInt 64 x &&& BitVec.ofInt 64 16777215).toNat ≤ 16777215 := by
    rw [BitVec.toNat_and]
    exact Nat.le_trans Nat.and_le_right (by decide)
  generalize hy : (BitVec.ofInt 64 x &&& BitVec.ofInt 64 16777215).toNat = y at h
  have : bitsV .and .u64 x 16777215 = ((y : Int) % 2 ^ 64) := by
    show IntKind.u64.wrap _ = _
    rw [show IntKind.u64.bits = 64 from rfl, hy]
    simp [IntKind.wrap, IntKind.signed, IntKind.bits]
  omega
end Go.Gov
namespace Go.Proofs.YtfcbamfkfadabaaGreat
open Go.Gov Go.Ce
open Classical

structure Byt (bs : List Int) : Prop where
  few : bs.length ≤ 1048576
  by8 : ∀ k, k < bs.length → 0 ≤ bs.getD k 0 ∧ bs.getD k 0 ≤ 255
end Go.Proofs.YtfcbamfkfadabaaGreat
set_option maxRecDepth 100000
namespace Go.Proofs.YtfcbamfkfadabaaGreat
open Go.Gov Go.Ce
open Classical

end Go.Proofs.YtfcbamfkfadabaaGreat
set_option maxRecDepth 100000
namespace Go.Gov
variable {P : Program} {N : Nat} {F : Frame} {H : Heap} {M : List Nat} {n0 : Nat}
theorem map_vwC_src (ks : List Nat) (H : Heap) (bs : List Int) (a : Nat) (h : Int) : (srcC bs a h).map (vwC ks H) = srcC bs a h := by simp [srcC, bytA', vwC, rnm, rnmL_u8s]
attribute [go_sem] map_vwC_src
end Go.Gov
namespace Go.Proofs.YtfcbamfkfadabaaGreat
open Go.Gov Go.Ce
open Classical

end Go.Proofs.YtfcbamfkfadabaaGreat
