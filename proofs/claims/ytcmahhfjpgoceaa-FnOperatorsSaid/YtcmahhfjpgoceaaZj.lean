/- Texts that belong together. -/
import Derived.Shelf.SlGeneric
import Derived.Shelf.SlicesE.Delete
import Derived.Ground.SlgnProg
import Derived.Shelf.Bits.Mul64
import Derived.Ground.NamesProg
import Derived.Test.YtcmahhfjpgoceaaProg
import Derived.Test.YtcmahhfjpgoceaaZe
import Derived.Test.YtcmahhfjpgoceaaZf
set_option linter.unusedSimpArgs false
set_option linter.unusedVariables false
set_option maxRecDepth 100000
namespace Go.Proofs.Ytcmahhfjpgoceaa
open Go.Gov

theorem l01In_c (n lo hi : Int) : Pure Try.prog 62 [i64 n, i64 lo, i64 hi] (bl (decide (lo ≤ n) && decide (n ≤ hi))) [] := by
  refine pureV ok62 rfl ?_; unfold c62
  (refine RN ?_; try with_reducible exact trivial)
theorem within_c (n lo hi : Int) : Pure Try.prog 30 [i64 n, i64 lo, i64 hi] (bl (decide (lo ≤ n) && decide (n ≤ hi))) [] := by
  refine pureV ok30 rfl ?_; unfold c30
  (refine RN ?_; try with_reducible exact trivial)
theorem size_c (xs : List Int) (hl : xs.length ≤ 1099511627776) : Pure Try.prog 33 [ints xs] (i64 xs.length) [] := by
  refine pureV ok33 rfl ?_; unfold c33
  (refine RN ?_; try with_reducible exact trivial)

def idx (xs : List Int) (n : Int) : Int := if n ∈ xs then xs.idxOf n else -1
end Go.Proofs.Ytcmahhfjpgoceaa
set_option maxRecDepth 100000
namespace Go.Proofs.Ytcmahhfjpgoceaa
open Go.Gov

def left (b : Int) (n : Nat) : Int := if (n : Int) ≤ b then b - n else -1
end Go.Proofs.Ytcmahhfjpgoceaa
set_option maxRecDepth 100000
namespace Go.Proofs.Ytcmahhfjpgoceaa
open Go.Gov

end Go.Proofs.Ytcmahhfjpgoceaa
set_option maxRecDepth 100000
namespace Go.Proofs
open Go.Shelf
def Try.delL_ren : Go.Shelf.Ren := ⟨fun | 45 => 60 | n => n, fun | 22 => 24 | 23 => 28 | 3 => 3 | 4 => 4 | 0 => 0 | n => n, fun | n => n⟩
theorem Try.delL : Go.Proofs.SlLaysE.n45 Try.prog Try.delL_ren := {
  mixed := by kernel_rfl
  f45 := ⟨Try.f60.name, by decide, Try.func60.trans (congrArg some (by kernel_rfl))⟩
  t0 := Try.underlying0
  a0 := Try.isAgg0
  z0 := Try.sizeOf0
  v0 := Try.zeroValue0
  t3 := Try.underlying3
  a3 := Try.isAgg3
  z3 := Try.sizeOf3
  v3 := Try.zeroValue3
  t4 := Try.underlying4
  a4 := Try.isAgg4
  z4 := Try.sizeOf4
  v4 := Try.zeroValue4
  t22 := Try.underlying24
  a22 := Try.isAgg24
  z22 := Try.sizeOf24
  v22 := Try.zeroValue24
  a23 := Try.isAgg28
  z23 := Try.sizeOf28 }
def Try.mulL_ren : Go.Shelf.Ren := ⟨fun | 212 => 59 | 263 => 71 | 264 => 72 | n => n, fun | 46 => 57 | 51 => 99 | 146 => 100 | 53 => 44 | 148 => 102 | n => n, fun | n => n⟩
theorem Try.mulL : Go.Proofs.Lays.n212 Try.prog Try.mulL_ren := {
  mixed := by kernel_rfl
  f212 := Try.func59.trans (congrArg some (by kernel_rfl))
  f263 := Try.func71.trans (congrArg some (by kernel_rfl))
  f264 := Try.func72.trans (congrArg some (by kernel_rfl))
  t46 := Try.underlying57
  a46 := Try.isAgg57
  z46 := Try.sizeOf57
  v46 := Try.zeroValue57
  t51 := Try.underlying99
  a51 := Try.isAgg99
  z51 := Try.sizeOf99
  v51 := Try.zeroValue99
  t53 := Try.underlying44
  a53 := Try.isAgg44
  z53 := Try.sizeOf44
  v53 := Try.zeroValue44
  t146 := Try.underlying100
  a146 := Try.isAgg100
  z146 := Try.sizeOf100
  v146 := Try.zeroValue100
  t148 := Try.underlying102
  a148 := Try.isAgg102
  z148 := Try.sizeOf102
  v148 := Try.zeroValue102 }
end Go.Proofs
