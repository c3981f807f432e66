/- Texts that belong together. -/
import Derived.Test.YtfcbamfkfadabaaGreatDoorRc
set_option linter.unusedSimpArgs false
set_option linter.unusedVariables false
set_option maxRecDepth 100000
namespace Go.Proofs.YtfcbamfkfadabaaGreatDoor
open Go.Cl
open Classical
theorem wT_len0 : ∀ (r : List UInt8) (T : List (List Tg)), (r.foldl (fun T x => cmT T (bT x)) T).length = szW T.length r
 | [], T => rfl
 | b :: r, T => by
  rw [List.foldl_cons, wT_len0 r, cmT_len]
  rfl
theorem wT_len {w : List UInt8} (h : 1 ≤ w.length) : (wT w).length = szW 1 w := by
 cases w with
 | nil => simp at h
 | cons c r =>
  rw [wT, wT_len0]
  show _ = szW (1 * (bT c).length) r
  rw [Nat.one_mul]
end Go.Proofs.YtfcbamfkfadabaaGreatDoor
