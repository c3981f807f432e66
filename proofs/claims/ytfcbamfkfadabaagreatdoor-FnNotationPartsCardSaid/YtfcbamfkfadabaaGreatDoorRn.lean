/- Texts that belong together. -/
import Derived.Test.YtfcbamfkfadabaaGreatDoorZj
import Derived.Test.YtfcbamfkfadabaaGreatDoorZk
import Derived.Test.YtfcbamfkfadabaaGreatDoorZt
import Derived.Test.YtfcbamfkfadabaaGreatDoorR2
set_option linter.unusedSimpArgs false
set_option linter.unusedVariables false
set_option maxRecDepth 100000
namespace Go.Proofs.YtfcbamfkfadabaaGreatDoor
open Go.Gov Go.Ce
open Classical

end Go.Proofs.YtfcbamfkfadabaaGreatDoor
set_option maxRecDepth 100000
namespace Go.Proofs.YtfcbamfkfadabaaGreatDoor
open Go.Gov Go.Ce
open Classical

end Go.Proofs.YtfcbamfkfadabaaGreatDoor
set_option maxRecDepth 100000
namespace Go.Proofs.YtfcbamfkfadabaaGreatDoor
open Go.Gov Go.Ce
open Classical

end Go.Proofs.YtfcbamfkfadabaaGreatDoor
set_option maxRecDepth 100000
namespace Go.Proofs.YtfcbamfkfadabaaGreatDoor
open Go.Gov Go.Ce
open Classical

end Go.Proofs.YtfcbamfkfadabaaGreatDoor
set_option maxRecDepth 100000
namespace Go.Proofs.YtfcbamfkfadabaaGreatDoor
open Go.Gov Go.Ce
open Classical

end Go.Proofs.YtfcbamfkfadabaaGreatDoor
set_option maxRecDepth 100000
namespace Go.Ce
open Classical
theorem oF_pre (G : Nat) (S : St) : ∀ (k : Nat) (O : List Nat) (i : Nat), ∃ L, oF G S k O i = O ++ L
  | 0, O, i => ⟨[], by simp [oF]⟩
  | k + 1, O, i => by
    unfold oF
    split
    · obtain ⟨L, h⟩ := oF_pre G S k (oG S O (O.getD i 0) G) (i + 1)
      obtain ⟨L2, h2⟩ := oG_pre S O (O.getD i 0) G
      exact ⟨L2 ++ L, by rw [h, h2, List.append_assoc]⟩
    · exact ⟨[], by simp⟩
theorem Oi.pre {G : Nat} {S : St} {O : List Nat} {i : Nat} (h : Oi G S O i) : ∃ L, ord G S = O ++ L := by
  obtain ⟨L, hL⟩ := oF_pre G S (2001 - i) O i
  exact ⟨L, by rw [← h.res, hL]⟩
end Go.Ce
namespace Go.Proofs.YtfcbamfkfadabaaGreatDoor
open Go.Gov Go.Ce
open Classical

def iN (n : Int) : AV := i64 n
theorem iN_app (n : Int) : iN n = i64 n := rfl
theorem imap_etaN (l : List (Int × Int)) : imap (fun x => i64 x) l = imap iN l := rfl
attribute [go_sem] iN_app imap_etaN
end Go.Proofs.YtfcbamfkfadabaaGreatDoor
