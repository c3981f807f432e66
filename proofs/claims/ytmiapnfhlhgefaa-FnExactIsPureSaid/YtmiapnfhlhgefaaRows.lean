/-
  No cell of these rows narrows 'for every input' (looked for: loops, veiled, ifaces, maps, wideKeys, modest, calm, conditions, laid).
  DERIVED. THE GIVEN ROWS OF THIS SEAT. 7 by the template 'for every input the law returns true; each argument reads behind the call as it read before'; 0 by the template 'total and deterministic' (their statements: YtmiapnfhlhgefaaTotals.lean).
  GIVEN WITH THE SEED: the statements are not yours to turn. If you find one false, say at which input.
  Laid BY PROGRAM, IN A SANDBOX (cutbox-rows.mjs): the forced cells as the released guide's own fill.sh prints them over the translation d311e9a94fd2f314… (all of the seat's roots in one cut). By AI agents, Wed Nov 11 2026. No macro, syntax, notation, axiom, sorry.
-/
import Derived.Test.YtmiapnfhlhgefaaChecked
import GoSem.Claim
import GoSem.ClaimJoined
import GoSem.ClaimMapViews
import Derived.JoinedTies
import Derived.KernelRfl
namespace Go.Proofs.Ytmiapnfhlhgefaa
/- THE CELL 'sum', in the pinned program and in every row, IS THE sha256 OF THE DUMP (.gsa) THAT YtmiapnfhlhgefaaProg.lean LOADS. Nothing in Lean hashes anything: it is a label: what it is worth is what the hold of that sum in a sandbox is worth. -/
noncomputable def Try.pinned : Pinned := { name := "ytmiapnfhlhgefaa", sum := "d311e9a94fd2f3147aad9e1bdd7647eeedde9051d9f2df36141395589e5503aa", checked := Try.checked }
namespace Rows
def none {H : Type} : Left H := { results := [], args := [] }

/-- 'laws.FnExactIsPure': WHATEVER THE INPUT: true; the input reads as it did. -/
def fnExactIsPureSpec : ChangeSpec := { name := "fnExactIsPure", fn := fun _ => fun
  | [d] => { results := [.lit (.bool true)], args := [d] }
  | _ => none }
def fnExactIsPureRow : OpenClaim := { program := "ytmiapnfhlhgefaa", sum := "d311e9a94fd2f3147aad9e1bdd7647eeedde9051d9f2df36141395589e5503aa", func := "loop.example/g01108/laws.FnExactIsPure", spec := "fnExactIsPure", unfollowed := true, recurses := true, apart := false }
def FnExactIsPureSaid : Prop := fnExactIsPureRow.holds Try.pinned (OpenSpec.ofChange fnExactIsPureSpec)

/-- ITS FALSE NEIGHBOUR: 'it returns false'. Refute it at one input. -/
def fnExactIsPureWrong : ChangeSpec := { name := "fnExactIsPure", fn := fun _ => fun
  | [d] => { results := [.lit (.bool false)], args := [d] }
  | _ => none }
def FnExactIsPureWrongFalsely : Prop := fnExactIsPureRow.holds Try.pinned (OpenSpec.ofChange fnExactIsPureWrong)

/-- 'laws.FnExactIsEvenPoset': WHATEVER THE INPUT: true; the input reads as it did. -/
def fnExactIsEvenPosetSpec : ChangeSpec := { name := "fnExactIsEvenPoset", fn := fun _ => fun
  | [d] => { results := [.lit (.bool true)], args := [d] }
  | _ => none }
def fnExactIsEvenPosetRow : OpenClaim := { program := "ytmiapnfhlhgefaa", sum := "d311e9a94fd2f3147aad9e1bdd7647eeedde9051d9f2df36141395589e5503aa", func := "loop.example/g01108/laws.FnExactIsEvenPoset", spec := "fnExactIsEvenPoset", unfollowed := true, recurses := true, apart := false }
def FnExactIsEvenPosetSaid : Prop := fnExactIsEvenPosetRow.holds Try.pinned (OpenSpec.ofChange fnExactIsEvenPosetSpec)

/-- ITS FALSE NEIGHBOUR: 'it returns false'. Refute it at one input. -/
def fnExactIsEvenPosetWrong : ChangeSpec := { name := "fnExactIsEvenPoset", fn := fun _ => fun
  | [d] => { results := [.lit (.bool false)], args := [d] }
  | _ => none }
def FnExactIsEvenPosetWrongFalsely : Prop := fnExactIsEvenPosetRow.holds Try.pinned (OpenSpec.ofChange fnExactIsEvenPosetWrong)

/-- 'laws.FnExactBoundaryRanks': WHATEVER THE INPUT: true; the input reads as it did. -/
def fnExactBoundaryRanksSpec : ChangeSpec := { name := "fnExactBoundaryRanks", fn := fun _ => fun
  | [d] => { results := [.lit (.bool true)], args := [d] }
  | _ => none }
def fnExactBoundaryRanksRow : OpenClaim := { program := "ytmiapnfhlhgefaa", sum := "d311e9a94fd2f3147aad9e1bdd7647eeedde9051d9f2df36141395589e5503aa", func := "loop.example/g01108/laws.FnExactBoundaryRanks", spec := "fnExactBoundaryRanks", unfollowed := true, recurses := true, apart := false }
def FnExactBoundaryRanksSaid : Prop := fnExactBoundaryRanksRow.holds Try.pinned (OpenSpec.ofChange fnExactBoundaryRanksSpec)

/-- ITS FALSE NEIGHBOUR: 'it returns false'. Refute it at one input. -/
def fnExactBoundaryRanksWrong : ChangeSpec := { name := "fnExactBoundaryRanks", fn := fun _ => fun
  | [d] => { results := [.lit (.bool false)], args := [d] }
  | _ => none }
def FnExactBoundaryRanksWrongFalsely : Prop := fnExactBoundaryRanksRow.holds Try.pinned (OpenSpec.ofChange fnExactBoundaryRanksWrong)

/-- 'laws.FnExactAreHomologous': WHATEVER THE INPUT: true; the input reads as it did. -/
def fnExactAreHomologousSpec : ChangeSpec := { name := "fnExactAreHomologous", fn := fun _ => fun
  | [d1, d2, d3, d4] => { results := [.lit (.bool true)], args := [d1, d2, d3, d4] }
  | _ => none }
def fnExactAreHomologousRow : OpenClaim := { program := "ytmiapnfhlhgefaa", sum := "d311e9a94fd2f3147aad9e1bdd7647eeedde9051d9f2df36141395589e5503aa", func := "loop.example/g01108/laws.FnExactAreHomologous", spec := "fnExactAreHomologous", unfollowed := true, recurses := true, apart := false }
def FnExactAreHomologousSaid : Prop := fnExactAreHomologousRow.holds Try.pinned (OpenSpec.ofChange fnExactAreHomologousSpec)

/-- ITS FALSE NEIGHBOUR: 'it returns false'. Refute it at one input. -/
def fnExactAreHomologousWrong : ChangeSpec := { name := "fnExactAreHomologous", fn := fun _ => fun
  | [d1, d2, d3, d4] => { results := [.lit (.bool false)], args := [d1, d2, d3, d4] }
  | _ => none }
def FnExactAreHomologousWrongFalsely : Prop := fnExactAreHomologousRow.holds Try.pinned (OpenSpec.ofChange fnExactAreHomologousWrong)

/-- 'laws.FnExactFillingOf': WHATEVER THE INPUT: true; the input reads as it did. -/
def fnExactFillingOfSpec : ChangeSpec := { name := "fnExactFillingOf", fn := fun _ => fun
  | [d1, d2, d3] => { results := [.lit (.bool true)], args := [d1, d2, d3] }
  | _ => none }
def fnExactFillingOfRow : OpenClaim := { program := "ytmiapnfhlhgefaa", sum := "d311e9a94fd2f3147aad9e1bdd7647eeedde9051d9f2df36141395589e5503aa", func := "loop.example/g01108/laws.FnExactFillingOf", spec := "fnExactFillingOf", unfollowed := true, recurses := true, apart := false }
def FnExactFillingOfSaid : Prop := fnExactFillingOfRow.holds Try.pinned (OpenSpec.ofChange fnExactFillingOfSpec)

/-- ITS FALSE NEIGHBOUR: 'it returns false'. Refute it at one input. -/
def fnExactFillingOfWrong : ChangeSpec := { name := "fnExactFillingOf", fn := fun _ => fun
  | [d1, d2, d3] => { results := [.lit (.bool false)], args := [d1, d2, d3] }
  | _ => none }
def FnExactFillingOfWrongFalsely : Prop := fnExactFillingOfRow.holds Try.pinned (OpenSpec.ofChange fnExactFillingOfWrong)

/-- 'laws.FnExactBettiNumbers': WHATEVER THE INPUT: true; the input reads as it did. -/
def fnExactBettiNumbersSpec : ChangeSpec := { name := "fnExactBettiNumbers", fn := fun _ => fun
  | [d] => { results := [.lit (.bool true)], args := [d] }
  | _ => none }
def fnExactBettiNumbersRow : OpenClaim := { program := "ytmiapnfhlhgefaa", sum := "d311e9a94fd2f3147aad9e1bdd7647eeedde9051d9f2df36141395589e5503aa", func := "loop.example/g01108/laws.FnExactBettiNumbers", spec := "fnExactBettiNumbers", unfollowed := true, recurses := true, apart := false }
def FnExactBettiNumbersSaid : Prop := fnExactBettiNumbersRow.holds Try.pinned (OpenSpec.ofChange fnExactBettiNumbersSpec)

/-- ITS FALSE NEIGHBOUR: 'it returns false'. Refute it at one input. -/
def fnExactBettiNumbersWrong : ChangeSpec := { name := "fnExactBettiNumbers", fn := fun _ => fun
  | [d] => { results := [.lit (.bool false)], args := [d] }
  | _ => none }
def FnExactBettiNumbersWrongFalsely : Prop := fnExactBettiNumbersRow.holds Try.pinned (OpenSpec.ofChange fnExactBettiNumbersWrong)

/-- 'laws.FnExactLeastCycle': WHATEVER THE INPUT: true; the input reads as it did. -/
def fnExactLeastCycleSpec : ChangeSpec := { name := "fnExactLeastCycle", fn := fun _ => fun
  | [d] => { results := [.lit (.bool true)], args := [d] }
  | _ => none }
def fnExactLeastCycleRow : OpenClaim := { program := "ytmiapnfhlhgefaa", sum := "d311e9a94fd2f3147aad9e1bdd7647eeedde9051d9f2df36141395589e5503aa", func := "loop.example/g01108/laws.FnExactLeastCycle", spec := "fnExactLeastCycle", unfollowed := true, recurses := true, apart := false }
def FnExactLeastCycleSaid : Prop := fnExactLeastCycleRow.holds Try.pinned (OpenSpec.ofChange fnExactLeastCycleSpec)

/-- ITS FALSE NEIGHBOUR: 'it returns false'. Refute it at one input. -/
def fnExactLeastCycleWrong : ChangeSpec := { name := "fnExactLeastCycle", fn := fun _ => fun
  | [d] => { results := [.lit (.bool false)], args := [d] }
  | _ => none }
def FnExactLeastCycleWrongFalsely : Prop := fnExactLeastCycleRow.holds Try.pinned (OpenSpec.ofChange fnExactLeastCycleWrong)

/- THE SECOND FORM. 'bulk': how many values and letters a reading holds, each counted each time it is reached (what is shared counts as often as it is met; a slice's spare places count too). A statement '..UptoSaid' is the law's where the arguments, and the package variables that the reading takes, are together of bulk at most 1048576: NARROWER than '..Said'. Prove '..Said' where nothing that the law and all that it calls make is longer than what came in: it says more and counts as full. Else prove '..UptoSaid'. A law counts once. -/
mutual
def uptoBulk {H : Type} : DataW H → Nat
  | .lit (.string bytes) => bytes.length + 1
  | .lit _ => 1
  | .nil => 1
  | .ptr d => uptoBulk d + 1
  | .slice elems spare => uptoBulkAll elems + uptoBulkAll spare + 1
  | .agg parts => uptoBulkAll parts + 1
  | .iface _ d => uptoBulk d + 1
  | .map entries => uptoBulkEntries entries + 1
  | .held _ => 1
def uptoBulkAll {H : Type} : List (DataW H) → Nat
  | [] => 0
  | d :: r => uptoBulk d + uptoBulkAll r
def uptoBulkEntries {H : Type} : List (Lit × DataW H) → Nat
  | [] => 0
  | x :: r => uptoBulkEntry x + uptoBulkEntries r
def uptoBulkEntry {H : Type} : Lit × DataW H → Nat
  | (.string bytes, d) => bytes.length + uptoBulk d + 1
  | (_, d) => uptoBulk d + 1
 end
def uptoSmall : (H : Type) → List (DataW H) → Bool := fun _ ds => decide (uptoBulkAll ds ≤ 1048576)
def OpenSpec.upto (s : _root_.Go.ChangeSpec) : _root_.Go.OpenSpec := { _root_.Go.OpenSpec.ofChange s with cond := some uptoSmall }

/-- 'laws.FnExactIsPure', WHERE WHAT IT READS IS OF BULK AT MOST 1048576: true; the input reads as it did. -/
def fnExactIsPureUptoRow : OpenClaim := { program := "ytmiapnfhlhgefaa", sum := "d311e9a94fd2f3147aad9e1bdd7647eeedde9051d9f2df36141395589e5503aa", func := "loop.example/g01108/laws.FnExactIsPure", spec := "fnExactIsPure", unfollowed := true, recurses := true, apart := false, narrowed := true }
def FnExactIsPureUptoSaid : Prop := fnExactIsPureUptoRow.holds Try.pinned (OpenSpec.upto fnExactIsPureSpec)

/-- 'laws.FnExactIsEvenPoset', WHERE WHAT IT READS IS OF BULK AT MOST 1048576: true; the input reads as it did. -/
def fnExactIsEvenPosetUptoRow : OpenClaim := { program := "ytmiapnfhlhgefaa", sum := "d311e9a94fd2f3147aad9e1bdd7647eeedde9051d9f2df36141395589e5503aa", func := "loop.example/g01108/laws.FnExactIsEvenPoset", spec := "fnExactIsEvenPoset", unfollowed := true, recurses := true, apart := false, narrowed := true }
def FnExactIsEvenPosetUptoSaid : Prop := fnExactIsEvenPosetUptoRow.holds Try.pinned (OpenSpec.upto fnExactIsEvenPosetSpec)

/-- 'laws.FnExactBoundaryRanks', WHERE WHAT IT READS IS OF BULK AT MOST 1048576: true; the input reads as it did. -/
def fnExactBoundaryRanksUptoRow : OpenClaim := { program := "ytmiapnfhlhgefaa", sum := "d311e9a94fd2f3147aad9e1bdd7647eeedde9051d9f2df36141395589e5503aa", func := "loop.example/g01108/laws.FnExactBoundaryRanks", spec := "fnExactBoundaryRanks", unfollowed := true, recurses := true, apart := false, narrowed := true }
def FnExactBoundaryRanksUptoSaid : Prop := fnExactBoundaryRanksUptoRow.holds Try.pinned (OpenSpec.upto fnExactBoundaryRanksSpec)

/-- 'laws.FnExactAreHomologous', WHERE WHAT IT READS IS OF BULK AT MOST 1048576: true; the input reads as it did. -/
def fnExactAreHomologousUptoRow : OpenClaim := { program := "ytmiapnfhlhgefaa", sum := "d311e9a94fd2f3147aad9e1bdd7647eeedde9051d9f2df36141395589e5503aa", func := "loop.example/g01108/laws.FnExactAreHomologous", spec := "fnExactAreHomologous", unfollowed := true, recurses := true, apart := false, narrowed := true }
def FnExactAreHomologousUptoSaid : Prop := fnExactAreHomologousUptoRow.holds Try.pinned (OpenSpec.upto fnExactAreHomologousSpec)

/-- 'laws.FnExactFillingOf', WHERE WHAT IT READS IS OF BULK AT MOST 1048576: true; the input reads as it did. -/
def fnExactFillingOfUptoRow : OpenClaim := { program := "ytmiapnfhlhgefaa", sum := "d311e9a94fd2f3147aad9e1bdd7647eeedde9051d9f2df36141395589e5503aa", func := "loop.example/g01108/laws.FnExactFillingOf", spec := "fnExactFillingOf", unfollowed := true, recurses := true, apart := false, narrowed := true }
def FnExactFillingOfUptoSaid : Prop := fnExactFillingOfUptoRow.holds Try.pinned (OpenSpec.upto fnExactFillingOfSpec)

/-- 'laws.FnExactBettiNumbers', WHERE WHAT IT READS IS OF BULK AT MOST 1048576: true; the input reads as it did. -/
def fnExactBettiNumbersUptoRow : OpenClaim := { program := "ytmiapnfhlhgefaa", sum := "d311e9a94fd2f3147aad9e1bdd7647eeedde9051d9f2df36141395589e5503aa", func := "loop.example/g01108/laws.FnExactBettiNumbers", spec := "fnExactBettiNumbers", unfollowed := true, recurses := true, apart := false, narrowed := true }
def FnExactBettiNumbersUptoSaid : Prop := fnExactBettiNumbersUptoRow.holds Try.pinned (OpenSpec.upto fnExactBettiNumbersSpec)

/-- 'laws.FnExactLeastCycle', WHERE WHAT IT READS IS OF BULK AT MOST 1048576: true; the input reads as it did. -/
def fnExactLeastCycleUptoRow : OpenClaim := { program := "ytmiapnfhlhgefaa", sum := "d311e9a94fd2f3147aad9e1bdd7647eeedde9051d9f2df36141395589e5503aa", func := "loop.example/g01108/laws.FnExactLeastCycle", spec := "fnExactLeastCycle", unfollowed := true, recurses := true, apart := false, narrowed := true }
def FnExactLeastCycleUptoSaid : Prop := fnExactLeastCycleUptoRow.holds Try.pinned (OpenSpec.upto fnExactLeastCycleSpec)

end Rows
end Go.Proofs.Ytmiapnfhlhgefaa
