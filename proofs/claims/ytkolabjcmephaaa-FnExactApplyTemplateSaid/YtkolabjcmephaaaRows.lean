/-
  No cell of these rows narrows 'for every input' (looked for: loops, veiled, ifaces, maps, wideKeys, modest, calm, conditions, laid).
  DERIVED. THE GIVEN ROWS OF THIS SEAT. 6 by the template 'for every input the law returns true; each argument reads behind the call as it read before'; 0 by the template 'total and deterministic' (their statements: YtkolabjcmephaaaTotals.lean).
  GIVEN WITH THE SEED: the statements are not yours to turn. If you find one false, say at which input.
  Laid BY PROGRAM, IN A SANDBOX (cutbox-rows.mjs): the forced cells as the released guide's own fill.sh prints them over the translation d9013b60f39dadeb… (all of the seat's roots in one cut). By AI agents, Wed Nov 11 2026. No macro, syntax, notation, axiom, sorry.
-/
import Derived.Test.YtkolabjcmephaaaChecked
import GoSem.Claim
import GoSem.ClaimJoined
import GoSem.ClaimMapViews
import Derived.JoinedTies
import Derived.KernelRfl
namespace Go.Proofs.Ytkolabjcmephaaa
/- THE CELL 'sum', in the pinned program and in every row, IS THE sha256 OF THE DUMP (.gsa) THAT YtkolabjcmephaaaProg.lean LOADS. Nothing in Lean hashes anything: it is a label: what it is worth is what the hold of that sum in a sandbox is worth. -/
noncomputable def Try.pinned : Pinned := { name := "ytkolabjcmephaaa", sum := "d9013b60f39dadebd787a49a8ee0035e9b39dcd1ec3a6901063949547e46c968", checked := Try.checked }
namespace Rows
def none {H : Type} : Left H := { results := [], args := [] }

/-- 'laws.FnExactVertexDegrees': WHATEVER THE INPUT: true; the input reads as it did. -/
def fnExactVertexDegreesSpec : ChangeSpec := { name := "fnExactVertexDegrees", fn := fun _ => fun
  | [d] => { results := [.lit (.bool true)], args := [d] }
  | _ => none }
def fnExactVertexDegreesRow : OpenClaim := { program := "ytkolabjcmephaaa", sum := "d9013b60f39dadebd787a49a8ee0035e9b39dcd1ec3a6901063949547e46c968", func := "loop.example/g01108/laws.FnExactVertexDegrees", spec := "fnExactVertexDegrees", apart := false }
def FnExactVertexDegreesSaid : Prop := fnExactVertexDegreesRow.holds Try.pinned (OpenSpec.ofChange fnExactVertexDegreesSpec)

/-- ITS FALSE NEIGHBOUR: 'it returns false'. Refute it at one input. -/
def fnExactVertexDegreesWrong : ChangeSpec := { name := "fnExactVertexDegrees", fn := fun _ => fun
  | [d] => { results := [.lit (.bool false)], args := [d] }
  | _ => none }
def FnExactVertexDegreesWrongFalsely : Prop := fnExactVertexDegreesRow.holds Try.pinned (OpenSpec.ofChange fnExactVertexDegreesWrong)

/-- 'laws.FnExactSurfaceOf': WHATEVER THE INPUT: true; the input reads as it did. -/
def fnExactSurfaceOfSpec : ChangeSpec := { name := "fnExactSurfaceOf", fn := fun _ => fun
  | [d] => { results := [.lit (.bool true)], args := [d] }
  | _ => none }
def fnExactSurfaceOfRow : OpenClaim := { program := "ytkolabjcmephaaa", sum := "d9013b60f39dadebd787a49a8ee0035e9b39dcd1ec3a6901063949547e46c968", func := "loop.example/g01108/laws.FnExactSurfaceOf", spec := "fnExactSurfaceOf", unfollowed := true, recurses := true, apart := false }
def FnExactSurfaceOfSaid : Prop := fnExactSurfaceOfRow.holds Try.pinned (OpenSpec.ofChange fnExactSurfaceOfSpec)

/-- ITS FALSE NEIGHBOUR: 'it returns false'. Refute it at one input. -/
def fnExactSurfaceOfWrong : ChangeSpec := { name := "fnExactSurfaceOf", fn := fun _ => fun
  | [d] => { results := [.lit (.bool false)], args := [d] }
  | _ => none }
def FnExactSurfaceOfWrongFalsely : Prop := fnExactSurfaceOfRow.holds Try.pinned (OpenSpec.ofChange fnExactSurfaceOfWrong)

/-- 'laws.FnExactRotationOf': WHATEVER THE INPUT: true; the input reads as it did. -/
def fnExactRotationOfSpec : ChangeSpec := { name := "fnExactRotationOf", fn := fun _ => fun
  | [d] => { results := [.lit (.bool true)], args := [d] }
  | _ => none }
def fnExactRotationOfRow : OpenClaim := { program := "ytkolabjcmephaaa", sum := "d9013b60f39dadebd787a49a8ee0035e9b39dcd1ec3a6901063949547e46c968", func := "loop.example/g01108/laws.FnExactRotationOf", spec := "fnExactRotationOf", unfollowed := true, recurses := true, apart := false }
def FnExactRotationOfSaid : Prop := fnExactRotationOfRow.holds Try.pinned (OpenSpec.ofChange fnExactRotationOfSpec)

/-- ITS FALSE NEIGHBOUR: 'it returns false'. Refute it at one input. -/
def fnExactRotationOfWrong : ChangeSpec := { name := "fnExactRotationOf", fn := fun _ => fun
  | [d] => { results := [.lit (.bool false)], args := [d] }
  | _ => none }
def FnExactRotationOfWrongFalsely : Prop := fnExactRotationOfRow.holds Try.pinned (OpenSpec.ofChange fnExactRotationOfWrong)

/-- 'laws.FnExactSymbolAt': WHATEVER THE INPUT: true; the input reads as it did. -/
def fnExactSymbolAtSpec : ChangeSpec := { name := "fnExactSymbolAt", fn := fun _ => fun
  | [d1, d2] => { results := [.lit (.bool true)], args := [d1, d2] }
  | _ => none }
def fnExactSymbolAtRow : OpenClaim := { program := "ytkolabjcmephaaa", sum := "d9013b60f39dadebd787a49a8ee0035e9b39dcd1ec3a6901063949547e46c968", func := "loop.example/g01108/laws.FnExactSymbolAt", spec := "fnExactSymbolAt", apart := false }
def FnExactSymbolAtSaid : Prop := fnExactSymbolAtRow.holds Try.pinned (OpenSpec.ofChange fnExactSymbolAtSpec)

/-- ITS FALSE NEIGHBOUR: 'it returns false'. Refute it at one input. -/
def fnExactSymbolAtWrong : ChangeSpec := { name := "fnExactSymbolAt", fn := fun _ => fun
  | [d1, d2] => { results := [.lit (.bool false)], args := [d1, d2] }
  | _ => none }
def FnExactSymbolAtWrongFalsely : Prop := fnExactSymbolAtRow.holds Try.pinned (OpenSpec.ofChange fnExactSymbolAtWrong)

/-- 'laws.FnExactApplyTemplate': WHATEVER THE INPUT: true; the input reads as it did. -/
def fnExactApplyTemplateSpec : ChangeSpec := { name := "fnExactApplyTemplate", fn := fun _ => fun
  | [d1, d2] => { results := [.lit (.bool true)], args := [d1, d2] }
  | _ => none }
def fnExactApplyTemplateRow : OpenClaim := { program := "ytkolabjcmephaaa", sum := "d9013b60f39dadebd787a49a8ee0035e9b39dcd1ec3a6901063949547e46c968", func := "loop.example/g01108/laws.FnExactApplyTemplate", spec := "fnExactApplyTemplate", unfollowed := true, recurses := true, apart := false }
def FnExactApplyTemplateSaid : Prop := fnExactApplyTemplateRow.holds Try.pinned (OpenSpec.ofChange fnExactApplyTemplateSpec)

/-- ITS FALSE NEIGHBOUR: 'it returns false'. Refute it at one input. -/
def fnExactApplyTemplateWrong : ChangeSpec := { name := "fnExactApplyTemplate", fn := fun _ => fun
  | [d1, d2] => { results := [.lit (.bool false)], args := [d1, d2] }
  | _ => none }
def FnExactApplyTemplateWrongFalsely : Prop := fnExactApplyTemplateRow.holds Try.pinned (OpenSpec.ofChange fnExactApplyTemplateWrong)

/-- 'laws.FnExactCommonSymbol': WHATEVER THE INPUT: true; the input reads as it did. -/
def fnExactCommonSymbolSpec : ChangeSpec := { name := "fnExactCommonSymbol", fn := fun _ => fun
  | [d] => { results := [.lit (.bool true)], args := [d] }
  | _ => none }
def fnExactCommonSymbolRow : OpenClaim := { program := "ytkolabjcmephaaa", sum := "d9013b60f39dadebd787a49a8ee0035e9b39dcd1ec3a6901063949547e46c968", func := "loop.example/g01108/laws.FnExactCommonSymbol", spec := "fnExactCommonSymbol", apart := false }
def FnExactCommonSymbolSaid : Prop := fnExactCommonSymbolRow.holds Try.pinned (OpenSpec.ofChange fnExactCommonSymbolSpec)

/-- ITS FALSE NEIGHBOUR: 'it returns false'. Refute it at one input. -/
def fnExactCommonSymbolWrong : ChangeSpec := { name := "fnExactCommonSymbol", fn := fun _ => fun
  | [d] => { results := [.lit (.bool false)], args := [d] }
  | _ => none }
def FnExactCommonSymbolWrongFalsely : Prop := fnExactCommonSymbolRow.holds Try.pinned (OpenSpec.ofChange fnExactCommonSymbolWrong)

/- THE SECOND FORM. 'bulk': how many values and letters a reading holds, each counted each time it is reached (what is shared counts as often as it is met; a slice's spare places count too). A statement '..UptoSaid' is the law's where the arguments, and the package variables that the reading takes, are together of bulk at most 1048576: NARROWER than '..Said'. Prove '..Said' where nothing that the law and all that it calls make is longer than what came in: it says more and counts as full. Else prove '..UptoSaid'. A law counts once. -/
mutual
def uptoBulk {H : Type} : DataW H → Nat
  | .lit (.string bytes) => bytes.length + 1
  | .lit _ => 1
  | .nil => 1
  | .ptr d => uptoBulk d + 1
  | .slice elems spare => uptoBulkAll elems + uptoBulkAll spare + 1
  | .agg parts => uptoBulkAll parts + 1
  | .iface _ d => uptoBulk d + 1
  | .map entries => uptoBulkEntries entries + 1
  | .held _ => 1
def uptoBulkAll {H : Type} : List (DataW H) → Nat
  | [] => 0
  | d :: r => uptoBulk d + uptoBulkAll r
def uptoBulkEntries {H : Type} : List (Lit × DataW H) → Nat
  | [] => 0
  | x :: r => uptoBulkEntry x + uptoBulkEntries r
def uptoBulkEntry {H : Type} : Lit × DataW H → Nat
  | (.string bytes, d) => bytes.length + uptoBulk d + 1
  | (_, d) => uptoBulk d + 1
 end
def uptoSmall : (H : Type) → List (DataW H) → Bool := fun _ ds => decide (uptoBulkAll ds ≤ 1048576)
def OpenSpec.upto (s : _root_.Go.ChangeSpec) : _root_.Go.OpenSpec := { _root_.Go.OpenSpec.ofChange s with cond := some uptoSmall }

/-- 'laws.FnExactVertexDegrees', WHERE WHAT IT READS IS OF BULK AT MOST 1048576: true; the input reads as it did. -/
def fnExactVertexDegreesUptoRow : OpenClaim := { program := "ytkolabjcmephaaa", sum := "d9013b60f39dadebd787a49a8ee0035e9b39dcd1ec3a6901063949547e46c968", func := "loop.example/g01108/laws.FnExactVertexDegrees", spec := "fnExactVertexDegrees", apart := false, narrowed := true }
def FnExactVertexDegreesUptoSaid : Prop := fnExactVertexDegreesUptoRow.holds Try.pinned (OpenSpec.upto fnExactVertexDegreesSpec)

/-- 'laws.FnExactSurfaceOf', WHERE WHAT IT READS IS OF BULK AT MOST 1048576: true; the input reads as it did. -/
def fnExactSurfaceOfUptoRow : OpenClaim := { program := "ytkolabjcmephaaa", sum := "d9013b60f39dadebd787a49a8ee0035e9b39dcd1ec3a6901063949547e46c968", func := "loop.example/g01108/laws.FnExactSurfaceOf", spec := "fnExactSurfaceOf", unfollowed := true, recurses := true, apart := false, narrowed := true }
def FnExactSurfaceOfUptoSaid : Prop := fnExactSurfaceOfUptoRow.holds Try.pinned (OpenSpec.upto fnExactSurfaceOfSpec)

/-- 'laws.FnExactRotationOf', WHERE WHAT IT READS IS OF BULK AT MOST 1048576: true; the input reads as it did. -/
def fnExactRotationOfUptoRow : OpenClaim := { program := "ytkolabjcmephaaa", sum := "d9013b60f39dadebd787a49a8ee0035e9b39dcd1ec3a6901063949547e46c968", func := "loop.example/g01108/laws.FnExactRotationOf", spec := "fnExactRotationOf", unfollowed := true, recurses := true, apart := false, narrowed := true }
def FnExactRotationOfUptoSaid : Prop := fnExactRotationOfUptoRow.holds Try.pinned (OpenSpec.upto fnExactRotationOfSpec)

/-- 'laws.FnExactSymbolAt', WHERE WHAT IT READS IS OF BULK AT MOST 1048576: true; the input reads as it did. -/
def fnExactSymbolAtUptoRow : OpenClaim := { program := "ytkolabjcmephaaa", sum := "d9013b60f39dadebd787a49a8ee0035e9b39dcd1ec3a6901063949547e46c968", func := "loop.example/g01108/laws.FnExactSymbolAt", spec := "fnExactSymbolAt", apart := false, narrowed := true }
def FnExactSymbolAtUptoSaid : Prop := fnExactSymbolAtUptoRow.holds Try.pinned (OpenSpec.upto fnExactSymbolAtSpec)

/-- 'laws.FnExactApplyTemplate', WHERE WHAT IT READS IS OF BULK AT MOST 1048576: true; the input reads as it did. -/
def fnExactApplyTemplateUptoRow : OpenClaim := { program := "ytkolabjcmephaaa", sum := "d9013b60f39dadebd787a49a8ee0035e9b39dcd1ec3a6901063949547e46c968", func := "loop.example/g01108/laws.FnExactApplyTemplate", spec := "fnExactApplyTemplate", unfollowed := true, recurses := true, apart := false, narrowed := true }
def FnExactApplyTemplateUptoSaid : Prop := fnExactApplyTemplateUptoRow.holds Try.pinned (OpenSpec.upto fnExactApplyTemplateSpec)

/-- 'laws.FnExactCommonSymbol', WHERE WHAT IT READS IS OF BULK AT MOST 1048576: true; the input reads as it did. -/
def fnExactCommonSymbolUptoRow : OpenClaim := { program := "ytkolabjcmephaaa", sum := "d9013b60f39dadebd787a49a8ee0035e9b39dcd1ec3a6901063949547e46c968", func := "loop.example/g01108/laws.FnExactCommonSymbol", spec := "fnExactCommonSymbol", apart := false, narrowed := true }
def FnExactCommonSymbolUptoSaid : Prop := fnExactCommonSymbolUptoRow.holds Try.pinned (OpenSpec.upto fnExactCommonSymbolSpec)

end Rows
end Go.Proofs.Ytkolabjcmephaaa
