/- Texts that belong together. -/
import Derived.Deep.SlicePairs
import Derived.Test.YtghhlcioabdpfaaDoorZd
import Derived.Test.YtghhlcioabdpfaaDoorZp
import Derived.Test.YtghhlcioabdpfaaDoorZw
set_option linter.unusedSimpArgs false
set_option linter.unusedVariables false
set_option maxRecDepth 100000
namespace Go.Proofs.YtghhlcioabdpfaaDoor
open Go.Gov Go.ChangeShapes Go.WideShapes

theorem pure_nilA {P : Program} {f : FuncId} {args l : List AV} (k : Nat) (h : Gov.Pure P f args (.tup (.agg [nilS] :: l)) []) : Gov.Pure P f args (.tup (.agg [.sl 0 k 0 0] :: l)) [some []] :=
  fun g w vals hp hl hr => (h g w vals hp hl hr).mono fun _ w' ⟨v, g', av, H', he, hm, hx, hext, hk, hk2⟩ => by
    subst hk hk2
    have hm2 := nil_obj hm.hp
    refine ⟨v, _, _, _, he, hm.trans hm2, ?_, hext, rfl, rfl⟩
    have hx' := hm2.lift _ _ hx
    have e1 : (g'.add ([] : Heap).length none []).tr ([] ++ [some ([] : List AV)]) 0 = some (some (none, 0)) := by
      have e1 : (([] : Heap) ++ [some ([] : List AV)])[0]? = some (some []) := by simp
      rw [Gh.tr_some e1]
      simp [Gh.add]
    cases hx' with
    | tup hl' hr' =>
      refine .tup (by simpa using hl') fun m hm' => ?_
      match m, hm' with
      | 0, _ =>
        have h1 := hr' 0 (by simp)
        simp only [List.getElem_cons_zero] at h1 ⊢
        generalize Array.getD _ _ _ = u at h1 ⊢
        cases h1 with
        | agg hl2 hr2 =>
          refine .agg (by simpa using hl2) fun j hj => ?_
          simp only [List.length_cons, List.length_nil, Nat.zero_add] at hj
          obtain rfl : j = 0 := by omega
          have h2 := hr2 0 (by simp)
          simp only [List.getElem_cons_zero] at h2 ⊢
          rw [h2.val_inv.1]
          refine .sl (by rw [e1]; rfl) rfl fun l hl => ?_
          rw [e1] at hl
          obtain rfl := Option.some.inj (Option.some.inj hl)
          exact ⟨by dsimp only; omega, rfl, none, rfl⟩
      | m + 1, hm' =>
        have h1 := hr' (m + 1) (by simpa using hm')
        simpa using h1
end Go.Proofs.YtghhlcioabdpfaaDoor
