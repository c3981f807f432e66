/- Texts that belong together. -/
import Derived.Test.YtfcbamfkfadabaaGreatDoorZe
set_option linter.unusedSimpArgs false
set_option linter.unusedVariables false
namespace Go.Gov
variable {P : Program} {N : Nat} {g : Gh} {F : Frame} {H : Heap} {a : Act} {w : World} {M : List Nat} {n0 : Nat}

def sole (o : Nat) (H : Heap) : Heap := killL ((List.range H.length).filter fun i => decide (i ≠ o)) H
def ice (o : Nat) (H : Heap) : Nat → AV → AV
  | 0, _ => .any
  | d + 1, .sl o' k off len => if o' = o then frz (sole o H) (d + 1) (.sl o' k off len) else .sl o' k off len
  | d + 1, .ref o' j => if o' = o then frz (sole o H) (d + 1) (.ref o' j) else .ref o' j
  | d + 1, .cnd b x => .cnd b (ice o H d x)
  | d + 1, .agg cs => .agg (cs.map (ice o H d))
  | d + 1, .tup cs => .tup (cs.map (ice o H d))
  | _ + 1, x => x
def iceF (o : Nat) (H : Heap) (F : Frame) : Frame := F.map fun p => (p.1, ice o H 6 p.2)
theorem pureEG {ext : Bool} {f : FuncId} {args args' : List AV} {α : Type} {Q : α → Prop} {x : α → AV} {H0 : α → Heap} {K : AV → Heap → Prop} (h : PureE P f args Q x H0) (ha : args'.map (rnm fun _ => none) = args)
    (hK : ∀ o, Q o → K (rnm (shT H.length) (x o)) (H ++ rnmH H.length (H0 o))) : CallsX P ext f args' H K :=
  ((CallsX.liftG h ha.symm).weak).mono (by rintro av H' ⟨av0, H0', ⟨o, ho, rfl, rfl⟩, rfl, rfl⟩; exact hK o ho)
attribute [go_sem] ice iceF
end Go.Gov
namespace Go.Gov
variable {P : Program} {N : Nat} {g : Gh} {F : Frame} {H : Heap} {a : Act} {w : World} {M : List Nat} {n0 : Nat}

def cI (p : Value × List Int) : AV := .idn p.1 (ints p.2)
abbrev Rw := Value × List Int
abbrev rw0 : Rw := (undef, [])
def Rw.length (p : Rw) : Nat := p.2.length
theorem st_cI (p : Rw) : st (cI p) = ints p.2 := rfl
theorem stOk_cI (p : Rw) : stOk (cI p) = True := rfl
theorem plainC_cI (p : Rw) : plainC (cI p) = true := rfl
theorem getI (S : List Rw) (k : Nat) (h : k < S.length) (d : AV) : (S.map cI).getD k d = cI (S.getD k rw0) := by simp [h]
theorem cellsOf_cI (p : Rw) : cellsOf (cI p) = some [cI p] := rfl
theorem oneA_cI (p : Rw) : oneA (cI p) = true := rfl
theorem getI_cases (S : List Rw) (k : Nat) (d : AV) : (∃ p, (S.map cI).getD k d = cI p ∧ S.getD k rw0 = p) ∨ ((S.map cI).getD k d = d ∧ S.getD k rw0 = rw0) := by
  by_cases h : k < S.length
  · exact .inl ⟨_, getI S k h d, rfl⟩
  · exact .inr ⟨by simp [h], by simp [h]⟩
theorem plainC_getI (S : List Rw) (k : Nat) : plainC ((S.map cI).getD k .any) = true := by
  rcases getI_cases S k .any with ⟨p, h, _⟩ | ⟨h, _⟩ <;> rw [h] <;> rfl
theorem stOk_getI (S : List Rw) (k : Nat) : stOk ((S.map cI).getD k (.slc 1 0 [])) = True := by
  rcases getI_cases S k (.slc 1 0 []) with ⟨p, h, _⟩ | ⟨h, _⟩ <;> rw [h] <;> rfl
theorem st_getI (S : List Rw) (k : Nat) : st ((S.map cI).getD k (.slc 1 0 [])) = ints (S.getD k rw0).2 := by
  rcases getI_cases S k (.slc 1 0 []) with ⟨p, h, h2⟩ | ⟨h, h2⟩ <;> rw [h, h2] <;> rfl
theorem oneA_getI (S : List Rw) (k : Nat) : oneA ((S.map cI).getD k (.slc 1 0 [])) = true := by
  rcases getI_cases S k (.slc 1 0 []) with ⟨p, h, _⟩ | ⟨h, _⟩ <;> rw [h] <;> rfl
theorem cellsOf_getI (S : List Rw) (k : Nat) : cellsOf ((S.map cI).getD k (.slc 1 0 [])) = some [(S.map cI).getD k (.slc 1 0 [])] := by
  rcases getI_cases S k (.slc 1 0 []) with ⟨p, h, _⟩ | ⟨h, _⟩ <;> rw [h] <;> rfl
attribute [go_sem] cellsOf_cI oneA_cI st_cI stOk_cI plainC_cI plainC_getI stOk_getI st_getI oneA_getI cellsOf_getI
end Go.Gov
namespace Go.Gov
variable {P : Program}
end Go.Gov
namespace Go.Gov
variable {P : Program} {N : Nat} {g : Gh} {F : Frame} {H : Heap} {a : Act} {w : World} {M : List Nat} {n0 : Nat}

def WriX (P : Program) (f : FuncId) (args : List AV) (H0 : Heap) {α : Type} (Q : α → Prop) (x : α → AV) (H1 : α → Heap) : Prop := CallsX P true f args H0 fun av H' => ∃ o, Q o ∧ av = x o ∧ H' = H1 o
theorem WriX.weak {f : FuncId} {args : List AV} {H0 : Heap} {α : Type} {Q : α → Prop} {x : α → AV} {H1 : α → Heap} (h : WriX P f args H0 Q x H1) : WriE P f args H0 Q x H1 := CallsX.weak h

end Go.Gov
