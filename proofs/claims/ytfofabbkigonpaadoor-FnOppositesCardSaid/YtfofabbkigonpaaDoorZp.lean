/- Texts that belong together. -/
import Derived.ProofKit
import Derived.Deep.Matrix
import Derived.Lib.SmallJoins
import Derived.Test.YtfofabbkigonpaaDoorChecked
import Derived.Test.YtfofabbkigonpaaDoorZd
set_option linter.unusedSimpArgs false
set_option linter.unusedVariables false
set_option maxRecDepth 100000
namespace Go.Gov
open Go.ChangeShapes Go.WideShapes Go.ChangeAt Go.RowKit
def g0 (w:World):Gh:=⟨fun _=>none,fun _=>[],fun b=>b<w.heap.size⟩
theorem eR {w:World}{a:Addr}{v:Value}(h:w.cell? a=some v):a.spot=none∧a.block<w.heap.size:=by
 obtain ⟨b,off,s⟩:=a
 unfold World.cell? at h
 dsimp only at h
 split at h
 ·rename_i c e m hb
  refine ⟨?_,(Array.getElem?_eq_some_iff.1 hb).1⟩
  cases s with
  | none=>rfl
  | some s=>simp at h
 ·cases h
theorem eQ {w:World}{a:Addr}{v:Value}{i:Nat}(hs:a.spot=none)(h:w.cell? (a.add i)=some v):w.cell? ⟨a.block,a.off+i,none⟩=some v:=by
 obtain ⟨b,off,s⟩:=a
 dsimp only at hs
 subst hs
 by_cases e:i=0
 ·subst e;simpa [Addr.add] using h
 ·simpa [Addr.add,e] using h
theorem sL {K : Type} {enc : TypeId × Value → K} {P : Program} {f : Func} {s : ChangeSpec} {apart fresh handsOn again : Bool} {W W' : World} {args : Array Value} {v : Value} {ds gs : List (DataW K)} {before pa pv : List MemPlace}
    (hW:DataW.Whole enc P f.params.toList s.vars apart W args.toList ds gs before)
    (hres:∀ (b:Nat) (sp:Nat→Bool) (hd:Bool),DataW.TrodAll enc P W' b sp hd f.resultTypes.toList (v.resultList f.resultTypes.size) (s.fn K (ds++gs)).results [])
    (hargs:∀ sp:Nat→Bool,(∀ p∈before,sp p.block=true)→DataW.TrodAll enc P W' 0 sp true f.params.toList args.toList (s.fn K (ds++gs)).args pa)
    (hvars:∀ sp:Nat→Bool,(∀ p∈before,sp p.block=true)→DataW.TrodVars enc P W' sp s.vars (s.fn K (ds++gs)).vars pv)
    (hps:before=pa++pv) (hk:W.keptBut W' (· ∈ before)) (hfz:∀ a,a.block<W.heap.size→W'.frozen? a=W.frozen? a)
    (hok:∀ (j:Nat) (t:TypeId) (r:Value),f.resultTypes[j]? = some t→(v.resultList f.resultTypes.size)[j]? = some r→Value.okWide P W' .any 0 t r):
    s.post enc P f apart fresh handsOn again W args v W' := by
 have hlt:=hW.lt
 have hall:∀ p∈before,decide (p.block<W.heap.size)=true:=fun p hp=>by simpa using hlt p hp
 refine ⟨ds,gs,before,[],pa,pv,hW,hres _ _ _,hargs _ hall,hvars _ hall,World.keptBut_mono (fun p hp=>⟨hp,.inr (List.mem_append.1 (hps ▸ hp))⟩) hk,fun _=>?_⟩
 obtain ⟨_,_,_,_,_,hz,hn⟩:=hW
 have hin:∀ p,p∈([]++pa)++pv→p∈before:=fun p hp=>by rw [hps];simpa using hp
 refine ⟨hok,_,_,([]++pa)++pv,⟨[]++pa,pv,trodAll_append (hargs _ fun _ _=>rfl) (hres _ _ _),hvars _ fun _ _=>rfl,rfl,fun b off hp=>?_,fun ha=>?_⟩,fun p hp _=>hin p hp⟩
 ·rw [hfz _ (hlt _ (hin _ hp))]
  exact hz b off (hin _ hp)
 ·have:=hn ha
  rw [hps] at this
  simpa using this
end Go.Gov
namespace Go.Proofs.YtfofabbkigonpaaDoor
theorem Tryd.own:ownKnob Tryd.prog.godebug=none:=by kernel_rfl
theorem Tryd.laidOut:laidOutB Tryd.prog=true:=by kernel_rfl
end Go.Proofs.YtfofabbkigonpaaDoor
