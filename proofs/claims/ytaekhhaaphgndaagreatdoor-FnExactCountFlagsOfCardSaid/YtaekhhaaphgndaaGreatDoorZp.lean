/- Texts that belong together. -/
import Derived.ProofKit
import Derived.Deep.Matrix
import Derived.Lib.SmallJoins
import Derived.Test.YtaekhhaaphgndaaGreatDoorChecked
import Derived.Test.YtaekhhaaphgndaaGreatDoorZd
set_option linter.unusedSimpArgs false
set_option linter.unusedVariables false
set_option maxRecDepth 100000
namespace Go.Gov
open Go.ChangeShapes Go.WideShapes Go.ChangeAt Go.RowKit
def g0 (w:World):Gh:=⟨fun _=>none,fun _=>[],fun b=>b<w.heap.size⟩
theorem cell_spot {w:World}{a:Addr}{v:Value}(h:w.cell? a=some v):a.spot=none∧a.block<w.heap.size:=by
 obtain ⟨b,off,s⟩:=a
 unfold World.cell? at h
 dsimp only at h
 split at h
 ·rename_i c e m hb
  refine ⟨?_,(Array.getElem?_eq_some_iff.1 hb).1⟩
  cases s with
  | none=>rfl
  | some s=>simp at h
 ·cases h
theorem cell_at {w:World}{a:Addr}{v:Value}{i:Nat}(hs:a.spot=none)(h:w.cell? (a.add i)=some v):w.cell? ⟨a.block,a.off+i,none⟩=some v:=by
 obtain ⟨b,off,s⟩:=a
 dsimp only at hs
 subst hs
 by_cases e:i=0
 ·subst e;simpa [Addr.add] using h
 ·simpa [Addr.add,e] using h
theorem rd_rows {K : Type} {enc : TypeId × Value → K} {P : Program} {w : World} {base : Nat} {held : Bool} {t e q : TypeId} {fuel : Nat} {cs : List Value} {x : DataW K × List MemPlace} (ht : P.underlying t = some (.slice e)) (he : P.underlying e = some (.slice q)) (hq : P.underlying q = some (.int .i64)) (ce : P.cellsOf e = 1) (cq : P.cellsOf q = 1)
    (h:DataW.trod enc P w base (fun _=>true) held fuel t cs=some x):∃ v xss,cs=[v]∧xss.length≤maxLen∧(∀ xs∈xss,xs.length≤maxLen)∧∀ tr,Rd w tr (fun b=>b<w.heap.size) (mat xss) v []:=by
 rcases Go.Deep.open_int_rows ht he hq ce cq h with ⟨rfl,_⟩ | ⟨a,len,cap,A,L,C,Z,rfl,hb,hl,hm,_,hrow⟩
 ·exact ⟨_,[],rfl,Nat.zero_le _,by simp,fun tr=>.slc0 (Nat.zero_le _)⟩
 ·refine ⟨_,(List.range len).map fun r=>(Z r).take (L r),rfl,by simp;omega,fun xs hx=>?_,fun tr=>?_⟩
  ·obtain ⟨r,hr,rfl⟩:=List.mem_map.1 hx
   obtain ⟨_,h1,h2,h3,_⟩:=hrow r (by have:=List.mem_range.1 hr;omega)
   rw [List.length_take];omega
  ·show Rd w tr _ (.slc 1 ((List.range len).map fun r=>(Z r).take (L r)).length (((List.range len).map fun r=>(Z r).take (L r)).map ints)) _ []
   rw [show ((List.range len).map fun r=>(Z r).take (L r)).length=len by simp]
   by_cases h0:len=0
   ·subst h0;exact .slc0 hm
   ·obtain ⟨h1,h2⟩:=cell_spot (by simpa [Addr.add] using (hrow 0 (by omega)).1)
    obtain ⟨b,off,s⟩:=a
    dsimp only at h1 h2
    subst h1
    refine .slc (fun r=>.slice (A r) (L r) (C r)) (by simp) hl hm h2 (fun m hm' => ?_) (fun m hm' => ?_)
    ·simp only [List.length_map,List.length_range] at hm'
     exact cell_at rfl (hrow m (by omega)).1
    ·simp only [List.length_map,List.length_range] at hm'
     obtain ⟨_,g1,g2,g3,_,g4,g5⟩:=hrow m (by omega)
     simp only [List.getElem_map,List.getElem_range]
     show Rd w tr _ (.slc 1 ((Z m).take (L m)).length (intsC ((Z m).take (L m)))) _ []
     rw [show ((Z m).take (L m)).length=L m by rw [List.length_take];omega]
     by_cases hL:L m=0
     ·rw [hL];exact .slc0 g2
     ·cases hA:A m with
      | none=>have:=g4 hA;omega
      | some a' =>
       obtain ⟨_,g6⟩:=g5 a' hA
       obtain ⟨k1,k2⟩:=cell_spot (by simpa [Addr.add] using g6 0 (by omega))
       obtain ⟨b', off', s'⟩:=a'
       dsimp only at k1 k2
       subst k1
       refine .slc (fun c=>.int .i64 ((Z m).getD c 0)) (by simp [intsC];omega) g1 g2 k2 (fun c hc=>?_) (fun c hc=>?_)
       ·simp only [intsC,List.length_map,List.length_take] at hc
        exact cell_at rfl (g6 c (by omega))
       ·simp only [intsC,List.length_map,List.length_take] at hc
        have:(intsC ((Z m).take (L m)))[c]=i64 ((Z m).getD c 0):=by simp [intsC,show c<(Z m).length by omega]
        rw [this]
        exact .val
theorem array1 {α:Type}{cs:Array α}(h:cs.size=1):∃ c0,cs = #[c0]:=by
 obtain ⟨l⟩:=cs
 match l,h with
 | [c0],_=>exact ⟨c0,rfl⟩
theorem open_agg1 {K : Type} {enc : TypeId × Value → K} {P : Program} {w : World} {base : Nat} {spare : Nat → Bool} {held : Bool} {r : Reach} {b0 : Nat} {t : TypeId} {f0 : Field} {v : Value} {d : DataW K} {p : List MemPlace} (hs : P.underlying t = some (.struct #[f0])) (hone : Go.Deep.oneCellFields P #[f0] = true) (hC : P.cellsOf t = 1)
    (hv:Value.okWide P w r b0 t v) (h:DataW.Trod enc P w base spare held t v d p):
    ∃ (v0:Value) (y0:DataW K×List MemPlace) (n:Nat),v = .agg #[v0]∧d = .agg [y0.1]∧p=y0.2∧DataW.trod enc P w base spare held n f0.type [v0]=some y0:=by
 obtain ⟨cs,rfl,hsz⟩:=okWide_struct hs hv
 obtain ⟨c0,rfl⟩:=array1 (hsz.trans hC)
 obtain ⟨fuel,hf⟩:=h
 obtain ⟨y0,n,hx,_,h0⟩:=trod_struct1 hs hf
 obtain ⟨o0,k0⟩:=Go.Deep.hone_of hone 0 f0 rfl
 simp only [Prod.mk.injEq] at hx
 exact ⟨c0,y0,n,rfl,hx.1,hx.2,by simpa [Value.cells,o0,k0] using h0⟩
theorem post_of_new {K : Type} {enc : TypeId × Value → K} {P : Program} {f : Func} {s : ChangeSpec} {apart fresh handsOn again : Bool} {W W' : World} {args : Array Value} {v : Value} {ds gs : List (DataW K)} {before pa pv : List MemPlace}
    (hW:DataW.Whole enc P f.params.toList s.vars apart W args.toList ds gs before)
    (hres:∀ (b:Nat) (sp:Nat→Bool) (hd:Bool),DataW.TrodAll enc P W' b sp hd f.resultTypes.toList (v.resultList f.resultTypes.size) (s.fn K (ds++gs)).results [])
    (hargs:∀ sp:Nat→Bool,(∀ p∈before,sp p.block=true)→DataW.TrodAll enc P W' 0 sp true f.params.toList args.toList (s.fn K (ds++gs)).args pa)
    (hvars:∀ sp:Nat→Bool,(∀ p∈before,sp p.block=true)→DataW.TrodVars enc P W' sp s.vars (s.fn K (ds++gs)).vars pv)
    (hps:before=pa++pv) (hk:W.keptBut W' (· ∈ before)) (hfz:∀ a,a.block<W.heap.size→W'.frozen? a=W.frozen? a)
    (hok:∀ (j:Nat) (t:TypeId) (r:Value),f.resultTypes[j]? = some t→(v.resultList f.resultTypes.size)[j]? = some r→Value.okWide P W' .any 0 t r):
    s.post enc P f apart fresh handsOn again W args v W' := by
 have hlt:=hW.lt
 have hall:∀ p∈before,decide (p.block<W.heap.size)=true:=fun p hp=>by simpa using hlt p hp
 refine ⟨ds,gs,before,[],pa,pv,hW,hres _ _ _,hargs _ hall,hvars _ hall,World.keptBut_mono (fun p hp=>⟨hp,.inr (List.mem_append.1 (hps ▸ hp))⟩) hk,fun _=>?_⟩
 obtain ⟨_,_,_,_,_,hz,hn⟩:=hW
 have hin:∀ p,p∈([]++pa)++pv→p∈before:=fun p hp=>by rw [hps];simpa using hp
 refine ⟨hok,_,_,([]++pa)++pv,⟨[]++pa,pv,trodAll_append (hargs _ fun _ _=>rfl) (hres _ _ _),hvars _ fun _ _=>rfl,rfl,fun b off hp=>?_,fun ha=>?_⟩,fun p hp _=>hin p hp⟩
 ·rw [hfz _ (hlt _ (hin _ hp))]
  exact hz b off (hin _ hp)
 ·have:=hn ha
  rw [hps] at this
  simpa using this
end Go.Gov
namespace Go.Proofs.YtaekhhaaphgndaaGreatDoor
theorem Tryz.own:ownKnob Tryz.prog.godebug=none:=by kernel_rfl
theorem Tryz.laidOut:laidOutB Tryz.prog=true:=by kernel_rfl
end Go.Proofs.YtaekhhaaphgndaaGreatDoor
