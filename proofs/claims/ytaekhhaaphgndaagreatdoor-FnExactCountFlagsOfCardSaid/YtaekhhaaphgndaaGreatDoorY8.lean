/- Texts that belong together. -/
import Derived.Test.YtaekhhaaphgndaaGreatDoorY7
set_option maxHeartbeats 16000000
set_option linter.unusedSimpArgs false
set_option linter.unusedVariables false
set_option maxRecDepth 100000
namespace Go.Proofs.YtaekhhaaphgndaaGreatDoor
section
open Go.Gov
open Classical
theorem l03Flags_p (r:Int)(R:List Int)(B:List (List Int))(hp:IsPos r R B)(F:List (List Int))(hF:F=(allF r R B).take 401):Pure Tryz.prog 40 [posetA r R B] (.tup [.sl 0 1 0 F.length,bl (decide ((F.length:Int)≤400))]) [some (F.map oints)]:=by
 obtain ⟨a1,a2,a3,a4,a5⟩:=hp.rank
 have hal:=l03Alive_p r R B hp
 have hx:=l03Extend_w r R B hp (mkL r R B 0) (mkL_len r R B 0) (fun e he=>by rw [mkL_at r R B 0 e he,decide_eq_decide];exact mk_zero e he) r.toNat [] [] F (by simp) (by simp) (by rw [hF];rfl)
 simp only [List.length_nil,List.map_nil,show intsC []=[] from rfl] at hx
 have hFl:F.length≤401:=by rw [hF,List.length_take];exact Nat.min_le_left _ _
 refine pureRV ok40 rfl ?_;unfold c40
 refine RN ?_
 refine V_altsS [(1,.ref 0 0),(4,.sl 1 1 0 F.length)] [some [i64 r,ints R,mat B],some (F.map oints)] ?_ ?_
 ·repeat' first
    | simp only [go_sem,↓reduceIte,Nat.reduceEqDiff,Nat.reduceAdd,reduceCtorEq]
    | with_reducible refine LT_reg ?_
    | with_reducible refine LT_fin ?_
    | with_reducible exact LT_tt
    | with_reducible refine LT_alt ?_ ?_
    | (with_reducible refine And.intro ?_ ?_;focus first | assumption | omega | grind)
    | (refine pureC (hal) ?_ ?_ ?_;(focus (simp only [go_sem,↓reduceIte,Nat.reduceEqDiff,Nat.reduceAdd,reduceCtorEq]<;>rfl));(focus first | rfl | simp only [go_sem,↓reduceIte,Nat.reduceEqDiff,Nat.reduceAdd,reduceCtorEq]))
    | (refine wriC (hx) [1,2] ?_ ?_ ?_ ?_ ?_;(focus first | rfl | simp);(focus (simp only [go_sem,↓reduceIte,Nat.reduceEqDiff,Nat.reduceAdd,reduceCtorEq]<;>rfl));(focus (simp only [go_sem,↓reduceIte,Nat.reduceEqDiff,Nat.reduceAdd,reduceCtorEq]<;>rfl));(focus first | rfl | simp only [go_sem,↓reduceIte,Nat.reduceEqDiff,Nat.reduceAdd,reduceCtorEq]))
    | (refine wriC (hx) [2,1] ?_ ?_ ?_ ?_ ?_;(focus first | rfl | simp);(focus (simp only [go_sem,↓reduceIte,Nat.reduceEqDiff,Nat.reduceAdd,reduceCtorEq]<;>rfl));(focus (simp only [go_sem,↓reduceIte,Nat.reduceEqDiff,Nat.reduceAdd,reduceCtorEq]<;>rfl));(focus first | rfl | simp only [go_sem,↓reduceIte,Nat.reduceEqDiff,Nat.reduceAdd,reduceCtorEq]))
    | (refine wriC (hx) [1,3] ?_ ?_ ?_ ?_ ?_;(focus first | rfl | simp);(focus (simp only [go_sem,↓reduceIte,Nat.reduceEqDiff,Nat.reduceAdd,reduceCtorEq]<;>rfl));(focus (simp only [go_sem,↓reduceIte,Nat.reduceEqDiff,Nat.reduceAdd,reduceCtorEq]<;>rfl));(focus first | rfl | simp only [go_sem,↓reduceIte,Nat.reduceEqDiff,Nat.reduceAdd,reduceCtorEq]))
    | (refine wriC (hx) [3,1] ?_ ?_ ?_ ?_ ?_;(focus first | rfl | simp);(focus (simp only [go_sem,↓reduceIte,Nat.reduceEqDiff,Nat.reduceAdd,reduceCtorEq]<;>rfl));(focus (simp only [go_sem,↓reduceIte,Nat.reduceEqDiff,Nat.reduceAdd,reduceCtorEq]<;>rfl));(focus first | rfl | simp only [go_sem,↓reduceIte,Nat.reduceEqDiff,Nat.reduceAdd,reduceCtorEq]))
    | (refine wriC (hx) [2,3] ?_ ?_ ?_ ?_ ?_;(focus first | rfl | simp);(focus (simp only [go_sem,↓reduceIte,Nat.reduceEqDiff,Nat.reduceAdd,reduceCtorEq]<;>rfl));(focus (simp only [go_sem,↓reduceIte,Nat.reduceEqDiff,Nat.reduceAdd,reduceCtorEq]<;>rfl));(focus first | rfl | simp only [go_sem,↓reduceIte,Nat.reduceEqDiff,Nat.reduceAdd,reduceCtorEq]))
    | (refine wriC (hx) [3,2] ?_ ?_ ?_ ?_ ?_;(focus first | rfl | simp);(focus (simp only [go_sem,↓reduceIte,Nat.reduceEqDiff,Nat.reduceAdd,reduceCtorEq]<;>rfl));(focus (simp only [go_sem,↓reduceIte,Nat.reduceEqDiff,Nat.reduceAdd,reduceCtorEq]<;>rfl));(focus first | rfl | simp only [go_sem,↓reduceIte,Nat.reduceEqDiff,Nat.reduceAdd,reduceCtorEq]))
  all_goals first | exact Ref.gc1 [0,4] | skip
 ·(refine RN ?_;try with_reducible exact trivial)
  exact Ref.gc1 [1]
theorem l03Pure_c (r : Int) (R : List Int) (B : List (List Int)) (h1 : R.length ≤ 1048576) (F : List (List Int)) (hF : F.length ≤ 401) (hl : ∀ i : Nat, (F.getD i []).length ≤ 5) (hb : ∀ i : Nat, ∀ k, k < (F.getD i []).length → 0 ≤ (F.getD i []).getD k 0 ∧ (F.getD i []).getD k 0 ≤ (R.length : Int) - 1) :
    Pure Tryz.prog 60 [posetA r R B,mat F] (bl (decide (Cov R F))) []:=by
 refine pureV0 ok60 rfl rfl ?_;unfold c60
 refine RN ?_
 refine V_loop (α:=Nat×List Bool) (S:=fun q=>([(1,mat F),(2,.ref 0 0),(5,.sl 1 1 0 q.2.length),(6,i64 (q.2.count true)),(7,i64 q.1)],[some [i64 r,ints R,mat B],some (boolsC q.2)])) (C:=fun q=>q.1≤F.length∧q.2.length=R.length∧∀ e,e<R.length→q.2.getD e false=decide (Sn F q.1 0 e)) (μ:=fun q=>F.length - q.1) (0,List.replicate R.length false) ⟨Nat.zero_le _,by simp,fun e he=>by simp [he,sn_start]⟩ (Ref.to (by simp) (by simp [sub,fget,List.count_replicate])) ?_
 rintro ⟨i,Y⟩ ⟨hi,hY,hYm⟩
 dsimp only at hi hY hYm ⊢
 have hcY:=List.count_le_length (a:=true) (l:=Y)
 refine RN ?_
 refine ⟨fun hc=>?_,fun hc=>?_⟩
 ·(refine RN ?_;try with_reducible exact trivial)
  refine V_loop (α:=Nat×List Bool) (S:=fun q=>([(1,mat F),(2,.ref 0 0),(5,.sl 1 1 0 q.2.length),(6,i64 (q.2.count true)),(7,i64 i),(8,i64 q.1)],[some [i64 r,ints R,mat B],some (boolsC q.2)])) (C:=fun q=>q.1≤(F.getD i []).length∧q.2.length=R.length∧∀ e,e<R.length→q.2.getD e false=decide (Sn F i q.1 e)) (μ:=fun q=>(F.getD i []).length - q.1) (0,Y) ⟨Nat.zero_le _,hY,hYm⟩ (Ref.to (by simp) (by simp [sub,fget])) ?_
  rintro ⟨k,Z⟩ ⟨hk,hZ,hZm⟩
  dsimp only at hk hZ hZm ⊢
  have hcZ:=List.count_le_length (a:=true) (l:=Z)
  have hli:=hl i
  refine RN ?_
  refine ⟨fun hc2=>?_,fun hc2=>?_⟩
  ·have hbk:=hb i k (by omega)
   refine RN ?_
   refine ⟨fun hc3=>?_,fun hc3=>?_⟩
   ·have hcnt:=setT_count Z _ (by omega) hc3
    refine RN ?_
    refine ⟨(k+1,Z.set ((F.getD i []).getD k 0).toNat true),⟨by dsimp only;omega,by simpa using hZ,fun e he=>?_⟩,by dsimp only;omega,Ref.to (by simp) (by dsimp only;rw [hcnt];simp [sub,fget])⟩
    dsimp only
    rw [setT_at Z _ e (by omega),hZm e he,← Bool.decide_or,decide_eq_decide,sn_succ]
    constructor
    ·rintro (rfl | h)
     ·exact .inr (by omega)
     ·exact .inl h
    ·rintro (h | h)
     ·exact .inr h
     ·exact .inl (by omega)
   ·(refine RN ?_;try with_reducible exact trivial)
    refine ⟨(k+1,Z),⟨by dsimp only;omega,hZ,fun e he=>?_⟩,by dsimp only;omega,Ref.to (by simp) (by simp [sub,fget])⟩
    dsimp only
    rw [hZm e he,decide_eq_decide,sn_succ]
    constructor
    ·exact .inl
    ·rintro (h | h)
     ·exact h
     ·obtain rfl:e=((F.getD i []).getD k 0).toNat:=by omega
      exact of_decide_eq_true ((hZm _ he).symm.trans hc3)
  ·(refine RN ?_;try with_reducible exact trivial)
   refine ⟨(i+1,Z),⟨by dsimp only;omega,hZ,fun e he=>?_⟩,by dsimp only;omega,Ref.to (by simp) (by simp [sub,fget])⟩
   dsimp only
   rw [hZm e he,decide_eq_decide,show k=(F.getD i []).length by omega]
   exact sn_row F i e
 ·(refine RN ?_;try with_reducible exact trivial)
  obtain rfl:i=F.length:=by omega
  have hcv:=cov_count hY hYm
  refine congrArg (fun b=>AV.val (.bool b)) ?_
  rw [Bool.eq_iff_iff,decide_eq_true_eq,← hcv]
  simp only [beq_iff_eq]
  omega
end
section
open Go.Gov
open Classical
theorem isBelow_c (r:Int)(R:List Int)(B:List (List Int))(x y:Nat)(hp:IsPos r R B)(hy:y<R.length):Pure Tryz.prog 70 [.pto [i64 r,ints R,mat B] 0,i64 (x:Int),i64 (y:Int)] (bl (decide ((x:Int)∈B.getD y []))) []:=by
 obtain ⟨a1,a2,a3,a4,a5⟩:=hp.rank
 have hrow:=row_500 hp y
 have hs:srt (B.getD y []):=fun j hj=>Int.le_of_lt (lt_of_sst (hp.rows.2 y) j hj)
 refine pureV0 ok70 rfl rfl ?_;unfold c70
 refine RN ?_
 refine pureC1 (binS_c (B.getD y []) x hs (by omega)) ?_
 (refine RN ?_;try with_reducible exact trivial)
theorem indexB_c (Y:List Bool)(hl:Y.length≤1099511627776):Pure Tryz.prog 113 [bools Y,bl false] (i64 (if false∈Y then (Y.findIdx fun b=>b == false:Nat) else -1)) []:=by
 refine pureV0 ok113 rfl rfl ?_;unfold c113
 refine RN ?_
 refine V_loop (α:=Nat) (S:=fun i=>([(0,bools Y),(1,bl false),(6,bools Y),(7,i64 Y.length),(8,i64 i)],[])) (C:=fun i=>i≤Y.length∧∀ j,j<i→Y.getD j false=true) (μ:=fun i=>Y.length - i) 0 ⟨Nat.zero_le _,fun j hj=>by omega⟩ (by exact Ref.frame (by simp [sub,fget])) ?_
 rintro i ⟨hi,hall⟩
 refine RN ?_
 refine ⟨fun hc=>?_,fun hc=>?_⟩
 ·(refine RN ?_;try with_reducible exact trivial)
  refine ⟨fun hc2=>?_,fun hc2=>?_⟩
  ·(refine RN ?_;try with_reducible exact trivial)
   have hi' : i<Y.length:=by omega
   have h3:Y[i]=false:=by
    have:Y.getD i false=false:=by simpa using hc2
    simpa [hi'] using this
   have hm:false∈Y:=h3 ▸ List.getElem_mem hi'
   rw [if_pos hm,(List.findIdx_eq hi').2 ⟨by simp [h3],fun j hj=>?_⟩]
   have:=hall j hj
   simp [show j<Y.length by omega] at this
   simp [this]
  ·(refine RN ?_;try with_reducible exact trivial)
   refine ⟨i+1,⟨by omega,fun j hj=>?_⟩,by omega,by exact Ref.frame (by simp [sub,fget])⟩
   rcases Nat.lt_or_ge j i with h | h
   ·exact hall j h
   ·obtain rfl:j=i:=by omega
    simpa using hc2
 ·(refine RN ?_;try with_reducible exact trivial)
  rw [if_neg fun hm=>?_]
  obtain ⟨j,hj,hje⟩:=List.mem_iff_getElem.1 hm
  have:=hall j (by omega)
  simp [hj,hje] at this
theorem containsB_c (Y:List Bool)(hl:Y.length≤1099511627776):Pure Tryz.prog 89 [bools Y,bl false] (bl (decide (false∈Y))) []:=by
 refine pureV0 ok89 rfl rfl ?_;unfold c89
 refine RN ?_
 refine pureC1 (indexB_c Y hl) ?_
 refine RN ?_
 refine congrArg (fun b=>AV.val (.bool b)) ?_
 by_cases h:false∈Y
 ·simp [h]
 ·simp [h]
theorem isPure_c (r : Int) (R : List Int) (B : List (List Int)) (h1 : R.length ≤ 1048576) (F : List (List Int)) (hF : F.length ≤ 401) (hl : ∀ i : Nat, (F.getD i []).length ≤ 5) (hb : ∀ i : Nat, ∀ k, k < (F.getD i []).length → 0 ≤ (F.getD i []).getD k 0 ∧ (F.getD i []).getD k 0 ≤ (R.length : Int) - 1) :
    Pure Tryz.prog 73 [posetA r R B,mat F] (bl (decide (Cov R F))) []:=by
 refine pureV0 ok73 rfl rfl ?_;unfold c73
 refine RN ?_
 refine V_loop (α:=Nat×List Bool) (S:=fun q=>([(14,mat F),(15,i64 F.length),(5,.sl 1 1 0 q.2.length),(16,i64 q.1)],[some [i64 r,ints R,mat B],some (boolsC q.2)])) (C:=fun q=>q.1≤F.length∧q.2.length=R.length∧∀ e,e<R.length→q.2.getD e false=decide (Sn F q.1 0 e)) (μ:=fun q=>F.length - q.1) (0,List.replicate R.length false) ⟨Nat.zero_le _,by simp,fun e he=>by simp [he,sn_start]⟩ (Ref.to (by simp) (by simp [sub,fget])) ?_
 rintro ⟨i,Y⟩ ⟨hi,hY,hYm⟩
 dsimp only at hi hY hYm ⊢
 refine RN ?_
 refine ⟨fun hc=>?_,fun hc=>?_⟩
 ·have hli:=hl i
  refine RN ?_
  refine V_loop (α:=Nat×List Bool) (S:=fun q=>([(14,mat F),(15,i64 F.length),(5,.sl 1 1 0 q.2.length),(16,i64 i),(20,ints (F.getD i [])),(21,i64 (F.getD i []).length),(22,i64 q.1)],[some [i64 r,ints R,mat B],some (boolsC q.2)])) (C:=fun q=>q.1≤(F.getD i []).length∧q.2.length=R.length∧∀ e,e<R.length→q.2.getD e false=decide (Sn F i q.1 e)) (μ:=fun q=>(F.getD i []).length - q.1) (0,Y) ⟨Nat.zero_le _,hY,hYm⟩ (Ref.to (by simp) (by simp [sub,fget])) ?_
  rintro ⟨k,Z⟩ ⟨hk,hZ,hZm⟩
  dsimp only at hk hZ hZm ⊢
  refine RN ?_
  refine ⟨fun hc2=>?_,fun hc2=>?_⟩
  ·have hbk:=hb i k (by omega)
   refine RN ?_
   refine ⟨(k+1,Z.set ((F.getD i []).getD k 0).toNat true),⟨by dsimp only;omega,by simpa using hZ,fun e he=>?_⟩,by dsimp only;omega,Ref.to (by simp) (by simp [sub,fget])⟩
   dsimp only
   rw [setT_at Z _ e (by omega),hZm e he,← Bool.decide_or,decide_eq_decide,sn_succ]
   constructor
   ·rintro (rfl | h)
    ·exact .inr (by omega)
    ·exact .inl h
   ·rintro (h | h)
    ·exact .inr h
    ·exact .inl (by omega)
  ·(refine RN ?_;try with_reducible exact trivial)
   refine ⟨(i+1,Z),⟨by dsimp only;omega,hZ,fun e he=>?_⟩,by dsimp only;omega,Ref.to (by simp) (by simp [sub,fget])⟩
   dsimp only
   rw [hZm e he,decide_eq_decide,show k=(F.getD i []).length by omega]
   exact sn_row F i e
 ·(refine RN ?_;try with_reducible exact trivial)
  obtain rfl:i=F.length:=by omega
  have hcv:=cov_has hY hYm
  refine pureC1 (containsB_c Y (by omega)) ?_
  refine RN ?_
  refine congrArg (fun b=>AV.val (.bool b)) ?_
  rw [Bool.eq_iff_iff,decide_eq_true_eq,← hcv]
  simp
theorem allF_len {r:Int}{R:List Int}{B:List (List Int)}(hr:r≤5)(i:Nat):((allF r R B).getD i []).length≤5:=by
 by_cases h:i<(allF r R B).length
 ·have:=(allF_mem (r:=r) (R:=R) (B:=B) (List.getElem_mem h)).1
  rw [show (allF r R B).getD i []=(allF r R B)[i] by simp [h]]
  omega
 ·simp [h]
theorem allF_at {r:Int}{R:List Int}{B:List (List Int)}(i k:Nat)(hk:k<((allF r R B).getD i []).length):0≤((allF r R B).getD i []).getD k 0∧((allF r R B).getD i []).getD k 0≤(R.length:Int) - 1:=by
 by_cases h:i<(allF r R B).length
 ·rw [show (allF r R B).getD i []=(allF r R B)[i] by simp [h]] at hk ⊢
  exact (allF_mem (List.getElem_mem h)).2 k hk
 ·simp [h] at hk
end
section
open Go.Gov
open Classical
theorem clone_nil:Pure Tryz.prog 72 [nilS] (.sl 0 1 0 0) [some []]:=by
 refine pureRV ok72 rfl ?_;unfold c72
 refine RN ?_
 have hn:∀ H,nilOf H nilS=some true:=fun _=>rfl
 simp only [hn,Option.getD_some,go_sem,↓reduceIte,Nat.reduceEqDiff,Nat.reduceAdd,reduceCtorEq]
 refine RN ?_
 exact (Ref.nil 0 1 rfl).trans (Ref.to1)
noncomputable def extn (r:Int)(R:List Int)(B:List (List Int))(k:Nat)(start:List Int)(m:Nat):List (List Int):=((nxt r R B start).take m).flatMap fun e:Nat=>exts r R B k (start++[(e:Int)])
theorem extn_all {r:Int}{R:List Int}{B:List (List Int)}(k:Nat)(start:List Int):extn r R B k start (nxt r R B start).length=exts r R B (k+1) start:=by
 unfold extn
 rw [List.take_length]
 rfl
theorem extn_succ {r:Int}{R:List Int}{B:List (List Int)}(k:Nat)(start:List Int)(m:Nat)(h:m<(nxt r R B start).length):extn r R B k start (m+1)=extn r R B k start m++exts r R B k (start++[((nxt r R B start).getD m 0:Int)]):=by
 unfold extn
 rw [List.take_succ_eq_append_getElem h,List.flatMap_append]
 simp [h]
theorem extn_full {r:Int}{R:List Int}{B:List (List Int)}{k m:Nat}{start:List Int}{L Lm:List (List Int)}(h:Lm=(L++extn r R B k start m).take 401)(hl:Lm.length=401):(L++exts r R B (k+1) start).take 401=Lm:=by
 have:exts r R B (k+1) start=extn r R B k start m++((nxt r R B start).drop m).flatMap fun e:Nat=>exts r R B k (start++[(e:Int)]):=by
  unfold extn
  rw [← List.flatMap_append,List.take_append_drop]
  rfl
 rw [this,← List.append_assoc,← take_app,← h,take_full hl]
noncomputable def nxI (r:Int)(R:List Int)(B:List (List Int))(start:List Int):List Int:=(nxt r R B start).map fun e:Nat=>(e:Int)
@[go_sem] def growC (r:Int) (R:List Int) (B U:List (List Int)):List AV:=[.clo 71 [] [.ref 0 0,.pto [i64 r,ints R,mat B] 0,.ref 2 0,.pto [mat U] 0]]
theorem nxI_len (r:Int)(R:List Int)(B:List (List Int))(start:List Int):(nxI r R B start).length=(nxt r R B start).length:=by simp [nxI]
theorem nxI_at (r:Int)(R:List Int)(B:List (List Int))(start:List Int)(m:Nat)(h:m<(nxt r R B start).length):(nxI r R B start).getD m 0=((nxt r R B start).getD m 0:Int):=by simp [nxI,h]
theorem nxt_le (r:Int)(R:List Int)(B:List (List Int))(start:List Int):(nxt r R B start).length≤R.length:=by
 unfold nxt
 refine Nat.le_trans (List.length_filter_le _ _) (by simp)
theorem nxt_at {r:Int}{R:List Int}{B:List (List Int)}{start:List Int}{m:Nat}(h:m<(nxt r R B start).length):(nxt r R B start).getD m 0<R.length∧R.getD ((nxt r R B start).getD m 0) 0=start.length:=by
 have hm:(nxt r R B start)[m]∈nxt r R B start:=List.getElem_mem h
 rw [show (nxt r R B start).getD m 0=(nxt r R B start)[m] by simp [h]]
 generalize (nxt r R B start)[m]=e at hm
 unfold nxt at hm
 have h2:=List.mem_filter.1 hm
 exact ⟨List.mem_range.1 h2.1,(of_decide_eq_true h2.2).1⟩
noncomputable def upI (r:Int)(R:List Int)(B:List (List Int))(x:Nat):List Int:=((List.range R.length).filter fun f=>decide (R.getD f 0=R.getD x 0+1∧Alv r R B f∧(x:Int)∈B.getD f [])).map fun f:Nat=>(f:Int)
theorem nxI_snoc {r:Int}{R:List Int}{B:List (List Int)}{start:List Int}{x:Nat}(h:R.getD x 0=start.length):nxI r R B (start++[(x:Int)])=upI r R B x:=by
 unfold nxI upI nxt
 congr 1
 refine List.filter_congr fun f _=>decide_eq_decide.2 ?_
 rw [h]
 simp
theorem grow_w (r : Int) (R : List Int) (B U : List (List Int)) (hp : IsPos r R B) (hUl : U.length = R.length) (hU : ∀ x, x < R.length → U.getD x [] = upI r R B x) : ∀ (k : Nat) (start : List Int) (L L' : List (List Int)), start.length + (k + 1) = r.toNat → 0 < start.length → L.length ≤ 401 → L' = (L ++ exts r R B (k + 1) start).take 401 →
    Wri Tryz.prog 71 [.sl 3 1 0 start.length,ints (nxI r R B start),.ref 0 0,.pto [i64 r,ints R,mat B] 0,.ref 2 0,.pto [mat U] 0] [some [.sl 1 1 0 L.length],some (L.map oints),some (growC r R B U),some (intsC start)] (.tup []) [some [.sl 4 1 0 L'.length],none,some (growC r R B U),some (intsC start),some (L'.map oints)]:=by
 obtain ⟨a1,a2,a3,a4,a5⟩:=hp.rank
 intro k
 induction k with
 | zero=>
  intro start L L' hk h0 hL hL'
  have hnl:=nxI_len r R B start
  have hnx:=nxt_le r R B start
  refine wriRV ok71 rfl ?_;unfold c71
  refine RN ?_
  refine V_loop (α:=Nat×List (List Int)) (S:=fun q=>([(0,.sl 3 1 0 start.length),(2,.ref 0 0),(3,.pto [i64 r,ints R,mat B] 0),(4,.ref 2 0),(5,.pto [mat U] 0),(11,ints (nxI r R B start)),(12,i64 (nxI r R B start).length),(13,i64 q.1)],[some [.sl 4 1 0 q.2.length],none,some (growC r R B U),some (intsC start),some (q.2.map oints)])) (C:=fun q=>q.1≤(nxt r R B start).length∧q.2=(L++extn r R B 0 start q.1).take 401) (μ:=fun q=>(nxt r R B start).length - q.1) (0,L) ⟨Nat.zero_le _,by rw [show extn r R B 0 start 0=[] from rfl,List.append_nil,List.take_of_length_le hL]⟩ ?_ ?_
  ·refine (Ref.mv 1 (cs:=L.map oints) (F' := [(13,i64 0),(12,i64 (nxI r R B start).length),(11,ints (nxI r R B start)),(0,.sl 3 1 0 start.length),(2,.ref 0 0),(3,.pto [i64 r,ints R,mat B] 0),(4,.ref 2 0),(5,.pto [mat U] 0)]) (H' := [some [.sl 4 1 0 L.length],none,some (growC r R B U),some (intsC start),some (L.map oints)]) rfl (by simp only [go_sem,↓reduceIte,Nat.reduceEqDiff,Nat.reduceAdd,reduceCtorEq]) (by simp [sub,fget,go_sem,↓reduceIte,Nat.reduceEqDiff,Nat.reduceAdd,reduceCtorEq])).trans (Ref.to rfl (by simp [sub,fget,go_sem,↓reduceIte,Nat.reduceEqDiff,Nat.reduceAdd,reduceCtorEq]))
  rintro ⟨m,Lm⟩ ⟨hm,hLm⟩
  dsimp only at hm hLm ⊢
  have hLl:Lm.length≤401:=by rw [hLm,List.length_take];exact Nat.min_le_left _ _
  refine RN ?_
  refine ⟨fun hc=>?_,fun hc=>?_⟩
  ·have hm' : m<(nxt r R B start).length:=by omega
   have he:=nxI_at r R B start m hm'
   have hlt:=nxt_at hm'
   obtain ⟨e,he0⟩:∃ e,(nxt r R B start).getD m 0=e:=⟨_,rfl⟩
   rw [he0] at he hlt
   refine RN ?_
   simp only [he,go_sem,↓reduceIte,Nat.reduceEqDiff,Nat.reduceAdd,reduceCtorEq]
   refine pureC1 (clone_c start h0 (by omega)) ?_
   refine RN ?_
   refine ⟨fun hc2=>?_,fun hc2=>?_⟩
   ·(refine RN ?_;try with_reducible exact trivial)
    obtain rfl:L' = Lm:=hL'.trans (extn_full hLm (by omega))
    exact Ref.gc1 [0,1,2,3,4]
   ·obtain ⟨own,hown⟩:∃ own,own=start++[(e:Int)]:=⟨_,rfl⟩
    have e1:intsC start++[i64 (e:Int)]=intsC own:=by rw [hown];simp [intsC]
    have e2:start.length+1=own.length:=by rw [hown];simp
    have hsz:=size_c own (by omega)
    simp only [e1,e2]
    refine RN ?_
    refine pureC1 (hsz) ?_
    refine RN ?_
    refine ⟨fun hc3=>?_,fun hc3=>by omega⟩
    refine ⟨rfl,by omega,by omega,?_⟩
    refine RN ?_
    refine ⟨(m+1,Lm++[own]),⟨by dsimp only;omega,?_⟩,by dsimp only;omega,?_⟩
    ·dsimp only
     rw [extn_succ _ _ _ hm', he0,← hown,← List.append_assoc,← take_app,← hLm,List.take_of_length_le (by simp [exts];omega)]
     rfl
    ·refine (Ref.close 9 Lm.length 7 (k:=1) (n:=own.length) (cs:=Lm.map oints++[.sl 7 1 0 own.length]) (cs2:=intsC own) rfl (by simp) rfl (by decide) (by simp [intsC])).trans (Ref.gc [0,1,2,3,9] rfl ?_ (by simp [sub,fget,go_sem,↓reduceIte,Nat.reduceEqDiff,Nat.reduceAdd,reduceCtorEq]))
     simp [go_sem,↓reduceIte,Nat.reduceEqDiff,Nat.reduceAdd,reduceCtorEq]
  ·(refine RN ?_;try with_reducible exact trivial)
   obtain rfl:m=(nxt r R B start).length:=by omega
   obtain rfl:L' = Lm:=by rw [hL', hLm,extn_all]
   exact Ref.gc1 [0,1,2,3,4]
 | succ k ih=>
  intro start L L' hk h0 hL hL'
  have hnl:=nxI_len r R B start
  have hnx:=nxt_le r R B start
  refine wriRV ok71 rfl ?_;unfold c71
  refine RN ?_
  refine V_loop (α:=Nat×List (List Int)) (S:=fun q=>([(0,.sl 3 1 0 start.length),(2,.ref 0 0),(3,.pto [i64 r,ints R,mat B] 0),(4,.ref 2 0),(5,.pto [mat U] 0),(11,ints (nxI r R B start)),(12,i64 (nxI r R B start).length),(13,i64 q.1)],[some [.sl 4 1 0 q.2.length],none,some (growC r R B U),some (intsC start),some (q.2.map oints)])) (C:=fun q=>q.1≤(nxt r R B start).length∧q.2=(L++extn r R B (k+1) start q.1).take 401) (μ:=fun q=>(nxt r R B start).length - q.1) (0,L) ⟨Nat.zero_le _,by rw [show extn r R B (k+1) start 0=[] from rfl,List.append_nil,List.take_of_length_le hL]⟩ ?_ ?_
  ·refine (Ref.mv 1 (cs:=L.map oints) (F' := [(13,i64 0),(12,i64 (nxI r R B start).length),(11,ints (nxI r R B start)),(0,.sl 3 1 0 start.length),(2,.ref 0 0),(3,.pto [i64 r,ints R,mat B] 0),(4,.ref 2 0),(5,.pto [mat U] 0)]) (H' := [some [.sl 4 1 0 L.length],none,some (growC r R B U),some (intsC start),some (L.map oints)]) rfl (by simp only [go_sem,↓reduceIte,Nat.reduceEqDiff,Nat.reduceAdd,reduceCtorEq]) (by simp [sub,fget,go_sem,↓reduceIte,Nat.reduceEqDiff,Nat.reduceAdd,reduceCtorEq])).trans (Ref.to rfl (by simp [sub,fget,go_sem,↓reduceIte,Nat.reduceEqDiff,Nat.reduceAdd,reduceCtorEq]))
  rintro ⟨m,Lm⟩ ⟨hm,hLm⟩
  dsimp only at hm hLm ⊢
  have hLl:Lm.length≤401:=by rw [hLm,List.length_take];exact Nat.min_le_left _ _
  refine RN ?_
  refine ⟨fun hc=>?_,fun hc=>?_⟩
  ·have hm' : m<(nxt r R B start).length:=by omega
   have he:=nxI_at r R B start m hm'
   have hlt:=nxt_at hm'
   obtain ⟨e,he0⟩:∃ e,(nxt r R B start).getD m 0=e:=⟨_,rfl⟩
   rw [he0] at he hlt
   refine RN ?_
   simp only [he,go_sem,↓reduceIte,Nat.reduceEqDiff,Nat.reduceAdd,reduceCtorEq]
   refine pureC1 (clone_c start h0 (by omega)) ?_
   refine RN ?_
   refine ⟨fun hc2=>?_,fun hc2=>?_⟩
   ·(refine RN ?_;try with_reducible exact trivial)
    obtain rfl:L' = Lm:=hL'.trans (extn_full hLm (by omega))
    exact Ref.gc1 [0,1,2,3,4]
   ·obtain ⟨own,hown⟩:∃ own,own=start++[(e:Int)]:=⟨_,rfl⟩
    have e1:intsC start++[i64 (e:Int)]=intsC own:=by rw [hown];simp [intsC]
    have e2:start.length+1=own.length:=by rw [hown];simp
    have hsz:=size_c own (by omega)
    simp only [e1,e2]
    refine RN ?_
    refine pureC1 (hsz) ?_
    refine RN ?_
    intro hc3
    obtain ⟨L2,hL2⟩:∃ L2,L2=(L++extn r R B (k+1) start (m+1)).take 401:=⟨_,rfl⟩
    have hx:=ih own Lm L2 (by omega) (by omega) hLl (by rw [hL2,extn_succ _ _ _ hm', he0,← hown,← List.append_assoc,← take_app,← hLm])
    refine ⟨rfl,by omega,by omega,by decide,?_⟩
    rw [hU e hlt.1,← nxI_snoc hlt.2,← hown]
    refine wriCF (hx) [0,4,2,7] (by first | rfl | simp) (by simp only [go_sem,↓reduceIte,Nat.reduceEqDiff,Nat.reduceAdd,reduceCtorEq]<;>rfl) (by simp only [go_sem,↓reduceIte,Nat.reduceEqDiff,Nat.reduceAdd,reduceCtorEq]<;>rfl) ?_
    refine RN ?_
    exact ⟨(m+1,L2),⟨by dsimp only;omega,hL2⟩,by dsimp only;omega,Ref.gc1 [0,1,2,3,8]⟩
  ·(refine RN ?_;try with_reducible exact trivial)
   obtain rfl:m=(nxt r R B start).length:=by omega
   obtain rfl:L' = Lm:=by rw [hL', hLm,extn_all]
   exact Ref.gc1 [0,1,2,3,4]
theorem grow_t (r : Int) (R : List Int) (B U : List (List Int)) (hp : IsPos r R B) (hUl : U.length = R.length) (hU : ∀ x, x < R.length → U.getD x [] = upI r R B x) (start : List Int) (hst : start = []) (L L' : List (List Int)) (hL : L.length ≤ 401) (hL' : L' = (L ++ exts r R B r.toNat start).take 401) :
    Wri Tryz.prog 71 [nilS,ints (nxI r R B start),.ref 0 0,.pto [i64 r,ints R,mat B] 0,.ref 2 0,.pto [mat U] 0] [some [.sl 1 1 0 L.length],some (L.map oints),some (growC r R B U)] (.tup []) [some [.sl 3 1 0 L'.length],none,some (growC r R B U),some (L'.map oints)]:=by
 obtain ⟨a1,a2,a3,a4,a5⟩:=hp.rank
 have hs0:start.length=0:=by rw [hst];rfl
 obtain ⟨k0,hk0⟩:∃ k0,r.toNat=k0+1:=⟨r.toNat - 1,by omega⟩
 rw [hk0] at hL'
 cases k0 with
 | zero=>
  have hnl:=nxI_len r R B start
  have hnx:=nxt_le r R B start
  refine wriRV ok71 rfl ?_;unfold c71
  refine RN ?_
  refine V_loop (α:=Nat×List (List Int)) (S:=fun q=>([(0,nilS),(2,.ref 0 0),(3,.pto [i64 r,ints R,mat B] 0),(4,.ref 2 0),(5,.pto [mat U] 0),(11,ints (nxI r R B start)),(12,i64 (nxI r R B start).length),(13,i64 q.1)],[some [.sl 3 1 0 q.2.length],none,some (growC r R B U),some (q.2.map oints)])) (C:=fun q=>q.1≤(nxt r R B start).length∧q.2=(L++extn r R B 0 start q.1).take 401) (μ:=fun q=>(nxt r R B start).length - q.1) (0,L) ⟨Nat.zero_le _,by rw [show extn r R B 0 start 0=[] from rfl,List.append_nil,List.take_of_length_le hL]⟩ ?_ ?_
  ·refine (Ref.mv 1 (cs:=L.map oints) (F' := [(13,i64 0),(12,i64 (nxI r R B start).length),(11,ints (nxI r R B start)),(0,nilS),(2,.ref 0 0),(3,.pto [i64 r,ints R,mat B] 0),(4,.ref 2 0),(5,.pto [mat U] 0)]) (H' := [some [.sl 3 1 0 L.length],none,some (growC r R B U),some (L.map oints)]) rfl (by simp only [go_sem,↓reduceIte,Nat.reduceEqDiff,Nat.reduceAdd,reduceCtorEq]) (by simp [sub,fget,go_sem,↓reduceIte,Nat.reduceEqDiff,Nat.reduceAdd,reduceCtorEq])).trans (Ref.to rfl (by simp [sub,fget,go_sem,↓reduceIte,Nat.reduceEqDiff,Nat.reduceAdd,reduceCtorEq]))
  rintro ⟨m,Lm⟩ ⟨hm,hLm⟩
  dsimp only at hm hLm ⊢
  have hLl:Lm.length≤401:=by rw [hLm,List.length_take];exact Nat.min_le_left _ _
  refine RN ?_
  refine ⟨fun hc=>?_,fun hc=>?_⟩
  ·have hm' : m<(nxt r R B start).length:=by omega
   have he:=nxI_at r R B start m hm'
   have hlt:=nxt_at hm'
   obtain ⟨e,he0⟩:∃ e,(nxt r R B start).getD m 0=e:=⟨_,rfl⟩
   rw [he0] at he hlt
   refine RN ?_
   simp only [he,go_sem,↓reduceIte,Nat.reduceEqDiff,Nat.reduceAdd,reduceCtorEq]
   refine pureC1 (clone_nil) ?_
   refine RN ?_
   refine ⟨fun hc2=>?_,fun hc2=>?_⟩
   ·(refine RN ?_;try with_reducible exact trivial)
    obtain rfl:L' = Lm:=hL'.trans (extn_full hLm (by omega))
    exact Ref.gc1 [0,1,2,3]
   ·have hown:[(e:Int)]=start++[(e:Int)]:=by rw [hst];rfl
    have hsz:=size_c [(e:Int)] (by simp)
    refine RN ?_
    refine pureC1 (hsz) ?_
    refine RN ?_
    refine ⟨fun hc3=>?_,fun hc3=>by omega⟩
    refine ⟨rfl,by omega,by omega,?_⟩
    refine RN ?_
    refine ⟨(m+1,Lm++[[(e:Int)]]),⟨by dsimp only;omega,?_⟩,by dsimp only;omega,?_⟩
    ·dsimp only
     rw [extn_succ _ _ _ hm', he0,← hown,← List.append_assoc,← take_app,← hLm,List.take_of_length_le (by simp [exts];omega)]
     rfl
    ·refine (Ref.close 8 Lm.length 6 (k:=1) (n:=1) (cs:=Lm.map oints++[.sl 6 1 0 1]) (cs2:=[i64 (e:Int)]) rfl (by simp) rfl (by decide) (by simp)).trans (Ref.gc [0,1,2,8] rfl ?_ (by simp [sub,fget,go_sem,↓reduceIte,Nat.reduceEqDiff,Nat.reduceAdd,reduceCtorEq]))
     simp [go_sem,↓reduceIte,Nat.reduceEqDiff,Nat.reduceAdd,reduceCtorEq]
     rfl
  ·(refine RN ?_;try with_reducible exact trivial)
   obtain rfl:m=(nxt r R B start).length:=by omega
   obtain rfl:L' = Lm:=by rw [hL', hLm,extn_all]
   exact Ref.gc1 [0,1,2,3]
 | succ k=>
  have hnl:=nxI_len r R B start
  have hnx:=nxt_le r R B start
  refine wriRV ok71 rfl ?_;unfold c71
  refine RN ?_
  refine V_loop (α:=Nat×List (List Int)) (S:=fun q=>([(0,nilS),(2,.ref 0 0),(3,.pto [i64 r,ints R,mat B] 0),(4,.ref 2 0),(5,.pto [mat U] 0),(11,ints (nxI r R B start)),(12,i64 (nxI r R B start).length),(13,i64 q.1)],[some [.sl 3 1 0 q.2.length],none,some (growC r R B U),some (q.2.map oints)])) (C:=fun q=>q.1≤(nxt r R B start).length∧q.2=(L++extn r R B (k+1) start q.1).take 401) (μ:=fun q=>(nxt r R B start).length - q.1) (0,L) ⟨Nat.zero_le _,by rw [show extn r R B (k+1) start 0=[] from rfl,List.append_nil,List.take_of_length_le hL]⟩ ?_ ?_
  ·refine (Ref.mv 1 (cs:=L.map oints) (F' := [(13,i64 0),(12,i64 (nxI r R B start).length),(11,ints (nxI r R B start)),(0,nilS),(2,.ref 0 0),(3,.pto [i64 r,ints R,mat B] 0),(4,.ref 2 0),(5,.pto [mat U] 0)]) (H' := [some [.sl 3 1 0 L.length],none,some (growC r R B U),some (L.map oints)]) rfl (by simp only [go_sem,↓reduceIte,Nat.reduceEqDiff,Nat.reduceAdd,reduceCtorEq]) (by simp [sub,fget,go_sem,↓reduceIte,Nat.reduceEqDiff,Nat.reduceAdd,reduceCtorEq])).trans (Ref.to rfl (by simp [sub,fget,go_sem,↓reduceIte,Nat.reduceEqDiff,Nat.reduceAdd,reduceCtorEq]))
  rintro ⟨m,Lm⟩ ⟨hm,hLm⟩
  dsimp only at hm hLm ⊢
  have hLl:Lm.length≤401:=by rw [hLm,List.length_take];exact Nat.min_le_left _ _
  refine RN ?_
  refine ⟨fun hc=>?_,fun hc=>?_⟩
  ·have hm' : m<(nxt r R B start).length:=by omega
   have he:=nxI_at r R B start m hm'
   have hlt:=nxt_at hm'
   obtain ⟨e,he0⟩:∃ e,(nxt r R B start).getD m 0=e:=⟨_,rfl⟩
   rw [he0] at he hlt
   refine RN ?_
   simp only [he,go_sem,↓reduceIte,Nat.reduceEqDiff,Nat.reduceAdd,reduceCtorEq]
   refine pureC1 (clone_nil) ?_
   refine RN ?_
   refine ⟨fun hc2=>?_,fun hc2=>?_⟩
   ·(refine RN ?_;try with_reducible exact trivial)
    obtain rfl:L' = Lm:=hL'.trans (extn_full hLm (by omega))
    exact Ref.gc1 [0,1,2,3]
   ·have hown:[(e:Int)]=start++[(e:Int)]:=by rw [hst];rfl
    have hsz:=size_c [(e:Int)] (by simp)
    refine RN ?_
    refine pureC1 (hsz) ?_
    refine RN ?_
    intro hc3
    obtain ⟨L2,hL2⟩:∃ L2,L2=(L++extn r R B (k+1) start (m+1)).take 401:=⟨_,rfl⟩
    have hx:=(grow_w r R B U hp hUl hU k) [(e:Int)] Lm L2 (by simp;omega) (by simp) hLl (by rw [hL2,extn_succ _ _ _ hm', he0,← hown,← List.append_assoc,← take_app,← hLm])
    refine ⟨rfl,by omega,by omega,by decide,?_⟩
    rw [hU e hlt.1,← nxI_snoc hlt.2,← hown]
    refine wriCF (hx) [0,3,2,6] (by first | rfl | simp) (by simp only [go_sem,↓reduceIte,Nat.reduceEqDiff,Nat.reduceAdd,reduceCtorEq]<;>rfl) (by simp only [go_sem,↓reduceIte,Nat.reduceEqDiff,Nat.reduceAdd,reduceCtorEq]<;>rfl) ?_
    refine RN ?_
    exact ⟨(m+1,L2),⟨by dsimp only;omega,hL2⟩,by dsimp only;omega,Ref.gc1 [0,1,2,7]⟩
  ·(refine RN ?_;try with_reducible exact trivial)
   obtain rfl:m=(nxt r R B start).length:=by omega
   obtain rfl:L' = Lm:=by rw [hL', hLm,extn_all]
   exact Ref.gc1 [0,1,2,3]
end
section
open Go.Gov
open Classical
section
variable (r:Int) (R:List Int) (B:List (List Int))
def upP (e f:Nat):Prop:=R.getD f 0=R.getD e 0+1∧Alv r R B f∧(e:Int)∈B.getD f []
noncomputable def upJ (e j:Nat):List Int:=((List.range j).filter fun f=>decide (upP r R B e f)).map fun f:Nat=>(f:Int)
def rch (e j:Nat):Prop:=R.getD e 0=r - 1∨∃ f,f<j∧upP r R B e f
noncomputable def uT (x:Nat):List (List Int):=(List.range R.length).map fun y=>if x≤y then upI r R B y else []
noncomputable def fsE (j:Nat):List Int:=((List.range j).filter fun e=>decide (R.getD e 0=0∧Alv r R B e)).map fun f:Nat=>(f:Int)
end
variable {r:Int} {R:List Int} {B:List (List Int)}
theorem upJ_yes {e j:Nat}(h:upP r R B e j):upJ r R B e (j+1)=upJ r R B e j++[(j:Int)]:=by
 unfold upJ
 rw [List.range_succ,List.filter_append,List.filter_cons_of_pos (by simpa using h)]
 simp
theorem upJ_no {e j:Nat}(h:¬ upP r R B e j):upJ r R B e (j+1)=upJ r R B e j:=by
 unfold upJ
 rw [List.range_succ,List.filter_append,List.filter_cons_of_neg (by simpa using h)]
 simp
theorem upJ_all (e:Nat):upJ r R B e R.length=upI r R B e:=by
 unfold upJ upI
 congr 1
 exact List.filter_congr fun f _=>decide_eq_decide.2 Iff.rfl
theorem upJ_len (e j:Nat):(upJ r R B e j).length≤j:=by
 unfold upJ
 rw [List.length_map]
 exact Nat.le_trans (List.length_filter_le _ _) (by simp)
theorem upJ_low (hp:IsPos r R B){e:Nat}(he:e<R.length):upJ r R B e (e+1)=[]:=by
 unfold upJ
 rw [List.filter_eq_nil_iff.2 fun f hf=>?_]
 ·rfl
 ·have h1:=List.mem_range.1 hf
  simp only [decide_eq_true_eq]
  intro h
  have:=hp.low f e (by omega) h.2.2
  omega
theorem rch_low (hp:IsPos r R B){e:Nat}(he:e<R.length):rch r R B e (e+1) ↔ R.getD e 0=r - 1:=by
 constructor
 ·rintro (h | ⟨f,h1,h2⟩)
  ·exact h
  ·have:=hp.low f e (by omega) h2.2.2
   omega
 ·exact .inl
theorem rch_yes {e j:Nat}(h:upP r R B e j):rch r R B e (j+1):=.inr ⟨j,by omega,h⟩
theorem rch_no {e j:Nat}(h:¬ upP r R B e j):rch r R B e (j+1) ↔ rch r R B e j:=by
 constructor
 ·rintro (h1 | ⟨f,h1,h2⟩)
  ·exact .inl h1
  ·rcases Nat.lt_or_ge f j with h3 | h3
   ·exact .inr ⟨f,h3,h2⟩
   ·obtain rfl:f=j:=by omega
    exact absurd h2 h
 ·rintro (h1 | ⟨f,h1,h2⟩)
  ·exact .inl h1
  ·exact .inr ⟨f,by omega,h2⟩
theorem rch_all {e:Nat}(he:e<R.length):rch r R B e R.length ↔ Alv r R B e:=by
 constructor
 ·rintro (h | ⟨f,h1,h2,h3,h4⟩)
  ·exact .top he h
  ·exact .up h1 h3 (by omega) h4
 ·intro h
  cases h with
  | top _ h=>exact .inl h
  | up h1 h2 h3 h4=>
   rename_i f
   exact .inr ⟨f,h1,by omega,h2,h4⟩
theorem uT_len (x:Nat):(uT r R B x).length=R.length:=by simp [uT]
theorem uT_at (x y:Nat)(h:y<R.length):(uT r R B x).getD y []=if x≤y then upI r R B y else []:=by
 unfold uT
 rw [List.getD_eq_getElem?_getD,List.getElem?_map,List.getElem?_range h]
 rfl
theorem uT_top:uT r R B R.length=List.replicate R.length []:=by
 refine List.ext_getElem (by simp [uT]) fun e h1 h2=>?_
 simp only [uT,List.getElem_map,List.getElem_range,List.getElem_replicate]
 rw [if_neg]
 simp [uT] at h1
 omega
theorem uT_step {e:Nat}(he:e<R.length):(uT r R B (e+1)).set e (upI r R B e)=uT r R B e:=by
 refine List.ext_getElem (by simp [uT]) fun y h1 h2=>?_
 have hy:y<R.length:=by simpa [uT] using h2
 rw [List.getElem_set]
 simp only [uT,List.getElem_map,List.getElem_range]
 by_cases h:e=y
 ·subst h;simp
 ·rw [if_neg h]
  by_cases h3:e+1≤y
  ·rw [if_pos h3,if_pos (by omega)]
  ·rw [if_neg h3,if_neg (by omega)]
theorem fst_yes {j:Nat}(h:R.getD j 0=0∧Alv r R B j):fsE r R B (j+1)=fsE r R B j++[(j:Int)]:=by
 unfold fsE
 rw [List.range_succ,List.filter_append,List.filter_cons_of_pos (by simpa using h)]
 simp
theorem fst_no {j:Nat}(h:¬ (R.getD j 0=0∧Alv r R B j)):fsE r R B (j+1)=fsE r R B j:=by
 unfold fsE
 rw [List.range_succ,List.filter_append,List.filter_cons_of_neg (by simpa using h)]
 simp
theorem fst_len (j:Nat):(fsE r R B j).length≤j:=by
 unfold fsE
 rw [List.length_map]
 exact Nat.le_trans (List.length_filter_le _ _) (by simp)
theorem fst_all:fsE r R B R.length=nxI r R B []:=by
 unfold fsE nxI nxt
 congr 1
 refine List.filter_congr fun e _=>decide_eq_decide.2 ?_
 simp
end
section
open Go.Gov
open Classical
theorem flagsOf_i (r : Int) (R : List Int) (B : List (List Int)) (hp : IsPos r R B) (h1 : R.length ≤ 1048576) (hl : B.length ≤ 1048576) (hr : ∀ xs ∈ B, xs.length ≤ 1048576) (x : AV) (H1 : Heap) (hxv : x = if (allF r R B).length ≤ 400 then .tup [.sl 0 1 0 (allF r R B).length, i64 0] else .tup [nilS, i64 3]) (hH1 : H1 = if (allF r R B).length ≤ 400 then [some ((allF r R B).map oints)] else []) :
    Pure Tryz.prog 48 [posetA r R B] x H1:=by
 obtain ⟨a1,a2,a3,a4,a5⟩:=hp.rank
 have hrow:=row_500 hp
 refine pureRV ok48 rfl ?_;unfold c48
 refine RN ?_
 refine pureC1 (isPoset_c r R B (by omega) (by omega) (fun xs hx=>Nat.le_trans (hr xs hx) (by omega))) ?_
 rw [decide_eq_true hp]
 refine RN ?_
 refine pureC1 (size_c R (by omega)) ?_
 refine RN ?_
 refine V_loop (α:=Nat×List Bool) (S:=fun q=>([(1,.ref 0 0),(4,i64 R.length),(5,.ref 2 0),(6,.sl 3 1 0 R.length),(7,i64 ((q.1:Int) - 1))],[some [i64 r,ints R,mat B],some ((uT r R B q.1).map oints),some [.sl 1 1 0 R.length],some (boolsC q.2)])) (C:=fun q=>q.1≤R.length∧q.2.length=R.length∧∀ e,q.1≤e→e<R.length→q.2.getD e false=decide (Alv r R B e)) (μ:=fun q=>q.1) (R.length,List.replicate R.length false) ⟨Nat.le_refl _,by simp,fun e h1 h2=>by omega⟩ ?_ ?_
 ·refine (Ref.nils 1 1 R.length rfl).trans (Ref.to ?_ (by simp [sub,fget]))
  simp [uT_top,intsC]
 rintro ⟨x,Y⟩ ⟨hx,hY,hYm⟩
 dsimp only at hx hY hYm ⊢
 refine RN ?_
 refine ⟨fun hc=>?_,fun hc=>?_⟩
 ·obtain ⟨e,rfl⟩:∃ e,x=e+1:=⟨x - 1,by omega⟩
  have he:e<R.length:=by omega
  have hRe:=a5 e he
  rw [show ((e+1:Nat):Int) - 1=(e:Int) by omega]
  refine RN ?_
  have hue:((uT r R B (e+1)).map oints)[e]? = some (.osl 1 0 []):=by
   rw [List.getElem?_map]
   simp [uT,he,intsC]
   exact fun h=>absurd h (by omega)
  refine V_loop (α:=Nat) (S:=fun j=>([(1,.ref 0 0),(4,i64 R.length),(5,.ref 2 0),(6,.sl 3 1 0 R.length),(7,i64 (e:Int)),(8,i64 (j:Int))],[some [i64 r,ints R,mat B],some (((uT r R B (e+1)).map oints).set e (.sl 4 1 0 (upJ r R B e j).length)),some [.sl 1 1 0 R.length],some (boolsC (Y.set e (decide (rch r R B e j)))),some (intsC (upJ r R B e j))])) (C:=fun j=>e+1≤j∧j≤R.length) (μ:=fun j=>R.length - j) (e+1) ⟨Nat.le_refl _,by omega⟩ ?_ ?_
  ·refine (Ref.open 1 e rfl hue).trans (Ref.to ?_ (by simp [sub,fget]))
   simp only [upJ_low hp he,rch_low hp he]
   rw [show (R.getD e 0 == r - 1)=decide (R.getD e 0=r - 1) by rw [Bool.eq_iff_iff];simp]
   simp [intsC]
  rintro j ⟨hj1,hj⟩
  have hYj:j<R.length→(Y.set e (decide (rch r R B e j))).getD j false=decide (Alv r R B j):=fun h=>by
   rw [← hYm j (by omega) h]
   rw [List.getD_eq_getElem?_getD,List.getElem?_set_ne (by omega),List.getD_eq_getElem?_getD]
  have hYe:(Y.set e (decide (rch r R B e j))).length=R.length:=by simpa using hY
  have hul:=upJ_len (r:=r) (R:=R) (B:=B) e j
  generalize hYv:Y.set e (decide (rch r R B e j))=Yv at hYj hYe ⊢
  generalize hcur:upJ r R B e j=cur at hul ⊢
  refine RN ?_
  refine ⟨fun hc2=>?_,fun hc2=>?_⟩
  ·have hj2:j<R.length:=by omega
   have hYj:=hYj hj2
   have hRj:=a5 j hj2
   refine RN ?_
   refine GC1 (bl (decide ((e:Int)∈B.getD j [])) ) (fun hg =>  isBelow_c r R B e j hp hj2) ?_
   refine RN ?_
   refine ⟨fun hc3=>?_,fun hc3=>?_⟩
   ·have hup:upP r R B e j:=⟨by omega,of_decide_eq_true (hYj.symm.trans hc3.1.1),hc3.2⟩
    have hLl:((uT r R B (e+1)).map oints).length=R.length:=by rw [List.length_map,uT_len]
    generalize hLv:(uT r R B (e+1)).map oints=Lv at hLl ⊢
    have hrn:∀ τ,rnmL τ Lv=Lv:=fun τ=>by rw [← hLv];exact rnmL_orows τ _
    have hg:=getD_set_self' Lv e (.sl 4 1 0 cur.length) (.slc 1 0 []) (by omega)
    have hg2:=getD_set_self' Lv e (.sl 4 1 0 cur.length) .any (by omega)
    have hls:(Lv.set e (.sl 4 1 0 cur.length)).length=R.length:=by rw [List.length_set];exact hLl
    refine V_altsS [(1,.ref 0 0),(4,i64 R.length),(5,.ref 2 0),(6,.sl 3 1 0 R.length),(7,i64 (e:Int)),(8,i64 (j:Int))] [some [i64 r,ints R,mat B],some (Lv.set e (.sl 4 1 0 (cur.length+1))),some [.sl 1 1 0 R.length],some (boolsC Yv),some (intsC cur++[i64 (j:Int)])] ?_ ?_
    ·repeat' first
       | simp only [hg,hg2,hls,go_sem,↓reduceIte,Nat.reduceEqDiff,Nat.reduceAdd,reduceCtorEq]
       | with_reducible refine LT_reg ?_
       | with_reducible refine LT_fin ?_
       | with_reducible exact LT_tt
       | with_reducible refine LT_alt ?_ ?_
       | (with_reducible refine And.intro ?_ ?_;focus first | assumption | omega | grind)
     all_goals exact Ref.gc [0,1,2,3,6] rfl (by simp only [rnmL_set,hrn,List.set_set,go_sem,↓reduceIte,Nat.reduceEqDiff,Nat.reduceAdd,reduceCtorEq]) (by simp [sub,fget,go_sem,↓reduceIte,Nat.reduceEqDiff,Nat.reduceAdd,reduceCtorEq])
    ·(refine RN ?_;try with_reducible exact trivial)
     refine ⟨j+1,⟨by omega,by omega⟩,by omega,Ref.to ?_ (by simp [sub,fget])⟩
     rw [upJ_yes hup,hcur,← hYv,decide_eq_true (rch_yes hup),List.set_set]
     simp [intsC]
   ·have hup : ¬ upP r R B e j := fun h => by
      have h3:=hYj.trans (decide_eq_true h.2.1)
      rcases hc3 with (h4 | h4) | h4
      ·rw [h3] at h4;cases h4
      ·exact h4 (by have:=h.1;omega)
      ·exact h4 h.2.2
    refine RN ?_
    refine ⟨j+1,⟨by omega,by omega⟩,by omega,Ref.to ?_ (by simp [sub,fget])⟩
    rw [upJ_no hup,hcur,← hYv,decide_eq_decide.2 (rch_no hup)]
  ·(refine RN ?_;try with_reducible exact trivial)
   obtain rfl:j=R.length:=by omega
   refine ⟨(e,Yv),⟨by dsimp only;omega,hYe,fun y h1 h2=>?_⟩,by dsimp only;omega,?_⟩
   ·dsimp only at h1 ⊢
    rw [← hYv]
    rcases Nat.eq_or_lt_of_le h1 with h3 | h3
    ·subst h3
     rw [getD_set_self' Y e _ false (by omega),decide_eq_decide]
     exact rch_all he
    ·rw [List.getD_eq_getElem?_getD,List.getElem?_set_ne (by omega),← List.getD_eq_getElem?_getD]
     exact hYm y (by omega) h2
   ·refine (Ref.close 1 e 4 (k:=1) (n:=cur.length) (cs:=((uT r R B (e+1)).map oints).set e (.sl 4 1 0 cur.length)) (cs2:=intsC cur) rfl (List.getElem?_set_self (by simp [uT_len];omega)) rfl (by decide) (by simp [intsC])).trans (Ref.gc [0,1,2,3] rfl ?_ (by simp [sub,fget,go_sem,↓reduceIte,Nat.reduceEqDiff,Nat.reduceAdd,reduceCtorEq]))
    have hcu:cur=upI r R B e:=by rw [← hcur,upJ_all]
    have hst:((uT r R B (e+1)).map oints).set e (oints (upI r R B e))=(uT r R B e).map oints:=by rw [← List.map_set,uT_step he]
    simp only [List.set_set,go_sem,↓reduceIte,Nat.reduceEqDiff,Nat.reduceAdd,reduceCtorEq]
    rw [← hst,← hcu]
 ·obtain rfl:x=0:=by omega
  have hYm:∀ e,e<R.length→Y.getD e false=decide (Alv r R B e):=fun e he=>hYm e (Nat.zero_le _) he
  refine RN ?_
  refine V_loop (α:=Nat) (S:=fun j=>([(1,.ref 0 0),(4,i64 R.length),(6,.sl 3 1 0 R.length),(9,.ref 4 0),(10,.ref 5 0),(11,.sl 6 1 0 (fsE r R B j).length),(85,i64 R.length),(86,i64 (j:Int))],[some [i64 r,ints R,mat B],some ((uT r R B 0).map oints),some [.sl 1 1 0 R.length],some (boolsC Y),some [nilS],some [.clo 71 [] [.ref 4 0,.ref 0 0,.ref 5 0,.ref 2 0]],some (intsC (fsE r R B j))])) (C:=fun j=>j≤R.length) (μ:=fun j=>R.length - j) 0 (Nat.zero_le _) ?_ ?_
  ·exact (Ref.nil 11 1 rfl).trans (Ref.to rfl (by simp [sub,fget,fsE]))
  intro j hj
  have hfl:=fst_len (r:=r) (R:=R) (B:=B) j
  refine RN ?_
  refine ⟨fun hc2=>?_,fun hc2=>?_⟩
  ·have hj2:j<R.length:=by omega
   have hRj:=a5 j hj2
   have hYj:=hYm j hj2
   refine RN ?_
   refine ⟨fun hc3=>?_,fun hc3=>?_⟩
   ·have hf:R.getD j 0=0∧Alv r R B j:=⟨hc3.1,of_decide_eq_true (hYj.symm.trans hc3.2)⟩
    refine RN ?_
    refine ⟨j+1,by omega,by omega,Ref.gc [0,1,2,3,4,5,8] rfl ?_ ?_⟩
    ·rw [fst_yes hf,show intsC (fsE r R B j++[(j:Int)])=intsC (fsE r R B j)++[i64 (j:Int)] by simp [intsC]]
     simp only [go_sem,↓reduceIte,Nat.reduceEqDiff,Nat.reduceAdd,reduceCtorEq]
    ·rw [fst_yes hf]
     simp [sub,fget,go_sem,↓reduceIte,Nat.reduceEqDiff,Nat.reduceAdd,reduceCtorEq]
   ·have hf : ¬ (R.getD j 0 = 0 ∧ Alv r R B j) := fun h => by
      have h3:=hYj.trans (decide_eq_true h.2)
      rcases hc3 with h4 | h4
      ·exact h4 h.1
      ·rw [h3] at h4;cases h4
    refine RN ?_
    refine ⟨j+1,by omega,by omega,Ref.to ?_ ?_⟩
    ·rw [fst_no hf]
    ·rw [fst_no hf]
     simp [sub,fget]
  ·obtain rfl:j=R.length:=by omega
   obtain ⟨F,hF⟩:∃ F,F=(allF r R B).take 401:=⟨_,rfl⟩
   have hFl:F.length≤401:=by rw [hF,List.length_take];exact Nat.min_le_left _ _
   have hgr:=grow_t r R B (uT r R B 0) hp (uT_len 0) (fun y hy=>by rw [uT_at 0 y hy,if_pos (Nat.zero_le _)]) [] rfl [] F (by simp) hF
   have htk:∀ Hx:Heap,(List.take R.length ((uT r R B 0).map oints)).map (frz Hx 3)=(uT r R B 0).map ints:=fun Hx=>by
    rw [List.take_of_length_le (by simp [uT_len]),List.map_map]
    refine List.map_congr_left fun z _=>?_
    simp [frz,intsC]
   refine V_ref ((Ref.nilC 4 0 1 (cs:=[nilS]) rfl rfl).trans (Ref.sel [4,7,5] (F' := [(9,.ref 0 0),(10,.ref 2 0),(11,ints (fsE r R B R.length))]) (H' := [some [.sl 1 1 0 0],some [],some (growC r R B (uT r R B 0))]) rfl ?_ ?_)) ?_
   ·simp only [go_sem,↓reduceIte,Nat.reduceEqDiff,Nat.reduceAdd,reduceCtorEq]
    rw [htk]
    simp only [mat,ints,uT_len]
   ·simp only [go_sem,↓reduceIte,Nat.reduceEqDiff,Nat.reduceAdd,reduceCtorEq]
    simp [sub,fget]
   refine RN ?_
   refine ⟨rfl,by decide,?_⟩
   rw [fst_all]
   refine wriCF (hgr) [0,1,2] (by first | rfl | simp) (by simp only [go_sem,↓reduceIte,Nat.reduceEqDiff,Nat.reduceAdd,reduceCtorEq]<;>rfl) (by simp only [go_sem,↓reduceIte,Nat.reduceEqDiff,Nat.reduceAdd,reduceCtorEq]<;>rfl) ?_
   refine RN ?_
   have hmin:F.length=min 401 (allF r R B).length:=by rw [hF,List.length_take]
   refine ⟨fun hc3=>?_,fun hc3=>?_⟩
   ·(refine RN ?_;try with_reducible exact trivial)
    rw [hxv,hH1,if_neg (by omega),if_neg (by omega)]
    exact Ref.gc1 []
   ·(refine RN ?_;try with_reducible exact trivial)
    obtain rfl:F=allF r R B:=by rw [hF,List.take_of_length_le (by omega)]
    rw [hxv,hH1,if_pos (by omega),if_pos (by omega)]
    exact Ref.gc1 [3]
end
end Go.Proofs.YtaekhhaaphgndaaGreatDoor
