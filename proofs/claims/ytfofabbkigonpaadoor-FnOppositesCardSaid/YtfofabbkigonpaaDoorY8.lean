/- Texts that belong together. -/
import Derived.Test.YtfofabbkigonpaaDoorY7
set_option maxHeartbeats 16000000
set_option linter.unusedSimpArgs false
set_option linter.unusedVariables false
set_option maxRecDepth 100000
namespace Go.Proofs.YtfofabbkigonpaaDoor
section
open Go.Gov
open Classical
theorem W3 (r:Int)(R:List Int)(B:List (List Int))(x y:Nat)(hp:IsPos r R B)(hy:y<R.length):Ao Tryd.prog 52 [.pto [i64 r,Ad R,Ae B] 0,i64 (x:Int),i64 (y:Int)] (bl (decide ((x:Int)∈B.getD y []))) []:=by
 obtain ⟨a1,a2,a3,a4,a5⟩:=hp.rank
 have hrow:=Zw hp y
 have hs:Gy (B.getD y []):=fun j hj=>Int.le_of_lt (X6 (hp.rows.2 y) j hj)
 refine Gf pS rfl rfl ?_;unfold Ut
 refine RN ?_
 refine An (Tl (B.getD y []) x hs (by omega)) ?_
 (refine RN ?_;try with_reducible exact trivial)
theorem jO (Y:List Bool)(hl:Y.length≤1099511627776):Ao Tryd.prog 90 [M0 Y,bl false] (i64 (if false∈Y then (Y.findIdx fun b=>b == false:Nat) else -1)) []:=by
 refine Gf qN rfl rfl ?_;unfold Vd
 refine RN ?_
 refine Ak (α:=Nat) (S:=fun i=>([(0,M0 Y),(1,bl false),(6,M0 Y),(7,i64 Y.length),(8,i64 i)],[])) (C:=fun i=>i≤Y.length∧∀ j,j<i→Y.getD j false=true) (μ:=fun i=>Y.length - i) 0 ⟨Nat.zero_le _,fun j hj=>by omega⟩ (by exact Ref.frame (by simp [sub,Ac])) ?_
 rintro i ⟨hi,hall⟩
 refine RN ?_
 refine ⟨fun hc=>?_,fun hc=>?_⟩
 ·(refine RN ?_;try with_reducible exact trivial)
  refine ⟨fun hc2=>?_,fun hc2=>?_⟩
  ·(refine RN ?_;try with_reducible exact trivial)
   have hi' : i<Y.length:=by omega
   have h3:Y[i]=false:=by
    have:Y.getD i false=false:=by simpa using hc2
    simpa [hi'] using this
   have hm:false∈Y:=h3 ▸ List.getElem_mem hi'
   rw [if_pos hm,(List.findIdx_eq hi').2 ⟨by simp [h3],fun j hj=>?_⟩]
   have:=hall j hj
   simp [show j<Y.length by omega] at this
   simp [this]
  ·(refine RN ?_;try with_reducible exact trivial)
   refine ⟨i+1,⟨by omega,fun j hj=>?_⟩,by omega,by exact Ref.frame (by simp [sub,Ac])⟩
   rcases Nat.lt_or_ge j i with h | h
   ·exact hall j h
   ·obtain rfl:j=i:=by omega
    simpa using hc2
 ·(refine RN ?_;try with_reducible exact trivial)
  rw [if_neg fun hm=>?_]
  obtain ⟨j,hj,hje⟩:=List.mem_iff_getElem.1 hm
  have:=hall j (by omega)
  simp [hj,hje] at this
theorem fW (Y:List Bool)(hl:Y.length≤1099511627776):Ao Tryd.prog 66 [M0 Y,bl false] (bl (decide (false∈Y))) []:=by
 refine Gf pW rfl rfl ?_;unfold Uw
 refine RN ?_
 refine An (jO Y hl) ?_
 refine RN ?_
 refine congrArg (fun b=>AV.val (.bool b)) ?_
 by_cases h:false∈Y
 ·simp [h]
 ·simp [h]
theorem jW (r : Int) (R : List Int) (B : List (List Int)) (h1 : R.length ≤ 1048576) (F : List (List Int)) (hF : F.length ≤ 401) (hl : ∀ i : Nat, (F.getD i []).length ≤ 5) (hb : ∀ i : Nat, ∀ k, k < (F.getD i []).length → 0 ≤ (F.getD i []).getD k 0 ∧ (F.getD i []).getD k 0 ≤ (R.length : Int) - 1) :
    Ao Tryd.prog 55 [A6 r R B,Ae F] (bl (decide (Jn R F))) []:=by
 refine Gf pT rfl rfl ?_;unfold Uu
 refine RN ?_
 refine Ak (α:=Nat×List Bool) (S:=fun q=>([(14,Ae F),(15,i64 F.length),(5,.sl 1 1 0 q.2.length),(16,i64 q.1)],[some [i64 r,Ad R,Ae B],some (Bc q.2)])) (C:=fun q=>q.1≤F.length∧q.2.length=R.length∧∀ e,e<R.length→q.2.getD e false=decide (Sn F q.1 0 e)) (μ:=fun q=>F.length - q.1) (0,List.replicate R.length false) ⟨Nat.zero_le _,by simp,fun e he=>by simp [he,wQ]⟩ (Ref.to (by simp) (by simp [sub,Ac])) ?_
 rintro ⟨i,Y⟩ ⟨hi,hY,hYm⟩
 dsimp only at hi hY hYm ⊢
 refine RN ?_
 refine ⟨fun hc=>?_,fun hc=>?_⟩
 ·have hli:=hl i
  refine RN ?_
  refine Ak (α:=Nat×List Bool) (S:=fun q=>([(14,Ae F),(15,i64 F.length),(5,.sl 1 1 0 q.2.length),(16,i64 i),(20,Ad (F.getD i [])),(21,i64 (F.getD i []).length),(22,i64 q.1)],[some [i64 r,Ad R,Ae B],some (Bc q.2)])) (C:=fun q=>q.1≤(F.getD i []).length∧q.2.length=R.length∧∀ e,e<R.length→q.2.getD e false=decide (Sn F i q.1 e)) (μ:=fun q=>(F.getD i []).length - q.1) (0,Y) ⟨Nat.zero_le _,hY,hYm⟩ (Ref.to (by simp) (by simp [sub,Ac])) ?_
  rintro ⟨k,Z⟩ ⟨hk,hZ,hZm⟩
  dsimp only at hk hZ hZm ⊢
  refine RN ?_
  refine ⟨fun hc2=>?_,fun hc2=>?_⟩
  ·have hbk:=hb i k (by omega)
   refine RN ?_
   refine ⟨(k+1,Z.set ((F.getD i []).getD k 0).toNat true),⟨by dsimp only;omega,by simpa using hZ,fun e he=>?_⟩,by dsimp only;omega,Ref.to (by simp) (by simp [sub,Ac])⟩
   dsimp only
   rw [vT Z _ e (by omega),hZm e he,← Bool.decide_or,decide_eq_decide,wR]
   constructor
   ·rintro (rfl | h)
    ·exact .inr (by omega)
    ·exact .inl h
   ·rintro (h | h)
    ·exact .inr h
    ·exact .inl (by omega)
  ·(refine RN ?_;try with_reducible exact trivial)
   refine ⟨(i+1,Z),⟨by dsimp only;omega,hZ,fun e he=>?_⟩,by dsimp only;omega,Ref.to (by simp) (by simp [sub,Ac])⟩
   dsimp only
   rw [hZm e he,decide_eq_decide,show k=(F.getD i []).length by omega]
   exact wP F i e
 ·(refine RN ?_;try with_reducible exact trivial)
  obtain rfl:i=F.length:=by omega
  have hcv:=fY hY hYm
  refine An (fW Y (by omega)) ?_
  refine RN ?_
  refine congrArg (fun b=>AV.val (.bool b)) ?_
  rw [Bool.eq_iff_iff,decide_eq_true_eq,← hcv]
  simp
theorem dF {r:Int}{R:List Int}{B:List (List Int)}(hr:r≤5)(i:Nat):((Ax r R B).getD i []).length≤5:=by
 by_cases h:i<(Ax r R B).length
 ·have:=(S7 (r:=r) (R:=R) (B:=B) (List.getElem_mem h)).1
  rw [show (Ax r R B).getD i []=(Ax r R B)[i] by simp [h]]
  omega
 ·simp [h]
theorem S5 {r:Int}{R:List Int}{B:List (List Int)}(i k:Nat)(hk:k<((Ax r R B).getD i []).length):0≤((Ax r R B).getD i []).getD k 0∧((Ax r R B).getD i []).getD k 0≤(R.length:Int) - 1:=by
 by_cases h:i<(Ax r R B).length
 ·rw [show (Ax r R B).getD i []=(Ax r R B)[i] by simp [h]] at hk ⊢
  exact (S7 (List.getElem_mem h)).2 k hk
 ·simp [h] at hk
noncomputable def L6 (r:Int)(R:List Int)(B:List (List Int)):Int:=if IsPos r R B then if (Ax r R B).length≤400 then 0 else 3 else 1
end
section
open Go.Gov
open Classical
theorem Vh:Ao Tryd.prog 54 [Ag] (.sl 0 1 0 0) [some []]:=by
 refine De Yx rfl ?_;unfold Qd
 refine RN ?_
 have hn:∀ H,Eh H Ag=some true:=fun _=>rfl
 simp only [hn,Option.getD_some,go_sem,↓reduceIte,Nat.reduceEqDiff,Nat.reduceAdd,reduceCtorEq]
 refine RN ?_
 exact (Ref.nil 0 1 rfl).trans (Ref.to1)
noncomputable def Dc (r:Int)(R:List Int)(B:List (List Int))(k:Nat)(start:List Int)(m:Nat):List (List Int):=((nxt r R B start).take m).flatMap fun e:Nat=>Cv r R B k (start++[(e:Int)])
theorem Nj {r:Int}{R:List Int}{B:List (List Int)}(k:Nat)(start:List Int):Dc r R B k start (nxt r R B start).length=Cv r R B (k+1) start:=by
 unfold Dc
 rw [List.take_length]
 rfl
theorem Nl {r:Int}{R:List Int}{B:List (List Int)}(k:Nat)(start:List Int)(m:Nat)(h:m<(nxt r R B start).length):Dc r R B k start (m+1)=Dc r R B k start m++Cv r R B k (start++[((nxt r R B start).getD m 0:Int)]):=by
 unfold Dc
 rw [List.take_succ_eq_append_getElem h,List.flatMap_append]
 simp [h]
theorem Nk {r:Int}{R:List Int}{B:List (List Int)}{k m:Nat}{start:List Int}{L Lm:List (List Int)}(h:Lm=(L++Dc r R B k start m).take 401)(hl:Lm.length=401):(L++Cv r R B (k+1) start).take 401=Lm:=by
 have:Cv r R B (k+1) start=Dc r R B k start m++((nxt r R B start).drop m).flatMap fun e:Nat=>Cv r R B k (start++[(e:Int)]):=by
  unfold Dc
  rw [← List.flatMap_append,List.take_append_drop]
  rfl
 rw [this,← List.append_assoc,← Md,← h,xT hl]
noncomputable def Bv (r:Int)(R:List Int)(B:List (List Int))(start:List Int):List Int:=(nxt r R B start).map fun e:Nat=>(e:Int)
@[go_sem] def E1 (r:Int) (R:List Int) (B U:List (List Int)):List AV:=[.clo 53 [] [.ref 0 0,.pto [i64 r,Ad R,Ae B] 0,.ref 2 0,.pto [Ae U] 0]]
theorem Oh (r:Int)(R:List Int)(B:List (List Int))(start:List Int):(Bv r R B start).length=(nxt r R B start).length:=by simp [Bv]
theorem Og (r:Int)(R:List Int)(B:List (List Int))(start:List Int)(m:Nat)(h:m<(nxt r R B start).length):(Bv r R B start).getD m 0=((nxt r R B start).getD m 0:Int):=by simp [Bv,h]
theorem Ol (r:Int)(R:List Int)(B:List (List Int))(start:List Int):(nxt r R B start).length≤R.length:=by
 unfold nxt
 refine Nat.le_trans (List.length_filter_le _ _) (by simp)
theorem Oj {r:Int}{R:List Int}{B:List (List Int)}{start:List Int}{m:Nat}(h:m<(nxt r R B start).length):(nxt r R B start).getD m 0<R.length∧R.getD ((nxt r R B start).getD m 0) 0=start.length:=by
 have hm:(nxt r R B start)[m]∈nxt r R B start:=List.getElem_mem h
 rw [show (nxt r R B start).getD m 0=(nxt r R B start)[m] by simp [h]]
 generalize (nxt r R B start)[m]=e at hm
 unfold nxt at hm
 have h2:=List.mem_filter.1 hm
 exact ⟨List.mem_range.1 h2.1,(of_decide_eq_true h2.2).1⟩
noncomputable def Gk (r:Int)(R:List Int)(B:List (List Int))(x:Nat):List Int:=((List.range R.length).filter fun f=>decide (R.getD f 0=R.getD x 0+1∧C5 r R B f∧(x:Int)∈B.getD f [])).map fun f:Nat=>(f:Int)
theorem Yo {r:Int}{R:List Int}{B:List (List Int)}{start:List Int}{x:Nat}(h:R.getD x 0=start.length):Bv r R B (start++[(x:Int)])=Gk r R B x:=by
 unfold Bv Gk nxt
 congr 1
 refine List.filter_congr fun f _=>decide_eq_decide.2 ?_
 rw [h]
 simp
theorem jF (r : Int) (R : List Int) (B U : List (List Int)) (hp : IsPos r R B) (hUl : U.length = R.length) (hU : ∀ x, x < R.length → U.getD x [] = Gk r R B x) : ∀ (k : Nat) (start : List Int) (L L' : List (List Int)), start.length + (k + 1) = r.toNat → 0 < start.length → L.length ≤ 401 → L' = (L ++ Cv r R B (k + 1) start).take 401 →
    Er Tryd.prog 53 [.sl 3 1 0 start.length,Ad (Bv r R B start),.ref 0 0,.pto [i64 r,Ad R,Ae B] 0,.ref 2 0,.pto [Ae U] 0] [some [.sl 1 1 0 L.length],some (L.map Af),some (E1 r R B U),some (Aa start)] (.tup []) [some [.sl 4 1 0 L'.length],none,some (E1 r R B U),some (Aa start),some (L'.map Af)]:=by
 obtain ⟨a1,a2,a3,a4,a5⟩:=hp.rank
 intro k
 induction k with
 | zero=>
  intro start L L' hk h0 hL hL'
  have hnl:=Oh r R B start
  have hnx:=Ol r R B start
  refine G0 Om rfl ?_;unfold Ld
  refine RN ?_
  refine Ak (α:=Nat×List (List Int)) (S:=fun q=>([(0,.sl 3 1 0 start.length),(2,.ref 0 0),(3,.pto [i64 r,Ad R,Ae B] 0),(4,.ref 2 0),(5,.pto [Ae U] 0),(11,Ad (Bv r R B start)),(12,i64 (Bv r R B start).length),(13,i64 q.1)],[some [.sl 4 1 0 q.2.length],none,some (E1 r R B U),some (Aa start),some (q.2.map Af)])) (C:=fun q=>q.1≤(nxt r R B start).length∧q.2=(L++Dc r R B 0 start q.1).take 401) (μ:=fun q=>(nxt r R B start).length - q.1) (0,L) ⟨Nat.zero_le _,by rw [show Dc r R B 0 start 0=[] from rfl,List.append_nil,List.take_of_length_le hL]⟩ ?_ ?_
  ·refine (Ref.mv 1 (cs:=L.map Af) (F' := [(13,i64 0),(12,i64 (Bv r R B start).length),(11,Ad (Bv r R B start)),(0,.sl 3 1 0 start.length),(2,.ref 0 0),(3,.pto [i64 r,Ad R,Ae B] 0),(4,.ref 2 0),(5,.pto [Ae U] 0)]) (H' := [some [.sl 4 1 0 L.length],none,some (E1 r R B U),some (Aa start),some (L.map Af)]) rfl (by simp only [go_sem,↓reduceIte,Nat.reduceEqDiff,Nat.reduceAdd,reduceCtorEq]) (by simp [sub,Ac,go_sem,↓reduceIte,Nat.reduceEqDiff,Nat.reduceAdd,reduceCtorEq])).trans (Ref.to rfl (by simp [sub,Ac,go_sem,↓reduceIte,Nat.reduceEqDiff,Nat.reduceAdd,reduceCtorEq]))
  rintro ⟨m,Lm⟩ ⟨hm,hLm⟩
  dsimp only at hm hLm ⊢
  have hLl:Lm.length≤401:=by rw [hLm,List.length_take];exact Nat.min_le_left _ _
  refine RN ?_
  refine ⟨fun hc=>?_,fun hc=>?_⟩
  ·have hm' : m<(nxt r R B start).length:=by omega
   have he:=Og r R B start m hm'
   have hlt:=Oj hm'
   obtain ⟨e,he0⟩:∃ e,(nxt r R B start).getD m 0=e:=⟨_,rfl⟩
   rw [he0] at he hlt
   refine RN ?_
   simp only [he,go_sem,↓reduceIte,Nat.reduceEqDiff,Nat.reduceAdd,reduceCtorEq]
   refine An (M6 start h0 (by omega)) ?_
   refine RN ?_
   refine ⟨fun hc2=>?_,fun hc2=>?_⟩
   ·(refine RN ?_;try with_reducible exact trivial)
    obtain rfl:L' = Lm:=hL'.trans (Nk hLm (by omega))
    exact Ref.gc1 [0,1,2,3,4]
   ·obtain ⟨own,hown⟩:∃ own,own=start++[(e:Int)]:=⟨_,rfl⟩
    have e1:Aa start++[i64 (e:Int)]=Aa own:=by rw [hown];simp [Aa]
    have e2:start.length+1=own.length:=by rw [hown];simp
    have hsz:=I9 own (by omega)
    simp only [e1,e2]
    refine RN ?_
    refine An (hsz) ?_
    refine RN ?_
    refine ⟨fun hc3=>?_,fun hc3=>by omega⟩
    refine ⟨rfl,by omega,by omega,?_⟩
    refine RN ?_
    refine ⟨(m+1,Lm++[own]),⟨by dsimp only;omega,?_⟩,by dsimp only;omega,?_⟩
    ·dsimp only
     rw [Nl _ _ _ hm', he0,← hown,← List.append_assoc,← Md,← hLm,List.take_of_length_le (by simp [Cv];omega)]
     rfl
    ·refine (Ref.close 9 Lm.length 7 (k:=1) (n:=own.length) (cs:=Lm.map Af++[.sl 7 1 0 own.length]) (cs2:=Aa own) rfl (by simp) rfl (by decide) (by simp [Aa])).trans (Ref.gc [0,1,2,3,9] rfl ?_ (by simp [sub,Ac,go_sem,↓reduceIte,Nat.reduceEqDiff,Nat.reduceAdd,reduceCtorEq]))
     simp [go_sem,↓reduceIte,Nat.reduceEqDiff,Nat.reduceAdd,reduceCtorEq]
  ·(refine RN ?_;try with_reducible exact trivial)
   obtain rfl:m=(nxt r R B start).length:=by omega
   obtain rfl:L' = Lm:=by rw [hL', hLm,Nj]
   exact Ref.gc1 [0,1,2,3,4]
 | succ k ih=>
  intro start L L' hk h0 hL hL'
  have hnl:=Oh r R B start
  have hnx:=Ol r R B start
  refine G0 Om rfl ?_;unfold Ld
  refine RN ?_
  refine Ak (α:=Nat×List (List Int)) (S:=fun q=>([(0,.sl 3 1 0 start.length),(2,.ref 0 0),(3,.pto [i64 r,Ad R,Ae B] 0),(4,.ref 2 0),(5,.pto [Ae U] 0),(11,Ad (Bv r R B start)),(12,i64 (Bv r R B start).length),(13,i64 q.1)],[some [.sl 4 1 0 q.2.length],none,some (E1 r R B U),some (Aa start),some (q.2.map Af)])) (C:=fun q=>q.1≤(nxt r R B start).length∧q.2=(L++Dc r R B (k+1) start q.1).take 401) (μ:=fun q=>(nxt r R B start).length - q.1) (0,L) ⟨Nat.zero_le _,by rw [show Dc r R B (k+1) start 0=[] from rfl,List.append_nil,List.take_of_length_le hL]⟩ ?_ ?_
  ·refine (Ref.mv 1 (cs:=L.map Af) (F' := [(13,i64 0),(12,i64 (Bv r R B start).length),(11,Ad (Bv r R B start)),(0,.sl 3 1 0 start.length),(2,.ref 0 0),(3,.pto [i64 r,Ad R,Ae B] 0),(4,.ref 2 0),(5,.pto [Ae U] 0)]) (H' := [some [.sl 4 1 0 L.length],none,some (E1 r R B U),some (Aa start),some (L.map Af)]) rfl (by simp only [go_sem,↓reduceIte,Nat.reduceEqDiff,Nat.reduceAdd,reduceCtorEq]) (by simp [sub,Ac,go_sem,↓reduceIte,Nat.reduceEqDiff,Nat.reduceAdd,reduceCtorEq])).trans (Ref.to rfl (by simp [sub,Ac,go_sem,↓reduceIte,Nat.reduceEqDiff,Nat.reduceAdd,reduceCtorEq]))
  rintro ⟨m,Lm⟩ ⟨hm,hLm⟩
  dsimp only at hm hLm ⊢
  have hLl:Lm.length≤401:=by rw [hLm,List.length_take];exact Nat.min_le_left _ _
  refine RN ?_
  refine ⟨fun hc=>?_,fun hc=>?_⟩
  ·have hm' : m<(nxt r R B start).length:=by omega
   have he:=Og r R B start m hm'
   have hlt:=Oj hm'
   obtain ⟨e,he0⟩:∃ e,(nxt r R B start).getD m 0=e:=⟨_,rfl⟩
   rw [he0] at he hlt
   refine RN ?_
   simp only [he,go_sem,↓reduceIte,Nat.reduceEqDiff,Nat.reduceAdd,reduceCtorEq]
   refine An (M6 start h0 (by omega)) ?_
   refine RN ?_
   refine ⟨fun hc2=>?_,fun hc2=>?_⟩
   ·(refine RN ?_;try with_reducible exact trivial)
    obtain rfl:L' = Lm:=hL'.trans (Nk hLm (by omega))
    exact Ref.gc1 [0,1,2,3,4]
   ·obtain ⟨own,hown⟩:∃ own,own=start++[(e:Int)]:=⟨_,rfl⟩
    have e1:Aa start++[i64 (e:Int)]=Aa own:=by rw [hown];simp [Aa]
    have e2:start.length+1=own.length:=by rw [hown];simp
    have hsz:=I9 own (by omega)
    simp only [e1,e2]
    refine RN ?_
    refine An (hsz) ?_
    refine RN ?_
    intro hc3
    obtain ⟨L2,hL2⟩:∃ L2,L2=(L++Dc r R B (k+1) start (m+1)).take 401:=⟨_,rfl⟩
    have hx:=ih own Lm L2 (by omega) (by omega) hLl (by rw [hL2,Nl _ _ _ hm', he0,← hown,← List.append_assoc,← Md,← hLm])
    refine ⟨rfl,by omega,by omega,by decide,?_⟩
    rw [hU e hlt.1,← Yo hlt.2,← hown]
    refine Sr (hx) [0,4,2,7] (by first | rfl | simp) (by simp only [go_sem,↓reduceIte,Nat.reduceEqDiff,Nat.reduceAdd,reduceCtorEq]<;>rfl) (by simp only [go_sem,↓reduceIte,Nat.reduceEqDiff,Nat.reduceAdd,reduceCtorEq]<;>rfl) ?_
    refine RN ?_
    exact ⟨(m+1,L2),⟨by dsimp only;omega,hL2⟩,by dsimp only;omega,Ref.gc1 [0,1,2,3,8]⟩
  ·(refine RN ?_;try with_reducible exact trivial)
   obtain rfl:m=(nxt r R B start).length:=by omega
   obtain rfl:L' = Lm:=by rw [hL', hLm,Nj]
   exact Ref.gc1 [0,1,2,3,4]
theorem jE (r : Int) (R : List Int) (B U : List (List Int)) (hp : IsPos r R B) (hUl : U.length = R.length) (hU : ∀ x, x < R.length → U.getD x [] = Gk r R B x) (start : List Int) (hst : start = []) (L L' : List (List Int)) (hL : L.length ≤ 401) (hL' : L' = (L ++ Cv r R B r.toNat start).take 401) :
    Er Tryd.prog 53 [Ag,Ad (Bv r R B start),.ref 0 0,.pto [i64 r,Ad R,Ae B] 0,.ref 2 0,.pto [Ae U] 0] [some [.sl 1 1 0 L.length],some (L.map Af),some (E1 r R B U)] (.tup []) [some [.sl 3 1 0 L'.length],none,some (E1 r R B U),some (L'.map Af)]:=by
 obtain ⟨a1,a2,a3,a4,a5⟩:=hp.rank
 have hs0:start.length=0:=by rw [hst];rfl
 obtain ⟨k0,hk0⟩:∃ k0,r.toNat=k0+1:=⟨r.toNat - 1,by omega⟩
 rw [hk0] at hL'
 cases k0 with
 | zero=>
  have hnl:=Oh r R B start
  have hnx:=Ol r R B start
  refine G0 Om rfl ?_;unfold Ld
  refine RN ?_
  refine Ak (α:=Nat×List (List Int)) (S:=fun q=>([(0,Ag),(2,.ref 0 0),(3,.pto [i64 r,Ad R,Ae B] 0),(4,.ref 2 0),(5,.pto [Ae U] 0),(11,Ad (Bv r R B start)),(12,i64 (Bv r R B start).length),(13,i64 q.1)],[some [.sl 3 1 0 q.2.length],none,some (E1 r R B U),some (q.2.map Af)])) (C:=fun q=>q.1≤(nxt r R B start).length∧q.2=(L++Dc r R B 0 start q.1).take 401) (μ:=fun q=>(nxt r R B start).length - q.1) (0,L) ⟨Nat.zero_le _,by rw [show Dc r R B 0 start 0=[] from rfl,List.append_nil,List.take_of_length_le hL]⟩ ?_ ?_
  ·refine (Ref.mv 1 (cs:=L.map Af) (F' := [(13,i64 0),(12,i64 (Bv r R B start).length),(11,Ad (Bv r R B start)),(0,Ag),(2,.ref 0 0),(3,.pto [i64 r,Ad R,Ae B] 0),(4,.ref 2 0),(5,.pto [Ae U] 0)]) (H' := [some [.sl 3 1 0 L.length],none,some (E1 r R B U),some (L.map Af)]) rfl (by simp only [go_sem,↓reduceIte,Nat.reduceEqDiff,Nat.reduceAdd,reduceCtorEq]) (by simp [sub,Ac,go_sem,↓reduceIte,Nat.reduceEqDiff,Nat.reduceAdd,reduceCtorEq])).trans (Ref.to rfl (by simp [sub,Ac,go_sem,↓reduceIte,Nat.reduceEqDiff,Nat.reduceAdd,reduceCtorEq]))
  rintro ⟨m,Lm⟩ ⟨hm,hLm⟩
  dsimp only at hm hLm ⊢
  have hLl:Lm.length≤401:=by rw [hLm,List.length_take];exact Nat.min_le_left _ _
  refine RN ?_
  refine ⟨fun hc=>?_,fun hc=>?_⟩
  ·have hm' : m<(nxt r R B start).length:=by omega
   have he:=Og r R B start m hm'
   have hlt:=Oj hm'
   obtain ⟨e,he0⟩:∃ e,(nxt r R B start).getD m 0=e:=⟨_,rfl⟩
   rw [he0] at he hlt
   refine RN ?_
   simp only [he,go_sem,↓reduceIte,Nat.reduceEqDiff,Nat.reduceAdd,reduceCtorEq]
   refine An (Vh) ?_
   refine RN ?_
   refine ⟨fun hc2=>?_,fun hc2=>?_⟩
   ·(refine RN ?_;try with_reducible exact trivial)
    obtain rfl:L' = Lm:=hL'.trans (Nk hLm (by omega))
    exact Ref.gc1 [0,1,2,3]
   ·have hown:[(e:Int)]=start++[(e:Int)]:=by rw [hst];rfl
    have hsz:=I9 [(e:Int)] (by simp)
    refine RN ?_
    refine An (hsz) ?_
    refine RN ?_
    refine ⟨fun hc3=>?_,fun hc3=>by omega⟩
    refine ⟨rfl,by omega,by omega,?_⟩
    refine RN ?_
    refine ⟨(m+1,Lm++[[(e:Int)]]),⟨by dsimp only;omega,?_⟩,by dsimp only;omega,?_⟩
    ·dsimp only
     rw [Nl _ _ _ hm', he0,← hown,← List.append_assoc,← Md,← hLm,List.take_of_length_le (by simp [Cv];omega)]
     rfl
    ·refine (Ref.close 8 Lm.length 6 (k:=1) (n:=1) (cs:=Lm.map Af++[.sl 6 1 0 1]) (cs2:=[i64 (e:Int)]) rfl (by simp) rfl (by decide) (by simp)).trans (Ref.gc [0,1,2,8] rfl ?_ (by simp [sub,Ac,go_sem,↓reduceIte,Nat.reduceEqDiff,Nat.reduceAdd,reduceCtorEq]))
     simp [go_sem,↓reduceIte,Nat.reduceEqDiff,Nat.reduceAdd,reduceCtorEq]
     rfl
  ·(refine RN ?_;try with_reducible exact trivial)
   obtain rfl:m=(nxt r R B start).length:=by omega
   obtain rfl:L' = Lm:=by rw [hL', hLm,Nj]
   exact Ref.gc1 [0,1,2,3]
 | succ k=>
  have hnl:=Oh r R B start
  have hnx:=Ol r R B start
  refine G0 Om rfl ?_;unfold Ld
  refine RN ?_
  refine Ak (α:=Nat×List (List Int)) (S:=fun q=>([(0,Ag),(2,.ref 0 0),(3,.pto [i64 r,Ad R,Ae B] 0),(4,.ref 2 0),(5,.pto [Ae U] 0),(11,Ad (Bv r R B start)),(12,i64 (Bv r R B start).length),(13,i64 q.1)],[some [.sl 3 1 0 q.2.length],none,some (E1 r R B U),some (q.2.map Af)])) (C:=fun q=>q.1≤(nxt r R B start).length∧q.2=(L++Dc r R B (k+1) start q.1).take 401) (μ:=fun q=>(nxt r R B start).length - q.1) (0,L) ⟨Nat.zero_le _,by rw [show Dc r R B (k+1) start 0=[] from rfl,List.append_nil,List.take_of_length_le hL]⟩ ?_ ?_
  ·refine (Ref.mv 1 (cs:=L.map Af) (F' := [(13,i64 0),(12,i64 (Bv r R B start).length),(11,Ad (Bv r R B start)),(0,Ag),(2,.ref 0 0),(3,.pto [i64 r,Ad R,Ae B] 0),(4,.ref 2 0),(5,.pto [Ae U] 0)]) (H' := [some [.sl 3 1 0 L.length],none,some (E1 r R B U),some (L.map Af)]) rfl (by simp only [go_sem,↓reduceIte,Nat.reduceEqDiff,Nat.reduceAdd,reduceCtorEq]) (by simp [sub,Ac,go_sem,↓reduceIte,Nat.reduceEqDiff,Nat.reduceAdd,reduceCtorEq])).trans (Ref.to rfl (by simp [sub,Ac,go_sem,↓reduceIte,Nat.reduceEqDiff,Nat.reduceAdd,reduceCtorEq]))
  rintro ⟨m,Lm⟩ ⟨hm,hLm⟩
  dsimp only at hm hLm ⊢
  have hLl:Lm.length≤401:=by rw [hLm,List.length_take];exact Nat.min_le_left _ _
  refine RN ?_
  refine ⟨fun hc=>?_,fun hc=>?_⟩
  ·have hm' : m<(nxt r R B start).length:=by omega
   have he:=Og r R B start m hm'
   have hlt:=Oj hm'
   obtain ⟨e,he0⟩:∃ e,(nxt r R B start).getD m 0=e:=⟨_,rfl⟩
   rw [he0] at he hlt
   refine RN ?_
   simp only [he,go_sem,↓reduceIte,Nat.reduceEqDiff,Nat.reduceAdd,reduceCtorEq]
   refine An (Vh) ?_
   refine RN ?_
   refine ⟨fun hc2=>?_,fun hc2=>?_⟩
   ·(refine RN ?_;try with_reducible exact trivial)
    obtain rfl:L' = Lm:=hL'.trans (Nk hLm (by omega))
    exact Ref.gc1 [0,1,2,3]
   ·have hown:[(e:Int)]=start++[(e:Int)]:=by rw [hst];rfl
    have hsz:=I9 [(e:Int)] (by simp)
    refine RN ?_
    refine An (hsz) ?_
    refine RN ?_
    intro hc3
    obtain ⟨L2,hL2⟩:∃ L2,L2=(L++Dc r R B (k+1) start (m+1)).take 401:=⟨_,rfl⟩
    have hx:=(jF r R B U hp hUl hU k) [(e:Int)] Lm L2 (by simp;omega) (by simp) hLl (by rw [hL2,Nl _ _ _ hm', he0,← hown,← List.append_assoc,← Md,← hLm])
    refine ⟨rfl,by omega,by omega,by decide,?_⟩
    rw [hU e hlt.1,← Yo hlt.2,← hown]
    refine Sr (hx) [0,3,2,6] (by first | rfl | simp) (by simp only [go_sem,↓reduceIte,Nat.reduceEqDiff,Nat.reduceAdd,reduceCtorEq]<;>rfl) (by simp only [go_sem,↓reduceIte,Nat.reduceEqDiff,Nat.reduceAdd,reduceCtorEq]<;>rfl) ?_
    refine RN ?_
    exact ⟨(m+1,L2),⟨by dsimp only;omega,hL2⟩,by dsimp only;omega,Ref.gc1 [0,1,2,7]⟩
  ·(refine RN ?_;try with_reducible exact trivial)
   obtain rfl:m=(nxt r R B start).length:=by omega
   obtain rfl:L' = Lm:=by rw [hL', hLm,Nj]
   exact Ref.gc1 [0,1,2,3]
end
section
open Go.Gov
open Classical
section
variable (r:Int) (R:List Int) (B:List (List Int))
def Ij (e f:Nat):Prop:=R.getD f 0=R.getD e 0+1∧C5 r R B f∧(e:Int)∈B.getD f []
noncomputable def D6 (e j:Nat):List Int:=((List.range j).filter fun f=>decide (Ij r R B e f)).map fun f:Nat=>(f:Int)
def Hk (e j:Nat):Prop:=R.getD e 0=r - 1∨∃ f,f<j∧Ij r R B e f
noncomputable def uT (x:Nat):List (List Int):=(List.range R.length).map fun y=>if x≤y then Gk r R B y else []
noncomputable def Dt (j:Nat):List Int:=((List.range j).filter fun e=>decide (R.getD e 0=0∧C5 r R B e)).map fun f:Nat=>(f:Int)
end
variable {r:Int} {R:List Int} {B:List (List Int)}
theorem yV {e j:Nat}(h:Ij r R B e j):D6 r R B e (j+1)=D6 r R B e j++[(j:Int)]:=by
 unfold D6
 rw [List.range_succ,List.filter_append,List.filter_cons_of_pos (by simpa using h)]
 simp
theorem yU {e j:Nat}(h:¬ Ij r R B e j):D6 r R B e (j+1)=D6 r R B e j:=by
 unfold D6
 rw [List.range_succ,List.filter_append,List.filter_cons_of_neg (by simpa using h)]
 simp
theorem yR (e:Nat):D6 r R B e R.length=Gk r R B e:=by
 unfold D6 Gk
 congr 1
 exact List.filter_congr fun f _=>decide_eq_decide.2 Iff.rfl
theorem yS (e j:Nat):(D6 r R B e j).length≤j:=by
 unfold D6
 rw [List.length_map]
 exact Nat.le_trans (List.length_filter_le _ _) (by simp)
theorem yT (hp:IsPos r R B){e:Nat}(he:e<R.length):D6 r R B e (e+1)=[]:=by
 unfold D6
 rw [List.filter_eq_nil_iff.2 fun f hf=>?_]
 ·rfl
 ·have h1:=List.mem_range.1 hf
  simp only [decide_eq_true_eq]
  intro h
  have:=hp.low f e (by omega) h.2.2
  omega
theorem uK (hp:IsPos r R B){e:Nat}(he:e<R.length):Hk r R B e (e+1) ↔ R.getD e 0=r - 1:=by
 constructor
 ·rintro (h | ⟨f,h1,h2⟩)
  ·exact h
  ·have:=hp.low f e (by omega) h2.2.2
   omega
 ·exact .inl
theorem uM {e j:Nat}(h:Ij r R B e j):Hk r R B e (j+1):=.inr ⟨j,by omega,h⟩
theorem uL {e j:Nat}(h:¬ Ij r R B e j):Hk r R B e (j+1) ↔ Hk r R B e j:=by
 constructor
 ·rintro (h1 | ⟨f,h1,h2⟩)
  ·exact .inl h1
  ·rcases Nat.lt_or_ge f j with h3 | h3
   ·exact .inr ⟨f,h3,h2⟩
   ·obtain rfl:f=j:=by omega
    exact absurd h2 h
 ·rintro (h1 | ⟨f,h1,h2⟩)
  ·exact .inl h1
  ·exact .inr ⟨f,by omega,h2⟩
theorem uJ {e:Nat}(he:e<R.length):Hk r R B e R.length ↔ C5 r R B e:=by
 constructor
 ·rintro (h | ⟨f,h1,h2,h3,h4⟩)
  ·exact .top he h
  ·exact .up h1 h3 (by omega) h4
 ·intro h
  cases h with
  | top _ h=>exact .inl h
  | up h1 h2 h3 h4=>
   rename_i f
   exact .inr ⟨f,h1,by omega,h2,h4⟩
theorem Mi (x:Nat):(uT r R B x).length=R.length:=by simp [uT]
theorem yL (x y:Nat)(h:y<R.length):(uT r R B x).getD y []=if x≤y then Gk r R B y else []:=by
 unfold uT
 rw [List.getD_eq_getElem?_getD,List.getElem?_map,List.getElem?_range h]
 rfl
theorem yN:uT r R B R.length=List.replicate R.length []:=by
 refine List.ext_getElem (by simp [uT]) fun e h1 h2=>?_
 simp only [uT,List.getElem_map,List.getElem_range,List.getElem_replicate]
 rw [if_neg]
 simp [uT] at h1
 omega
theorem yM {e:Nat}(he:e<R.length):(uT r R B (e+1)).set e (Gk r R B e)=uT r R B e:=by
 refine List.ext_getElem (by simp [uT]) fun y h1 h2=>?_
 have hy:y<R.length:=by simpa [uT] using h2
 rw [List.getElem_set]
 simp only [uT,List.getElem_map,List.getElem_range]
 by_cases h:e=y
 ·subst h;simp
 ·rw [if_neg h]
  by_cases h3:e+1≤y
  ·rw [if_pos h3,if_pos (by omega)]
  ·rw [if_neg h3,if_neg (by omega)]
theorem Wl {j:Nat}(h:R.getD j 0=0∧C5 r R B j):Dt r R B (j+1)=Dt r R B j++[(j:Int)]:=by
 unfold Dt
 rw [List.range_succ,List.filter_append,List.filter_cons_of_pos (by simpa using h)]
 simp
theorem Wk {j:Nat}(h:¬ (R.getD j 0=0∧C5 r R B j)):Dt r R B (j+1)=Dt r R B j:=by
 unfold Dt
 rw [List.range_succ,List.filter_append,List.filter_cons_of_neg (by simpa using h)]
 simp
theorem iS (j:Nat):(Dt r R B j).length≤j:=by
 unfold Dt
 rw [List.length_map]
 exact Nat.le_trans (List.length_filter_le _ _) (by simp)
theorem iR:Dt r R B R.length=Bv r R B []:=by
 unfold Dt Bv nxt
 congr 1
 refine List.filter_congr fun e _=>decide_eq_decide.2 ?_
 simp
end
section
open Go.Gov
open Classical
theorem iD (r : Int) (R : List Int) (B : List (List Int)) (hp : IsPos r R B) (h1 : R.length ≤ 1048576) (hl : B.length ≤ 1048576) (hr : ∀ xs ∈ B, xs.length ≤ 1048576) (x : AV) (H1 : Heap) (hxv : x = if (Ax r R B).length ≤ 400 then .tup [.sl 0 1 0 (Ax r R B).length, i64 0] else .tup [Ag, i64 3]) (hH1 : H1 = if (Ax r R B).length ≤ 400 then [some ((Ax r R B).map Af)] else []) :
    Ao Tryd.prog 27 [A6 r R B] x H1:=by
 obtain ⟨a1,a2,a3,a4,a5⟩:=hp.rank
 have hrow:=Zw hp
 refine De Yw rfl ?_;unfold Qc
 refine RN ?_
 refine An (Iz r R B (by omega) (by omega) (fun xs hx=>Nat.le_trans (hr xs hx) (by omega))) ?_
 rw [decide_eq_true hp]
 refine RN ?_
 refine An (I9 R (by omega)) ?_
 refine RN ?_
 refine Ak (α:=Nat×List Bool) (S:=fun q=>([(1,.ref 0 0),(4,i64 R.length),(5,.ref 2 0),(6,.sl 3 1 0 R.length),(7,i64 ((q.1:Int) - 1))],[some [i64 r,Ad R,Ae B],some ((uT r R B q.1).map Af),some [.sl 1 1 0 R.length],some (Bc q.2)])) (C:=fun q=>q.1≤R.length∧q.2.length=R.length∧∀ e,q.1≤e→e<R.length→q.2.getD e false=decide (C5 r R B e)) (μ:=fun q=>q.1) (R.length,List.replicate R.length false) ⟨Nat.le_refl _,by simp,fun e h1 h2=>by omega⟩ ?_ ?_
 ·refine (Ref.nils 1 1 R.length rfl).trans (Ref.to ?_ (by simp [sub,Ac]))
  simp [yN,Aa]
 rintro ⟨x,Y⟩ ⟨hx,hY,hYm⟩
 dsimp only at hx hY hYm ⊢
 refine RN ?_
 refine ⟨fun hc=>?_,fun hc=>?_⟩
 ·obtain ⟨e,rfl⟩:∃ e,x=e+1:=⟨x - 1,by omega⟩
  have he:e<R.length:=by omega
  have hRe:=a5 e he
  rw [show ((e+1:Nat):Int) - 1=(e:Int) by omega]
  refine RN ?_
  have hue:((uT r R B (e+1)).map Af)[e]? = some (.osl 1 0 []):=by
   rw [List.getElem?_map]
   simp [uT,he,Aa]
   exact fun h=>absurd h (by omega)
  refine Ak (α:=Nat) (S:=fun j=>([(1,.ref 0 0),(4,i64 R.length),(5,.ref 2 0),(6,.sl 3 1 0 R.length),(7,i64 (e:Int)),(8,i64 (j:Int))],[some [i64 r,Ad R,Ae B],some (((uT r R B (e+1)).map Af).set e (.sl 4 1 0 (D6 r R B e j).length)),some [.sl 1 1 0 R.length],some (Bc (Y.set e (decide (Hk r R B e j)))),some (Aa (D6 r R B e j))])) (C:=fun j=>e+1≤j∧j≤R.length) (μ:=fun j=>R.length - j) (e+1) ⟨Nat.le_refl _,by omega⟩ ?_ ?_
  ·refine (Ref.open 1 e rfl hue).trans (Ref.to ?_ (by simp [sub,Ac]))
   simp only [yT hp he,uK hp he]
   rw [show (R.getD e 0 == r - 1)=decide (R.getD e 0=r - 1) by rw [Bool.eq_iff_iff];simp]
   simp [Aa]
  rintro j ⟨hj1,hj⟩
  have hYj:j<R.length→(Y.set e (decide (Hk r R B e j))).getD j false=decide (C5 r R B j):=fun h=>by
   rw [← hYm j (by omega) h]
   rw [List.getD_eq_getElem?_getD,List.getElem?_set_ne (by omega),List.getD_eq_getElem?_getD]
  have hYe:(Y.set e (decide (Hk r R B e j))).length=R.length:=by simpa using hY
  have hul:=yS (r:=r) (R:=R) (B:=B) e j
  generalize hYv:Y.set e (decide (Hk r R B e j))=Yv at hYj hYe ⊢
  generalize hcur:D6 r R B e j=cur at hul ⊢
  refine RN ?_
  refine ⟨fun hc2=>?_,fun hc2=>?_⟩
  ·have hj2:j<R.length:=by omega
   have hYj:=hYj hj2
   have hRj:=a5 j hj2
   refine RN ?_
   refine G2 (bl (decide ((e:Int)∈B.getD j [])) ) (fun hg =>  W3 r R B e j hp hj2) ?_
   refine RN ?_
   refine ⟨fun hc3=>?_,fun hc3=>?_⟩
   ·have hup:Ij r R B e j:=⟨by omega,of_decide_eq_true (hYj.symm.trans hc3.1.1),hc3.2⟩
    have hLl:((uT r R B (e+1)).map Af).length=R.length:=by rw [List.length_map,Mi]
    generalize hLv:(uT r R B (e+1)).map Af=Lv at hLl ⊢
    have hrn:∀ τ,Av τ Lv=Lv:=fun τ=>by rw [← hLv];exact Dx τ _
    have hg:=Eb Lv e (.sl 4 1 0 cur.length) (.slc 1 0 []) (by omega)
    have hg2:=Eb Lv e (.sl 4 1 0 cur.length) .any (by omega)
    have hls:(Lv.set e (.sl 4 1 0 cur.length)).length=R.length:=by rw [List.length_set];exact hLl
    refine Mu [(1,.ref 0 0),(4,i64 R.length),(5,.ref 2 0),(6,.sl 3 1 0 R.length),(7,i64 (e:Int)),(8,i64 (j:Int))] [some [i64 r,Ad R,Ae B],some (Lv.set e (.sl 4 1 0 (cur.length+1))),some [.sl 1 1 0 R.length],some (Bc Yv),some (Aa cur++[i64 (j:Int)])] ?_ ?_
    ·repeat' first
       | simp only [hg,hg2,hls,go_sem,↓reduceIte,Nat.reduceEqDiff,Nat.reduceAdd,reduceCtorEq]
       | with_reducible refine Fg ?_
       | with_reducible refine Ff ?_
       | with_reducible exact Fh
       | with_reducible refine Fe ?_ ?_
       | (with_reducible refine And.intro ?_ ?_;focus first | assumption | omega | grind)
     all_goals exact Ref.gc [0,1,2,3,6] rfl (by simp only [O0,hrn,List.set_set,go_sem,↓reduceIte,Nat.reduceEqDiff,Nat.reduceAdd,reduceCtorEq]) (by simp [sub,Ac,go_sem,↓reduceIte,Nat.reduceEqDiff,Nat.reduceAdd,reduceCtorEq])
    ·(refine RN ?_;try with_reducible exact trivial)
     refine ⟨j+1,⟨by omega,by omega⟩,by omega,Ref.to ?_ (by simp [sub,Ac])⟩
     rw [yV hup,hcur,← hYv,decide_eq_true (uM hup),List.set_set]
     simp [Aa]
   ·have hup : ¬ Ij r R B e j := fun h => by
      have h3:=hYj.trans (decide_eq_true h.2.1)
      rcases hc3 with (h4 | h4) | h4
      ·rw [h3] at h4;cases h4
      ·exact h4 (by have:=h.1;omega)
      ·exact h4 h.2.2
    refine RN ?_
    refine ⟨j+1,⟨by omega,by omega⟩,by omega,Ref.to ?_ (by simp [sub,Ac])⟩
    rw [yU hup,hcur,← hYv,decide_eq_decide.2 (uL hup)]
  ·(refine RN ?_;try with_reducible exact trivial)
   obtain rfl:j=R.length:=by omega
   refine ⟨(e,Yv),⟨by dsimp only;omega,hYe,fun y h1 h2=>?_⟩,by dsimp only;omega,?_⟩
   ·dsimp only at h1 ⊢
    rw [← hYv]
    rcases Nat.eq_or_lt_of_le h1 with h3 | h3
    ·subst h3
     rw [Eb Y e _ false (by omega),decide_eq_decide]
     exact uJ he
    ·rw [List.getD_eq_getElem?_getD,List.getElem?_set_ne (by omega),← List.getD_eq_getElem?_getD]
     exact hYm y (by omega) h2
   ·refine (Ref.close 1 e 4 (k:=1) (n:=cur.length) (cs:=((uT r R B (e+1)).map Af).set e (.sl 4 1 0 cur.length)) (cs2:=Aa cur) rfl (List.getElem?_set_self (by simp [Mi];omega)) rfl (by decide) (by simp [Aa])).trans (Ref.gc [0,1,2,3] rfl ?_ (by simp [sub,Ac,go_sem,↓reduceIte,Nat.reduceEqDiff,Nat.reduceAdd,reduceCtorEq]))
    have hcu:cur=Gk r R B e:=by rw [← hcur,yR]
    have hst:((uT r R B (e+1)).map Af).set e (Af (Gk r R B e))=(uT r R B e).map Af:=by rw [← List.map_set,yM he]
    simp only [List.set_set,go_sem,↓reduceIte,Nat.reduceEqDiff,Nat.reduceAdd,reduceCtorEq]
    rw [← hst,← hcu]
 ·obtain rfl:x=0:=by omega
  have hYm:∀ e,e<R.length→Y.getD e false=decide (C5 r R B e):=fun e he=>hYm e (Nat.zero_le _) he
  refine RN ?_
  refine Ak (α:=Nat) (S:=fun j=>([(1,.ref 0 0),(4,i64 R.length),(6,.sl 3 1 0 R.length),(9,.ref 4 0),(10,.ref 5 0),(11,.sl 6 1 0 (Dt r R B j).length),(85,i64 R.length),(86,i64 (j:Int))],[some [i64 r,Ad R,Ae B],some ((uT r R B 0).map Af),some [.sl 1 1 0 R.length],some (Bc Y),some [Ag],some [.clo 53 [] [.ref 4 0,.ref 0 0,.ref 5 0,.ref 2 0]],some (Aa (Dt r R B j))])) (C:=fun j=>j≤R.length) (μ:=fun j=>R.length - j) 0 (Nat.zero_le _) ?_ ?_
  ·exact (Ref.nil 11 1 rfl).trans (Ref.to rfl (by simp [sub,Ac,Dt]))
  intro j hj
  have hfl:=iS (r:=r) (R:=R) (B:=B) j
  refine RN ?_
  refine ⟨fun hc2=>?_,fun hc2=>?_⟩
  ·have hj2:j<R.length:=by omega
   have hRj:=a5 j hj2
   have hYj:=hYm j hj2
   refine RN ?_
   refine ⟨fun hc3=>?_,fun hc3=>?_⟩
   ·have hf:R.getD j 0=0∧C5 r R B j:=⟨hc3.1,of_decide_eq_true (hYj.symm.trans hc3.2)⟩
    refine RN ?_
    refine ⟨j+1,by omega,by omega,Ref.gc [0,1,2,3,4,5,8] rfl ?_ ?_⟩
    ·rw [Wl hf,show Aa (Dt r R B j++[(j:Int)])=Aa (Dt r R B j)++[i64 (j:Int)] by simp [Aa]]
     simp only [go_sem,↓reduceIte,Nat.reduceEqDiff,Nat.reduceAdd,reduceCtorEq]
    ·rw [Wl hf]
     simp [sub,Ac,go_sem,↓reduceIte,Nat.reduceEqDiff,Nat.reduceAdd,reduceCtorEq]
   ·have hf : ¬ (R.getD j 0 = 0 ∧ C5 r R B j) := fun h => by
      have h3:=hYj.trans (decide_eq_true h.2)
      rcases hc3 with h4 | h4
      ·exact h4 h.1
      ·rw [h3] at h4;cases h4
    refine RN ?_
    refine ⟨j+1,by omega,by omega,Ref.to ?_ ?_⟩
    ·rw [Wk hf]
    ·rw [Wk hf]
     simp [sub,Ac]
  ·obtain rfl:j=R.length:=by omega
   obtain ⟨F,hF⟩:∃ F,F=(Ax r R B).take 401:=⟨_,rfl⟩
   have hFl:F.length≤401:=by rw [hF,List.length_take];exact Nat.min_le_left _ _
   have hgr:=jE r R B (uT r R B 0) hp (Mi 0) (fun y hy=>by rw [yL 0 y hy,if_pos (Nat.zero_le _)]) [] rfl [] F (by simp) hF
   have htk:∀ Hx:Heap,(List.take R.length ((uT r R B 0).map Af)).map (Ai Hx 3)=(uT r R B 0).map Ad:=fun Hx=>by
    rw [List.take_of_length_le (by simp [Mi]),List.map_map]
    refine List.map_congr_left fun z _=>?_
    simp [Ai,Aa]
   refine Hs ((Ref.nilC 4 0 1 (cs:=[Ag]) rfl rfl).trans (Ref.sel [4,7,5] (F' := [(9,.ref 0 0),(10,.ref 2 0),(11,Ad (Dt r R B R.length))]) (H' := [some [.sl 1 1 0 0],some [],some (E1 r R B (uT r R B 0))]) rfl ?_ ?_)) ?_
   ·simp only [go_sem,↓reduceIte,Nat.reduceEqDiff,Nat.reduceAdd,reduceCtorEq]
    rw [htk]
    simp only [Ae,Ad,Mi]
   ·simp only [go_sem,↓reduceIte,Nat.reduceEqDiff,Nat.reduceAdd,reduceCtorEq]
    simp [sub,Ac]
   refine RN ?_
   refine ⟨rfl,by decide,?_⟩
   rw [iR]
   refine Sr (hgr) [0,1,2] (by first | rfl | simp) (by simp only [go_sem,↓reduceIte,Nat.reduceEqDiff,Nat.reduceAdd,reduceCtorEq]<;>rfl) (by simp only [go_sem,↓reduceIte,Nat.reduceEqDiff,Nat.reduceAdd,reduceCtorEq]<;>rfl) ?_
   refine RN ?_
   have hmin:F.length=min 401 (Ax r R B).length:=by rw [hF,List.length_take]
   refine ⟨fun hc3=>?_,fun hc3=>?_⟩
   ·(refine RN ?_;try with_reducible exact trivial)
    rw [hxv,hH1,if_neg (by omega),if_neg (by omega)]
    exact Ref.gc1 []
   ·(refine RN ?_;try with_reducible exact trivial)
    obtain rfl:F=Ax r R B:=by rw [hF,List.take_of_length_le (by omega)]
    rw [hxv,hH1,if_pos (by omega),if_pos (by omega)]
    exact Ref.gc1 [3]
theorem iE (r:Int)(R:List Int)(B:List (List Int))(hn:¬ IsPos r R B)(h1:R.length≤1048576)(hl:B.length≤1048576)(hr:∀ xs∈B,xs.length≤1048576):Ao Tryd.prog 27 [A6 r R B] (.tup [Ag,i64 1]) []:=by
 refine Gf Yw rfl rfl ?_;unfold Qc
 refine RN ?_
 refine An (Iz r R B (by omega) (by omega) (fun xs hx=>Nat.le_trans (hr xs hx) (by omega))) ?_
 rw [decide_eq_false hn]
 (refine RN ?_;try with_reducible exact trivial)
end
end Go.Proofs.YtfofabbkigonpaaDoor
