/- Texts that belong together. -/
import Derived.Test.YtaekhhaaphgndaaGreatRb
import Derived.Test.YtaekhhaaphgndaaGreatSn
set_option maxHeartbeats 16000000
set_option linter.unusedSimpArgs false
set_option linter.unusedVariables false
set_option maxRecDepth 100000
namespace Go.Proofs.YtaekhhaaphgndaaGreat
section
open Go.Gov
open Classical
abbrev rhoN (r:List Int)(d:Nat):Nat:=(r.getD d 0).toNat
theorem prm_pm {r:List Int}(h:IsPrm r):Pm r.length (rhoN r) where
 lt:=fun x hx=>by have:=h.at hx;unfold rhoN;omega
 inj:=fun x y hx hy e=>by
  have a1:=h.at hx
  have a2:=h.at hy
  have e2:r.getD x 0=r.getD y 0:=by unfold rhoN at e;omega
  rcases Nat.lt_trichotomy x y with h1 | h1 | h1
  ·exact absurd e2 ((h.2 y hy).2 x h1)
  ·exact h1
  ·exact absurd e2.symm ((h.2 x hx).2 y h1)
noncomputable def moR (r:List Int):List (List Int):=if h:∃ M,RotM r.length (rhoN r) M then Classical.choose h else []
theorem moR_eq {r:List Int}{M:List (List Int)}(h:RotM r.length (rhoN r) M):moR r=M:=by
 have he:∃ M,RotM r.length (rhoN r) M:=⟨M,h⟩
 unfold moR
 rw [dif_pos he]
 exact (Classical.choose_spec he).uniq h
structure RK (D:Nat) (ρ:Nat→Nat) (d:Nat) (A B C:List Int):Prop where
 la:A.length=2*D
 lb:B.length=2*D
 lc:C.length=2*D
 p0:∀ j,j<d→A.getD (2*j) 0=2*(alt j:Nat)+1∧A.getD (2*j+1) 0=2*(alt j:Nat)
 p1:∀ j,j<d→B.getD (2*j) 0=2*(ρ j:Nat)+1∧B.getD (2*ρ j+1) 0=2*(j:Nat)
 p2:∀ j,j<d→C.getD (2*j) 0=2*(j:Nat)+1∧C.getD (2*j+1) 0=2*(j:Nat)
theorem getD_st (T:List Int)(a e:Nat)(v:Int):(T.set a v).getD e 0=if a=e∧e<T.length then v else T.getD e 0:=by
 rw [List.getD_eq_getElem?_getD,List.getElem?_set]
 by_cases h:a=e
 ·subst h
  by_cases h2:a<T.length
  ·simp [h2]
  ·simp [h2]
 ·simp [h]
theorem RK.zero (D:Nat)(ρ:Nat→Nat):RK D ρ 0 (List.replicate (2*D) 0) (List.replicate (2*D) 0) (List.replicate (2*D) 0):=⟨by simp,by simp,by simp,fun j hj=>by omega,fun j hj=>by omega,fun j hj=>by omega⟩
theorem RK.step {D:Nat}{ρ:Nat→Nat}{d:Nat}{A B C:List Int}(h:RK D ρ d A B C)(hp:Pm D ρ)(hd:d<D):RK D ρ (d+1) ((A.set (2*d) (2*(alt d:Nat)+1)).set (2*d+1) (2*(alt d:Nat))) ((B.set (2*d) (2*(ρ d:Nat)+1)).set (2*ρ d+1) (2*(d:Nat))) ((C.set (2*d) (2*(d:Nat)+1)).set (2*d+1) (2*(d:Nat))) where
 la:=by simp [h.la]
 lb:=by simp [h.lb]
 lc:=by simp [h.lc]
 p0:=fun j hj=>by
  have la:=h.la
  simp only [getD_st,List.length_set]
  by_cases e:j=d
  ·subst e
   rw [if_neg (by omega),if_pos (by omega),if_pos (by omega)]
   exact ⟨rfl,rfl⟩
  ·rw [if_neg (by omega),if_neg (by omega),if_neg (by omega),if_neg (by omega)]
   exact h.p0 j (by omega)
 p1:=fun j hj=>by
  have lb:=h.lb
  have hr:=hp.lt d hd
  have hrj:=hp.lt j (by omega)
  simp only [getD_st,List.length_set]
  by_cases e:j=d
  ·subst e
   rw [if_neg (by omega),if_pos (by omega),if_pos (by omega)]
   exact ⟨rfl,rfl⟩
  ·have hne:ρ d≠ρ j:=fun k=>e (hp.inj _ _ (by omega) hd k.symm)
   rw [if_neg (by omega),if_neg (by omega),if_neg (by omega),if_neg (by omega)]
   exact h.p1 j (by omega)
 p2:=fun j hj=>by
  have lc:=h.lc
  simp only [getD_st,List.length_set]
  by_cases e:j=d
  ·subst e
   rw [if_neg (by omega),if_pos (by omega),if_pos (by omega)]
   exact ⟨rfl,rfl⟩
  ·rw [if_neg (by omega),if_neg (by omega),if_neg (by omega),if_neg (by omega)]
   exact h.p2 j (by omega)
theorem RK.fin {D:Nat}{ρ:Nat→Nat}{A B C:List Int}(h:RK D ρ D A B C)(hp:Pm D ρ)(hev:D%2=0):RotM D ρ [A,B,C] where
 pm:=hp
 ev:=hev
 len:=rfl
 rl:=fun p hm=>by
  simp at hm
  rcases hm with rfl | rfl | rfl
  ·exact h.la
  ·exact h.lb
  ·exact h.lc
 m0:=h.p0
 m1:=h.p1
 m2:=h.p2
noncomputable def mrC (r:List Int):Int:=if IsRot r then if IsMap (moR r) then 0 else 5 else 1
noncomputable def mrV (r:List Int):AV:=if mrC r=0 then maniA (moR r) else .agg [nilS]
theorem xor_alt0:∀ d:Fin 400,bitsV .xor .i64 (d:Nat) 1=((alt d:Nat):Int):=by decide +kernel
theorem isRotation_i (r:List Int)(hl:r.length≤1048576):Pure Tryz.prog 22 [ints r] (bl (decide (IsRot r))) []:=by
 have hp:=isPerm_c r (by omega)
 have hsz:=size_c r (by omega)
 have e3:((r.length:Int)).tmod 2=((r.length%2:Nat):Int):=by rw [Int.tmod_eq_emod_of_nonneg (by omega)];rfl
 refine pureV0 ok22 rfl rfl ?_;unfold c22
 refine RN ?_
 refine pureC1 (hsz) ?_
 refine RN ?_
 refine pureC1 (within_c (r.length:Int) 2 200) ?_
 (refine RN ?_;try with_reducible exact trivial)
 (try simp only [e3,go_sem,↓reduceIte,Nat.reduceEqDiff,Nat.reduceAdd,reduceCtorEq])
 refine GC1 (bl (decide (IsPrm r)) ) (fun hg =>  hp) ?_
 refine RN ?_
 congr 2
 rw [Bool.eq_iff_iff,decide_eq_true_eq]
 simp only [IsRot,Bool.and_eq_true,decide_eq_true_eq,beq_iff_eq]
 constructor
 ·rintro ⟨⟨⟨h1,h2⟩,h3⟩,h4⟩
  exact ⟨by omega,by omega,by omega,h4⟩
 ·rintro ⟨h1,h2,h3,h4⟩
  exact ⟨⟨⟨by omega,by omega⟩,by omega⟩,h4⟩
theorem isRotation_x (r:List Int)(hl:r.length≤1048576):Pure Tryz.prog 9 [ints r] (bl (decide (IsRot r))) []:=by
 have h:=isRotation_i r hl
 refine pureV0 ok9 rfl rfl ?_;unfold c9
 refine RN ?_
 refine pureC1 (h) ?_
 (refine RN ?_;try with_reducible exact trivial)
theorem mapOfRotation_x (r:List Int)(hl:r.length≤1048576):Pure Tryz.prog 7 [ints r] (.tup [mrV r,i64 (mrC r)]) []:=by
 have hi:=isRotation_c r hl
 refine pureRV ok7 rfl ?_;unfold c7
 refine RN ?_
 refine pureC1 (hi) ?_
 refine RN ?_
 refine ⟨fun hr=>?_,fun hr=>?_⟩
 ·have e1:mrC r=1:=if_neg hr
  have e2:mrV r = .agg [nilS]:=if_neg (by rw [e1];decide)
  rw [e1,e2]
  refine RN ?_
  exact Ref.gc1 []
 ·have hr0:=hr
  obtain ⟨h2,hev,h200,hprm⟩:=hr
  have hpm:=prm_pm hprm
  have hc2:(2*(r.length:Int)).toNat=2*r.length:=by omega
  refine RN ?_
  refine V_altsS [(0,ints r),(2,.ref 0 0),(3,i64 0),(4,i64 (r.length:Int)),(5,.ref 1 0)] [some [nilS],some [.sl 5 1 0 3],some (intsC (List.replicate (2*r.length) 0)),some (intsC (List.replicate (2*r.length) 0)),some (intsC (List.replicate (2*r.length) 0)),some [.sl 2 1 0 (2*r.length),.sl 3 1 0 (2*r.length),.sl 4 1 0 (2*r.length)]] ?_ ?_
  ·(repeat' first | simp only [go_sem,↓reduceIte,Nat.reduceEqDiff,Nat.reduceAdd,reduceCtorEq] | with_reducible refine LT_reg ?_ | with_reducible refine LT_regz1 ?_ | with_reducible refine LT_fin ?_ | with_reducible exact LT_tt | with_reducible refine LT_alt ?_ ?_ | (with_reducible refine And.intro ?_ ?_;focus first | assumption | omega | grind))
   all_goals rw [hc2]
   all_goals first
    | (refine Ref.gc [0,1,2,3,4,5] rfl ?_ ?_;(focus simp only [go_sem,↓reduceIte,Nat.reduceEqDiff,Nat.reduceAdd,reduceCtorEq]<;>rfl);(simp [sub,fget,go_sem,↓reduceIte,Nat.reduceEqDiff,Nat.reduceAdd,reduceCtorEq];done))
    | (refine Ref.gc [0,1,2,4,3,5] rfl ?_ ?_;(focus simp only [go_sem,↓reduceIte,Nat.reduceEqDiff,Nat.reduceAdd,reduceCtorEq]<;>rfl);(simp [sub,fget,go_sem,↓reduceIte,Nat.reduceEqDiff,Nat.reduceAdd,reduceCtorEq];done))
    | (refine Ref.gc [0,1,3,2,4,5] rfl ?_ ?_;(focus simp only [go_sem,↓reduceIte,Nat.reduceEqDiff,Nat.reduceAdd,reduceCtorEq]<;>rfl);(simp [sub,fget,go_sem,↓reduceIte,Nat.reduceEqDiff,Nat.reduceAdd,reduceCtorEq];done))
    | (refine Ref.gc [0,1,3,4,2,5] rfl ?_ ?_;(focus simp only [go_sem,↓reduceIte,Nat.reduceEqDiff,Nat.reduceAdd,reduceCtorEq]<;>rfl);(simp [sub,fget,go_sem,↓reduceIte,Nat.reduceEqDiff,Nat.reduceAdd,reduceCtorEq];done))
    | (refine Ref.gc [0,1,4,2,3,5] rfl ?_ ?_;(focus simp only [go_sem,↓reduceIte,Nat.reduceEqDiff,Nat.reduceAdd,reduceCtorEq]<;>rfl);(simp [sub,fget,go_sem,↓reduceIte,Nat.reduceEqDiff,Nat.reduceAdd,reduceCtorEq];done))
    | (refine Ref.gc [0,1,4,3,2,5] rfl ?_ ?_;(focus simp only [go_sem,↓reduceIte,Nat.reduceEqDiff,Nat.reduceAdd,reduceCtorEq]<;>rfl);(simp [sub,fget,go_sem,↓reduceIte,Nat.reduceEqDiff,Nat.reduceAdd,reduceCtorEq];done))
    | (refine Ref.gc [0,2,1,3,4,5] rfl ?_ ?_;(focus simp only [go_sem,↓reduceIte,Nat.reduceEqDiff,Nat.reduceAdd,reduceCtorEq]<;>rfl);(simp [sub,fget,go_sem,↓reduceIte,Nat.reduceEqDiff,Nat.reduceAdd,reduceCtorEq];done))
    | (refine Ref.gc [0,2,1,4,3,5] rfl ?_ ?_;(focus simp only [go_sem,↓reduceIte,Nat.reduceEqDiff,Nat.reduceAdd,reduceCtorEq]<;>rfl);(simp [sub,fget,go_sem,↓reduceIte,Nat.reduceEqDiff,Nat.reduceAdd,reduceCtorEq];done))
    | (refine Ref.gc [0,2,3,1,4,5] rfl ?_ ?_;(focus simp only [go_sem,↓reduceIte,Nat.reduceEqDiff,Nat.reduceAdd,reduceCtorEq]<;>rfl);(simp [sub,fget,go_sem,↓reduceIte,Nat.reduceEqDiff,Nat.reduceAdd,reduceCtorEq];done))
    | (refine Ref.gc [0,2,3,4,1,5] rfl ?_ ?_;(focus simp only [go_sem,↓reduceIte,Nat.reduceEqDiff,Nat.reduceAdd,reduceCtorEq]<;>rfl);(simp [sub,fget,go_sem,↓reduceIte,Nat.reduceEqDiff,Nat.reduceAdd,reduceCtorEq];done))
    | (refine Ref.gc [0,2,4,1,3,5] rfl ?_ ?_;(focus simp only [go_sem,↓reduceIte,Nat.reduceEqDiff,Nat.reduceAdd,reduceCtorEq]<;>rfl);(simp [sub,fget,go_sem,↓reduceIte,Nat.reduceEqDiff,Nat.reduceAdd,reduceCtorEq];done))
    | (refine Ref.gc [0,2,4,3,1,5] rfl ?_ ?_;(focus simp only [go_sem,↓reduceIte,Nat.reduceEqDiff,Nat.reduceAdd,reduceCtorEq]<;>rfl);(simp [sub,fget,go_sem,↓reduceIte,Nat.reduceEqDiff,Nat.reduceAdd,reduceCtorEq];done))
    | (refine Ref.gc [0,3,1,2,4,5] rfl ?_ ?_;(focus simp only [go_sem,↓reduceIte,Nat.reduceEqDiff,Nat.reduceAdd,reduceCtorEq]<;>rfl);(simp [sub,fget,go_sem,↓reduceIte,Nat.reduceEqDiff,Nat.reduceAdd,reduceCtorEq];done))
    | (refine Ref.gc [0,3,1,4,2,5] rfl ?_ ?_;(focus simp only [go_sem,↓reduceIte,Nat.reduceEqDiff,Nat.reduceAdd,reduceCtorEq]<;>rfl);(simp [sub,fget,go_sem,↓reduceIte,Nat.reduceEqDiff,Nat.reduceAdd,reduceCtorEq];done))
    | (refine Ref.gc [0,3,2,1,4,5] rfl ?_ ?_;(focus simp only [go_sem,↓reduceIte,Nat.reduceEqDiff,Nat.reduceAdd,reduceCtorEq]<;>rfl);(simp [sub,fget,go_sem,↓reduceIte,Nat.reduceEqDiff,Nat.reduceAdd,reduceCtorEq];done))
    | (refine Ref.gc [0,3,2,4,1,5] rfl ?_ ?_;(focus simp only [go_sem,↓reduceIte,Nat.reduceEqDiff,Nat.reduceAdd,reduceCtorEq]<;>rfl);(simp [sub,fget,go_sem,↓reduceIte,Nat.reduceEqDiff,Nat.reduceAdd,reduceCtorEq];done))
    | (refine Ref.gc [0,3,4,1,2,5] rfl ?_ ?_;(focus simp only [go_sem,↓reduceIte,Nat.reduceEqDiff,Nat.reduceAdd,reduceCtorEq]<;>rfl);(simp [sub,fget,go_sem,↓reduceIte,Nat.reduceEqDiff,Nat.reduceAdd,reduceCtorEq];done))
    | (refine Ref.gc [0,3,4,2,1,5] rfl ?_ ?_;(focus simp only [go_sem,↓reduceIte,Nat.reduceEqDiff,Nat.reduceAdd,reduceCtorEq]<;>rfl);(simp [sub,fget,go_sem,↓reduceIte,Nat.reduceEqDiff,Nat.reduceAdd,reduceCtorEq];done))
    | (refine Ref.gc [0,4,1,2,3,5] rfl ?_ ?_;(focus simp only [go_sem,↓reduceIte,Nat.reduceEqDiff,Nat.reduceAdd,reduceCtorEq]<;>rfl);(simp [sub,fget,go_sem,↓reduceIte,Nat.reduceEqDiff,Nat.reduceAdd,reduceCtorEq];done))
    | (refine Ref.gc [0,4,1,3,2,5] rfl ?_ ?_;(focus simp only [go_sem,↓reduceIte,Nat.reduceEqDiff,Nat.reduceAdd,reduceCtorEq]<;>rfl);(simp [sub,fget,go_sem,↓reduceIte,Nat.reduceEqDiff,Nat.reduceAdd,reduceCtorEq];done))
    | (refine Ref.gc [0,4,2,1,3,5] rfl ?_ ?_;(focus simp only [go_sem,↓reduceIte,Nat.reduceEqDiff,Nat.reduceAdd,reduceCtorEq]<;>rfl);(simp [sub,fget,go_sem,↓reduceIte,Nat.reduceEqDiff,Nat.reduceAdd,reduceCtorEq];done))
    | (refine Ref.gc [0,4,2,3,1,5] rfl ?_ ?_;(focus simp only [go_sem,↓reduceIte,Nat.reduceEqDiff,Nat.reduceAdd,reduceCtorEq]<;>rfl);(simp [sub,fget,go_sem,↓reduceIte,Nat.reduceEqDiff,Nat.reduceAdd,reduceCtorEq];done))
    | (refine Ref.gc [0,4,3,1,2,5] rfl ?_ ?_;(focus simp only [go_sem,↓reduceIte,Nat.reduceEqDiff,Nat.reduceAdd,reduceCtorEq]<;>rfl);(simp [sub,fget,go_sem,↓reduceIte,Nat.reduceEqDiff,Nat.reduceAdd,reduceCtorEq];done))
    | (refine Ref.gc [0,4,3,2,1,5] rfl ?_ ?_;(focus simp only [go_sem,↓reduceIte,Nat.reduceEqDiff,Nat.reduceAdd,reduceCtorEq]<;>rfl);(simp [sub,fget,go_sem,↓reduceIte,Nat.reduceEqDiff,Nat.reduceAdd,reduceCtorEq];done))
    | (refine Ref.gc [0,5,1,2,3,4] rfl ?_ ?_;(focus simp only [go_sem,↓reduceIte,Nat.reduceEqDiff,Nat.reduceAdd,reduceCtorEq]<;>rfl);(simp [sub,fget,go_sem,↓reduceIte,Nat.reduceEqDiff,Nat.reduceAdd,reduceCtorEq];done))
    | (refine Ref.gc [0,5,1,3,2,4] rfl ?_ ?_;(focus simp only [go_sem,↓reduceIte,Nat.reduceEqDiff,Nat.reduceAdd,reduceCtorEq]<;>rfl);(simp [sub,fget,go_sem,↓reduceIte,Nat.reduceEqDiff,Nat.reduceAdd,reduceCtorEq];done))
    | (refine Ref.gc [0,5,2,1,3,4] rfl ?_ ?_;(focus simp only [go_sem,↓reduceIte,Nat.reduceEqDiff,Nat.reduceAdd,reduceCtorEq]<;>rfl);(simp [sub,fget,go_sem,↓reduceIte,Nat.reduceEqDiff,Nat.reduceAdd,reduceCtorEq];done))
    | (refine Ref.gc [0,5,2,3,1,4] rfl ?_ ?_;(focus simp only [go_sem,↓reduceIte,Nat.reduceEqDiff,Nat.reduceAdd,reduceCtorEq]<;>rfl);(simp [sub,fget,go_sem,↓reduceIte,Nat.reduceEqDiff,Nat.reduceAdd,reduceCtorEq];done))
    | (refine Ref.gc [0,5,3,1,2,4] rfl ?_ ?_;(focus simp only [go_sem,↓reduceIte,Nat.reduceEqDiff,Nat.reduceAdd,reduceCtorEq]<;>rfl);(simp [sub,fget,go_sem,↓reduceIte,Nat.reduceEqDiff,Nat.reduceAdd,reduceCtorEq];done))
    | (refine Ref.gc [0,5,3,2,1,4] rfl ?_ ?_;(focus simp only [go_sem,↓reduceIte,Nat.reduceEqDiff,Nat.reduceAdd,reduceCtorEq]<;>rfl);(simp [sub,fget,go_sem,↓reduceIte,Nat.reduceEqDiff,Nat.reduceAdd,reduceCtorEq];done))
  refine RN ?_
  refine V_loop (α:=Nat×List Int×List Int×List Int) (S:=fun o=>([(0,ints r),(2,.ref 0 0),(3,i64 0),(4,i64 (r.length:Int)),(5,.ref 1 0),(6,i64 (o.1:Int))],[some [nilS],some [.sl 5 1 0 3],some (intsC o.2.1),some (intsC o.2.2.1),some (intsC o.2.2.2),some [.sl 2 1 0 (2*r.length),.sl 3 1 0 (2*r.length),.sl 4 1 0 (2*r.length)]])) (C:=fun o=>o.1≤r.length∧RK r.length (rhoN r) o.1 o.2.1 o.2.2.1 o.2.2.2) (μ:=fun o=>r.length - o.1) (0,List.replicate (2*r.length) 0,List.replicate (2*r.length) 0,List.replicate (2*r.length) 0) ⟨Nat.zero_le _,RK.zero _ _⟩ (Ref.to1) ?_
  rintro ⟨d,A,B,C⟩ ⟨g1,hK⟩
  dsimp only at g1 hK ⊢
  have g2:=hK.la
  have g3:=hK.lb
  have g4:=hK.lc
  refine RN ?_
  refine ⟨fun hc=>?_,fun hc=>?_⟩
  ·have hat:=hprm.at (k:=d) (by omega)
   have e3:(d:Int).tmod 2=(d:Int)%2:=Int.tmod_eq_emod_of_nonneg (by omega)
   have e4:((2*(d:Int)+1)).toNat=2*d+1:=by omega
   have e5:((2*(d:Int))).toNat=2*d:=by omega
   refine RN ?_
   have hst:=hK.step hpm (show d<r.length by omega)
   refine ⟨(d+1,_,_,_),⟨by dsimp only;omega,hst⟩,by dsimp only;omega,Ref.to (?_) (by simp [sub,fget])⟩
   have e6:(2*r.getD d 0+1).toNat=2*rhoN r d+1:=by unfold rhoN;omega
   have e7:r.getD d 0=((rhoN r d:Nat):Int):=by unfold rhoN;omega
   have e8:(d:Int)+1 - 2*(d:Int).tmod 2=((alt d:Nat):Int):=by rw [e3];unfold alt;omega
   rw [e4,e5,e6,e8,e7]
  ·obtain rfl:d=r.length:=by omega
   have hR:=hK.fin hpm hev
   have hmo:=moR_eq hR
   have tA:(intsC A).take (2*r.length)=intsC A:=List.take_of_length_le (by rw [len_intsC];omega)
   have tB:(intsC B).take (2*r.length)=intsC B:=List.take_of_length_le (by rw [len_intsC];omega)
   have tC:(intsC C).take (2*r.length)=intsC C:=List.take_of_length_le (by rw [len_intsC];omega)
   have hM:AV.agg [.slc 1 3 [.slc 1 (2*r.length) (intsC A),.slc 1 (2*r.length) (intsC B),.slc 1 (2*r.length) (intsC C)]]=maniA [A,B,C]:=by simp [maniA,mat,ints,intsC,g2,g3,g4]
   refine RN ?_
   refine pureC2 (l14Is_c [A,B,C] (by simp) (by intro p hp;simp at hp;rcases hp with rfl | rfl | rfl<;>omega)) (by simp only [go_sem,↓reduceIte,Nat.reduceEqDiff,Nat.reduceAdd,reduceCtorEq,tA,tB,tC,hM]<;>rfl) ?_
   refine RN ?_
   refine ⟨fun hm=>?_,fun hm=>?_⟩
   ·have e1:mrC r=5:=by unfold mrC;rw [if_pos hr0,hmo,if_neg hm]
    have e2:mrV r = .agg [nilS]:=if_neg (by rw [e1];decide)
    rw [e1,e2]
    refine RN ?_
    exact Ref.gc1 []
   ·have e1:mrC r=0:=by unfold mrC;rw [if_pos hr0,hmo,if_pos hm]
    have e2:mrV r=maniA [A,B,C]:=by unfold mrV;rw [if_pos e1,hmo]
    rw [e1,e2]
    refine RN ?_
    refine Ref.sel [] rfl (by simp only [go_sem,↓reduceIte,Nat.reduceEqDiff,Nat.reduceAdd,reduceCtorEq]) ?_
    simp [sub,fget,go_sem,↓reduceIte,Nat.reduceEqDiff,Nat.reduceAdd,reduceCtorEq,tA,tB,tC,hM]
theorem mapOfRotation_i (r:List Int)(hr:IsRot r):Pure Tryz.prog 23 [ints r] (maniA (moR r)) []:=by
 obtain ⟨h2,hev,h200,hprm⟩:=hr
 have hpm:=prm_pm hprm
 have hsz:=size_c r (by omega)
 have hc2:(2*(r.length:Int)).toNat=2*r.length:=by omega
 refine pureRV ok23 rfl ?_;unfold c23
 refine RN ?_
 refine pureC1 (hsz) ?_
 refine RN ?_
 refine V_altsS [(0,ints r),(2,.ref 0 0),(4,.sl 4 1 0 3)] [some [nilS],some (intsC (List.replicate (2*r.length) 0)),some (intsC (List.replicate (2*r.length) 0)),some (intsC (List.replicate (2*r.length) 0)),some [.sl 1 1 0 (2*r.length),.sl 2 1 0 (2*r.length),.sl 3 1 0 (2*r.length)]] ?_ ?_
 ·(repeat' first | simp only [go_sem,↓reduceIte,Nat.reduceEqDiff,Nat.reduceAdd,reduceCtorEq] | with_reducible refine LT_reg ?_ | with_reducible refine LT_regz1 ?_ | with_reducible refine LT_fin ?_ | with_reducible exact LT_tt | with_reducible refine LT_alt ?_ ?_ | (with_reducible refine And.intro ?_ ?_;focus first | assumption | omega | grind))
  all_goals rw [hc2]
  all_goals first
      | (refine Ref.gc [0,1,2,3,4] rfl ?_ ?_;(focus simp only [go_sem,↓reduceIte,Nat.reduceEqDiff,Nat.reduceAdd,reduceCtorEq]<;>rfl);(simp [sub,fget,go_sem,↓reduceIte,Nat.reduceEqDiff,Nat.reduceAdd,reduceCtorEq];done))
      | (refine Ref.gc [0,1,3,2,4] rfl ?_ ?_;(focus simp only [go_sem,↓reduceIte,Nat.reduceEqDiff,Nat.reduceAdd,reduceCtorEq]<;>rfl);(simp [sub,fget,go_sem,↓reduceIte,Nat.reduceEqDiff,Nat.reduceAdd,reduceCtorEq];done))
      | (refine Ref.gc [0,2,1,3,4] rfl ?_ ?_;(focus simp only [go_sem,↓reduceIte,Nat.reduceEqDiff,Nat.reduceAdd,reduceCtorEq]<;>rfl);(simp [sub,fget,go_sem,↓reduceIte,Nat.reduceEqDiff,Nat.reduceAdd,reduceCtorEq];done))
      | (refine Ref.gc [0,2,3,1,4] rfl ?_ ?_;(focus simp only [go_sem,↓reduceIte,Nat.reduceEqDiff,Nat.reduceAdd,reduceCtorEq]<;>rfl);(simp [sub,fget,go_sem,↓reduceIte,Nat.reduceEqDiff,Nat.reduceAdd,reduceCtorEq];done))
      | (refine Ref.gc [0,3,1,2,4] rfl ?_ ?_;(focus simp only [go_sem,↓reduceIte,Nat.reduceEqDiff,Nat.reduceAdd,reduceCtorEq]<;>rfl);(simp [sub,fget,go_sem,↓reduceIte,Nat.reduceEqDiff,Nat.reduceAdd,reduceCtorEq];done))
      | (refine Ref.gc [0,3,2,1,4] rfl ?_ ?_;(focus simp only [go_sem,↓reduceIte,Nat.reduceEqDiff,Nat.reduceAdd,reduceCtorEq]<;>rfl);(simp [sub,fget,go_sem,↓reduceIte,Nat.reduceEqDiff,Nat.reduceAdd,reduceCtorEq];done))
 refine RN ?_
 refine V_loop (α:=Nat×List Int×List Int×List Int) (S:=fun o=>([(2,.ref 0 0),(4,.sl 4 1 0 3),(18,ints r),(19,i64 (r.length:Int)),(20,i64 (o.1:Int))],[some [nilS],some (intsC o.2.1),some (intsC o.2.2.1),some (intsC o.2.2.2),some [.sl 1 1 0 (2*r.length),.sl 2 1 0 (2*r.length),.sl 3 1 0 (2*r.length)]])) (C:=fun o=>o.1≤r.length∧RK r.length (rhoN r) o.1 o.2.1 o.2.2.1 o.2.2.2) (μ:=fun o=>r.length - o.1) (0,List.replicate (2*r.length) 0,List.replicate (2*r.length) 0,List.replicate (2*r.length) 0) ⟨Nat.zero_le _,RK.zero _ _⟩ (Ref.to1) ?_
 rintro ⟨d,A,B,C⟩ ⟨g1,hK⟩
 dsimp only at g1 hK ⊢
 have g2:=hK.la
 have g3:=hK.lb
 have g4:=hK.lc
 refine RN ?_
 refine ⟨fun hc=>?_,fun hc=>?_⟩
 ·have hat:=hprm.at (k:=d) (by omega)
  have hx:bitsV BinOp.xor IntKind.i64 (d:Int) 1=((alt d:Nat):Int):=xor_alt0 ⟨d,by omega⟩
  have hal:=alt_lt hev (show d<r.length by omega)
  have e4:((2*(d:Int)+1)).toNat=2*d+1:=by omega
  have e5:((2*(d:Int))).toNat=2*d:=by omega
  have hst:=hK.step hpm (show d<r.length by omega)
  obtain ⟨y,hy⟩:∃ y,y=rhoN r d:=⟨_,rfl⟩
  have hyl:y<r.length:=hy ▸ hpm.lt d (by omega)
  have e7:r.getD d 0=(y:Int):=by unfold rhoN at hy;omega
  have e6:(2*(y:Int)+1).toNat=2*y+1:=by omega
  rw [← hy] at hst
  refine RN ?_
  simp only [hx,e7,e4,e5,e6]
  refine V_altsB [(2,.ref 0 0),(4,.sl 4 1 0 3),(18,ints r),(19,i64 (r.length:Int)),(20,i64 (d:Int))] [some [nilS],some (intsC ((A.set (2*d) (2*(alt d:Nat)+1)).set (2*d+1) (2*(alt d:Nat)))),some (intsC ((B.set (2*d) (2*(y:Nat)+1)).set (2*y+1) (2*(d:Nat)))),some (intsC ((C.set (2*d) (2*(d:Nat)+1)).set (2*d+1) (2*(d:Nat)))),some [.sl 1 1 0 (2*r.length),.sl 2 1 0 (2*r.length),.sl 3 1 0 (2*r.length)]] ?_ ?_
  ·repeat' first
     | simp only [e4,e5,List.length_set,g4,go_sem,↓reduceIte,Nat.reduceEqDiff,Nat.reduceAdd,reduceCtorEq]
     | with_reducible refine LT_reg ?_
     | with_reducible refine LT_fin ?_
     | with_reducible exact LT_tt
     | with_reducible refine LT_alt ?_ ?_
     | (with_reducible refine And.intro ?_ ?_;focus first | assumption | omega | grind)
   all_goals exact Ref.to1
  ·(refine RN ?_;try with_reducible exact trivial)
   exact ⟨(d+1,_,_,_),⟨by dsimp only;omega,hst⟩,by dsimp only;omega,Ref.to1⟩
 ·obtain rfl:d=r.length:=by omega
  have hR:=hK.fin hpm hev
  have hmo:=moR_eq hR
  have tA:(intsC A).take (2*r.length)=intsC A:=List.take_of_length_le (by rw [len_intsC];omega)
  have tB:(intsC B).take (2*r.length)=intsC B:=List.take_of_length_le (by rw [len_intsC];omega)
  have tC:(intsC C).take (2*r.length)=intsC C:=List.take_of_length_le (by rw [len_intsC];omega)
  have hM:AV.agg [.slc 1 3 [.slc 1 (2*r.length) (intsC A),.slc 1 (2*r.length) (intsC B),.slc 1 (2*r.length) (intsC C)]]=maniA [A,B,C]:=by simp [maniA,mat,ints,intsC,g2,g3,g4]
  rw [hmo]
  refine RN ?_
  refine Ref.sel [] rfl (by simp only [go_sem,↓reduceIte,Nat.reduceEqDiff,Nat.reduceAdd,reduceCtorEq]) ?_
  simp [sub,fget,go_sem,↓reduceIte,Nat.reduceEqDiff,Nat.reduceAdd,reduceCtorEq,tA,tB,tC,hM]
theorem rot_ex {r:List Int}(h:IsRot r):RotM r.length (rhoN r) (moR r):=by
 have hp:=prm_pm h.2.2.2
 have hev:=h.2.1
 have build:∀ d,d≤r.length→∃ A B C,RK r.length (rhoN r) d A B C:=fun d=>by
  induction d with
  | zero=>exact fun _=>⟨_,_,_,RK.zero _ _⟩
  | succ d ih=>
   intro hd
   obtain ⟨A,B,C,hK⟩:=ih (by omega)
   exact ⟨_,_,_,hK.step hp (by omega)⟩
 obtain ⟨A,B,C,hK⟩:=build r.length (Nat.le_refl _)
 have hR:=hK.fin hp hev
 rw [moR_eq hR]
 exact hR
theorem implMor_c (r:List Int)(hl:r.length≤1048576):Pure Tryz.prog 6 [ints r] (.tup [mrV r,i64 (mrC r)]) []:=by
 have hir:=isRotation_i r hl
 by_cases hr:IsRot r
 ·rw [decide_eq_true hr] at hir
  have hmr:=mapOfRotation_i r hr
  have hR:=rot_ex hr
  have h3:=hR.len
  have h200:=hr.2.2.1
  have hrow:∀ p∈moR r,p.length≤1048576:=fun p hp=>by rw [hR.rl p hp];omega
  have him:=isManiplex_c (moR r) (by omega) hrow
  by_cases hm:IsMan (moR r)
  ·have e1:mrC r=0:=by unfold mrC;rw [if_pos hr,if_pos ⟨hm,h3⟩]
   have e2:mrV r=maniA (moR r):=if_pos e1
   rw [e1,e2]
   rw [decide_eq_true hm] at him
   generalize moR r=M at *
   refine pureRV ok6 rfl ?_;unfold c6
   refine RN ?_
   refine pureC1 (hir) ?_
   refine RN ?_
   refine call_pureG (hmr) (by simp only [go_sem,↓reduceIte,Nat.reduceEqDiff,Nat.reduceAdd,reduceCtorEq]<;>rfl) ?_
   refine RN ?_
   refine pureC1 (him) ?_
   refine RN ?_
   exact Ref.gc [] rfl (by simp only [go_sem,↓reduceIte,Nat.reduceEqDiff,Nat.reduceAdd,reduceCtorEq]) (by simp [sub,fget,maniA,mat,rnmL_rows,go_sem,↓reduceIte,Nat.reduceEqDiff,Nat.reduceAdd,reduceCtorEq])
  ·have e1:mrC r=5:=by unfold mrC;rw [if_pos hr,if_neg fun h=>hm h.1]
   have e2:mrV r = .agg [nilS]:=if_neg (by rw [e1];decide)
   rw [e1,e2]
   rw [decide_eq_false hm] at him
   generalize moR r=M at *
   refine pureRV ok6 rfl ?_;unfold c6
   refine RN ?_
   refine pureC1 (hir) ?_
   refine RN ?_
   refine call_pureG (hmr) (by simp only [go_sem,↓reduceIte,Nat.reduceEqDiff,Nat.reduceAdd,reduceCtorEq]<;>rfl) ?_
   refine RN ?_
   refine pureC1 (him) ?_
   refine RN ?_
   exact Ref.gc [] rfl (by simp only [go_sem,↓reduceIte,Nat.reduceEqDiff,Nat.reduceAdd,reduceCtorEq]) (by simp [sub,fget,maniA,mat,rnmL_rows,go_sem,↓reduceIte,Nat.reduceEqDiff,Nat.reduceAdd,reduceCtorEq])
 ·rw [decide_eq_false hr] at hir
  have e1:mrC r=1:=if_neg hr
  have e2:mrV r = .agg [nilS]:=if_neg (by rw [e1];decide)
  rw [e1,e2]
  refine pureRV ok6 rfl ?_;unfold c6
  refine RN ?_
  refine pureC1 (hir) ?_
  refine RN ?_
  exact Ref.gc1 []
end
section
open Go.Gov
open Classical
theorem l14DrawRotation_v (bs : List Int) (hb : Byt bs) (a : Nat) (h : Int) (hs : a ≤ bs.length) (most : Nat) (hm1 : 1 ≤ most) (hm2 : most ≤ 1000) :
    WriE Tryz.prog 38 [.ref 0 0,i64 (most:Int)] [some (srcC bs a h)] (fun o:Nat×Int×List Int=>o.1≤bs.length∧o.2.2.length≤2*most∧2≤o.2.2.length) (fun o=>.sl 1 1 0 o.2.2.length) (fun o=>[some (srcC bs o.1 o.2.1),some (intsC o.2.2)]):=by
 refine wriREV ok38 rfl ?_;unfold c38
 refine RN ?_
 have hmx:(if (1:Int)<(most:Int) then (most:Int) else 1)=most:=by split<;>omega
 (try simp only [hmx])
 refine wriEF (l01Next_w bs hb a h hs (most:Int)) [0] (by first | rfl | simp) (by simp only [go_sem,↓reduceIte,Nat.reduceEqDiff,Nat.reduceAdd,reduceCtorEq]<;>rfl) (by simp only [go_sem,↓reduceIte,Nat.reduceEqDiff,Nat.reduceAdd,reduceCtorEq]<;>rfl) fun o ho=>?_
 obtain ⟨a1,b1,p⟩:=o
 obtain ⟨q1,q2,q3⟩:=ho
 dsimp only at q1 q2 q3
 obtain ⟨p,rfl⟩:=Int.eq_ofNat_of_zero_le q2
 refine RN ?_
 refine V_loop (α:=Nat×Int×List Int) (S:=fun o=>([(0,.ref 0 0),(5,i64 (2*(1+(p:Int)))),(6,.sl 1 1 0 o.2.2.length),(7,i64 (o.2.2.length:Int))],[some (srcC bs o.1 o.2.1),some (intsC o.2.2)])) (C:=fun o=>o.1≤bs.length∧o.2.2.length≤2*(1+p)) (μ:=fun o=>2*(1+p) - o.2.2.length) (a1,b1,[]) ⟨q1,Nat.zero_le _⟩ (Ref.to1) ?_
 rintro ⟨a2,b2,x⟩ ⟨h1,h2⟩
 dsimp only at h1 h2 ⊢
 refine RN ?_
 refine ⟨fun hc=>?_,fun hc=>?_⟩
 ·(refine RN ?_;try with_reducible exact trivial)
  refine wriEF (l01Next_w bs hb a2 b2 h1 ((x.length:Int)+1)) [0] (by first | rfl | simp) (by simp only [go_sem,↓reduceIte,Nat.reduceEqDiff,Nat.reduceAdd,reduceCtorEq]<;>rfl) (by simp only [go_sem,↓reduceIte,Nat.reduceEqDiff,Nat.reduceAdd,reduceCtorEq]<;>rfl) fun o ho=>?_
  obtain ⟨a3,b3,k⟩:=o
  obtain ⟨r1,r2,r3⟩:=ho
  dsimp only at r1 r2 r3
  obtain ⟨k,rfl⟩:=Int.eq_ofNat_of_zero_le r2
  refine RN ?_
  have e1:((x.length:Int) - k).toNat=x.length - k:=by omega
  have tk1:((intsC x).drop k).take (x.length - k)=intsC (x.drop k):=by rw [drop_intsC];exact List.take_of_length_le (by rw [len_intsC,List.length_drop];exact Nat.le_refl _)
  simp only [e1,tk1,go_sem,↓reduceIte,Nat.reduceEqDiff,Nat.reduceAdd,reduceCtorEq]
  refine RN ?_
  have e2:((k:Int) - 0).toNat=k:=by omega
  have tk2:(intsC x).take k=intsC (x.take k):=take_intsC x k
  have tk3:(i64 (x.length:Int) :: intsC (x.drop k)).take (1+(x.length - k))=intsC ((x.length:Int) :: x.drop k):=by
   rw [List.take_of_length_le (by simp [len_intsC];omega)];simp [intsC]
  simp only [e2,tk2,tk3,go_sem,↓reduceIte,Nat.reduceEqDiff,Nat.reduceAdd,reduceCtorEq]
  refine RN ?_
  have hkx:k≤x.length:=by omega
  have hln:(x.take k++((x.length:Int) :: x.drop k)).length=x.length+1:=by simp;omega
  have tk4:(intsC (x.take k)).take k=intsC (x.take k):=List.take_of_length_le (by rw [len_intsC];simp;omega)
  refine ⟨(a3,b3,x.take k++((x.length:Int) :: x.drop k)),⟨r1,by dsimp only;rw [hln];omega⟩,by dsimp only;rw [hln];omega,?_⟩
  dsimp only
  rw [hln]
  refine Ref.gc [0,6] rfl ?_ ?_
  ·simp only [go_sem,↓reduceIte,Nat.reduceEqDiff,Nat.reduceAdd,reduceCtorEq]
   rw [tk4,rnmL_ints,app_intsC]
  ·have e3:k+(1+(x.length - k))=x.length+1:=by omega
   simp [sub,fget,go_sem,↓reduceIte,Nat.reduceEqDiff,Nat.reduceAdd,reduceCtorEq,e3]
 ·(refine RN ?_;try with_reducible exact trivial)
  exact ⟨(a2,b2,x),⟨h1,by dsimp only;omega,by dsimp only;omega⟩,Ref.gc1 [0,1]⟩
theorem drawIsRotation_e (bs:List Int)(hb:Byt bs):PureE Tryz.prog 21 [bytA' bs] (fun r:List Int=>r.length≤17) (fun r=>ints r) (fun _=>[]):=by
 have hf:=l01From_p bs hb
 unfold bytA' at *
 refine pureREV ok21 rfl ?_;unfold c21
 refine RN ?_
 refine pureEG hf (by first | rfl | simp only [go_sem,↓reduceIte,Nat.reduceEqDiff,Nat.reduceAdd,reduceCtorEq]) fun h0 _=>?_
 refine RN ?_
 refine wriEF (l14DrawRotation_v bs hb 0 h0 (Nat.zero_le _) 8 (by omega) (by omega)) [0] (by first | rfl | simp) (by simp only [go_sem,↓reduceIte,Nat.reduceEqDiff,Nat.reduceAdd,reduceCtorEq]<;>rfl) (by simp only [go_sem,↓reduceIte,Nat.reduceEqDiff,Nat.reduceAdd,reduceCtorEq]<;>rfl) fun o ho=>?_
 obtain ⟨a1,b1,r⟩:=o
 obtain ⟨q1,q2,q3⟩:=ho
 dsimp only at q1 q2 q3
 refine RN ?_
 refine wriEF (l01Next_w bs hb a1 b1 q1 12) [0] (by first | rfl | simp) (by simp only [go_sem,↓reduceIte,Nat.reduceEqDiff,Nat.reduceAdd,reduceCtorEq]<;>rfl) (by simp only [go_sem,↓reduceIte,Nat.reduceEqDiff,Nat.reduceAdd,reduceCtorEq]<;>rfl) fun o ho=>?_
 obtain ⟨a2,b2,k⟩:=o
 obtain ⟨s1,s2,s3⟩:=ho
 dsimp only at s1 s2 s3
 have tr:(intsC r).take r.length=intsC r:=List.take_of_length_le (by rw [len_intsC];omega)
 refine RN ?_
 refine ⟨fun hc=>?_,fun hc=>?_⟩
 ·refine ⟨rfl,by omega,by omega,?_⟩
  refine RN ?_
  refine ⟨r++[(r.length:Int)],by simp;omega,Ref.sel [] rfl (by simp only [go_sem,↓reduceIte,Nat.reduceEqDiff,Nat.reduceAdd,reduceCtorEq]) ?_⟩
  simp [sub,fget,go_sem,↓reduceIte,Nat.reduceEqDiff,Nat.reduceAdd,reduceCtorEq,ints,intsC]
  rw [List.take_of_length_le (by simp)]
  congr 1
 ·(refine RN ?_;try with_reducible exact trivial)
  refine ⟨fun hc=>?_,fun hc=>?_⟩
  ·(refine RN ?_;try with_reducible exact trivial)
   refine wriEF (l01Next_w bs hb a2 b2 s1 9) [0] (by first | rfl | simp) (by simp only [go_sem,↓reduceIte,Nat.reduceEqDiff,Nat.reduceAdd,reduceCtorEq]<;>rfl) (by simp only [go_sem,↓reduceIte,Nat.reduceEqDiff,Nat.reduceAdd,reduceCtorEq]<;>rfl) fun o ho=>?_
   obtain ⟨a3,b3,k2⟩:=o
   obtain ⟨u1,u2,u3⟩:=ho
   dsimp only at u1 u2 u3
   refine RN ?_
   refine ⟨r.set 0 (k2 - 1),by simp;omega,Ref.sel [] rfl (by simp only [go_sem,↓reduceIte,Nat.reduceEqDiff,Nat.reduceAdd,reduceCtorEq]) ?_⟩
   simp [sub,fget,go_sem,↓reduceIte,Nat.reduceEqDiff,Nat.reduceAdd,reduceCtorEq,ints,intsC]
   rw [List.take_of_length_le (by simp)]
   congr 1
  ·(refine RN ?_;try with_reducible exact trivial)
   refine ⟨fun hc=>?_,fun hc=>?_⟩
   ·(refine RN ?_;try with_reducible exact trivial)
    refine ⟨[],by simp,(Ref.nil 0 1 rfl).trans (Ref.sel [] rfl (by simp only [go_sem,↓reduceIte,Nat.reduceEqDiff,Nat.reduceAdd,reduceCtorEq]) ?_)⟩
    simp [sub,fget,go_sem,↓reduceIte,Nat.reduceEqDiff,Nat.reduceAdd,reduceCtorEq,ints,intsC]
   ·(refine RN ?_;try with_reducible exact trivial)
    refine ⟨r,by omega,Ref.sel [] rfl (by simp only [go_sem,↓reduceIte,Nat.reduceEqDiff,Nat.reduceAdd,reduceCtorEq]) ?_⟩
    simp [sub,fget,go_sem,↓reduceIte,Nat.reduceEqDiff,Nat.reduceAdd,reduceCtorEq,ints,intsC,tr]
    try exact List.map_congr_left fun z _=>by simp [frz]
theorem drawMapOfRotation_e (bs:List Int)(hb:Byt bs):PureE Tryz.prog 5 [bytA' bs] (fun r:List Int=>r.length≤17) (fun r=>ints r) (fun _=>[]):=by
 have hl:=drawIsRotation_e bs hb
 unfold bytA' at *
 refine pureREV ok5 rfl ?_;unfold c5
 refine RN ?_
 refine pureEG hl (by simp only [bytA', go_sem,↓reduceIte,Nat.reduceEqDiff,Nat.reduceAdd,reduceCtorEq]) fun r hr=>?_
 refine RN ?_
 exact ⟨r,hr,Ref.gc2 []⟩
theorem drawRotationOf_e (bs:List Int)(hb:Byt bs):PureE Tryz.prog 14 [bytA' bs] (fun M:List (List Int)=>Gd 401 M) (fun M=>maniA M) (fun _=>[]):=by
 have hl:=drawIsMap_e bs hb
 unfold bytA' at *
 refine pureREV ok14 rfl ?_;unfold c14
 refine RN ?_
 refine pureEG hl (by simp only [bytA', go_sem,↓reduceIte,Nat.reduceEqDiff,Nat.reduceAdd,reduceCtorEq]) fun M hM=>?_
 refine RN ?_
 exact ⟨M,hM,Ref.gc2 []⟩
theorem implEu_c (M:List (List Int))(hm:IsMan M):Pure Tryz.prog 12 [maniA M] (.tup [i64 (altN (fcV (fl M) M M.length) M.length),i64 0]) []:=by
 have r5:=hm.r5
 have f4:=hm.f4
 have hq:=isManiplex_c M (by omega) (fun p hp=>by
  obtain ⟨k,hk,rfl⟩:=List.mem_iff_getElem.1 hp
  have h1:=(hm.rows k hk).1
  rw [show M.getD k []=M[k] by simp [hk]] at h1
  omega)
 rw [decide_eq_true hm] at hq
 have hfc:=faceCounts_c (fl M) M hm.mv rfl (by omega) (by omega)
 have hb:=fun i=>fcV_b (n:=fl M) (M:=M) (k:=M.length) (by omega) i
 have he:=eulerOf_c (fcV (fl M) M M.length) (by rw [fcV_len];omega) hb
 rw [fcV_len] at he
 have htk:=take_fc (fl M) M M.length
 refine pureRV ok12 rfl ?_;unfold c12
 refine RN ?_
 refine pureC1 (hq) ?_
 refine RN ?_
 refine pureC1 (hfc) ?_
 refine RN ?_
 refine pureC he (by simp only [go_sem,↓reduceIte,Nat.reduceEqDiff,Nat.reduceAdd,reduceCtorEq,ints,fcV_len,htk]) (by simp only [go_sem,↓reduceIte,Nat.reduceEqDiff,Nat.reduceAdd,reduceCtorEq]) ?_
 refine RN ?_
 exact Ref.gc1 []
end
end Go.Proofs.YtaekhhaaphgndaaGreat
