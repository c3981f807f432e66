/- Texts that belong together. -/
import Derived.Test.YtnompobcofhkpaaGreatDoorSc
set_option linter.unusedSimpArgs false
set_option linter.unusedVariables false
set_option maxRecDepth 100000
namespace Go.Proofs.YtnompobcofhkpaaGreatDoor
open Go.Gov Go.Nt
open Classical
set_option maxHeartbeats 8000000 in
theorem uC (bs:List Int)(hb:Fa bs):Ea Tryz.prog 5 [Ep bs] (fun M:List (List Int)=>Gd 401 M) (fun M=>Ak M) (fun _=>[]):=by
 have hf:=xF bs hb
 unfold Ep at *
 refine Ix ok5 rfl ?_;unfold c5
 refine RN ?_
 refine Le hf (by first | rfl | simp only [go_sem,↓reduceIte,Nat.reduceEqDiff,Nat.reduceAdd,reduceCtorEq]) fun h0 _=>?_
 refine RN ?_
 refine Bv (yV bs hb 0 h0 (Nat.zero_le _) 1 (by omega)) [1] (by first | rfl | simp) (by simp only [go_sem,↓reduceIte,Nat.reduceEqDiff,Nat.reduceAdd,reduceCtorEq]<;>rfl) (by simp only [go_sem,↓reduceIte,Nat.reduceEqDiff,Nat.reduceAdd,reduceCtorEq]<;>rfl) fun o ho=>?_
 obtain ⟨a1,b1,t⟩:=o
 obtain ⟨q1,q2⟩:=ho
 dsimp only at q1 q2
 have hmo:=iA t (by omega)
 unfold Mn at hmo
 have last:∀ (a b:_) (_:a≤bs.length),E1 Tryz.prog 17 [.ref 0 0,i64 24] [some (Az bs a b)] (fun o:Nat×Int×List (List Int)=>o.1≤bs.length∧Gd 401 o.2.2) (fun o=>Ak o.2.2) (fun o=>[some (Az bs o.1 o.2.1)]):=fun a b h=>yR bs hb a b h 24 (by omega) (by omega)
 by_cases h0:B3 t=0
 ·rw [h0] at hmo
  obtain ⟨hM,h4⟩:=V7 h0
  have hM3:=hM.2
  have h2:=hM.1.f2
  have hfl:=Hw (Bz t) (by omega) (by omega) (by change fl (Bz t)≤1048576;omega)
  change Gov.Pure _ _ _ (i64 ((fl (Bz t):Nat):Int)) _ at hfl
  generalize Bz t=M at *
  refine RN ?_
  refine D4 (hmo) (by simp only [go_sem,↓reduceIte,Nat.reduceEqDiff,Nat.reduceAdd,reduceCtorEq]<;>rfl) ?_
  refine RN ?_
  refine GCall.on rfl ?_
  refine Ag (hfl) ?_
  refine RN ?_
  by_cases hf:fl M≤100
  ·refine GCall.on (decide_eq_true (by omega)) ?_
   simp only [decide_eq_true (show ((fl M:Nat):Int)≤100 by omega)]
   refine RN ?_
   refine Bv (C2 bs hb a1 b1 q1 4) [1] (by first | rfl | simp) (by simp only [go_sem,↓reduceIte,Nat.reduceEqDiff,Nat.reduceAdd,reduceCtorEq]<;>rfl) (by simp only [go_sem,↓reduceIte,Nat.reduceEqDiff,Nat.reduceAdd,reduceCtorEq]<;>rfl) fun o ho=>?_
   obtain ⟨a2,b2,k⟩:=o
   obtain ⟨r1,r2,r3⟩:=ho
   dsimp only at r1 r2 r3
   refine RN ?_
   refine ⟨fun hc=>?_,fun hc=>?_⟩
   ·have hfm : ∀ k : Int, 0 ≤ k → (k = 0 ∨ k < ((fl M : Nat) : Int)) → Pure Tryz.prog 16 [Ak M, i64 k] (.agg [.sl 0 1 0 3]) [some ((Bx M k.toNat).map Ac)] := fun k h1 h2 => by
      obtain ⟨k,rfl⟩:=Int.eq_ofNat_of_zero_le h1
      exact Vq M hM k (by omega)
    refine Bj ?_
    (repeat first | simp only [Xz,go_sem,↓reduceIte,Nat.reduceEqDiff,Nat.reduceAdd,reduceCtorEq] | refine RX ?_ | decide)
    refine Tv (fun o:Nat×Int×Int=>0≤o.2.2∧(o.2.2=0∨o.2.2<((fl M:Nat):Int))) (fun o=>[(2,.ref 0 0)]) (fun o=>[some [.sl 1 1 0 3],some ((Bx M o.2.2.toNat).map Ac)]) ?_ ?_
    ·repeat' first
       | simp only [go_sem,↓reduceIte,Nat.reduceEqDiff,Nat.reduceAdd,reduceCtorEq]
       | with_reducible refine Ck ?_
       | with_reducible refine Cj ?_
       | with_reducible exact Cm
       | with_reducible refine Ci ?_ ?_
       | (with_reducible refine And.intro ?_ ?_;focus first | assumption | omega | grind)
       | refine Ag (hfl) ?_
       | refine Bv (C2 bs hb a2 b2 r1 ((fl M:Nat):Int)) [1] (by first | rfl | simp) (by simp only [go_sem,↓reduceIte,Nat.reduceEqDiff,Nat.reduceAdd,reduceCtorEq]<;>rfl) (by simp only [go_sem,↓reduceIte,Nat.reduceEqDiff,Nat.reduceAdd,reduceCtorEq]<;>rfl) fun o ho=>?_
     all_goals
      rename_i o ho
      refine Kh (hfm o.2.2 ho.2.1 ho.2.2) (by simp only [go_sem,↓reduceIte,Nat.reduceEqDiff,Nat.reduceAdd,reduceCtorEq]<;>first | done | (simp only [Ak,Ae]<;>rfl)) ?_
      (repeat' first | simp only [go_sem,↓reduceIte,Nat.reduceEqDiff,Nat.reduceAdd,reduceCtorEq] | with_reducible refine Ck ?_ | with_reducible refine Eo ?_ | with_reducible refine Cj ?_ | with_reducible exact Cm | with_reducible refine Ci ?_ ?_ | (with_reducible refine And.intro ?_ ?_;focus first | assumption | omega | grind))
      exact ⟨o,ho.2,Ref.gc2 [0,3]⟩
    ·rintro ⟨a3,b3,k2⟩ ⟨s2,s3⟩
     dsimp only at s2 s3 ⊢
     refine RN ?_
     obtain ⟨t1,t2⟩:=Ky hM (f:=k2.toNat) (by omega)
     have hrm:∀ p∈Bx M k2.toNat,p.length=fl M:=fun p hp=>by
      obtain ⟨i,hi,rfl⟩:=List.mem_iff_getElem.1 hp
      have:=t2 i (by omega)
      rwa [show (Bx M k2.toNat).getD i []=(Bx M k2.toNat)[i] by simp [hi]] at this
     generalize Bx M k2.toNat=K at *
     refine ⟨K,⟨by omega,fun p hp=>by rw [hrm p hp];omega⟩,?_⟩
     have htk:((K.map Ac).take 3)=K.map Ac:=List.take_of_length_le (by simp [t1])
     refine (Ref.dead (F' := [(0,Ak K)]) ?_).trans (Ref.gc [] rfl rfl (by simp [sub,Ab,Ak,Ae,go_sem,↓reduceIte,Nat.reduceEqDiff,Nat.reduceAdd,reduceCtorEq]))
     simp [sub,Ab,Im,htk,Oz,Ak,Ae,t1,go_sem,↓reduceIte,Nat.reduceEqDiff,Nat.reduceAdd,reduceCtorEq]
   ·(refine RN ?_;try with_reducible exact trivial)
    refine Bv (last a2 b2 r1) [1] (by first | rfl | simp) (by simp only [go_sem,↓reduceIte,Nat.reduceEqDiff,Nat.reduceAdd,reduceCtorEq]<;>rfl) (by simp only [go_sem,↓reduceIte,Nat.reduceEqDiff,Nat.reduceAdd,reduceCtorEq]<;>rfl) fun o ho=>?_
    obtain ⟨a3,b3,M'⟩:=o
    obtain ⟨s1,s2⟩:=ho
    dsimp only at s1 s2
    refine RN ?_
    exact ⟨M', s2,Ref.gc2 []⟩
  ·refine Fv (i64 0) (decide_eq_false (by omega)) ?_
   simp only [decide_eq_false (show ¬ ((fl M:Nat):Int)≤100 by omega)]
   refine RN ?_
   refine Bv (last a1 b1 q1) [1] (by first | rfl | simp) (by simp only [go_sem,↓reduceIte,Nat.reduceEqDiff,Nat.reduceAdd,reduceCtorEq]<;>rfl) (by simp only [go_sem,↓reduceIte,Nat.reduceEqDiff,Nat.reduceAdd,reduceCtorEq]<;>rfl) fun o ho=>?_
   obtain ⟨a3,b3,M'⟩:=o
   obtain ⟨s1,s2⟩:=ho
   dsimp only at s1 s2
   refine RN ?_
   exact ⟨M', s2,Ref.gc2 []⟩
 ·have hd:(B3 t == 0)=false:=by simpa using h0
  rw [O3 rfl h0] at hmo
  refine RN ?_
  refine D4 (hmo) (by simp only [go_sem,↓reduceIte,Nat.reduceEqDiff,Nat.reduceAdd,reduceCtorEq]<;>rfl) ?_
  refine RN ?_
  refine Fv (i64 0) hd ?_
  (repeat first | simp only [hd,h0,false_imp_iff,go_sem,↓reduceIte,Nat.reduceEqDiff,Nat.reduceAdd,reduceCtorEq] | refine RX ?_ | decide)
  refine Fv (i64 0) rfl ?_
  refine RN ?_
  refine Bv (last a1 b1 q1) [1] (by first | rfl | simp) (by simp only [go_sem,↓reduceIte,Nat.reduceEqDiff,Nat.reduceAdd,reduceCtorEq]<;>rfl) (by simp only [go_sem,↓reduceIte,Nat.reduceEqDiff,Nat.reduceAdd,reduceCtorEq]<;>rfl) fun o ho=>?_
  obtain ⟨a3,b3,M'⟩:=o
  obtain ⟨s1,s2⟩:=ho
  dsimp only at s1 s2
  refine RN ?_
  exact ⟨M', s2,Ref.gc2 []⟩
end Go.Proofs.YtnompobcofhkpaaGreatDoor
