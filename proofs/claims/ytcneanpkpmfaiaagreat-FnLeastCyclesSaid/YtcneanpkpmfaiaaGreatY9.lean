/- Texts that belong together. -/
import Derived.Test.YtcneanpkpmfaiaaGreatY6
set_option maxHeartbeats 16000000
set_option linter.unusedSimpArgs false
set_option linter.unusedVariables false
set_option maxRecDepth 100000
namespace Go.Proofs.YtcneanpkpmfaiaaGreat
open Go.Gov
open Classical
theorem eX {r:Int}{R:List Int}{B:List (List Int)}(h:IsPos r R B)(h1:¬ 1<r):Am R 1=[]:=by
 obtain ⟨_,_,_,_,hrk⟩:=h.rank
 refine List.eq_nil_iff_forall_not_mem.2 fun e he=>?_
 have h2:=mem_plcN.1 he
 have h3:=hrk e.toNat (by omega)
 omega
abbrev bA (o:Option (List Int)):AV:=o.elim Ae fun b=>.sl 2 1 0 b.length
abbrev bH (o:Option (List Int)):Option (List AV):=o.elim none fun b=>some (Aa b)
theorem uU (r : Int) (R : List Int) (B : List (List Int)) (s : Bool) (h1 : R.length ≤ 1048576) (hr : ∀ xs ∈ B, xs.length ≤ 1048576) (hp : IsPos r R B) (h14 : (Am R 1).length ≤ 14) (hs : (B3 R B).isSome = s) :
    Pure Tryz.prog 34 [.pto [i64 r,Ac R,Af B] 0] (.tup [bif s then .sl 0 1 0 ((B3 R B).getD []).length else Ae,i64 (bif s then 0 else 4)]) (bif s then [some (Aa ((B3 R B).getD []))] else []):=by
 obtain ⟨a1,a2,a3,a4,hrk⟩:=hp.rank
 obtain ⟨hro,hss⟩:=hp.rows
 have hes:=Vd R 1 (by omega)
 have hem:∀ k,k<(Am R 1).length→0≤(Am R 1).getD k 0∧(Am R 1).getD k 0<R.length:=fun k hk=>by
  have h1:(Am R 1).getD k 0∈Am R 1:=by rw [B8 _ k hk];exact List.getElem_mem hk
  have h2:=mem_plcN.1 h1
  exact ⟨h2.1,h2.2.1⟩
 have hesS:sst (Am R 1):=Jn R 1 R.length
 have hone:=eX hp
 unfold B3 at hs ⊢
 generalize hE:Am R 1=es at hes hem hesS h14 hs hone ⊢
 have hbS:∀ m,Ch R B es (m+1)=Cn R B (Ch R B es m) (Bz es m es.length):=fun m=>rfl
 have hb0:Ch R B es 0=none:=rfl
 have hpw:=Vf (n:=es.length) (by omega)
 have hsl:=gP es.length (by omega)
 have hbne:∀ m b,Ch R B es m=some b→b≠[]∧b.length≤14:=Pg R B es h14
 generalize hbst:Ch R B es=T at hb0 hbS hbne hs ⊢
 refine Fi (bif s then [2] else []) eD rfl ?_
 unfold S6
 refine RN ?_
 refine ⟨fun hc=>?_,fun hc=>?_⟩
 rotate_left
 ·have hnl:es=[]:=hone (by omega)
  refine Dr (F' := [(0,.pto [i64 r,Ac R,Af B] 0),(4,.sl 0 1 0 es.length)]) (H' := [some (Aa es)]) ((Ref.nil 4 1 rfl).trans (Ref.to (by rw [hnl];rfl) (by simp [sub,Ab,hnl]))) ?_
  refine RN ?_
  refine fun _=>?_
  refine RN ?_
  refine B0 (Qo r R B 2 hp hr) (by simp only [go_sem,↓reduceIte,Nat.reduceEqDiff,Nat.reduceAdd,reduceCtorEq]<;>rfl) (fun P=>(by first | rfl | simp only [go_sem,↓reduceIte,Nat.reduceEqDiff,Nat.reduceAdd,reduceCtorEq])) fun km hkm=>?_
  obtain ⟨hPv,hPo,hPl⟩:=hkm
  refine RN ?_
  simp only [hsl,go_sem,↓reduceIte,Nat.reduceEqDiff,Nat.reduceAdd,reduceCtorEq]
  refine Aj (α:=Nat) (S:=fun m=>([(0,.pto [i64 r,Ac R,Af B] 0),(4,.sl 0 1 0 es.length),(5,.mp 1),(6,bA (T m)),(28,i64 (2^es.length:Nat)),(29,i64 m)],[some (Aa es),some [.mpc (Ax Bw km)],bH (T m)])) (C:=fun m=>m≤2^es.length) (μ:=fun m=>2^es.length - m) 0 (Nat.zero_le _) (Ref.pad.trans (Ref.to (by simp [hb0,bH]) (by simp [sub,Ab,hb0,bA]))) ?_
  intro m hm2
  have hTm:=hbne m
  have hTs:=hbS m
  generalize hbe:T m=best at hTm hTs ⊢
  refine RN ?_
  refine ⟨fun hc3=>?_,fun hc3=>?_⟩
  ·have hm3:m<2^es.length:=by omega
   refine RN ?_
   refine Aj (α:=Nat) (S:=fun k=>([(0,.pto [i64 r,Ac R,Af B] 0),(4,.sl 0 1 0 es.length),(5,.mp 1),(6,bA best),(7,i64 m),(8,.sl 3 1 0 (Bz es m k).length),(28,i64 (2^es.length:Nat)),(29,i64 m),(32,.sl 0 1 0 es.length),(33,i64 es.length),(34,i64 k)],[some (Aa es),some [.mpc (Ax Bw km)],bH best,some (Aa (Bz es m k))])) (C:=fun k=>k≤es.length) (μ:=fun k=>es.length - k) 0 (by omega) ((Ref.nil 8 1 (by simp [Ab])).trans (Ref.to (by simp [Bz,Aa]) (by simp [sub,Ab,Bz]))) ?_
   intro k hk
   have hcs:=Px es m k
   have hcl:=Pw es m k
   generalize hL:Bz es m k=L at hcs hcl ⊢
   refine RN ?_
   refine ⟨fun hc4=>?_,fun hc4=>?_⟩
   ·(refine RN ?_;try with_reducible exact trivial)
    refine ⟨fun hc5=>?_,fun hc5=>?_⟩
    ·have hbt:Er m k=true:=beq_iff_eq.2 hc5
     rw [hbt,if_pos rfl] at hcs
     refine RN ?_
     refine ⟨k+1,by omega,by omega,?_⟩
     rw [hcs]
     cases best with
     | none=>
      simp only [bA,bH,Option.elim_none]
      refine Ref.gc [0,1,2,5] rfl ?_ (by simp [sub,Ab,go_sem,↓reduceIte,Nat.reduceEqDiff,Nat.reduceAdd,reduceCtorEq])
      (try simp only [go_sem,↓reduceIte,Nat.reduceEqDiff,Nat.reduceAdd,reduceCtorEq,Fo,E5,El])
     | some b=>
      simp only [bA,bH,Option.elim_some]
      refine Ref.gc [0,1,2,5] rfl ?_ (by simp [sub,Ab,go_sem,↓reduceIte,Nat.reduceEqDiff,Nat.reduceAdd,reduceCtorEq])
      (try simp only [go_sem,↓reduceIte,Nat.reduceEqDiff,Nat.reduceAdd,reduceCtorEq,Fo,E5,El])
    ·have hbt:Er m k=false:=beq_eq_false_iff_ne.2 hc5
     rw [hbt,if_neg (by simp)] at hcs
     refine RN ?_
     refine ⟨k+1,by omega,by omega,?_⟩
     rw [hcs]
     exact Ref.frame (by simp [sub,Ab])
   ·obtain rfl:k=es.length:=by omega
    have sL:sst L:=hL ▸ J1 hesS m es.length (Nat.le_refl _)
    have mL:∀ e∈L,0≤e∧e<R.length:=fun e he=>by
     obtain ⟨j,hj,rfl⟩:=N3 (hL ▸ he) (Nat.le_refl _)
     exact hem j hj
    have iL:inB L:=fun e he=>by have:=mL e he;omega
    have gL:∀ j,j<L.length→0≤L.getD j 0∧L.getD j 0≤(R.length:Int) - 1:=fun j hj=>by
     have:=mL (L.getD j 0) (by rw [B8 L j hj];exact List.getElem_mem hj)
     omega
    rw [hL] at hTs
    cases best with
    | none=>
     simp only [bA,bH,Option.elim_none]
     have hn1:∀ H,E4 H Ae=some true:=fun _=>rfl
     refine RN ?_
     simp only [hn1,go_sem,↓reduceIte,Nat.reduceEqDiff,Nat.reduceAdd,reduceCtorEq]
     refine RN ?_
     refine GCall.mk (i64 0) (fun hg=>(by cases hg)) ?_
     refine RN ?_
     refine ⟨fun hc6=>?_,fun hc6=>?_⟩
     ·have hL0:L=[]:=List.eq_nil_of_length_eq_zero (by omega)
      have hnu:T (m+1)=none:=by
       rw [hTs]
       unfold Cn
       rw [if_neg (fun hu=>Me hu hL0)]
      refine RN ?_
      refine ⟨m+1,by omega,by omega,?_⟩
      rw [hnu]
      exact Ref.gc [0,1,2] rfl (by simp only [bH,Option.elim_none,go_sem,↓reduceIte,Nat.reduceEqDiff,Nat.reduceAdd,reduceCtorEq]) (by simp [sub,Ab,bA,go_sem,↓reduceIte,Nat.reduceEqDiff,Nat.reduceAdd,reduceCtorEq])
     ·have hpre:∀ b,(none:Option (List Int))=some b→L.length<b.length∨(L.length=b.length∧Bl L b=true):=fun b hb=>by cases hb
      have hbd:=I7 r R B L h1 a4 hr hro (fun x hx=>by have:=hrk x hx;omega) hss (by omega) gL
      by_cases hB:Bc R B L=[]
      ·have hq:(((Bc R B L).length:Int) == 0)=true:=by rw [hB];rfl
       refine RN ?_
       refine Ak (hbd) ?_
       simp only [hq,go_sem,↓reduceIte,Nat.reduceEqDiff,Nat.reduceAdd,reduceCtorEq]
       refine RN ?_
       refine GCall.on rfl ?_
       refine RN ?_
       refine Gw (Rj km L hPo sL iL) [3] (by first | rfl | simp) (by simp only [go_sem,↓reduceIte,Nat.reduceEqDiff,Nat.reduceAdd,reduceCtorEq]<;>rfl) (by simp only [go_sem,↓reduceIte,Nat.reduceEqDiff,Nat.reduceAdd,reduceCtorEq]<;>rfl) (fun o=>by
        obtain ⟨b,C,D⟩:=o
        cases b<;>simp only [cond_true,cond_false,go_sem,↓reduceIte,Nat.reduceEqDiff,Nat.reduceAdd,reduceCtorEq]) fun o ho=>?_
       obtain ⟨fl,C,D⟩:=o
       obtain ⟨⟨hA,hdn,sC,sD,bC,bD⟩,hfl⟩:=ho
       have hno:=N5 (E9 hss) lead_last hPv sL hA hdn
       dsimp only at hA hdn sC sD bC bD hfl hno ⊢
       have lD:=Bp sD bD
       have hup:0<D.length→T (m+1)=some L:=fun h=>by
        rw [hTs]
        unfold Cn
        rw [if_pos ⟨hpre,hB,hno.2 (List.length_pos_iff.1 h)⟩]
       have hnu:¬ 0<D.length→T (m+1)=none:=fun h=>by
        rw [hTs]
        unfold Cn
        rw [if_neg (fun hu=>h (List.length_pos_iff.2 (hno.1 hu.2.2)))]
       cases fl
       ·obtain rfl:=hfl rfl
        simp only [cond_false]
        refine RN ?_
        refine ⟨fun hc7=>?_,fun hc7=>?_⟩
        ·(refine RN ?_;try with_reducible exact trivial)
         refine ⟨m+1,by omega,by omega,?_⟩
         rw [hup (by omega)]
         exact Ref.gc [0,1,3] rfl (by simp only [bH,Option.elim_some,go_sem,↓reduceIte,Nat.reduceEqDiff,Nat.reduceAdd,reduceCtorEq]) (by simp [sub,Ab,bA,go_sem,↓reduceIte,Nat.reduceEqDiff,Nat.reduceAdd,reduceCtorEq])
        ·(refine RN ?_;try with_reducible exact trivial)
         refine ⟨m+1,by omega,by omega,?_⟩
         rw [hnu (by omega)]
         exact Ref.gc [0,1,2] rfl (by simp only [bH,Option.elim_some,Option.elim_none,go_sem,↓reduceIte,Nat.reduceEqDiff,Nat.reduceAdd,reduceCtorEq]) (by simp [sub,Ab,bA,go_sem,↓reduceIte,Nat.reduceEqDiff,Nat.reduceAdd,reduceCtorEq])
       ·simp only [cond_true]
        refine RN ?_
        refine ⟨fun hc7=>?_,fun hc7=>?_⟩
        ·(refine RN ?_;try with_reducible exact trivial)
         refine ⟨m+1,by omega,by omega,?_⟩
         rw [hup (by omega)]
         exact Ref.gc [0,1,3] rfl (by simp only [bH,Option.elim_some,go_sem,↓reduceIte,Nat.reduceEqDiff,Nat.reduceAdd,reduceCtorEq]) (by simp [sub,Ab,bA,go_sem,↓reduceIte,Nat.reduceEqDiff,Nat.reduceAdd,reduceCtorEq])
        ·(refine RN ?_;try with_reducible exact trivial)
         refine ⟨m+1,by omega,by omega,?_⟩
         rw [hnu (by omega)]
         exact Ref.gc [0,1,2] rfl (by simp only [bH,Option.elim_some,Option.elim_none,go_sem,↓reduceIte,Nat.reduceEqDiff,Nat.reduceAdd,reduceCtorEq]) (by simp [sub,Ab,bA,go_sem,↓reduceIte,Nat.reduceEqDiff,Nat.reduceAdd,reduceCtorEq])
      ·have hq : (((Bc R B L).length : Int) == 0) = false := by
         refine beq_eq_false_iff_ne.2 fun h=>hB (List.eq_nil_of_length_eq_zero (by omega))
       have hnu:T (m+1)=none:=by
        rw [hTs]
        unfold Cn
        rw [if_neg (fun hu=>hB hu.2.1)]
       refine RN ?_
       refine Ak (hbd) ?_
       simp only [hq,go_sem,↓reduceIte,Nat.reduceEqDiff,Nat.reduceAdd,reduceCtorEq]
       refine RN ?_
       refine GCall.mk (.agg [Ae,Ae]) (fun hg=>(by cases hg)) ?_
       refine RN ?_
       refine ⟨m+1,by omega,by omega,?_⟩
       rw [hnu]
       exact Ref.gc [0,1,2] rfl (by simp only [bH,Option.elim_some,Option.elim_none,go_sem,↓reduceIte,Nat.reduceEqDiff,Nat.reduceAdd,reduceCtorEq]) (by simp [sub,Ab,bA,go_sem,↓reduceIte,Nat.reduceEqDiff,Nat.reduceAdd,reduceCtorEq])
    | some b=>
     obtain ⟨hb1,hb2⟩:=hTm b rfl
     simp only [bA,bH,Option.elim_some]
     have hn1:E4 [some (Aa es),some [.mpc (Ax Bw km)],some (Aa b),some (Aa L)] (.sl 2 1 0 b.length)=some false:=by
      obtain ⟨n,hn⟩:∃ n,b.length=n+1:=⟨b.length - 1,by have:=List.length_pos_iff.2 hb1;omega⟩
      rw [hn];rfl
     have hcp:=Y6 L b (by omega) (by omega)
     refine RN ?_
     simp only [hn1,go_sem,↓reduceIte,Nat.reduceEqDiff,Nat.reduceAdd,reduceCtorEq]
     refine RN ?_
     refine Gc (i64 (Jb L b) ) (fun hg =>  hcp) ?_
     refine RN ?_
     refine ⟨fun hc6=>?_,fun hc6=>?_⟩
     ·have hnu : T (m + 1) = some b := by
        rw [hTs]
        unfold Cn
        rw [if_neg]
        intro hu
        have hL0:=List.length_pos_iff.2 (Me hu)
        have h8:=hu.1 b rfl
        rcases hc6 with hc6 | hc6 | ⟨hc6,hc7⟩
        ·omega
        ·rcases h8 with h8 | h8<;>omega
        ·rcases h8 with h8 | ⟨h8,h9⟩
         ·omega
         ·have:=(Pz L b).2 h9;omega
      refine RN ?_
      refine ⟨m+1,by omega,by omega,?_⟩
      rw [hnu]
      exact Ref.gc [0,1,2] rfl (by simp only [bH,Option.elim_some,go_sem,↓reduceIte,Nat.reduceEqDiff,Nat.reduceAdd,reduceCtorEq]) (by simp [sub,Ab,bA,go_sem,↓reduceIte,Nat.reduceEqDiff,Nat.reduceAdd,reduceCtorEq])
     ·have hpre : ∀ b', some b = some b' → L.length < b'.length ∨ (L.length = b'.length ∧ Bl L b' = true) := fun b' hb => by
        obtain rfl:=Option.some.inj hb
        obtain ⟨h6,h7,h8⟩:=hc6
        by_cases h9:L.length=b.length
        ·rcases h8 with h8 | h8
         ·omega
         ·exact .inr ⟨h9,(Pz L b).1 h8⟩
        ·left;omega
      have hbd:=I7 r R B L h1 a4 hr hro (fun x hx=>by have:=hrk x hx;omega) hss (by omega) gL
      by_cases hB:Bc R B L=[]
      ·have hq:(((Bc R B L).length:Int) == 0)=true:=by rw [hB];rfl
       refine RN ?_
       refine Ak (hbd) ?_
       simp only [hq,go_sem,↓reduceIte,Nat.reduceEqDiff,Nat.reduceAdd,reduceCtorEq]
       refine RN ?_
       refine GCall.on rfl ?_
       refine RN ?_
       refine Gw (Rj km L hPo sL iL) [3] (by first | rfl | simp) (by simp only [go_sem,↓reduceIte,Nat.reduceEqDiff,Nat.reduceAdd,reduceCtorEq]<;>rfl) (by simp only [go_sem,↓reduceIte,Nat.reduceEqDiff,Nat.reduceAdd,reduceCtorEq]<;>rfl) (fun o=>by
        obtain ⟨b,C,D⟩:=o
        cases b<;>simp only [cond_true,cond_false,go_sem,↓reduceIte,Nat.reduceEqDiff,Nat.reduceAdd,reduceCtorEq]) fun o ho=>?_
       obtain ⟨fl,C,D⟩:=o
       obtain ⟨⟨hA,hdn,sC,sD,bC,bD⟩,hfl⟩:=ho
       have hno:=N5 (E9 hss) lead_last hPv sL hA hdn
       dsimp only at hA hdn sC sD bC bD hfl hno ⊢
       have lD:=Bp sD bD
       have hup:0<D.length→T (m+1)=some L:=fun h=>by
        rw [hTs]
        unfold Cn
        rw [if_pos ⟨hpre,hB,hno.2 (List.length_pos_iff.1 h)⟩]
       have hnu:¬ 0<D.length→T (m+1)=some b:=fun h=>by
        rw [hTs]
        unfold Cn
        rw [if_neg (fun hu=>h (List.length_pos_iff.2 (hno.1 hu.2.2)))]
       cases fl
       ·obtain rfl:=hfl rfl
        simp only [cond_false]
        refine RN ?_
        refine ⟨fun hc7=>?_,fun hc7=>?_⟩
        ·(refine RN ?_;try with_reducible exact trivial)
         refine ⟨m+1,by omega,by omega,?_⟩
         rw [hup (by omega)]
         exact Ref.gc [0,1,3] rfl (by simp only [bH,Option.elim_some,go_sem,↓reduceIte,Nat.reduceEqDiff,Nat.reduceAdd,reduceCtorEq]) (by simp [sub,Ab,bA,go_sem,↓reduceIte,Nat.reduceEqDiff,Nat.reduceAdd,reduceCtorEq])
        ·(refine RN ?_;try with_reducible exact trivial)
         refine ⟨m+1,by omega,by omega,?_⟩
         rw [hnu (by omega)]
         exact Ref.gc [0,1,2] rfl (by simp only [bH,Option.elim_some,Option.elim_none,go_sem,↓reduceIte,Nat.reduceEqDiff,Nat.reduceAdd,reduceCtorEq]) (by simp [sub,Ab,bA,go_sem,↓reduceIte,Nat.reduceEqDiff,Nat.reduceAdd,reduceCtorEq])
       ·simp only [cond_true]
        refine RN ?_
        refine ⟨fun hc7=>?_,fun hc7=>?_⟩
        ·(refine RN ?_;try with_reducible exact trivial)
         refine ⟨m+1,by omega,by omega,?_⟩
         rw [hup (by omega)]
         exact Ref.gc [0,1,3] rfl (by simp only [bH,Option.elim_some,go_sem,↓reduceIte,Nat.reduceEqDiff,Nat.reduceAdd,reduceCtorEq]) (by simp [sub,Ab,bA,go_sem,↓reduceIte,Nat.reduceEqDiff,Nat.reduceAdd,reduceCtorEq])
        ·(refine RN ?_;try with_reducible exact trivial)
         refine ⟨m+1,by omega,by omega,?_⟩
         rw [hnu (by omega)]
         exact Ref.gc [0,1,2] rfl (by simp only [bH,Option.elim_some,Option.elim_none,go_sem,↓reduceIte,Nat.reduceEqDiff,Nat.reduceAdd,reduceCtorEq]) (by simp [sub,Ab,bA,go_sem,↓reduceIte,Nat.reduceEqDiff,Nat.reduceAdd,reduceCtorEq])
      ·have hq : (((Bc R B L).length : Int) == 0) = false := by
         refine beq_eq_false_iff_ne.2 fun h=>hB (List.eq_nil_of_length_eq_zero (by omega))
       have hnu:T (m+1)=some b:=by
        rw [hTs]
        unfold Cn
        rw [if_neg (fun hu=>hB hu.2.1)]
       refine RN ?_
       refine Ak (hbd) ?_
       simp only [hq,go_sem,↓reduceIte,Nat.reduceEqDiff,Nat.reduceAdd,reduceCtorEq]
       refine RN ?_
       refine GCall.mk (.agg [Ae,Ae]) (fun hg=>(by cases hg)) ?_
       refine RN ?_
       refine ⟨m+1,by omega,by omega,?_⟩
       rw [hnu]
       exact Ref.gc [0,1,2] rfl (by simp only [bH,Option.elim_some,Option.elim_none,go_sem,↓reduceIte,Nat.reduceEqDiff,Nat.reduceAdd,reduceCtorEq]) (by simp [sub,Ab,bA,go_sem,↓reduceIte,Nat.reduceEqDiff,Nat.reduceAdd,reduceCtorEq])
  ·obtain rfl:m=2^es.length:=by omega
   rw [hbe] at hs ⊢
   cases best with
   | none=>
    obtain rfl:s=false:=by rw [← hs];rfl
    have hn1:∀ H,E4 H Ae=some true:=fun _=>rfl
    simp only [bA,bH,Option.elim_none]
    refine RN ?_
    simp only [hn1,go_sem,↓reduceIte,Nat.reduceEqDiff,Nat.reduceAdd,reduceCtorEq]
    (refine RN ?_;try with_reducible exact trivial)
   | some b=>
    obtain ⟨hb1,hb2⟩:=hTm b rfl
    obtain rfl:s=true:=by rw [← hs];rfl
    have hn1:E4 [some (Aa es),some [.mpc (Ax Bw km)],some (Aa b)] (.sl 2 1 0 b.length)=some false:=by
     obtain ⟨n,hn⟩:∃ n,b.length=n+1:=⟨b.length - 1,by have:=List.length_pos_iff.2 hb1;omega⟩
     rw [hn];rfl
    simp only [bA,bH,Option.elim_some]
    refine RN ?_
    simp only [hn1,go_sem,↓reduceIte,Nat.reduceEqDiff,Nat.reduceAdd,reduceCtorEq]
    (refine RN ?_;try with_reducible exact trivial)
 ·(refine RN ?_;try with_reducible exact trivial)
  refine Ak (hes) ?_
  refine RN ?_
  refine fun _=>?_
  refine RN ?_
  refine B0 (Qo r R B 2 hp hr) (by simp only [go_sem,↓reduceIte,Nat.reduceEqDiff,Nat.reduceAdd,reduceCtorEq]<;>rfl) (fun P=>(by first | rfl | simp only [go_sem,↓reduceIte,Nat.reduceEqDiff,Nat.reduceAdd,reduceCtorEq])) fun km hkm=>?_
  obtain ⟨hPv,hPo,hPl⟩:=hkm
  refine RN ?_
  simp only [hsl,go_sem,↓reduceIte,Nat.reduceEqDiff,Nat.reduceAdd,reduceCtorEq]
  refine Aj (α:=Nat) (S:=fun m=>([(0,.pto [i64 r,Ac R,Af B] 0),(4,.sl 0 1 0 es.length),(5,.mp 1),(6,bA (T m)),(28,i64 (2^es.length:Nat)),(29,i64 m)],[some (Aa es),some [.mpc (Ax Bw km)],bH (T m)])) (C:=fun m=>m≤2^es.length) (μ:=fun m=>2^es.length - m) 0 (Nat.zero_le _) (Ref.pad.trans (Ref.to (by simp [hb0,bH]) (by simp [sub,Ab,hb0,bA]))) ?_
  intro m hm2
  have hTm:=hbne m
  have hTs:=hbS m
  generalize hbe:T m=best at hTm hTs ⊢
  refine RN ?_
  refine ⟨fun hc3=>?_,fun hc3=>?_⟩
  ·have hm3:m<2^es.length:=by omega
   refine RN ?_
   refine Aj (α:=Nat) (S:=fun k=>([(0,.pto [i64 r,Ac R,Af B] 0),(4,.sl 0 1 0 es.length),(5,.mp 1),(6,bA best),(7,i64 m),(8,.sl 3 1 0 (Bz es m k).length),(28,i64 (2^es.length:Nat)),(29,i64 m),(32,.sl 0 1 0 es.length),(33,i64 es.length),(34,i64 k)],[some (Aa es),some [.mpc (Ax Bw km)],bH best,some (Aa (Bz es m k))])) (C:=fun k=>k≤es.length) (μ:=fun k=>es.length - k) 0 (by omega) ((Ref.nil 8 1 (by simp [Ab])).trans (Ref.to (by simp [Bz,Aa]) (by simp [sub,Ab,Bz]))) ?_
   intro k hk
   have hcs:=Px es m k
   have hcl:=Pw es m k
   generalize hL:Bz es m k=L at hcs hcl ⊢
   refine RN ?_
   refine ⟨fun hc4=>?_,fun hc4=>?_⟩
   ·(refine RN ?_;try with_reducible exact trivial)
    refine ⟨fun hc5=>?_,fun hc5=>?_⟩
    ·have hbt:Er m k=true:=beq_iff_eq.2 hc5
     rw [hbt,if_pos rfl] at hcs
     refine RN ?_
     refine ⟨k+1,by omega,by omega,?_⟩
     rw [hcs]
     cases best with
     | none=>
      simp only [bA,bH,Option.elim_none]
      refine Ref.gc [0,1,2,5] rfl ?_ (by simp [sub,Ab,go_sem,↓reduceIte,Nat.reduceEqDiff,Nat.reduceAdd,reduceCtorEq])
      (try simp only [go_sem,↓reduceIte,Nat.reduceEqDiff,Nat.reduceAdd,reduceCtorEq,Fo,E5,El])
     | some b=>
      simp only [bA,bH,Option.elim_some]
      refine Ref.gc [0,1,2,5] rfl ?_ (by simp [sub,Ab,go_sem,↓reduceIte,Nat.reduceEqDiff,Nat.reduceAdd,reduceCtorEq])
      (try simp only [go_sem,↓reduceIte,Nat.reduceEqDiff,Nat.reduceAdd,reduceCtorEq,Fo,E5,El])
    ·have hbt:Er m k=false:=beq_eq_false_iff_ne.2 hc5
     rw [hbt,if_neg (by simp)] at hcs
     refine RN ?_
     refine ⟨k+1,by omega,by omega,?_⟩
     rw [hcs]
     exact Ref.frame (by simp [sub,Ab])
   ·obtain rfl:k=es.length:=by omega
    have sL:sst L:=hL ▸ J1 hesS m es.length (Nat.le_refl _)
    have mL:∀ e∈L,0≤e∧e<R.length:=fun e he=>by
     obtain ⟨j,hj,rfl⟩:=N3 (hL ▸ he) (Nat.le_refl _)
     exact hem j hj
    have iL:inB L:=fun e he=>by have:=mL e he;omega
    have gL:∀ j,j<L.length→0≤L.getD j 0∧L.getD j 0≤(R.length:Int) - 1:=fun j hj=>by
     have:=mL (L.getD j 0) (by rw [B8 L j hj];exact List.getElem_mem hj)
     omega
    rw [hL] at hTs
    cases best with
    | none=>
     simp only [bA,bH,Option.elim_none]
     have hn1:∀ H,E4 H Ae=some true:=fun _=>rfl
     refine RN ?_
     simp only [hn1,go_sem,↓reduceIte,Nat.reduceEqDiff,Nat.reduceAdd,reduceCtorEq]
     refine RN ?_
     refine GCall.mk (i64 0) (fun hg=>(by cases hg)) ?_
     refine RN ?_
     refine ⟨fun hc6=>?_,fun hc6=>?_⟩
     ·have hL0:L=[]:=List.eq_nil_of_length_eq_zero (by omega)
      have hnu:T (m+1)=none:=by
       rw [hTs]
       unfold Cn
       rw [if_neg (fun hu=>Me hu hL0)]
      refine RN ?_
      refine ⟨m+1,by omega,by omega,?_⟩
      rw [hnu]
      exact Ref.gc [0,1,2] rfl (by simp only [bH,Option.elim_none,go_sem,↓reduceIte,Nat.reduceEqDiff,Nat.reduceAdd,reduceCtorEq]) (by simp [sub,Ab,bA,go_sem,↓reduceIte,Nat.reduceEqDiff,Nat.reduceAdd,reduceCtorEq])
     ·have hpre:∀ b,(none:Option (List Int))=some b→L.length<b.length∨(L.length=b.length∧Bl L b=true):=fun b hb=>by cases hb
      have hbd:=I7 r R B L h1 a4 hr hro (fun x hx=>by have:=hrk x hx;omega) hss (by omega) gL
      by_cases hB:Bc R B L=[]
      ·have hq:(((Bc R B L).length:Int) == 0)=true:=by rw [hB];rfl
       refine RN ?_
       refine Ak (hbd) ?_
       simp only [hq,go_sem,↓reduceIte,Nat.reduceEqDiff,Nat.reduceAdd,reduceCtorEq]
       refine RN ?_
       refine GCall.on rfl ?_
       refine RN ?_
       refine Gw (Rj km L hPo sL iL) [3] (by first | rfl | simp) (by simp only [go_sem,↓reduceIte,Nat.reduceEqDiff,Nat.reduceAdd,reduceCtorEq]<;>rfl) (by simp only [go_sem,↓reduceIte,Nat.reduceEqDiff,Nat.reduceAdd,reduceCtorEq]<;>rfl) (fun o=>by
        obtain ⟨b,C,D⟩:=o
        cases b<;>simp only [cond_true,cond_false,go_sem,↓reduceIte,Nat.reduceEqDiff,Nat.reduceAdd,reduceCtorEq]) fun o ho=>?_
       obtain ⟨fl,C,D⟩:=o
       obtain ⟨⟨hA,hdn,sC,sD,bC,bD⟩,hfl⟩:=ho
       have hno:=N5 (E9 hss) lead_last hPv sL hA hdn
       dsimp only at hA hdn sC sD bC bD hfl hno ⊢
       have lD:=Bp sD bD
       have hup:0<D.length→T (m+1)=some L:=fun h=>by
        rw [hTs]
        unfold Cn
        rw [if_pos ⟨hpre,hB,hno.2 (List.length_pos_iff.1 h)⟩]
       have hnu:¬ 0<D.length→T (m+1)=none:=fun h=>by
        rw [hTs]
        unfold Cn
        rw [if_neg (fun hu=>h (List.length_pos_iff.2 (hno.1 hu.2.2)))]
       cases fl
       ·obtain rfl:=hfl rfl
        simp only [cond_false]
        refine RN ?_
        refine ⟨fun hc7=>?_,fun hc7=>?_⟩
        ·(refine RN ?_;try with_reducible exact trivial)
         refine ⟨m+1,by omega,by omega,?_⟩
         rw [hup (by omega)]
         exact Ref.gc [0,1,3] rfl (by simp only [bH,Option.elim_some,go_sem,↓reduceIte,Nat.reduceEqDiff,Nat.reduceAdd,reduceCtorEq]) (by simp [sub,Ab,bA,go_sem,↓reduceIte,Nat.reduceEqDiff,Nat.reduceAdd,reduceCtorEq])
        ·(refine RN ?_;try with_reducible exact trivial)
         refine ⟨m+1,by omega,by omega,?_⟩
         rw [hnu (by omega)]
         exact Ref.gc [0,1,2] rfl (by simp only [bH,Option.elim_some,Option.elim_none,go_sem,↓reduceIte,Nat.reduceEqDiff,Nat.reduceAdd,reduceCtorEq]) (by simp [sub,Ab,bA,go_sem,↓reduceIte,Nat.reduceEqDiff,Nat.reduceAdd,reduceCtorEq])
       ·simp only [cond_true]
        refine RN ?_
        refine ⟨fun hc7=>?_,fun hc7=>?_⟩
        ·(refine RN ?_;try with_reducible exact trivial)
         refine ⟨m+1,by omega,by omega,?_⟩
         rw [hup (by omega)]
         exact Ref.gc [0,1,3] rfl (by simp only [bH,Option.elim_some,go_sem,↓reduceIte,Nat.reduceEqDiff,Nat.reduceAdd,reduceCtorEq]) (by simp [sub,Ab,bA,go_sem,↓reduceIte,Nat.reduceEqDiff,Nat.reduceAdd,reduceCtorEq])
        ·(refine RN ?_;try with_reducible exact trivial)
         refine ⟨m+1,by omega,by omega,?_⟩
         rw [hnu (by omega)]
         exact Ref.gc [0,1,2] rfl (by simp only [bH,Option.elim_some,Option.elim_none,go_sem,↓reduceIte,Nat.reduceEqDiff,Nat.reduceAdd,reduceCtorEq]) (by simp [sub,Ab,bA,go_sem,↓reduceIte,Nat.reduceEqDiff,Nat.reduceAdd,reduceCtorEq])
      ·have hq : (((Bc R B L).length : Int) == 0) = false := by
         refine beq_eq_false_iff_ne.2 fun h=>hB (List.eq_nil_of_length_eq_zero (by omega))
       have hnu:T (m+1)=none:=by
        rw [hTs]
        unfold Cn
        rw [if_neg (fun hu=>hB hu.2.1)]
       refine RN ?_
       refine Ak (hbd) ?_
       simp only [hq,go_sem,↓reduceIte,Nat.reduceEqDiff,Nat.reduceAdd,reduceCtorEq]
       refine RN ?_
       refine GCall.mk (.agg [Ae,Ae]) (fun hg=>(by cases hg)) ?_
       refine RN ?_
       refine ⟨m+1,by omega,by omega,?_⟩
       rw [hnu]
       exact Ref.gc [0,1,2] rfl (by simp only [bH,Option.elim_some,Option.elim_none,go_sem,↓reduceIte,Nat.reduceEqDiff,Nat.reduceAdd,reduceCtorEq]) (by simp [sub,Ab,bA,go_sem,↓reduceIte,Nat.reduceEqDiff,Nat.reduceAdd,reduceCtorEq])
    | some b=>
     obtain ⟨hb1,hb2⟩:=hTm b rfl
     simp only [bA,bH,Option.elim_some]
     have hn1:E4 [some (Aa es),some [.mpc (Ax Bw km)],some (Aa b),some (Aa L)] (.sl 2 1 0 b.length)=some false:=by
      obtain ⟨n,hn⟩:∃ n,b.length=n+1:=⟨b.length - 1,by have:=List.length_pos_iff.2 hb1;omega⟩
      rw [hn];rfl
     have hcp:=Y6 L b (by omega) (by omega)
     refine RN ?_
     simp only [hn1,go_sem,↓reduceIte,Nat.reduceEqDiff,Nat.reduceAdd,reduceCtorEq]
     refine RN ?_
     refine Gc (i64 (Jb L b) ) (fun hg =>  hcp) ?_
     refine RN ?_
     refine ⟨fun hc6=>?_,fun hc6=>?_⟩
     ·have hnu : T (m + 1) = some b := by
        rw [hTs]
        unfold Cn
        rw [if_neg]
        intro hu
        have hL0:=List.length_pos_iff.2 (Me hu)
        have h8:=hu.1 b rfl
        rcases hc6 with hc6 | hc6 | ⟨hc6,hc7⟩
        ·omega
        ·rcases h8 with h8 | h8<;>omega
        ·rcases h8 with h8 | ⟨h8,h9⟩
         ·omega
         ·have:=(Pz L b).2 h9;omega
      refine RN ?_
      refine ⟨m+1,by omega,by omega,?_⟩
      rw [hnu]
      exact Ref.gc [0,1,2] rfl (by simp only [bH,Option.elim_some,go_sem,↓reduceIte,Nat.reduceEqDiff,Nat.reduceAdd,reduceCtorEq]) (by simp [sub,Ab,bA,go_sem,↓reduceIte,Nat.reduceEqDiff,Nat.reduceAdd,reduceCtorEq])
     ·have hpre : ∀ b', some b = some b' → L.length < b'.length ∨ (L.length = b'.length ∧ Bl L b' = true) := fun b' hb => by
        obtain rfl:=Option.some.inj hb
        obtain ⟨h6,h7,h8⟩:=hc6
        by_cases h9:L.length=b.length
        ·rcases h8 with h8 | h8
         ·omega
         ·exact .inr ⟨h9,(Pz L b).1 h8⟩
        ·left;omega
      have hbd:=I7 r R B L h1 a4 hr hro (fun x hx=>by have:=hrk x hx;omega) hss (by omega) gL
      by_cases hB:Bc R B L=[]
      ·have hq:(((Bc R B L).length:Int) == 0)=true:=by rw [hB];rfl
       refine RN ?_
       refine Ak (hbd) ?_
       simp only [hq,go_sem,↓reduceIte,Nat.reduceEqDiff,Nat.reduceAdd,reduceCtorEq]
       refine RN ?_
       refine GCall.on rfl ?_
       refine RN ?_
       refine Gw (Rj km L hPo sL iL) [3] (by first | rfl | simp) (by simp only [go_sem,↓reduceIte,Nat.reduceEqDiff,Nat.reduceAdd,reduceCtorEq]<;>rfl) (by simp only [go_sem,↓reduceIte,Nat.reduceEqDiff,Nat.reduceAdd,reduceCtorEq]<;>rfl) (fun o=>by
        obtain ⟨b,C,D⟩:=o
        cases b<;>simp only [cond_true,cond_false,go_sem,↓reduceIte,Nat.reduceEqDiff,Nat.reduceAdd,reduceCtorEq]) fun o ho=>?_
       obtain ⟨fl,C,D⟩:=o
       obtain ⟨⟨hA,hdn,sC,sD,bC,bD⟩,hfl⟩:=ho
       have hno:=N5 (E9 hss) lead_last hPv sL hA hdn
       dsimp only at hA hdn sC sD bC bD hfl hno ⊢
       have lD:=Bp sD bD
       have hup:0<D.length→T (m+1)=some L:=fun h=>by
        rw [hTs]
        unfold Cn
        rw [if_pos ⟨hpre,hB,hno.2 (List.length_pos_iff.1 h)⟩]
       have hnu:¬ 0<D.length→T (m+1)=some b:=fun h=>by
        rw [hTs]
        unfold Cn
        rw [if_neg (fun hu=>h (List.length_pos_iff.2 (hno.1 hu.2.2)))]
       cases fl
       ·obtain rfl:=hfl rfl
        simp only [cond_false]
        refine RN ?_
        refine ⟨fun hc7=>?_,fun hc7=>?_⟩
        ·(refine RN ?_;try with_reducible exact trivial)
         refine ⟨m+1,by omega,by omega,?_⟩
         rw [hup (by omega)]
         exact Ref.gc [0,1,3] rfl (by simp only [bH,Option.elim_some,go_sem,↓reduceIte,Nat.reduceEqDiff,Nat.reduceAdd,reduceCtorEq]) (by simp [sub,Ab,bA,go_sem,↓reduceIte,Nat.reduceEqDiff,Nat.reduceAdd,reduceCtorEq])
        ·(refine RN ?_;try with_reducible exact trivial)
         refine ⟨m+1,by omega,by omega,?_⟩
         rw [hnu (by omega)]
         exact Ref.gc [0,1,2] rfl (by simp only [bH,Option.elim_some,Option.elim_none,go_sem,↓reduceIte,Nat.reduceEqDiff,Nat.reduceAdd,reduceCtorEq]) (by simp [sub,Ab,bA,go_sem,↓reduceIte,Nat.reduceEqDiff,Nat.reduceAdd,reduceCtorEq])
       ·simp only [cond_true]
        refine RN ?_
        refine ⟨fun hc7=>?_,fun hc7=>?_⟩
        ·(refine RN ?_;try with_reducible exact trivial)
         refine ⟨m+1,by omega,by omega,?_⟩
         rw [hup (by omega)]
         exact Ref.gc [0,1,3] rfl (by simp only [bH,Option.elim_some,go_sem,↓reduceIte,Nat.reduceEqDiff,Nat.reduceAdd,reduceCtorEq]) (by simp [sub,Ab,bA,go_sem,↓reduceIte,Nat.reduceEqDiff,Nat.reduceAdd,reduceCtorEq])
        ·(refine RN ?_;try with_reducible exact trivial)
         refine ⟨m+1,by omega,by omega,?_⟩
         rw [hnu (by omega)]
         exact Ref.gc [0,1,2] rfl (by simp only [bH,Option.elim_some,Option.elim_none,go_sem,↓reduceIte,Nat.reduceEqDiff,Nat.reduceAdd,reduceCtorEq]) (by simp [sub,Ab,bA,go_sem,↓reduceIte,Nat.reduceEqDiff,Nat.reduceAdd,reduceCtorEq])
      ·have hq : (((Bc R B L).length : Int) == 0) = false := by
         refine beq_eq_false_iff_ne.2 fun h=>hB (List.eq_nil_of_length_eq_zero (by omega))
       have hnu:T (m+1)=some b:=by
        rw [hTs]
        unfold Cn
        rw [if_neg (fun hu=>hB hu.2.1)]
       refine RN ?_
       refine Ak (hbd) ?_
       simp only [hq,go_sem,↓reduceIte,Nat.reduceEqDiff,Nat.reduceAdd,reduceCtorEq]
       refine RN ?_
       refine GCall.mk (.agg [Ae,Ae]) (fun hg=>(by cases hg)) ?_
       refine RN ?_
       refine ⟨m+1,by omega,by omega,?_⟩
       rw [hnu]
       exact Ref.gc [0,1,2] rfl (by simp only [bH,Option.elim_some,Option.elim_none,go_sem,↓reduceIte,Nat.reduceEqDiff,Nat.reduceAdd,reduceCtorEq]) (by simp [sub,Ab,bA,go_sem,↓reduceIte,Nat.reduceEqDiff,Nat.reduceAdd,reduceCtorEq])
  ·obtain rfl:m=2^es.length:=by omega
   rw [hbe] at hs ⊢
   cases best with
   | none=>
    obtain rfl:s=false:=by rw [← hs];rfl
    have hn1:∀ H,E4 H Ae=some true:=fun _=>rfl
    simp only [bA,bH,Option.elim_none]
    refine RN ?_
    simp only [hn1,go_sem,↓reduceIte,Nat.reduceEqDiff,Nat.reduceAdd,reduceCtorEq]
    (refine RN ?_;try with_reducible exact trivial)
   | some b=>
    obtain ⟨hb1,hb2⟩:=hTm b rfl
    obtain rfl:s=true:=by rw [← hs];rfl
    have hn1:E4 [some (Aa es),some [.mpc (Ax Bw km)],some (Aa b)] (.sl 2 1 0 b.length)=some false:=by
     obtain ⟨n,hn⟩:∃ n,b.length=n+1:=⟨b.length - 1,by have:=List.length_pos_iff.2 hb1;omega⟩
     rw [hn];rfl
    simp only [bA,bH,Option.elim_some]
    refine RN ?_
    simp only [hn1,go_sem,↓reduceIte,Nat.reduceEqDiff,Nat.reduceAdd,reduceCtorEq]
    (refine RN ?_;try with_reducible exact trivial)
theorem uT (r : Int) (R : List Int) (B : List (List Int)) (h1 : R.length ≤ 1048576) (hp : IsPos r R B) (h14 : ¬ (Am R 1).length ≤ 14) :
    Pure Tryz.prog 34 [.pto [i64 r,Ac R,Af B] 0] (.tup [Ae,i64 3]) []:=by
 have hes:=Vd R 1 (by omega)
 have hone:=eX hp
 have hr1:1<r:=Classical.byContradiction fun h=>by
  rw [hone h] at h14
  simp at h14
 have hel:=Kq R 1 R.length
 change (Am R 1).length≤R.length at hel
 generalize Am R 1=es at hes h14 hel
 refine Bm eD rfl rfl ?_;unfold S6
 refine RN ?_
 refine ⟨fun _=>?_,fun hx=>?_⟩
 ·(refine RN ?_;try with_reducible exact trivial)
  refine Ak (hes) ?_
  refine RN ?_
  refine ⟨fun _=>?_,fun hx=>?_⟩
  ·(refine RN ?_;try with_reducible exact trivial)
  ·exact absurd hx (by omega)
 ·exact absurd hx (by omega)
theorem qM (r:Int)(R:List Int)(B:List (List Int))(h1:R.length≤1048576)(hl:B.length≤1048576)(hr:∀ xs∈B,xs.length≤1048576):Pure Tryz.prog 17 [Bo r R B] (.tup [.sl 0 1 0 (Cr r R B).length,i64 (Ev r R B)]) [some (Aa (Cr r R B))]:=by
 have gr:∀ xs∈B,xs.length≤1099511627776:=fun xs hx=>by have:=hr xs hx;omega
 refine cJ (fun hp=>?_) (fun hp he=>?_) (fun hp he h14=>?_) (fun hp he h14=>?_)
 ·have hpd:decide (IsPos r R B)=false:=decide_eq_false hp
  refine Bm N7 rfl rfl ?_;unfold Ld
  refine RN ?_
  refine Ak (Hr r R B (by omega) (by omega) gr) ?_
  simp only [hpd,go_sem,↓reduceIte,Nat.reduceEqDiff,Nat.reduceAdd,reduceCtorEq]
  (refine RN ?_;try with_reducible exact trivial)
 ·have hpd:decide (IsPos r R B)=true:=decide_eq_true hp
  have hed:decide (Cd R B)=false:=decide_eq_false he
  refine Bm N7 rfl rfl ?_;unfold Ld
  refine RN ?_
  refine Ak (Hr r R B (by omega) (by omega) gr) ?_
  simp only [hpd,go_sem,↓reduceIte,Nat.reduceEqDiff,Nat.reduceAdd,reduceCtorEq]
  refine RN ?_
  refine Ak (Lq r R B hp) ?_
  simp only [hed,go_sem,↓reduceIte,Nat.reduceEqDiff,Nat.reduceAdd,reduceCtorEq]
  (refine RN ?_;try with_reducible exact trivial)
 ·have hpd:decide (IsPos r R B)=true:=decide_eq_true hp
  have hed:decide (Cd R B)=true:=decide_eq_true he
  have hlc:=uT r R B h1 hp h14
  refine Bm N7 rfl rfl ?_;unfold Ld
  refine RN ?_
  refine Ak (Hr r R B (by omega) (by omega) gr) ?_
  simp only [hpd,go_sem,↓reduceIte,Nat.reduceEqDiff,Nat.reduceAdd,reduceCtorEq]
  refine RN ?_
  refine Ak (Lq r R B hp) ?_
  simp only [hed,go_sem,↓reduceIte,Nat.reduceEqDiff,Nat.reduceAdd,reduceCtorEq]
  refine RN ?_
  refine Ak (hlc) ?_
  (refine RN ?_;try with_reducible exact trivial)
 ·have hpd:decide (IsPos r R B)=true:=decide_eq_true hp
  have hed:decide (Cd R B)=true:=decide_eq_true he
  have hlc:=uU r R B (B3 R B).isSome h1 hr hp h14 rfl
  generalize (B3 R B).isSome=s at hlc ⊢
  generalize (B3 R B).getD []=V at hlc ⊢
  cases s
  ·simp only [cond_false] at hlc ⊢
   refine Bm N7 rfl rfl ?_;unfold Ld
   refine RN ?_
   refine Ak (Hr r R B (by omega) (by omega) gr) ?_
   simp only [hpd,go_sem,↓reduceIte,Nat.reduceEqDiff,Nat.reduceAdd,reduceCtorEq]
   refine RN ?_
   refine Ak (Lq r R B hp) ?_
   simp only [hed,go_sem,↓reduceIte,Nat.reduceEqDiff,Nat.reduceAdd,reduceCtorEq]
   refine RN ?_
   refine Ak (hlc) ?_
   (refine RN ?_;try with_reducible exact trivial)
  ·simp only [cond_true] at hlc ⊢
   refine Fi [1] N7 rfl ?_;unfold Ld
   refine RN ?_
   refine Ak (Hr r R B (by omega) (by omega) gr) ?_
   simp only [hpd,go_sem,↓reduceIte,Nat.reduceEqDiff,Nat.reduceAdd,reduceCtorEq]
   refine RN ?_
   refine Ak (Lq r R B hp) ?_
   simp only [hed,go_sem,↓reduceIte,Nat.reduceEqDiff,Nat.reduceAdd,reduceCtorEq]
   refine RN ?_
   refine Ak (hlc) ?_
   (refine RN ?_;try with_reducible exact trivial)
   (try simp only [go_sem,↓reduceIte,Nat.reduceEqDiff,Nat.reduceAdd,reduceCtorEq,and_self])
end Go.Proofs.YtcneanpkpmfaiaaGreat
