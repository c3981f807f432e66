/- FnOpposites: the given statement. -/
import Derived.LaidSub
import Derived.MakeChecks
import Derived.Test.YtfofabbkigonpaaDoorRows
import Derived.Test.YtfofabbkigonpaaDoorCards
import Derived.Test.YtfofabbkigonpaaDoorTie
import Derived.LaidMore
import Derived.SevenTiedAt
import Derived.Test.YtfofabbkigonpaaDoorW6
import Derived.Test.YtfofabbkigonpaaDoorRd
import Derived.Test.YtfofabbkigonpaaDoorQb
import Derived.Test.YtfofabbkigonpaaDoorQj
import Derived.Test.YtfofabbkigonpaaDoorQk
import Derived.Test.YtfofabbkigonpaaDoorQl
set_option maxHeartbeats 16000000
set_option linter.unusedSimpArgs false
set_option linter.unusedVariables false
set_option maxRecDepth 100000
namespace Go.Proofs.YtfofabbkigonpaaDoor
section
open Go.Gov Go.Fl Go.Kz
open Classical
section
variable {r:Int} {R:List Int} {B:List (List Int)}
theorem Zk (hp:IsPos r R B)(h:Fi r R B (Ax r R B)):Fi r (A0 r R) (Aw B R.length) (Ax r (A0 r R) (Aw B R.length)):=by
 obtain ⟨h1,h2,h3,h4⟩:=h
 exact ⟨by rw [S8 hp];exact h1,fZ hp h2,Qj hp h3,mB hp h4⟩
theorem sM (hp:IsPos r R B):Fi r (A0 r R) (Aw B R.length) (Ax r (A0 r R) (Aw B R.length)) ↔ Fi r R B (Ax r R B):=by
 refine ⟨fun h=>?_,Zk hp⟩
 have:=Zk (Ib hp) h
 rwa [Kl hp,Bq,I7 hp] at this
theorem jS (hp:IsPos r R B):Lx r (A0 r R) (Aw B R.length)=Lx r R B∧L6 r (A0 r R) (Aw B R.length)=L6 r R B:=by
 have hq:=Ib hp
 have hl:=S8 hp
 unfold Lx L6
 rw [if_pos hq,if_pos hp,hl]
 by_cases hk:(Ax r R B).length≤400
 ·rw [if_pos ⟨hq,hk⟩,if_pos ⟨hp,hk⟩]
  exact ⟨decide_eq_decide.2 (sM hp),rfl⟩
 ·rw [if_neg fun h=>hk h.2,if_neg fun h=>hk h.2]
  exact ⟨rfl,rfl⟩
theorem Vr (hp:IsPos r R B):Fc r (A0 r R) (Aw B R.length) ↔ Fc r R B:=by
 refine ⟨fun h=>?_,Qj hp⟩
 have:=Qj (Ib hp) h
 rwa [Kl hp,Bq,I7 hp] at this
end
theorem jN (r:Int)(R:List Int)(B:List (List Int))(h1:R.length≤1048576)(hl:B.length≤1048576)(hr:∀ xs∈B,xs.length≤1048576)(hn:¬ IsPos r R B):Ao Tryd.prog 7 [A6 r R B] (.tup [.agg [i64 0,Ag,Ag],i64 1]) []:=by
 have his:=Iz r R B (by omega) (by omega) (fun xs hx=>Nat.le_trans (hr xs hx) (by omega))
 rw [decide_eq_false hn] at his
 refine De Yz rfl ?_;unfold c7
 refine RN ?_
 refine An (his) ?_
 refine RN ?_
 exact Ref.sel [] rfl (by first | rfl | (simp only [go_sem,↓reduceIte,Nat.reduceEqDiff,Nat.reduceAdd,reduceCtorEq]<;>rfl)) (by simp [sub,Ac,go_sem,↓reduceIte,Nat.reduceEqDiff,Nat.reduceAdd,reduceCtorEq]<;>rfl)
theorem W2 (r:Int)(R:List Int)(B:List (List Int))(hp:IsPos r R B)(hr:∀ xs∈B,xs.length≤1048576):Ao Tryd.prog 7 [A6 r R B] (.tup [A6 r (A0 r R) (Aw B R.length),i64 0]) []:=by
 obtain ⟨a1,a2,a3,a4,a5⟩:=hp.rank
 have his:=Iz r R B (by omega) (by omega) (fun xs hx=>Nat.le_trans (hr xs hx) (by omega))
 have hop:=Zb r R B hp
 rw [decide_eq_true hp] at his
 refine De Yz rfl ?_;unfold c7
 refine RN ?_
 refine An (his) ?_
 refine RN ?_
 refine J0 (hop) (by simp only [go_sem,↓reduceIte,Nat.reduceEqDiff,Nat.reduceAdd,reduceCtorEq]<;>rfl) ?_
 refine RN ?_
 exact Ref.sel [] rfl (by first | rfl | (simp only [go_sem,↓reduceIte,Nat.reduceEqDiff,Nat.reduceAdd,reduceCtorEq]<;>rfl)) (by simp [sub,Ac,A6,Ad,Ae,go_sem,↓reduceIte,Nat.reduceEqDiff,Nat.reduceAdd,reduceCtorEq])
noncomputable def Lw (B:List (List Int))(n:Nat):Bool:=decide (Hg B n)&&decide (Hg (Aw B n) n)
theorem W0 (r:Int)(R:List Int)(B:List (List Int))(hp:IsPos r R B)(hr:∀ xs∈B,xs.length≤1048576):Ao Tryd.prog 10 [A6 r R B] (.tup [bl (Lw B R.length),i64 0]) []:=by
 obtain ⟨a1,a2,a3,a4,a5⟩:=hp.rank
 have his:=Iz r R B (by omega) (by omega) (fun xs hx=>Nat.le_trans (hr xs hx) (by omega))
 have hop:=Zb r R B hp
 have hg1:=Ws r R B hp
 have hg2:=Ws r (A0 r R) (Aw B R.length) (Ib hp)
 rw [Bq] at hg2
 rw [decide_eq_true hp] at his
 unfold Lw
 refine De nX rfl ?_;unfold To
 refine RN ?_
 refine An (his) ?_
 refine RN ?_
 refine An (hg1) ?_
 generalize decide (Hg B R.length)=b1 at *
 cases b1
 ·(refine RN ?_;try with_reducible exact trivial)
  refine Dz (bl false) rfl ?_
  refine RN ?_
  refine Dz (bl false) rfl ?_
  refine RN ?_
  exact Ref.gc1 []
 ·(refine RN ?_;try with_reducible exact trivial)
  refine GCall.on rfl ?_
  refine J0 (hop) (by simp only [go_sem,↓reduceIte,Nat.reduceEqDiff,Nat.reduceAdd,reduceCtorEq]<;>rfl) ?_
  refine RN ?_
  refine GCall.on rfl ?_
  refine E8 hg2 (by simp only [go_sem,↓reduceIte,Nat.reduceEqDiff,Nat.reduceAdd,reduceCtorEq]<;>first | done | rfl) (by simp only [go_sem,↓reduceIte,Nat.reduceEqDiff,Nat.reduceAdd,reduceCtorEq]) ?_
  refine RN ?_
  exact Ref.gc1 []
theorem Wz (r:Int)(R:List Int)(B:List (List Int))(hp:IsPos r R B)(hr:∀ xs∈B,xs.length≤1048576)(hd:Fc r R B):Ao Tryd.prog 12 [A6 r R B] (.tup [Ag,i64 4]) []:=by
 obtain ⟨a1,a2,a3,a4,a5⟩:=hp.rank
 have his:=Iz r R B (by omega) (by omega) (fun xs hx=>Nat.le_trans (hr xs hx) (by omega))
 rw [decide_eq_true hp] at his
 have hdf:=Qk r R B hp
 refine De Yr rfl ?_;unfold P8
 refine RN ?_
 refine An (his) ?_
 refine RN ?_
 refine B3 hdf (by simp only [go_sem,↓reduceIte,Nat.reduceEqDiff,Nat.reduceAdd,reduceCtorEq]<;>first | done | rfl) (fun o=>by by_cases h:o=[]<;>simp only [h,if_true,if_false,go_sem,↓reduceIte,Nat.reduceEqDiff,Nat.reduceAdd,reduceCtorEq]) fun L hL=>?_
 obtain rfl:L=[]:=hL.2.2 hd
 have hn:∀ H:List (Option (List AV)),Eh H Ag=some true:=fun _=>rfl
 (repeat first | simp only [if_true,hn,Option.isSome_some,Option.getD_some,true_and,go_sem,↓reduceIte,Nat.reduceEqDiff,Nat.reduceAdd,reduceCtorEq] | refine RX ?_ | decide)
 exact Ref.gc1 []
theorem Wy (r:Int)(R:List Int)(B:List (List Int))(hp:IsPos r R B)(hr:∀ xs∈B,xs.length≤1048576)(hd:¬ Fc r R B):Cr Tryd.prog 12 [A6 r R B] (fun L:List Int=>L.length≤3) (fun L=>.tup [.sl 0 1 0 L.length,i64 0]) (fun L=>[some (Aa L)]):=by
 obtain ⟨a1,a2,a3,a4,a5⟩:=hp.rank
 have his:=Iz r R B (by omega) (by omega) (fun xs hx=>Nat.le_trans (hr xs hx) (by omega))
 rw [decide_eq_true hp] at his
 have hdf:=Qk r R B hp
 refine Fy Yr rfl ?_;unfold P8
 refine RN ?_
 refine An (his) ?_
 refine RN ?_
 refine B3 hdf (by simp only [go_sem,↓reduceIte,Nat.reduceEqDiff,Nat.reduceAdd,reduceCtorEq]<;>first | done | rfl) (fun o=>by by_cases h:o=[]<;>simp only [h,if_true,if_false,go_sem,↓reduceIte,Nat.reduceEqDiff,Nat.reduceAdd,reduceCtorEq]) fun L hL=>?_
 cases L with
 | nil=>exact absurd (hL.2.1 rfl) hd
 | cons x l=>
  simp only [reduceCtorEq,if_false,go_sem,↓reduceIte,Nat.reduceEqDiff,Nat.reduceAdd,reduceCtorEq]
  have hn:Eh [some [i64 r,Ad R,Ae B],some (Aa (x :: l))] (.sl 1 1 0 (l.length+1))=some false:=rfl
  (repeat first | simp only [hn,Option.isSome_some,Option.getD_some,true_and,go_sem,↓reduceIte,Nat.reduceEqDiff,Nat.reduceAdd,reduceCtorEq] | refine RX ?_ | decide)
  exact ⟨x :: l,hL.1,Ref.gc1 [1]⟩
end
section
open Go.Gov Go.Fl Go.Kz
open Classical
theorem gQ (bs:List Int)(hb:F4 bs):Cr Tryd.prog 6 [Ds bs] (fun o:Int×List Int×List (List Int)=>(0≤o.1∧o.1≤6)∧Jo o.2.1 o.2.2) (fun o=>A6 o.1 o.2.1 o.2.2) (fun _=>[]):=by
 have hf:=kE bs hb
 unfold Ds at *
 refine Fy pV rfl ?_;unfold c6
 refine RN ?_
 refine Ry hf (by first | rfl | simp only [go_sem,↓reduceIte,Nat.reduceEqDiff,Nat.reduceAdd,reduceCtorEq]) fun h0 _=>?_
 refine RN ?_
 refine Bu (kS bs hb 0 h0 (Nat.zero_le _) 24 (by decide) (by decide)) [1] (by first | rfl | simp) (by simp only [go_sem,↓reduceIte,Nat.reduceEqDiff,Nat.reduceAdd,reduceCtorEq]<;>rfl) (by simp only [go_sem,↓reduceIte,Nat.reduceEqDiff,Nat.reduceAdd,reduceCtorEq]<;>rfl) fun o ho=>?_
 obtain ⟨a1,b1,r,R,B⟩:=o
 obtain ⟨q1,q2,q3⟩:=ho
 dsimp only at q1 q2 q3 ⊢
 refine RN ?_
 exact ⟨(r,R,B),⟨q2,q3⟩,Ref.gc [] rfl (by simp only [go_sem,↓reduceIte,Nat.reduceEqDiff,Nat.reduceAdd,reduceCtorEq]<;>rfl) (by simp [sub,Ac,A6,Ad,Ae,go_sem,↓reduceIte,Nat.reduceEqDiff,Nat.reduceAdd,reduceCtorEq])⟩
theorem jL {r:Int}{R:List Int}{B:List (List Int)}(hp:IsPos r R B):Lw (Aw B R.length) R.length=Lw B R.length:=by
 unfold Lw
 rw [I7 hp,Bool.and_comm]
theorem Zx {r:Int}{R:List Int}{B:List (List Int)}(hp:IsPos r R B):∀ xs∈B,xs.length≤1048576:=fun xs hx=>by
 obtain ⟨k,hk,rfl⟩:=List.mem_iff_getElem.1 hx
 have:=hp.few (y:=k) (by have:=hp.1.2.2.2;omega)
 rw [show B.getD k []=B[k] by simp [hk]] at this
 omega
theorem lN (bs:List Int)(hl:bs.length≤9223372036854775807)(h8:∀ k,k<bs.length→0≤bs.getD k 0∧bs.getD k 0≤255):D9 Tryd.prog Bh 3 [Ds bs] (bl true) []:=by
 have hbig:=eD bs hl
 unfold Ds at *
 refine Kp pC rfl ?_;unfold c3
 refine RN ?_
 refine An (hbig) ?_
 refine RN ?_
 refine ⟨fun hc=>?_,fun hc=>?_⟩
 ·(refine RN ?_;try with_reducible exact trivial)
  exact Ref.gc1 []
 have hb:F4 bs:=⟨by omega,h8⟩
 have hdr:=gQ bs hb
 unfold Ds at hdr
 refine RN ?_
 refine Ry hdr (by simp only [go_sem,↓reduceIte,Nat.reduceEqDiff,Nat.reduceAdd,reduceCtorEq]) fun o ho=>?_
 obtain ⟨r,R,B⟩:=o
 obtain ⟨⟨r1,r2⟩,g1,g2,g3⟩:=ho
 dsimp only at r1 r2 g1 g2 g3 ⊢
 clear hdr hbig
 by_cases hp:IsPos r R B
 ·have gr:=Zx hp
  have hq:=Ib hp
  have gq:=Zx hq
  obtain ⟨a1,a2,a3,a4,a5⟩:=hp.rank
  have hol:=Bq (r:=r) (R:=R)
  have hbl:=I6 (B:=B) (n:=R.length)
  have hI:=W2 r R B hp gr
  have hS:=wU r R B hp
  have hL:=X5 r (A0 r R) (Aw B R.length) (by omega) (by omega) gq
  have hI2:=W2 r (A0 r R) (Aw B R.length) hq gq
  rw [Kl hp,hol,I7 hp] at hI2
  have hL2:=X5 r R B (by omega) (by omega) gr
  have hA:=W0 r R B hp gr
  have hA2:=W0 r (A0 r R) (Aw B R.length) hq gq
  rw [hol,jL hp] at hA2
  have hC:=W1 r R B (by omega) (by omega) gr
  have hC2:=W1 r (A0 r R) (Aw B R.length) (by omega) (by omega) gq
  obtain ⟨e1,e2⟩:=jS hp
  rw [e1,e2] at hC2
  refine RN ?_
  refine J0 (hI) (by simp only [go_sem,↓reduceIte,Nat.reduceEqDiff,Nat.reduceAdd,reduceCtorEq]<;>rfl) ?_
  refine RN ?_
  refine J0 (hS) (by simp only [go_sem,↓reduceIte,Nat.reduceEqDiff,Nat.reduceAdd,reduceCtorEq]<;>rfl) ?_
  refine RN ?_
  refine GCall.on rfl ?_
  refine E8 hL (by simp only [go_sem,↓reduceIte,Nat.reduceEqDiff,Nat.reduceAdd,reduceCtorEq,A6,Ad,Ae]<;>first | done | rfl) (by simp only [go_sem,↓reduceIte,Nat.reduceEqDiff,Nat.reduceAdd,reduceCtorEq]) ?_
  refine RN ?_
  refine J0 (hI2) (by simp only [go_sem,↓reduceIte,Nat.reduceEqDiff,Nat.reduceAdd,reduceCtorEq]<;>rfl) ?_
  refine RN ?_
  refine An (hA) ?_
  refine RN ?_
  refine An (hA2) ?_
  refine RN ?_
  refine Gw (hC) ?_
  refine RN ?_
  refine Gw (hC2) ?_
  refine RN ?_
  clear hI hS hL hI2 hA hA2 hC hC2
  by_cases hd:Fc r R B
  ·have hD1:=Wz r R B hp gr hd
   have hD2:=Wz r (A0 r R) (Aw B R.length) hq gq ((Vr hp).2 hd)
   refine An (hD1) ?_
   refine RN ?_
   refine An (hD2) ?_
   refine RN ?_
   refine GCall.on rfl ?_
   refine E8 hL2 (by simp only [go_sem,↓reduceIte,Nat.reduceEqDiff,Nat.reduceAdd,reduceCtorEq,A6,Ad,Ae]<;>first | done | rfl) (by simp only [go_sem,↓reduceIte,Nat.reduceEqDiff,Nat.reduceAdd,reduceCtorEq]) ?_
   refine RN ?_
   exact Ref.gc1 []
  ·have hD1:=Wy r R B hp gr hd
   have hD2:=Wy r (A0 r R) (Aw B R.length) hq gq (fun h=>hd ((Vr hp).1 h))
   refine B3 hD1 (by simp only [go_sem,↓reduceIte,Nat.reduceEqDiff,Nat.reduceAdd,reduceCtorEq]<;>first | done | rfl) (fun o=>by first | rfl | simp only [go_sem,↓reduceIte,Nat.reduceEqDiff,Nat.reduceAdd,reduceCtorEq]) fun L1 hL1=>?_
   refine RN ?_
   refine B3 hD2 (by simp only [go_sem,↓reduceIte,Nat.reduceEqDiff,Nat.reduceAdd,reduceCtorEq]<;>first | done | rfl) (fun o=>by first | rfl | simp only [go_sem,↓reduceIte,Nat.reduceEqDiff,Nat.reduceAdd,reduceCtorEq]) fun L3 hL3=>?_
   refine RN ?_
   refine GCall.on rfl ?_
   refine E8 hL2 (by simp only [go_sem,↓reduceIte,Nat.reduceEqDiff,Nat.reduceAdd,reduceCtorEq,A6,Ad,Ae]<;>first | done | rfl) (by simp only [go_sem,↓reduceIte,Nat.reduceEqDiff,Nat.reduceAdd,reduceCtorEq]) ?_
   refine RN ?_
   exact Ref.gc1 []
 ·have gr:∀ xs∈B,xs.length≤1048576:=fun xs hx=>by have:=g3 xs hx;omega
  have hI:=jN r R B (by omega) (by omega) gr hp
  have hS:=wS r R B (by omega) (by omega) gr hp
  have hL:=lW
  refine RN ?_
  refine An (hI) ?_
  refine RN ?_
  refine An (hS) ?_
  refine RN ?_
  refine GCall.on rfl ?_
  refine An (hL) ?_
  refine RN ?_
  refine ⟨fun _=>?_,fun h=>absurd h (by decide)⟩
  refine RN ?_
  exact Ref.gc1 []
end
end Go.Proofs.YtfofabbkigonpaaDoor
namespace Go.Gov
open Go.ChangeShapes Go.WideShapes Go.ChangeAt Go.RowKit
theorem dY {P : Program} {L : List (Nat × List Value)} {f : FuncId} {args : List AV} {b : Bool} {vals : Array Value} {w : World} (h : D9 P L f args (bl b) []) (hv : Ht w L) (hl : vals.size = args.length)
    (hr:∀ m (h:m<args.length),Rd w ((g0 w).tr []) (g0 w).G args[m] (vals.getD m undef) []):
    Calls P f vals w fun e w' => e = .returned (.bool b)∧Below w.heap.size w w' ∧ ∀ a,a.block<w.heap.size→w'.frozen? a=w.frozen? a:=
 (h w vals hv hl fun m hm=>by have:=hr m hm;rwa [show (g0 w).tr []=fun _=>none by funext o;simp [Gh.tr]] at this).mono fun e w' ⟨v,g', av,H', he,hm,hx,hext,hk,_⟩=>by
  subst hk
  cases hx
  exact ⟨he,⟨hm.stp.os,hm.stp.tape.1,hm.stp.output,hm.stp.size,fun k hk=>hext k hk⟩,hm.stp.fz⟩
end Go.Gov
namespace Go.Proofs.YtfofabbkigonpaaDoor
open Go.Gov Go.ChangeShapes Go.WideShapes Go.ChangeAt Go.RowKit
theorem yW {w:World}{n:String}{g:Nat}{cs:Array Value}(hg:Tryd.prog.globalNamed n=some g)(h:w.var? Tryd.prog n=some cs):∃ ty z,w.heap[g]? = some (.cells cs ty z):=by
 unfold World.var? at h
 rw [hg,Option.bind_some] at h
 split at h
 ·rename_i cs' ty z h2
  obtain rfl:=Option.some.inj h
  exact ⟨ty,z,h2⟩
 ·cases h
theorem xR {laid : List (String × DataW Unit)} {W : World} (hL : laidMetH Tryd.prog laid W)
    (h1:laid.filter (fun x=>x.1 == "internal/strconv.uint64pow10")=[("internal/strconv.uint64pow10", Go.Lib.tabData .u64 Go.Lib.pow10Tab)]):Ht W Bh:=by
 have ht:=hL.filter (fun x=>x.1 == "internal/strconv.uint64pow10")
 rw [h1] at ht
 have ht:laidMet Tryd.prog [("internal/strconv.uint64pow10", Go.Lib.tabData .u64 Go.Lib.pow10Tab)] W:=ht
 have gT:Tryd.prog.globalNamed "internal/strconv.uint64pow10" = some 0:=by kernel_rfl
 have htab:=Go.Lib.tabIs_of_head (n:=20) gT (t:=172) (by kernel_rfl) Tryd.underlying172 (e:=72) Tryd.underlying72 (by kernel_rfl) (by kernel_rfl) ht
 intro x hx
 unfold Bh at hx
 rw [gT] at hx
 simp only [Option.getD_some,List.mem_cons,List.not_mem_nil,or_false] at hx
 subst hx
 exact yW gT htab
end Go.Proofs.YtfofabbkigonpaaDoor
namespace Go.Proofs.YtfofabbkigonpaaDoor.JOp
open Go.Proofs.YtfofabbkigonpaaDoor
open Go.ChangeShapes Go.WideShapes Go.ChangeAt Go.RowKit Go.Gov
theorem gP (os:Os)(args:Array Value):laidMetH Tryd.prog Rows.fnOppositesRow.laid ((World.doorLaid Tryd.prog 400 os).forCall (fun _ _=>0) ⟨#[],args,[]⟩).memory:=
 laidMetH_of_parts3 (fuel:=8) (laidMet_of_run' 8 (by kernel_rfl) (by kernel_rfl)) (by kernel_rfl) (by kernel_rfl)
theorem lifted (os : Os) (started : os.Started) (H : Type) (enc : TypeId × Value → H) :
    ReturnsInHanded {} Tryd.checked os 3 .any (fun w args=>(Rows.fnOppositesSpec.pre enc Tryd.prog Tryd.f3 [] false w args∧laidMetH Tryd.prog Rows.fnOppositesRow.laid w)∧sizedMet enc Tryd.prog Tryd.f3 (OpenSpec.ofChange Rows.fnOppositesSpec) false w args) (Rows.fnOppositesSpec.post enc Tryd.prog Tryd.f3 false true false false):=by
 refine returnsInHanded_of_change_and (C:=Tryd.checked) (X:=fun w _=>laidMetH Tryd.prog Rows.fnOppositesRow.laid w) (fun _ _ _ hh h=>h.of_heap hh) Tryd.own started (by kernel_rfl) Tryd.func3
  (ChangeSpec.witness_shaped (enc:=enc) (C:=Tryd.checked) (os:=os) (X:=fun w _=>laidMetH Tryd.prog Rows.fnOppositesRow.laid w) false (World.doorLaid Tryd.prog 400 os) #[.slice none 0 0] 8 rfl (World.shaped_of_RefB (by kernel_rfl) (by kernel_rfl)) (by kernel_rfl) (by kernel_rfl) (by kernel_rfl) (gP os _)) ?_
 intro W base args ds gs before hval0 hW hcnd _ hLaid _
 have hval:∀ (j:Nat) t v,Tryd.f3.params[j]? = some t→args[j]? = some v→Value.okWide Tryd.prog W .any base t v:=hval0
 have hW' := hW
 obtain ⟨p,q,hA0,hV,rfl,hfz,hnd⟩:=hW
 have hA:DataW.TrodAll enc Tryd.prog W 0 (fun _=>true) true Tryd.f3.params.toList args.toList ds p:=hA0
 rw [Tryd.params3] at hA hval
 obtain ⟨v0,l0,d0,e0,p0,q0,ha0,rfl,rfl,h0,hA1⟩:=trodAll_cons hA
 obtain ⟨rfl,rfl,rfl⟩:=trodAll_nil hA1
 obtain rfl:args = #[v0]:=by rw [← Array.toArray_toList (xs:=args),ha0]
 have hv0:=hval 0 22 v0 rfl rfl
 obtain ⟨rfl,rfl⟩:=trodVars_none hV
 obtain ⟨a0,b0,c0,rfl⟩:=okWide_slice Tryd.underlying22 hv0
 obtain ⟨m0,t0⟩:=h0
 obtain ⟨s0,X0,hs0,hX0,hX80,rdX0⟩:=uN Tryd.underlying22 Tryd.underlying5 (by kernel_rfl) t0
 have h0:DataW.Trod enc Tryd.prog W 0 (fun _=>true) true 22 (.slice a0 b0 c0) d0 p0:=⟨m0,t0⟩
 obtain rfl:Value.slice a0 b0 c0=s0:=by simpa [Value.cells] using hs0
 have hrd:∀ m (h:m<([Ds X0]:List AV).length),Rd W ((g0 W).tr []) (g0 W).G ([Ds X0]:List AV)[m] ((#[Value.slice a0 b0 c0]:Array Value).getD m undef) []:=fun m h=>by
  match m,h with
  | 0,_=>exact rdX0 _
 have hVs:=xR hLaid rfl
 refine (dY (lN X0 (Nat.le_trans hX0 (by decide)) hX80) hVs rfl hrd).mono fun e W' ⟨he,hb,hz⟩=>?_
 simp only [List.append_nil] at hW'
 have hS0:∀ sp:Nat→Bool,(∀ x∈p0,sp x.block=true)→DataW.Trod enc Tryd.prog W' 0 sp true 22 (.slice a0 b0 c0) _ p0:=fun sp hsp=>
  WideElems.Trod_stays Tryd.laidOut (by kernel_rfl) (of_decide_eq_true (by kernel_rfl)) h0 (fun x hx=>hb.same (hW'.lt x (by simp [hx]))) (fun x hx=>hsp x (by simp [hx]))
 have hR1:∀ (b:Nat) (sp:Nat→Bool) (hd:Bool),DataW.Trod enc Tryd.prog W' b sp hd 4 (.bool true) (.lit (.bool true)) []:=fun _ _ _=>shut_bool Tryd.underlying4 true
 refine ⟨_,he,sL (pa:=p0) (pv:=[]) hW' (fun b sp hd=>trodAll_mk1 (hR1 b sp hd)) (fun sp hsp=>trodAll_mk1 (hS0 sp hsp)) (fun _ _=>?_) ?_ ?_ hz ?_⟩
 ·rfl
 ·simp
 ·exact hb.frame _
 ·exact ok_one (by kernel_rfl) rfl (okWide_bool_mk Tryd.underlying4 true)
theorem holds:Rows.FnOppositesSaid:=
 OpenClaim.holds_of_wide 3 Tryd.f3 rfl rfl rfl rfl rfl rfl rfl ⟨rfl,rfl,rfl,rfl,rfl⟩ rfl rfl rfl rfl rfl (by kernel_rfl) Tryd.func3 (by kernel_rfl)
  (of_decide_eq_true (by kernel_rfl)) (by unfold Func.isWrapper;first | (rw [if_pos (by decide +kernel)];kernel_rfl) | (rw [if_neg (by decide +kernel)];exact ⟨rfl,rfl⟩))
  (fun os started H enc _=>lifted os started H enc)
theorem card_holds:Rows.FnOppositesCardSaid:=
 Claim7.holds_tied_plain_at .later [] [.data,.data,.data] true Rows.fnOppositesCard.stood.harness Rows.fnOppositesCard.stood.looks
  holds (fun _ h=>by cases h) (by kernel_rfl) (fun _ h=>by cases h) fnOpposites_row_tie rfl ⟨rfl,rfl⟩ (by kernel_rfl) rfl
  (fun f fn hf hfn=>by
   obtain rfl:f=3:=Option.some.inj ((show Tryd.prog.funcNamed "loop.example/g01108/laws.FnOpposites" = some 3 by kernel_rfl).symm.trans hf) |>.symm
   obtain rfl:fn=Tryd.f3:=(Option.some.inj (Tryd.func3.symm.trans hfn)).symm
   exact ⟨by kernel_rfl,fun j t ht=>by
    rw [Tryd.params3] at ht
    have hm:t∈[22]:=by simpa using Array.mem_of_getElem? ht
    have hall:([22].all fun u=>!Tryd.prog.wantsStandIn u)=true:=by kernel_rfl
    exact (show Tryd.prog.wantsStandIn t=false by simpa using List.all_eq_true.1 hall t hm)⟩)
  (by kernel_rfl)
end Go.Proofs.YtfofabbkigonpaaDoor.JOp
