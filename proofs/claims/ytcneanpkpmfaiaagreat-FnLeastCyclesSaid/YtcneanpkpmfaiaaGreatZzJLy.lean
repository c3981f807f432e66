/- FnLeastCycles: the given statement. -/
import Derived.Test.YtcneanpkpmfaiaaGreatRows
import Derived.Test.YtcneanpkpmfaiaaGreatRb
import Derived.Test.YtcneanpkpmfaiaaGreatRd
import Derived.Test.YtcneanpkpmfaiaaGreatQf
set_option maxHeartbeats 16000000
set_option linter.unusedSimpArgs false
set_option linter.unusedVariables false
set_option maxRecDepth 100000
namespace Go.Proofs.YtcneanpkpmfaiaaGreat
open Go.Gov
open Classical
theorem uP (r:Int)(R:List Int)(B:List (List Int)):(Cr r R B).length≤1048576:=by
 by_cases h:IsPos r R B∧Cd R B∧(Am R 1).length≤14
 ·obtain ⟨hp,he,h14⟩:=h
  obtain ⟨_,_,_,l4,l5⟩:=cH hp he h14
  cases hs:(B3 R B).isSome with
  | false=>rw [(l5 hs).2.2];decide
  | true=>
   obtain ⟨_,_,h3,_⟩:=hp.rank
   have h1:=(Te (l4 hs).2.2.2.1).2.2 _ (List.mem_singleton.2 rfl)
   obtain ⟨c1,c2⟩:=chOk_iff.1 h1
   have:=Bp c1 fun e he=>by
    obtain ⟨p1,p2,p3⟩:=mem_plc.1 (c2 e he)
    omega
   omega
 ·unfold Cr
  rw [if_neg h]
  decide
theorem uQ {r:Int}{R:List Int}{B:List (List Int)}(h:(Ev r R B=1∨Ev r R B=5)∨Ev r R B=3):Cr r R B=[]:=by
 unfold Cr
 rw [if_neg]
 rintro ⟨hp,he,h14⟩
 unfold Ev at h
 rw [if_pos hp,if_pos he,if_pos h14] at h
 split at h<;>omega
theorem uR {r:Int}{R:List Int}{B:List (List Int)}(h:(¬Ev r R B=1∧¬Ev r R B=5)∧¬Ev r R B=3):IsPos r R B∧Cd R B∧(Am R 1).length≤14:=by
 unfold Ev at h
 by_cases hp:IsPos r R B
 ·by_cases he:Cd R B
  ·by_cases h14:(Am R 1).length≤14
   ·exact ⟨hp,he,h14⟩
   ·rw [if_pos hp,if_pos he,if_neg h14] at h
    exact absurd rfl h.2
  ·rw [if_pos hp,if_neg he] at h
   exact absurd rfl h.1.2
 ·rw [if_neg hp] at h
  exact absurd rfl h.1.1
theorem uN (bs:List Int)(hl:bs.length≤9223372036854775807)(h8:∀ k,k<bs.length→0≤bs.getD k 0∧bs.getD k 0≤255):Pure Tryz.prog 4 [Es bs] (bl true) []:=by
 have hbig:=lH bs hl
 unfold Es at *
 refine Aw yU rfl ?_;unfold c4
 refine RN ?_
 refine Ak (hbig) ?_
 refine RN ?_
 refine ⟨fun hc=>?_,fun hc=>?_⟩
 ·(refine RN ?_;try with_reducible exact trivial)
  exact Ref.gc1 []
 have hb:E6 bs:=⟨by omega,h8⟩
 have hdr:=oD bs hb
 unfold Es at hdr
 refine RN ?_
 refine Ob hdr (by simp only [go_sem,↓reduceIte,Nat.reduceEqDiff,Nat.reduceAdd,reduceCtorEq]) fun o ho=>?_
 obtain ⟨r,R,B⟩:=o
 obtain ⟨⟨r1,r2⟩,g1,g2,g3⟩:=ho
 dsimp only at r1 r2 g1 g2 g3 ⊢
 clear hdr hbig
 have gr:∀ xs∈B,xs.length≤1048576:=fun xs hx=>by have:=g3 xs hx;omega
 have hI:=qM r R B (by omega) (by omega) gr
 have hS:=Aec r R B (by omega) (by omega) gr
 have hvl:=uP r R B
 have hli:=vA (Cr r R B) (Cr r R B) hvl hvl
 rw [decide_eq_true rfl] at hli
 have tkv:(Aa (Cr r R B)).take (Cr r R B).length=Aa (Cr r R B):=List.take_of_length_le (by simp [Aa])
 refine RN ?_
 refine Ak (hI) ?_
 refine RN ?_
 refine Ak (hS) ?_
 refine RN ?_
 refine GCall.on rfl ?_
 refine Bx hli (by simp only [go_sem,↓reduceIte,Nat.reduceEqDiff,Nat.reduceAdd,reduceCtorEq,Ac,tkv]) (by simp only [go_sem,↓reduceIte,Nat.reduceEqDiff,Nat.reduceAdd,reduceCtorEq]) ?_
 refine RN ?_
 clear hI hS hli
 refine ⟨fun hc2=>?_,fun hc2=>?_⟩
 ·have h0:=uQ hc2
  rw [h0]
  refine RN ?_
  exact Ref.gc1 []
 ·obtain ⟨hp,he,h14⟩:=uR hc2
  obtain ⟨l1,l2,l3,l4,l5⟩:=cH hp he h14
  have hBe:=qJ r R B (by omega) (by omega) gr
  have hF:=qK (r:=r) (R:=R) (B:=B) (i:=1) (c:=Cr r R B) (by omega) (by omega) gr hvl
  have hIC:=qL (r:=r) (R:=R) (B:=B) (i:=1) (c:=Cr r R B) (by omega) (by omega) gr hvl
  rw [l1] at hBe
  refine RN ?_
  refine Ak (hBe) ?_
  refine RN ?_
  cases hs:(B3 R B).isSome with
  | true=>
   obtain ⟨m1,m2,m3,m4,m5,m6,m7⟩:=l4 hs
   rw [m4,m5] at hIC
   rw [m6] at hF
   rw [m3]
   (repeat' first | simp only [go_sem,↓reduceIte,Nat.reduceEqDiff,Nat.reduceAdd,reduceCtorEq,List.getD_nil,Az,Int.cast_ofNat_Int,Int.reduceAdd,Int.reduceSub,Int.reduceMul,Int.reduceNeg,Int.reduceLT,Int.reduceLE,Int.reduceEq,Int.reduceNe,Int.reduceBEq,Int.reduceBNe,Int.reduceToNat,Nat.reduceSub,Nat.reduceMul,Nat.reduceLT,Nat.reduceLeDiff,decide_true,decide_false,Bool.not_true,Bool.not_false,Bool.and_true,Bool.true_and,Bool.or_false,Bool.false_or,Int.reduceTDiv] | with_reducible refine GCall.on rfl ?_ | with_reducible refine Au (bl false) rfl ?_ | with_reducible refine Ar ?_ | with_reducible refine Aq ?_ | with_reducible exact As | with_reducible refine Ap ?_ ?_ | with_reducible refine An ?_ | (with_reducible refine And.intro ?_ ?_;focus first | assumption | omega | decide) | with_reducible refine fun _=>?_)
   refine Bx hIC (by simp only [go_sem,↓reduceIte,Nat.reduceEqDiff,Nat.reduceAdd,reduceCtorEq,Ac,Bo,tkv]<;>rfl) (by simp only [go_sem,↓reduceIte,Nat.reduceEqDiff,Nat.reduceAdd,reduceCtorEq]) ?_
   (repeat' first | simp only [go_sem,↓reduceIte,Nat.reduceEqDiff,Nat.reduceAdd,reduceCtorEq,List.getD_nil,Az,Int.cast_ofNat_Int,Int.reduceAdd,Int.reduceSub,Int.reduceMul,Int.reduceNeg,Int.reduceLT,Int.reduceLE,Int.reduceEq,Int.reduceNe,Int.reduceBEq,Int.reduceBNe,Int.reduceToNat,Nat.reduceSub,Nat.reduceMul,Nat.reduceLT,Nat.reduceLeDiff,decide_true,decide_false,Bool.not_true,Bool.not_false,Bool.and_true,Bool.true_and,Bool.or_false,Bool.false_or,Int.reduceTDiv] | with_reducible refine GCall.on rfl ?_ | with_reducible refine Au (bl false) rfl ?_ | with_reducible refine Ar ?_ | with_reducible refine Aq ?_ | with_reducible exact As | with_reducible refine Ap ?_ ?_ | with_reducible refine An ?_ | (with_reducible refine And.intro ?_ ?_;focus first | assumption | omega | decide) | with_reducible refine fun _=>?_)
   refine Bx hF (by simp only [go_sem,↓reduceIte,Nat.reduceEqDiff,Nat.reduceAdd,reduceCtorEq,Ac,Bo,tkv]<;>rfl) (by simp only [go_sem,↓reduceIte,Nat.reduceEqDiff,Nat.reduceAdd,reduceCtorEq]) ?_
   (repeat' first | simp only [go_sem,↓reduceIte,Nat.reduceEqDiff,Nat.reduceAdd,reduceCtorEq,List.getD_nil,Az,Int.cast_ofNat_Int,Int.reduceAdd,Int.reduceSub,Int.reduceMul,Int.reduceNeg,Int.reduceLT,Int.reduceLE,Int.reduceEq,Int.reduceNe,Int.reduceBEq,Int.reduceBNe,Int.reduceToNat,Nat.reduceSub,Nat.reduceMul,Nat.reduceLT,Nat.reduceLeDiff,decide_true,decide_false,Bool.not_true,Bool.not_false,Bool.and_true,Bool.true_and,Bool.or_false,Bool.false_or,Int.reduceTDiv] | with_reducible refine GCall.on rfl ?_ | with_reducible refine Au (bl false) rfl ?_ | with_reducible refine Ar ?_ | with_reducible refine Aq ?_ | with_reducible exact As | with_reducible refine Ap ?_ ?_ | with_reducible refine An ?_ | (with_reducible refine And.intro ?_ ?_;focus first | assumption | omega | decide) | with_reducible refine fun _=>?_)
   rw [decide_eq_true m1,decide_eq_true m2,decide_eq_true (show (0:Int)<((Cr r R B).length:Nat) by omega)]
   exact Ref.gc1 []
  | false=>
   obtain ⟨m1,m2,m3⟩:=l5 hs
   rw [m2]
   (repeat' first | simp only [go_sem,↓reduceIte,Nat.reduceEqDiff,Nat.reduceAdd,reduceCtorEq,List.getD_nil,Az,Int.cast_ofNat_Int,Int.reduceAdd,Int.reduceSub,Int.reduceMul,Int.reduceNeg,Int.reduceLT,Int.reduceLE,Int.reduceEq,Int.reduceNe,Int.reduceBEq,Int.reduceBNe,Int.reduceToNat,Nat.reduceSub,Nat.reduceMul,Nat.reduceLT,Nat.reduceLeDiff,decide_true,decide_false,Bool.not_true,Bool.not_false,Bool.and_true,Bool.true_and,Bool.or_false,Bool.false_or,Int.reduceTDiv] | with_reducible refine GCall.on rfl ?_ | with_reducible refine Au (bl false) rfl ?_ | with_reducible refine Ar ?_ | with_reducible refine Aq ?_ | with_reducible exact As | with_reducible refine Ap ?_ ?_ | with_reducible refine An ?_ | (with_reducible refine And.intro ?_ ?_;focus first | assumption | omega | decide) | with_reducible refine fun _=>?_)
   have hn:(decide (1<r)&&decide (0<(I6 r R B).getD 1 0))=false:=by
    rcases Classical.em (1<r) with q | q
    ·rw [decide_eq_false (m1 q),Bool.and_false]
    ·rw [decide_eq_false q,Bool.false_and]
   rw [hn,m3]
   exact Ref.gc1 []
end Go.Proofs.YtcneanpkpmfaiaaGreat
namespace Go.Proofs.YtcneanpkpmfaiaaGreat.JLy
open Go.Proofs.YtcneanpkpmfaiaaGreat
open Go.ChangeShapes Go.WideShapes Go.ChangeAt Go.RowKit Go.Gov
theorem lifted (os : Os) (started : os.Started) (H : Type) (enc : TypeId × Value → H) :
    ReturnsInHanded {} Tryz.checked os 4 .any (Rows.fnLeastCyclesSpec.pre6 enc Tryz.prog Tryz.f4 Rows.fnLeastCyclesRow.domain false) (Rows.fnLeastCyclesSpec.post enc Tryz.prog Tryz.f4 false true false false):=by
 refine returnsInHanded_of_change (C:=Tryz.checked) Tryz.own started (by kernel_rfl) Tryz.func4
  (ChangeSpec.witness6 (enc:=enc) (C:=Tryz.checked) false ⟨#[],#[.slice none 0 0],[]⟩ 8 (by kernel_rfl) (by kernel_rfl) (by kernel_rfl) (by kernel_rfl)) ?_
 intro W base args ds gs before hval0 hW hcnd _
 have hval:∀ (j:Nat) t v,Tryz.f4.params[j]? = some t→args[j]? = some v→Value.okWide Tryz.prog W .any base t v:=hval0
 have hW' := hW
 obtain ⟨p,q,hA0,hV,rfl,hfz,hnd⟩:=hW
 have hA:DataW.TrodAll enc Tryz.prog W 0 (fun _=>true) true Tryz.f4.params.toList args.toList ds p:=hA0
 rw [Tryz.params4] at hA hval
 obtain ⟨v0,l0,d0,e0,p0,q0,ha0,rfl,rfl,h0,hA1⟩:=trodAll_cons hA
 obtain ⟨rfl,rfl,rfl⟩:=trodAll_nil hA1
 obtain rfl:args = #[v0]:=by rw [← Array.toArray_toList (xs:=args),ha0]
 have hv0:=hval 0 22 v0 rfl rfl
 obtain ⟨rfl,rfl⟩:=trodVars_none hV
 obtain ⟨a0,b0,c0,rfl⟩:=okWide_slice Tryz.underlying22 hv0
 obtain ⟨m0,t0⟩:=h0
 obtain ⟨s0,X0,hs0,hX0,hX80,rdX0⟩:=Acm Tryz.underlying22 Tryz.underlying5 (by kernel_rfl) t0
 have h0:DataW.Trod enc Tryz.prog W 0 (fun _=>true) true 22 (.slice a0 b0 c0) d0 p0:=⟨m0,t0⟩
 obtain rfl:Value.slice a0 b0 c0=s0:=by simpa [Value.cells] using hs0
 have hrd:∀ m (h:m<([Es X0]:List AV).length),Rd W ((g0 W).tr []) (g0 W).G ([Es X0]:List AV)[m] ((#[Value.slice a0 b0 c0]:Array Value).getD m undef) []:=fun m h=>by
  match m,h with
  | 0,_=>exact rdX0 _
 refine (kZ (uN X0 (Nat.le_trans hX0 (by decide)) hX80) rfl hrd).mono fun e W' ⟨he,hb,hz⟩=>?_
 simp only [List.append_nil] at hW'
 have hS0:∀ sp:Nat→Bool,(∀ x∈p0,sp x.block=true)→DataW.Trod enc Tryz.prog W' 0 sp true 22 (.slice a0 b0 c0) _ p0:=fun sp hsp=>
  WideElems.Trod_stays Tryz.laidOut (by kernel_rfl) (of_decide_eq_true (by kernel_rfl)) h0 (fun x hx=>hb.same (hW'.lt x (by simp [hx]))) (fun x hx=>hsp x (by simp [hx]))
 have hR1:∀ (b:Nat) (sp:Nat→Bool) (hd:Bool),DataW.Trod enc Tryz.prog W' b sp hd 4 (.bool true) (.lit (.bool true)) []:=fun _ _ _=>shut_bool Tryz.underlying4 true
 refine ⟨_,he,Abg (pa:=p0) (pv:=[]) hW' (fun b sp hd=>trodAll_mk1 (hR1 b sp hd)) (fun sp hsp=>trodAll_mk1 (hS0 sp hsp)) (fun _ _=>?_) ?_ ?_ hz ?_⟩
 ·rfl
 ·simp
 ·exact hb.frame _
 ·exact ok_one (by kernel_rfl) rfl (okWide_bool_mk Tryz.underlying4 true)
theorem holds:Rows.FnLeastCyclesSaid:=
 OpenClaim.holds_of_wide 4 Tryz.f4 rfl rfl rfl rfl rfl rfl rfl ⟨rfl,rfl,rfl,rfl,rfl⟩ rfl rfl rfl rfl rfl (by kernel_rfl) Tryz.func4 (by kernel_rfl)
  (of_decide_eq_true (by kernel_rfl)) (by unfold Func.isWrapper;first | (rw [if_pos (by decide +kernel)];kernel_rfl) | (rw [if_neg (by decide +kernel)];exact ⟨rfl,rfl⟩))
  (fun os started H enc _=>lifted os started H enc)
end Go.Proofs.YtcneanpkpmfaiaaGreat.JLy
