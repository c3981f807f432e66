/- FnChains: the given statement. -/
import Derived.Test.YtcneanpkpmfaiaaGreatRows
import Derived.Test.YtcneanpkpmfaiaaGreatRb
import Derived.Test.YtcneanpkpmfaiaaGreatRd
import Derived.Test.YtcneanpkpmfaiaaGreatQf
set_option maxHeartbeats 16000000
set_option linter.unusedSimpArgs false
set_option linter.unusedVariables false
set_option maxRecDepth 100000
namespace Go.Proofs.YtcneanpkpmfaiaaGreat
open Go.Gov
open Classical
theorem Va {P:Program}{M:List Nat}{N n0:Nat}{F:List (Nat×AV)}{H:List (Option (List AV))}{x z:ACode}{Q:Exit→List (Nat×AV)→List (Option (List AV))→Prop}(F1:List (Nat×AV))(H1:List (Option (List AV)))(hx:W P M N n0 x (Dx (fun F' H' => Ref n0 F' H' F1 H1) Q) F H)(hn:W P M N n0 z Q F1 H1):W P M N n0 x (Dx (W P M N n0 z Q) Q) F H:=
 Vc hx fun e F' H' h=>by
  cases e with
  | normal=>exact Df h hn
  | _=>exact h
theorem mT {r:Int}{R:List Int}{B:List (List Int)}{i:Int}{c:List Int}(hp:IsPos r R B):(D9 r R B i c).length≤500:=by
 unfold D9
 split
 ·rename_i h0
  obtain ⟨_,_,hcs⟩:=Hm h0
  have hc:=(chOk_iff.1 (hcs c (by simp))).1
  cases hf:D3 R B i c with
  | none=>simp
  | some d=>
   obtain ⟨d1,d2,_⟩:=Sj hp hc hf
   obtain ⟨_,_,h3,_⟩:=hp.rank
   exact Cb d1 fun e he=>by
    obtain ⟨p1,p2,p3⟩:=mem_plc.1 (d2 e he)
    omega
 ·simp
theorem jE {r:Int}{R:List Int}{B:List (List Int)}{i:Int}{c:List Int}(hp:IsPos r R B):(El r R B i c).length≤500:=by
 unfold El
 split
 ·split
  ·simp
  ·exact Vj hp
 ·simp
theorem sI (bs:List Int)(hl:bs.length≤9223372036854775807)(h8:∀ k,k<bs.length→0≤bs.getD k 0∧bs.getD k 0≤255):Pure Tryz.prog 3 [Ee bs] (bl true) []:=by
 have hbig:=jM bs hl
 unfold Ee at *
 refine Au wG rfl ?_;unfold c3
 refine RN ?_
 refine Am (hbig) ?_
 refine RN ?_
 refine ⟨fun hc=>?_,fun hc=>?_⟩
 ·(refine RN ?_;try with_reducible exact trivial)
  exact Ref.gc1 []
 have hb:Ec bs:=⟨by omega,h8⟩
 have hdr:=lT bs hb
 unfold Ee at hdr
 refine RN ?_
 refine Nf hdr (by simp only [go_sem,↓reduceIte,Nat.reduceEqDiff,Nat.reduceAdd,reduceCtorEq]) fun o ho=>?_
 obtain ⟨⟨r,R,B⟩,i,a,b⟩:=o
 obtain ⟨⟨⟨r1,r2⟩,g1,g2,g3⟩,⟨i1,i2⟩,la,lb⟩:=ho
 dsimp only at r1 r2 g1 g2 g3 i1 i2 la lb ⊢
 clear hdr hbig
 have gr:∀ xs∈B,xs.length≤1048576:=fun xs hx=>by have:=g3 xs hx;omega
 have hI:=Zh (r:=r) (R:=R) (B:=B) (i:=i) (a:=a) (b:=b) (by omega) (by omega) gr (by omega) (by omega)
 have hS:=Acl (r:=r) (R:=R) (B:=B) (i:=i) (a:=a) (b:=b) (by omega) (by omega) gr (by omega) (by omega)
 have hIa:=nY (r:=r) (R:=R) (B:=B) (i:=i) (a:=a) (b:=b) (by omega) (by omega) gr (by omega) (by omega)
 have hSa:=Ack (r:=r) (R:=R) (B:=B) (i:=i) (a:=a) (b:=b) (by omega) (by omega) gr (by omega) (by omega)
 have hvl:(Dv r R B i a b).length≤1048576:=by
  have:=Abu (r:=r) (R:=R) (B:=B) (i:=i) (a:=a) (b:=b)
  omega
 have hli:=Tr (Dv r R B i a b) (Dv r R B i a b) hvl hvl
 rw [decide_eq_true rfl] at hli
 have tkv:(Aa (Dv r R B i a b)).take (Dv r R B i a b).length=Aa (Dv r R B i a b):=List.take_of_length_le (by simp [Aa])
 refine RN ?_
 refine Am (hI) ?_
 refine RN ?_
 refine Am (hS) ?_
 refine RN ?_
 refine GCall.on rfl ?_
 refine Bn hli (by simp only [go_sem,↓reduceIte,Nat.reduceEqDiff,Nat.reduceAdd,reduceCtorEq,Ac,tkv]) (by simp only [go_sem,↓reduceIte,Nat.reduceEqDiff,Nat.reduceAdd,reduceCtorEq]) ?_
 refine RN ?_
 refine Am (hIa) ?_
 refine RN ?_
 refine Am (hSa) ?_
 refine RN ?_
 clear hI hS hIa hSa hli
 refine ⟨fun hc2=>?_,fun h0=>?_⟩
 ·have hv0:Dv r R B i a b=[]:=if_neg hc2
  rw [hv0]
  refine RN ?_
  exact Ref.gc1 []
 obtain ⟨hp,hi,hcs⟩:=Hm h0
 obtain ⟨e1,e2,e3,e4,e5,e6,e7,e8,e9⟩:=kK h0
 rw [e1] at hvl tkv ⊢
 rw [e5,h0]
 have hI2:=Zh (r:=r) (R:=R) (B:=B) (i:=i) (a:=Ag a b) (b:=b) (by omega) (by omega) gr (by omega) (by omega)
 rw [e3,e2] at hI2
 have hF:=oA (r:=r) (R:=R) (B:=B) (i:=i) (c:=Ag a b) (by omega) (by omega) gr hvl
 have hE:=nZ r R B (by omega) (by omega) gr
 rw [if_pos hp,if_pos hp] at hE
 have hC:=Zg (r:=r) (R:=R) (B:=B) (i:=i) (c:=Ag a b) (by omega) (by omega) gr hvl
 rw [e4] at hC
 have hla:=Tr a a (by omega) (by omega)
 have hls:=Tr (Ag a b) (Ag a b) hvl hvl
 rw [decide_eq_true rfl] at hla hls
 have hfe:=mT (c:=Ag a b) (i:=i) hp
 have hB1:=fun (h1:Jl r R B (i+1) (D9 r R B i (Ag a b))=0) (h2:El r R B (i+1) (D9 r R B i (Ag a b))=Ag a b)=>by
  have:=Zf (r:=r) (R:=R) (B:=B) (i:=i+1) (c:=D9 r R B i (Ag a b)) (by omega) (by omega) gr (by omega)
  rw [h1,h2] at this
  exact this
 have hB2:=Zf (r:=r) (R:=R) (B:=B) (i:=i) (c:=Ag a b) (by omega) (by omega) gr hvl
 have hbe:=jE (c:=Ag a b) (i:=i) hp
 have hC2:=Zg (r:=r) (R:=R) (B:=B) (i:=i - 1) (c:=El r R B i (Ag a b)) (by omega) (by omega) gr (by omega)
 clear e1 e2 e3 e5
 generalize Ag a b=s at *
 generalize Hp r R B i s=fc at *
 generalize D9 r R B i s=fv at *
 have tka:(Aa a).take a.length=Aa a:=List.take_of_length_le (by simp [Aa])
 have tkf:(Aa fv).take fv.length=Aa fv:=List.take_of_length_le (by simp [Aa])
 refine RN ?_
 refine Bn hI2 (by simp only [go_sem,↓reduceIte,Nat.reduceEqDiff,Nat.reduceAdd,reduceCtorEq,Ac,A6,tkv]<;>rfl) (by simp only [go_sem,↓reduceIte,Nat.reduceEqDiff,Nat.reduceAdd,reduceCtorEq]) ?_
 refine RN ?_
 refine Bn hF (by simp only [go_sem,↓reduceIte,Nat.reduceEqDiff,Nat.reduceAdd,reduceCtorEq,Ac,A6,tkv]<;>rfl) (by simp only [go_sem,↓reduceIte,Nat.reduceEqDiff,Nat.reduceAdd,reduceCtorEq]) ?_
 refine RN ?_
 refine Am (hE) ?_
 refine RN ?_
 refine Bn hC (by simp only [go_sem,↓reduceIte,Nat.reduceEqDiff,Nat.reduceAdd,reduceCtorEq,Ac,A6,tkv]<;>rfl) (by simp only [go_sem,↓reduceIte,Nat.reduceEqDiff,Nat.reduceAdd,reduceCtorEq]) ?_
 refine RN ?_
 refine GCall.on rfl ?_
 refine Bn hla (by simp only [go_sem,↓reduceIte,Nat.reduceEqDiff,Nat.reduceAdd,reduceCtorEq,Ac,A6,tka]<;>rfl) (by simp only [go_sem,↓reduceIte,Nat.reduceEqDiff,Nat.reduceAdd,reduceCtorEq]) ?_
 (repeat first | simp only [go_sem,go_sem,↓reduceIte,Nat.reduceEqDiff,Nat.reduceAdd,reduceCtorEq] | (with_reducible refine And.intro ?_ ?_;focus first | assumption | omega | decide | grind))
 refine Va [(3,.ref 0 0),(4,i64 i),(7,.sl 1 1 0 s.length),(17,.sl 2 1 0 fv.length),(18,i64 fc),(19,bl (decide (Gf R B))),(21,bl (Fz r R B i s))] [some [i64 r,Ac R,Ae B],some (Aa s),some (Aa fv)] ?_ ?_
 ·(refine RN ?_;try with_reducible exact trivial)
  exact Ref.gc2 [0,1,4]
 refine N9 ?_
 refine Va [(3,.ref 0 0),(4,i64 i),(7,.sl 1 1 0 s.length),(17,.sl 2 1 0 fv.length),(18,i64 fc),(19,bl (decide (Gf R B))),(21,bl (Fz r R B i s))] [some [i64 r,Ac R,Ae B],some (Aa s),some (Aa fv)] ?_ ?_
 ·(refine RN ?_;try with_reducible exact trivial)
  refine ⟨fun hq=>?_,fun _=>Ref.to1⟩
  obtain ⟨hq1,hq2⟩:=hq
  obtain ⟨w1,w2,w3⟩:=e6 hq1 fun e=>by
   rw [e] at hq2
   exact absurd hq2 (by decide)
  have hB:=hB1 w1 w2
  refine ⟨⟨by omega,by omega⟩,?_⟩
  refine Bn hB (by simp only [go_sem,↓reduceIte,Nat.reduceEqDiff,Nat.reduceAdd,reduceCtorEq,Ac,A6,tkf]<;>rfl) (by simp only [go_sem,↓reduceIte,Nat.reduceEqDiff,Nat.reduceAdd,reduceCtorEq]) ?_
  refine RN ?_
  refine GCall.on rfl ?_
  refine Bn hls (by simp only [go_sem,↓reduceIte,Nat.reduceEqDiff,Nat.reduceAdd,reduceCtorEq,Ac,A6,tkv]<;>rfl) (by simp only [go_sem,↓reduceIte,Nat.reduceEqDiff,Nat.reduceAdd,reduceCtorEq]) ?_
  by_cases hev:Gf R B
  ·rw [decide_eq_true hev,w3 hev]
   refine RN ?_
   exact Ref.gc2 [0,1,2]
  ·rw [decide_eq_false hev]
   refine RN ?_
   exact Ref.gc2 [0,1,2]
 refine RN ?_
 refine ⟨fun hq=>?_,fun _=>?_⟩
 ·have hs0:=e7 hq.1.1 (List.eq_nil_of_length_eq_zero (by omega))
  rw [hs0] at hq
  exact absurd hq.2 (by decide)
 clear e6 e7 hB1 hls hla hI2 hF hE hC
 refine RN ?_
 refine ⟨fun hi0=>?_,fun hi0=>?_⟩
 ·rw [e8 hi0]
  refine RN ?_
  exact Ref.gc1 []
 ·obtain ⟨x1,x2,x3,x4⟩:=e9 hi0
  rw [x1] at hB2
  rw [x3] at hC2
  rw [x2]
  clear e8 e9 x1 x2 x3 e4
  generalize El r R B i s=e at *
  have tke:(Aa e).take e.length=Aa e:=List.take_of_length_le (by simp [Aa])
  refine RN ?_
  refine Bn hB2 (by simp only [go_sem,↓reduceIte,Nat.reduceEqDiff,Nat.reduceAdd,reduceCtorEq,Ac,A6,tkv]<;>rfl) (by simp only [go_sem,↓reduceIte,Nat.reduceEqDiff,Nat.reduceAdd,reduceCtorEq]) ?_
  refine RN ?_
  refine Bn hC2 (by simp only [go_sem,↓reduceIte,Nat.reduceEqDiff,Nat.reduceAdd,reduceCtorEq,Ac,A6,tke]<;>rfl) (by simp only [go_sem,↓reduceIte,Nat.reduceEqDiff,Nat.reduceAdd,reduceCtorEq]) ?_
  by_cases hev:Gf R B
  ·rw [x4 hev,decide_eq_true hev]
   refine RN ?_
   exact Ref.gc1 []
  ·rw [decide_eq_false hev]
   generalize Fz r R B (i - 1) e=y
   cases y<;>((refine RN ?_;try with_reducible exact trivial);exact Ref.gc1 [])
end Go.Proofs.YtcneanpkpmfaiaaGreat
namespace Go.Proofs.YtcneanpkpmfaiaaGreat.JCh
open Go.Proofs.YtcneanpkpmfaiaaGreat
open Go.ChangeShapes Go.WideShapes Go.ChangeAt Go.RowKit Go.Gov
theorem lifted (os : Os) (started : os.Started) (H : Type) (enc : TypeId × Value → H) :
    ReturnsInHanded {} Tryz.checked os 3 .any (Rows.fnChainsSpec.pre6 enc Tryz.prog Tryz.f3 Rows.fnChainsRow.domain false) (Rows.fnChainsSpec.post enc Tryz.prog Tryz.f3 false true false false):=by
 refine returnsInHanded_of_change (C:=Tryz.checked) Tryz.own started (by kernel_rfl) Tryz.func3
  (ChangeSpec.witness6 (enc:=enc) (C:=Tryz.checked) false ⟨#[],#[.slice none 0 0],[]⟩ 8 (by kernel_rfl) (by kernel_rfl) (by kernel_rfl) (by kernel_rfl)) ?_
 intro W base args ds gs before hval0 hW hcnd _
 have hval:∀ (j:Nat) t v,Tryz.f3.params[j]? = some t→args[j]? = some v→Value.okWide Tryz.prog W .any base t v:=hval0
 have hW' := hW
 obtain ⟨p,q,hA0,hV,rfl,hfz,hnd⟩:=hW
 have hA:DataW.TrodAll enc Tryz.prog W 0 (fun _=>true) true Tryz.f3.params.toList args.toList ds p:=hA0
 rw [Tryz.params3] at hA hval
 obtain ⟨v0,l0,d0,e0,p0,q0,ha0,rfl,rfl,h0,hA1⟩:=trodAll_cons hA
 obtain ⟨rfl,rfl,rfl⟩:=trodAll_nil hA1
 obtain rfl:args = #[v0]:=by rw [← Array.toArray_toList (xs:=args),ha0]
 have hv0:=hval 0 22 v0 rfl rfl
 obtain ⟨rfl,rfl⟩:=trodVars_none hV
 obtain ⟨a0,b0,c0,rfl⟩:=okWide_slice Tryz.underlying22 hv0
 obtain ⟨m0,t0⟩:=h0
 obtain ⟨s0,X0,hs0,hX0,hX80,rdX0⟩:=Aax Tryz.underlying22 Tryz.underlying5 (by kernel_rfl) t0
 have h0:DataW.Trod enc Tryz.prog W 0 (fun _=>true) true 22 (.slice a0 b0 c0) d0 p0:=⟨m0,t0⟩
 obtain rfl:Value.slice a0 b0 c0=s0:=by simpa [Value.cells] using hs0
 have hrd:∀ m (h:m<([Ee X0]:List AV).length),Rd W ((g0 W).tr []) (g0 W).G ([Ee X0]:List AV)[m] ((#[Value.slice a0 b0 c0]:Array Value).getD m undef) []:=fun m h=>by
  match m,h with
  | 0,_=>exact rdX0 _
 refine (jH (sI X0 (Nat.le_trans hX0 (by decide)) hX80) rfl hrd).mono fun e W' ⟨he,hb,hz⟩=>?_
 simp only [List.append_nil] at hW'
 have hS0:∀ sp:Nat→Bool,(∀ x∈p0,sp x.block=true)→DataW.Trod enc Tryz.prog W' 0 sp true 22 (.slice a0 b0 c0) _ p0:=fun sp hsp=>
  WideElems.Trod_stays Tryz.laidOut (by kernel_rfl) (of_decide_eq_true (by kernel_rfl)) h0 (fun x hx=>hb.same (hW'.lt x (by simp [hx]))) (fun x hx=>hsp x (by simp [hx]))
 have hR1:∀ (b:Nat) (sp:Nat→Bool) (hd:Bool),DataW.Trod enc Tryz.prog W' b sp hd 4 (.bool true) (.lit (.bool true)) []:=fun _ _ _=>shut_bool Tryz.underlying4 true
 refine ⟨_,he,zJ (pa:=p0) (pv:=[]) hW' (fun b sp hd=>trodAll_mk1 (hR1 b sp hd)) (fun sp hsp=>trodAll_mk1 (hS0 sp hsp)) (fun _ _=>?_) ?_ ?_ hz ?_⟩
 ·rfl
 ·simp
 ·exact hb.frame _
 ·exact ok_one (by kernel_rfl) rfl (okWide_bool_mk Tryz.underlying4 true)
theorem holds:Rows.FnChainsSaid:=
 OpenClaim.holds_of_wide 3 Tryz.f3 rfl rfl rfl rfl rfl rfl rfl ⟨rfl,rfl,rfl,rfl,rfl⟩ rfl rfl rfl rfl rfl (by kernel_rfl) Tryz.func3 (by kernel_rfl)
  (of_decide_eq_true (by kernel_rfl)) (by unfold Func.isWrapper;first | (rw [if_pos (by decide +kernel)];kernel_rfl) | (rw [if_neg (by decide +kernel)];exact ⟨rfl,rfl⟩))
  (fun os started H enc _=>lifted os started H enc)
end Go.Proofs.YtcneanpkpmfaiaaGreat.JCh
