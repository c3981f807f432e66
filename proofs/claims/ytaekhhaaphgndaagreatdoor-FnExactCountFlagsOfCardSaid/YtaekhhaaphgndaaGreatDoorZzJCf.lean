/- FnExactCountFlagsOf: the given statement. -/
import Derived.LaidSub
import Derived.MakeChecks
import Derived.Test.YtaekhhaaphgndaaGreatDoorRows
import Derived.Test.YtaekhhaaphgndaaGreatDoorCards
import Derived.Test.YtaekhhaaphgndaaGreatDoorTie
import Derived.LaidMore
import Derived.SevenTiedAt
import Derived.OpenShut
import Derived.Test.YtaekhhaaphgndaaGreatDoorZp
import Derived.Test.YtaekhhaaphgndaaGreatDoorSp
set_option maxHeartbeats 16000000
set_option linter.unusedSimpArgs false
set_option linter.unusedVariables false
set_option maxRecDepth 100000
namespace Go.Proofs.YtaekhhaaphgndaaGreatDoor
open Go.Gov
open Classical
theorem lawLCf_c (M0:List (List Int))(M1:List (List Int))(n2:Int)(ha0:M0.length≤9223372036854775807)(hr0:∀ xs∈M0,xs.length≤9223372036854775807)(ha1:M1.length≤9223372036854775807)(hr1:∀ xs∈M1,xs.length≤9223372036854775807):PureG Tryz.prog tabZ 5 [maniA M0,maniA M1,i64 n2] (bl true) []:=by
 refine pureGV ok5 rfl ?_;unfold c5
 refine RN ?_
 refine pureC1 (szMan_c M0 (1048576) (by omega) (by omega) ha0 hr0) ?_
 refine RN ?_
 refine ⟨fun hs0=>?_,fun hs0=>?_⟩
 ·(refine RN ?_;try with_reducible exact trivial)
  exact Ref.gc1 []
 obtain ⟨e0,e02⟩:=left_pos (b:=1048576) (n:=M0.length+tot M0) (by omega) (by omega)
 obtain ⟨qa0,qt0,qr0⟩:=mat_b (n:=1048576) (B:=M0) (by omega)
 have ga0:M0.length≤1099511627776:=by omega
 have gr0:∀ xs∈M0,xs.length≤1099511627776:=fun xs hx=>by have:=qr0 xs hx;omega
 rw [e02]
 refine RN ?_
 refine pureC1 (szMan_c M1 (1048576 - ((M0.length+tot M0:Nat):Int)) (by omega) (by omega) ha1 hr1) ?_
 refine RN ?_
 refine ⟨fun hs1=>?_,fun hs1=>?_⟩
 ·(refine RN ?_;try with_reducible exact trivial)
  exact Ref.gc1 []
 obtain ⟨e1,e12⟩:=left_pos (b:=1048576 - ((M0.length+tot M0:Nat):Int)) (n:=M1.length+tot M1) (by omega) (by omega)
 obtain ⟨qa1,qt1,qr1⟩:=mat_b (n:=1048576) (B:=M1) (by omega)
 have ga1:M1.length≤1099511627776:=by omega
 have gr1:∀ xs∈M1,xs.length≤1099511627776:=fun xs hx=>by have:=qr1 xs hx;omega
 refine RN ?_
 have hS:=specCf_c M0 M1 n2 qa0 qr0 qa1 qr1
 have hI:=implCf_c M0 M1 n2 qa0 qr0 qa1 qr1
 generalize pcV M0 M1 n2=Z0 at hS hI
 generalize pcC M0 M1 n2=Z1 at hS hI
 refine pureC1 (toMan_c M0 ga0 gr0) ?_
 refine RN ?_
 refine pureC1 (toMan_c M1 ga1 gr1) ?_
 refine RN ?_
 refine pureC1 (hS) ?_
 refine RN ?_
 refine pureC1 (toMan_c M0 ga0 gr0) ?_
 refine RN ?_
 refine pureC1 (toMan_c M1 ga1 gr1) ?_
 refine RN ?_
 refine pureGC1 (hI) ?_
 (refine RN ?_;try with_reducible exact trivial)
 (try with_reducible refine fun _=>?_)
 refine RN ?_
 refine pureC1 (toMan_c M0 ga0 gr0) ?_
 refine RN ?_
 refine pureC1 (eqMan_c M0 M0 ga0 gr0 ga0 gr0) ?_
 (refine RN ?_;try with_reducible exact trivial)
 (try with_reducible refine fun _=>?_)
 refine RN ?_
 refine pureC1 (toMan_c M1 ga1 gr1) ?_
 refine RN ?_
 refine pureC1 (eqMan_c M1 M1 ga1 gr1 ga1 gr1) ?_
 (refine RN ?_;try with_reducible exact trivial)
 (try with_reducible refine fun _=>?_)
 refine RN ?_
 exact Ref.gc1 []
end Go.Proofs.YtaekhhaaphgndaaGreatDoor
namespace Go.Gov
open Go.ChangeShapes Go.WideShapes Go.ChangeAt Go.RowKit
theorem below_ofG {P : Program} {L : List (Nat × List Value)} {f : FuncId} {args : List AV} {b : Bool} {vals : Array Value} {w : World} (h : PureG P L f args (bl b) []) (hv : VarsIn w L) (hl : vals.size = args.length)
    (hr:∀ m (h:m<args.length),Rd w ((g0 w).tr []) (g0 w).G args[m] (vals.getD m undef) []):
    Calls P f vals w fun e w' => e = .returned (.bool b)∧Below w.heap.size w w' ∧ ∀ a,a.block<w.heap.size→w'.frozen? a=w.frozen? a:=
 (h w vals hv hl fun m hm=>by have:=hr m hm;rwa [show (g0 w).tr []=fun _=>none by funext o;simp [Gh.tr]] at this).mono fun e w' ⟨v,g', av,H', he,hm,hx,hext,hk,_⟩=>by
  subst hk
  cases hx
  exact ⟨he,⟨hm.stp.os,hm.stp.tape.1,hm.stp.output,hm.stp.size,fun k hk=>hext k hk⟩,hm.stp.fz⟩
end Go.Gov
namespace Go.Proofs.YtaekhhaaphgndaaGreatDoor
open Go.Gov Go.ChangeShapes Go.WideShapes Go.ChangeAt Go.RowKit
theorem var_heap {w:World}{n:String}{g:Nat}{cs:Array Value}(hg:Tryz.prog.globalNamed n=some g)(h:w.var? Tryz.prog n=some cs):∃ ty z,w.heap[g]? = some (.cells cs ty z):=by
 unfold World.var? at h
 rw [hg,Option.bind_some] at h
 split at h
 ·rename_i cs' ty z h2
  obtain rfl:=Option.some.inj h
  exact ⟨ty,z,h2⟩
 ·cases h
theorem tabZ_laid {laid : List (String × DataW Unit)} {W : World} (hL : laidMetH Tryz.prog laid W)
    (h1:laid.filter (fun x=>x.1 == "internal/strconv.uint64pow10")=[("internal/strconv.uint64pow10", Go.Lib.tabData .u64 Go.Lib.pow10Tab)]):VarsIn W tabZ:=by
 have ht:=hL.filter (fun x=>x.1 == "internal/strconv.uint64pow10")
 rw [h1] at ht
 have ht:laidMet Tryz.prog [("internal/strconv.uint64pow10", Go.Lib.tabData .u64 Go.Lib.pow10Tab)] W:=ht
 have gT:Tryz.prog.globalNamed "internal/strconv.uint64pow10" = some 0:=by kernel_rfl
 have htab:=Go.Lib.tabIs_of_head (n:=20) gT (t:=154) (by kernel_rfl) Tryz.underlying154 (e:=93) Tryz.underlying93 (by kernel_rfl) (by kernel_rfl) ht
 intro x hx
 unfold tabZ at hx
 rw [gT] at hx
 simp only [Option.getD_some,List.mem_cons,List.not_mem_nil,or_false] at hx
 subst hx
 exact var_heap gT htab
end Go.Proofs.YtaekhhaaphgndaaGreatDoor
namespace Go.Proofs.YtaekhhaaphgndaaGreatDoor.JCf
open Go.Proofs.YtaekhhaaphgndaaGreatDoor
open Go.ChangeShapes Go.WideShapes Go.ChangeAt Go.RowKit Go.Gov
theorem door_met (os:Os)(args:Array Value):laidMetH Tryz.prog Rows.fnExactCountFlagsOfRow.laid ((World.doorLaid Tryz.prog 400 os).forCall (fun _ _=>0) ⟨#[],args,[]⟩).memory:=
 laidMetH_of_parts3 (fuel:=8) (laidMet_of_run' 8 (by kernel_rfl) (by kernel_rfl)) (by kernel_rfl) (by kernel_rfl)
theorem lifted (os : Os) (started : os.Started) (H : Type) (enc : TypeId × Value → H) :
    ReturnsInHanded {} Tryz.checked os 5 .any (fun w args=>(Rows.fnExactCountFlagsOfSpec.pre enc Tryz.prog Tryz.f5 [] false w args∧laidMetH Tryz.prog Rows.fnExactCountFlagsOfRow.laid w)∧sizedMet enc Tryz.prog Tryz.f5 (OpenSpec.ofChange Rows.fnExactCountFlagsOfSpec) false w args) (Rows.fnExactCountFlagsOfSpec.post enc Tryz.prog Tryz.f5 false true false false):=by
 refine returnsInHanded_of_change_and (C:=Tryz.checked) (X:=fun w _=>laidMetH Tryz.prog Rows.fnExactCountFlagsOfRow.laid w) (fun _ _ _ hh h=>h.of_heap hh) Tryz.own started (by kernel_rfl) Tryz.func5
  (ChangeSpec.witness_shaped (enc:=enc) (C:=Tryz.checked) (os:=os) (X:=fun w _=>laidMetH Tryz.prog Rows.fnExactCountFlagsOfRow.laid w) false (World.doorLaid Tryz.prog 400 os) #[.agg #[.slice none 0 0],.agg #[.slice none 0 0],.int .i64 0] 8 rfl (World.shaped_of_RefB (by kernel_rfl) (by kernel_rfl)) (by kernel_rfl) (by kernel_rfl) (by kernel_rfl) (door_met os _)) ?_
 intro W base args ds gs before hval0 hW hcnd _ hLaid _
 have hval:∀ (j:Nat) t v,Tryz.f5.params[j]? = some t→args[j]? = some v→Value.okWide Tryz.prog W .any base t v:=hval0
 have hW' := hW
 obtain ⟨p,q,hA0,hV,rfl,hfz,hnd⟩:=hW
 have hA:DataW.TrodAll enc Tryz.prog W 0 (fun _=>true) true Tryz.f5.params.toList args.toList ds p:=hA0
 rw [Tryz.params5] at hA hval
 obtain ⟨v0,l0,d0,e0,p0,q0,ha0,rfl,rfl,h0,hA1⟩:=trodAll_cons hA
 obtain ⟨v1,l1,d1,e1,p1,q1,rfl,rfl,rfl,h1,hA2⟩:=trodAll_cons hA1
 obtain ⟨v2,l2,d2,e2,p2,q2,rfl,rfl,rfl,h2,hA3⟩:=trodAll_cons hA2
 obtain ⟨rfl,rfl,rfl⟩:=trodAll_nil hA3
 obtain rfl:args = #[v0,v1,v2]:=by rw [← Array.toArray_toList (xs:=args),ha0]
 have hv0:=hval 0 24 v0 rfl rfl
 have hv1:=hval 1 24 v1 rfl rfl
 have hv2:=hval 2 2 v2 rfl rfl
 obtain ⟨rfl,rfl⟩:=trodVars_none hV
 obtain ⟨a0,x0,m0,rfl,rfl,hp0,ta0⟩:=open_agg1 Tryz.underlying24 (by kernel_rfl) (by kernel_rfl) hv0 h0
 obtain ⟨u0,B0,hu0,hB0,hBr0,rdB0⟩:=rd_rows Tryz.underlying22 Tryz.underlying32 Tryz.underlying2 (by kernel_rfl) (by kernel_rfl) ta0
 simp only [List.cons.injEq,and_true] at hu0
 subst hu0
 obtain ⟨a1,x1,m1,rfl,rfl,hp1,ta1⟩:=open_agg1 Tryz.underlying24 (by kernel_rfl) (by kernel_rfl) hv1 h1
 obtain ⟨u1,B1,hu1,hB1,hBr1,rdB1⟩:=rd_rows Tryz.underlying22 Tryz.underlying32 Tryz.underlying2 (by kernel_rfl) (by kernel_rfl) ta1
 simp only [List.cons.injEq,and_true] at hu1
 subst hu1
 obtain ⟨n2,rfl,rfl,hp2,hw2⟩:=open_int Tryz.underlying2 hv2 h2
 have hn2 : -9223372036854775808≤n2∧n2≤9223372036854775807:=by
  simp only [Lit.wf,Bool.and_eq_true,decide_eq_true_eq] at hw2
  exact ⟨hw2.1,hw2.2⟩
 have hrd:∀ m (h:m<([maniA B0,maniA B1,i64 n2]:List AV).length),Rd W ((g0 W).tr []) (g0 W).G ([maniA B0,maniA B1,i64 n2]:List AV)[m] ((#[Value.agg #[a0],Value.agg #[a1],Value.int .i64 n2]:Array Value).getD m undef) []:=fun m h=>by
  match m,h with
  | 0,_=>exact .agg rfl fun k hk=>match k,hk with
   | 0,_=>rdB0 _
  | 1,_=>exact .agg rfl fun k hk=>match k,hk with
   | 0,_=>rdB1 _
  | 2,_=>exact .val
 have hVs:=tabZ_laid hLaid rfl
 refine (below_ofG (lawLCf_c B0 B1 n2 (Nat.le_trans hB0 (by decide)) (fun xs hx=>Nat.le_trans (hBr0 xs hx) (by decide)) (Nat.le_trans hB1 (by decide)) (fun xs hx=>Nat.le_trans (hBr1 xs hx) (by decide))) hVs rfl hrd).mono fun e W' ⟨he,hb,hz⟩=>?_
 simp only [List.append_nil] at hW'
 have hS0:∀ sp:Nat→Bool,(∀ x∈(p0++(p1++p2)),sp x.block=true)→DataW.Trod enc Tryz.prog W' 0 sp true 24 (.agg #[a0]) _ p0:=fun sp hsp=>
  WideElems.Trod_stays Tryz.laidOut (by kernel_rfl) (of_decide_eq_true (by kernel_rfl)) h0 (fun x hx=>hb.same (hW'.lt x (by simp [hx]))) (fun x hx=>hsp x (by simp [hx]))
 have hS1:∀ sp:Nat→Bool,(∀ x∈(p0++(p1++p2)),sp x.block=true)→DataW.Trod enc Tryz.prog W' 0 sp true 24 (.agg #[a1]) _ p1:=fun sp hsp=>
  WideElems.Trod_stays Tryz.laidOut (by kernel_rfl) (of_decide_eq_true (by kernel_rfl)) h1 (fun x hx=>hb.same (hW'.lt x (by simp [hx]))) (fun x hx=>hsp x (by simp [hx]))
 have hS2:∀ sp:Nat→Bool,(∀ x∈(p0++(p1++p2)),sp x.block=true)→DataW.Trod enc Tryz.prog W' 0 sp true 2 (.int .i64 n2) _ p2:=fun sp hsp=>
  WideElems.Trod_stays Tryz.laidOut (by kernel_rfl) (of_decide_eq_true (by kernel_rfl)) h2 (fun x hx=>hb.same (hW'.lt x (by simp [hx]))) (fun x hx=>hsp x (by simp [hx]))
 have hR1:∀ (b:Nat) (sp:Nat→Bool) (hd:Bool),DataW.Trod enc Tryz.prog W' b sp hd 4 (.bool true) (.lit (.bool true)) []:=fun _ _ _=>shut_bool Tryz.underlying4 true
 refine ⟨_,he,post_of_new (pa:=(p0++(p1++p2))) (pv:=[]) hW' (fun b sp hd=>trodAll_mk1 (hR1 b sp hd)) (fun sp hsp=>trodAll_cons_mk (hS0 sp hsp) (trodAll_cons_mk (hS1 sp hsp) (trodAll_mk1 (hS2 sp hsp)))) (fun _ _=>?_) ?_ ?_ hz ?_⟩
 ·rfl
 ·simp
 ·exact hb.frame _
 ·exact ok_one (by kernel_rfl) rfl (okWide_bool_mk Tryz.underlying4 true)
theorem holds:Rows.FnExactCountFlagsOfSaid:=
 OpenClaim.holds_of_wide 5 Tryz.f5 rfl rfl rfl rfl rfl rfl rfl ⟨rfl,rfl,rfl,rfl,rfl⟩ rfl rfl rfl rfl rfl (by kernel_rfl) Tryz.func5 (by kernel_rfl)
  (of_decide_eq_true (by kernel_rfl)) (by unfold Func.isWrapper;first | (rw [if_pos (by decide +kernel)];kernel_rfl) | (rw [if_neg (by decide +kernel)];exact ⟨rfl,rfl⟩))
  (fun os started H enc _=>lifted os started H enc)
theorem card_holds:Rows.FnExactCountFlagsOfCardSaid:=
 Claim7.holds_tied_plain_at .later [] [.data,.data,.data] true Rows.fnExactCountFlagsOfCard.stood.harness Rows.fnExactCountFlagsOfCard.stood.looks
  holds (fun _ h=>by cases h) (by kernel_rfl) (fun _ h=>by cases h) fnExactCountFlagsOf_row_tie rfl ⟨rfl,rfl⟩ (by kernel_rfl) rfl
  (fun f fn hf hfn=>by
   obtain rfl:f=5:=Option.some.inj ((show Tryz.prog.funcNamed "loop.example/g01108/laws.FnExactCountFlagsOf" = some 5 by kernel_rfl).symm.trans hf) |>.symm
   obtain rfl:fn=Tryz.f5:=(Option.some.inj (Tryz.func5.symm.trans hfn)).symm
   exact ⟨by kernel_rfl,fun j t ht=>by
    rw [Tryz.params5] at ht
    have hm:t∈[24,24,2]:=by simpa using Array.mem_of_getElem? ht
    have hall:([24,24,2].all fun u=>!Tryz.prog.wantsStandIn u)=true:=by kernel_rfl
    exact (show Tryz.prog.wantsStandIn t=false by simpa using List.all_eq_true.1 hall t hm)⟩)
  (by kernel_rfl)
end Go.Proofs.YtaekhhaaphgndaaGreatDoor.JCf
