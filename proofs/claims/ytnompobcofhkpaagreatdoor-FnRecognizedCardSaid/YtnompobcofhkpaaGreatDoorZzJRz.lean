/- FnRecognized: the given statement. -/
import Derived.Test.YtnompobcofhkpaaGreatDoorRows
import Derived.Test.YtnompobcofhkpaaGreatDoorCards
import Derived.Test.YtnompobcofhkpaaGreatDoorTie
import Derived.LaidMore
import Derived.SevenTiedAt
import Derived.Lay
import Derived.ChangeMaps5
import Derived.Test.YtnompobcofhkpaaGreatDoorT7
import Derived.Test.YtnompobcofhkpaaGreatDoorRb
import Derived.Test.YtnompobcofhkpaaGreatDoorRd
import Derived.Test.YtnompobcofhkpaaGreatDoorS5
import Derived.Test.YtnompobcofhkpaaGreatDoorSd
import Derived.Test.YtnompobcofhkpaaGreatDoorSf
import Derived.Test.YtnompobcofhkpaaGreatDoorSg
set_option maxHeartbeats 16000000
set_option linter.unusedSimpArgs false
set_option linter.unusedVariables false
set_option maxRecDepth 100000
namespace Go.Proofs.YtnompobcofhkpaaGreatDoor
section
open Go.Gov Go.Nt
open Classical
noncomputable def Dz (M:List (List Int)):List UInt8:=if IsMap M then (Gu M).getD [] else []
noncomputable def Hl (M:List (List Int)):Int:=if IsMap M then (if (Gu M).isSome then 0 else 4) else 1
theorem Aj5 (M:List (List Int))(hl:M.length≤1048576)(hr:∀ xs∈M,xs.length≤1048576):Pure Tryz.prog 7 [Ak M] (.tup [sV (Dz M),i64 (Hl M)]) []:=by
 by_cases h:IsMap M
 ·have:=Aj6 M h
  unfold Dz Hl
  rw [if_pos h,if_pos h]
  exact this
 ·have hi:=Rv M hl hr
  rw [decide_eq_false h] at hi
  unfold Dz Hl
  rw [if_neg h,if_neg h]
  refine Ao lB rfl rfl ?_;unfold c7
  refine RN ?_
  refine Ag (hi) ?_
  (refine RN ?_;try with_reducible exact trivial)
  all_goals first | done | rfl
variable (tp tq:TypeId) (p q:Value)
theorem Aie {M:List (List Int)}{l:List UInt8}(h:Gu M=some l):l≠[]:=by
 obtain ⟨_,n,o,s,hn,ho,hs,rfl⟩:=mJ h
 have:=(To (n:=n) (by omega) ho hs).2.2.2.2.2.2.2
 intro e
 exact this (List.append_eq_nil_iff.1 e).2
theorem wG (M:List (List Int))(hl:M.length≤1048576)(hr:∀ xs∈M,xs.length≤1048576):PureG Tryz.prog (LV tp tq p q) 6 [Ak M] (.tup [sV (Dz M),i64 (Hl M)]) []:=by
 have hi:=wP M hl hr
 by_cases h:IsMap M
 ·have hre:=Aif tp tq p q M h
  rw [decide_eq_true h] at hi
  unfold Dz Hl
  rw [if_pos h,if_pos h]
  cases hv:Gu M with
  | none=>
   rw [hv,Option.getD_none] at hre
   rw [Option.getD_none]
   have he:([]:List UInt8).isEmpty=true:=rfl
   refine Hk Wk rfl ?_;unfold c6
   refine RN ?_
   refine Ag (hi) ?_
   refine RN ?_
   refine Gs (hre) ?_
   (repeat first | simp only [he,go_sem,↓reduceIte,Nat.reduceEqDiff,Nat.reduceAdd,reduceCtorEq] | refine RX ?_ | decide)
   exact Ref.gc1 []
  | some l=>
   have hne:=Aie hv
   have he:l.isEmpty=false:=by cases l with
    | nil=>exact absurd rfl hne
    | cons _ _=>rfl
   rw [hv] at hre
   refine Hk Wk rfl ?_;unfold c6
   refine RN ?_
   refine Ag (hi) ?_
   refine RN ?_
   refine Gs (hre) ?_
   (repeat first | simp only [he,Option.getD_some,go_sem,↓reduceIte,Nat.reduceEqDiff,Nat.reduceAdd,reduceCtorEq] | refine RX ?_ | decide)
   exact Ref.gc1 []
 ·rw [decide_eq_false h] at hi
  unfold Dz Hl
  rw [if_neg h,if_neg h]
  refine Hk Wk rfl ?_;unfold c6
  refine RN ?_
  refine Ag (hi) ?_
  refine RN ?_
  exact Ref.gc1 []
end
section
open Go.Gov Go.Nt
open Classical
variable (tp tq:TypeId) (p q:Value)
theorem Aia {M:List (List Int)}(h:Hl M=0):IsMap M∧Dg (Dz M)∧(Dz M).length≤5∧B3 (Dz M)=0∧IsMap (Bz (Dz M))∧Nl M (Bz (Dz M)):=by
 unfold Hl at h
 split at h
 ·rename_i hM
  split at h
  ·rename_i hs
   obtain ⟨l,hl⟩:=Option.isSome_iff_exists.1 hs
   obtain ⟨h1,n,o,s,hn,ho,hse,e⟩:=mJ hl
   have e2:Dz M=l:=by unfold Dz;rw [if_pos hM,hl];rfl
   obtain ⟨t1,_,t2,_⟩:=To (n:=n) (by omega) ho hse
   unfold Gt at h1
   rw [Bool.and_eq_true,Bool.and_eq_true,decide_eq_true_eq,decide_eq_true_eq,decide_eq_true_eq] at h1
   rw [e2]
   obtain ⟨hK,_⟩:=V7 h1.2.1
   exact ⟨hM,by rw [e];exact t2,by rw [e];exact t1,h1.2.1,hK,wV hM hK h1.2.2.symm⟩
  ·cases h
 ·cases h
theorem Aib {M:List (List Int)}(h:Hl M≠0):Dz M=[]:=by
 unfold Hl at h
 unfold Dz
 split
 ·rename_i hM
  rw [if_pos hM] at h
  cases hv:Gu M with
  | none=>rfl
  | some l=>rw [hv] at h;exact absurd rfl h
 ·rfl
theorem zR (bs:List Int)(hl:bs.length≤9223372036854775807)(h8:∀ k,k<bs.length→0≤bs.getD k 0∧bs.getD k 0≤255):PureG Tryz.prog (LV tp tq p q) 3 [Ep bs] (bl true) []:=by
 have hbig:=rN bs hl
 unfold Ep at *
 refine Hk ok3 rfl ?_;unfold c3
 refine RN ?_
 refine Ag (hbig) ?_
 refine RN ?_
 refine ⟨fun hc=>?_,fun hc=>?_⟩
 ·(refine RN ?_;try with_reducible exact trivial)
  exact Ref.gc1 []
 have hb:Fa bs:=⟨by omega,h8⟩
 have hdr:=uC bs hb
 unfold Ep at hdr
 refine RN ?_
 refine Le hdr (by simp only [go_sem,↓reduceIte,Nat.reduceEqDiff,Nat.reduceAdd,reduceCtorEq]) fun M hMg=>?_
 obtain ⟨gl,gr⟩:=hMg
 have hS:=Aj5 M (by omega) fun xs hx=>by have:=gr xs hx;omega
 have hI:=wG tp tq p q M (by omega) fun xs hx=>by have:=gr xs hx;omega
 by_cases h0:Hl M=0
 ·obtain ⟨hM,h1,h2,h3,hK,hiso⟩:=Aia h0
  rw [h0] at hS hI
  have hmi:=wF tp tq p q (Dz M) (by omega)
  rw [h3] at hmi
  have hii:=wE tp tq p q (Dz M) (by omega)
  rw [decide_eq_true h1] at hii
  have hal:=qM M (Bz (Dz M)) hM hK hiso
  have hK3:=hK.2
  generalize Bz (Dz M)=K at *
  generalize Dz M=l at *
  refine RN ?_
  refine Gs (hI) ?_
  refine RN ?_
  refine Ag (hS) ?_
  refine RN ?_
  refine Gs (hmi) ?_
  refine RN ?_
  refine Xv (bl true ) (fun hg =>  hii) ?_
  refine RN ?_
  refine C9 (bl true ) (fun hg =>  hal) ?_
  refine RN ?_
  exact Ref.gc1 []
 ·have he:=Aib h0
  rw [he] at hS hI
  generalize Hl M=c at *
  refine RN ?_
  refine Gs (hI) ?_
  refine RN ?_
  refine Ag (hS) ?_
  refine RN ?_
  refine ⟨fun _=>?_,fun h=>absurd h h0⟩
  refine RN ?_
  exact Ref.gc1 []
end
end Go.Proofs.YtnompobcofhkpaaGreatDoor
namespace Go.Proofs.YtnompobcofhkpaaGreatDoor.JRz
open Go.Proofs.YtnompobcofhkpaaGreatDoor
open Go.ChangeShapes Go.WideShapes Go.ChangeAt Go.RowKit Go.Gov Go.ChangeMaps
theorem lifted (os : Os) (started : os.Started) (H : Type) (enc : TypeId × Value → H) :
    ReturnsInHanded {} Tryz.checked os 3 .any (fun w args=>(Rows.fnRecognizedSpec.pre enc Tryz.prog Tryz.f3 [] false w args∧laidMetH Tryz.prog Rows.fnRecognizedRow.laid w)∧sizedMet enc Tryz.prog Tryz.f3 (OpenSpec.ofChange Rows.fnRecognizedSpec) false w args) (Rows.fnRecognizedSpec.post enc Tryz.prog Tryz.f3 false true false false):=by
 refine returnsInHanded_of_change_and (C:=Tryz.checked) (X:=fun w _=>laidMetH Tryz.prog Rows.fnRecognizedRow.laid w) (fun _ _ _ hh h=>h.of_heap hh) Tryz.own started (by kernel_rfl) Tryz.func3
  (ChangeSpec.witness_shaped (enc:=enc) (C:=Tryz.checked) (os:=os) (X:=fun w _=>laidMetH Tryz.prog Rows.fnRecognizedRow.laid w) false (World.laidAll Tryz.prog os Rows.fnRecognizedRow.laid) #[.slice none 0 0] 8 (World.laidAll_os _ _ _) (World.shaped_of_ZipB (by kernel_rfl) (by kernel_rfl)) (by kernel_rfl) (by kernel_rfl) (by kernel_rfl) (by rw [MakeChecks.laidMetH_plain _ _ _ (by kernel_rfl)];exact laidMet_laidAll _ (by kernel_rfl) (by kernel_rfl))) ?_
 intro W base args ds gs before hval0 hW hcnd _ hLaid _
 have hval:∀ (j:Nat) t v,Tryz.f3.params[j]? = some t→args[j]? = some v→Value.okWide Tryz.prog W .any base t v:=hval0
 have hW' := hW
 obtain ⟨p,q,hA0,hV,rfl,hfz,hnd⟩:=hW
 have hA:DataW.TrodAll enc Tryz.prog W 0 (fun _=>true) true Tryz.f3.params.toList args.toList ds p:=hA0
 rw [Tryz.params3] at hA hval
 obtain ⟨v0,l0,d0,e0,p0,q0,ha0,rfl,rfl,h0,hA1⟩:=trodAll_cons hA
 obtain ⟨rfl,rfl,rfl⟩:=trodAll_nil hA1
 obtain rfl:args = #[v0]:=by rw [← Array.toArray_toList (xs:=args),ha0]
 have hv0:=hval 0 22 v0 rfl rfl
 obtain ⟨rfl,rfl⟩:=trodVars_none hV
 obtain ⟨a0,b0,c0,rfl⟩:=okWide_slice Tryz.underlying22 hv0
 obtain ⟨m0,t0⟩:=h0
 obtain ⟨s0,X0,hs0,hX0,hX80,rdX0⟩:=Aic Tryz.underlying22 Tryz.underlying5 (by kernel_rfl) t0
 have h0:DataW.Trod enc Tryz.prog W 0 (fun _=>true) true 22 (.slice a0 b0 c0) d0 p0:=⟨m0,t0⟩
 obtain rfl:Value.slice a0 b0 c0=s0:=by simpa [Value.cells] using hs0
 have hrd:∀ m (h:m<([Ep X0]:List AV).length),Rd W ((g0 W).tr []) (g0 W).G ([Ep X0]:List AV)[m] ((#[Value.slice a0 b0 c0]:Array Value).getD m undef) []:=fun m h=>by
  match m,h with
  | 0,_=>exact rdX0 _
 obtain ⟨tp,tq,p,q,hVs⟩:=Alh hLaid rfl rfl rfl
 refine (rI (zR tp tq p q X0 (Nat.le_trans hX0 (by decide)) hX80) hVs rfl hrd).mono fun e W' ⟨he,hb,hz⟩=>?_
 simp only [List.append_nil] at hW'
 have hS0:∀ sp:Nat→Bool,(∀ x∈p0,sp x.block=true)→DataW.Trod enc Tryz.prog W' 0 sp true 22 (.slice a0 b0 c0) _ p0:=fun sp hsp=>
  WideElems.Trod_stays Tryz.laidOut (by kernel_rfl) (of_decide_eq_true (by kernel_rfl)) h0 (fun x hx=>hb.same (hW'.lt x (by simp [hx]))) (fun x hx=>hsp x (by simp [hx]))
 have hR1:∀ (b:Nat) (sp:Nat→Bool) (hd:Bool),DataW.Trod enc Tryz.prog W' b sp hd 4 (.bool true) (.lit (.bool true)) []:=fun _ _ _=>shut_bool Tryz.underlying4 true
 refine ⟨_,he,Agy (pa:=p0) (pv:=[]) hW' (fun b sp hd=>trodAll_mk1 (hR1 b sp hd)) (fun sp hsp=>trodAll_mk1 (hS0 sp hsp)) (fun _ _=>?_) ?_ ?_ hz ?_⟩
 ·rfl
 ·simp
 ·exact hb.frame _
 ·exact ok_one (by kernel_rfl) rfl (okWide_bool_mk Tryz.underlying4 true)
theorem holds:Rows.FnRecognizedSaid:=
 OpenClaim.holds_of_wide 3 Tryz.f3 rfl rfl rfl rfl rfl rfl rfl ⟨rfl,rfl,rfl,rfl,rfl⟩ rfl rfl rfl rfl rfl (by kernel_rfl) Tryz.func3 (by kernel_rfl)
  (of_decide_eq_true (by kernel_rfl)) (by unfold Func.isWrapper;first | (rw [if_pos (by decide +kernel)];kernel_rfl) | (rw [if_neg (by decide +kernel)];exact ⟨rfl,rfl⟩))
  (fun os started H enc _=>lifted os started H enc)
theorem card_holds:Rows.FnRecognizedCardSaid:=
 Claim7.holds_tied_plain_at .later [] [.data,.data,.data,.data,.sentinel,.sentinel,.pinned] true Rows.fnRecognizedCard.stood.harness Rows.fnRecognizedCard.stood.looks
  holds (fun _ h=>by cases h) (by kernel_rfl) (fun _ h=>by cases h) fnRecognized_row_tie rfl ⟨rfl,rfl⟩ (by kernel_rfl) rfl
  (fun f fn hf hfn=>by
   obtain rfl:f=3:=Option.some.inj ((show Tryz.prog.funcNamed "loop.example/g01108/laws.FnRecognized" = some 3 by kernel_rfl).symm.trans hf) |>.symm
   obtain rfl:fn=Tryz.f3:=(Option.some.inj (Tryz.func3.symm.trans hfn)).symm
   exact ⟨by kernel_rfl,fun j t ht=>by
    rw [Tryz.params3] at ht
    have hm:t∈[22]:=by simpa using Array.mem_of_getElem? ht
    have hall:([22].all fun u=>!Tryz.prog.wantsStandIn u)=true:=by kernel_rfl
    exact (show Tryz.prog.wantsStandIn t=false by simpa using List.all_eq_true.1 hall t hm)⟩)
  (by kernel_rfl)
end Go.Proofs.YtnompobcofhkpaaGreatDoor.JRz
