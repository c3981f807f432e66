/- FnNotations: the given statement. -/
import Derived.Test.YtfcbamfkfadabaaGreatDoorRows
import Derived.Test.YtfcbamfkfadabaaGreatDoorCards
import Derived.Test.YtfcbamfkfadabaaGreatDoorTie
import Derived.Shelf.Vars
import Derived.LaidMore
import Derived.SevenTiedAt
import Derived.Lay
import Derived.ChangeMaps5
import Derived.Test.YtfcbamfkfadabaaGreatDoorRb
import Derived.Test.YtfcbamfkfadabaaGreatDoorRd
import Derived.Test.YtfcbamfkfadabaaGreatDoorSb
import Derived.Test.YtfcbamfkfadabaaGreatDoorSc
import Derived.Test.YtfcbamfkfadabaaGreatDoorSd
set_option maxHeartbeats 16000000
set_option linter.unusedSimpArgs false
set_option linter.unusedVariables false
set_option maxRecDepth 100000
namespace Go.Proofs.YtfcbamfkfadabaaGreatDoor
open Go.Gov Go.Nt
open Classical
variable (tp tq:TypeId) (p q:Value) (m:Int)
theorem lv_t {av:List AV}{f:FuncId}{x:AV}{h:Heap}(hp:PureG Tryz.prog (LV tp tq p q) f av x h):PureG Tryz.prog (LS tp tq p q m) f av x h:=
 fun w vals hv=>hp w vals fun y hy=>hv y (List.mem_append_left _ hy)
theorem vwC_gt (ks:List Nat)(H:Heap)(L:List (Nat×List Value)):(gvs L).map (vwC ks H)=gvs L:=by simp [gvs,vwC,rnm]
attribute [go_sem] vwC_gt
theorem lawNt_c (bs:List Int)(hl:bs.length≤9223372036854775807)(h8:∀ k,k<bs.length→0≤bs.getD k 0∧bs.getD k 0≤255):PureG Tryz.prog (LS tp tq p q m) 3 [bytA' bs] (bl true) []:=by
 have hbig:=big_c bs hl
 unfold bytA' at *
 refine pureGV ok3 rfl ?_;unfold c3
 refine RN ?_
 refine pureC1 (hbig) ?_
 refine RN ?_
 refine ⟨fun hc=>?_,fun hc=>?_⟩
 ·(refine RN ?_;try with_reducible exact trivial)
  exact Ref.gc1 []
 have hb:Byt bs:=⟨by omega,h8⟩
 have hdr:=drawMap_e bs hb
 unfold bytA' at hdr
 refine RN ?_
 refine pureEG hdr (by simp only [go_sem,↓reduceIte,Nat.reduceEqDiff,Nat.reduceAdd,reduceCtorEq]) fun l hll=>?_
 have hmi:=lv_t tp tq p q m (implMo_c tp tq p q l (by omega))
 have hms:=specMo_c l (by omega)
 have hii:=lv_t tp tq p q m (implIn_c tp tq p q l (by omega))
 have his:=specIn_c l (by omega)
 have hct:=lv_t tp tq p q m (implCt_c tp tq p q l (by omega))
 have hbn:=lv_t tp tq p q m (implBn_c tp tq p q l (by omega))
 have hsn:=implSn_c tp tq p q m l (by omega)
 obtain ⟨b1,b2,b3⟩:=moM_b l
 have heq:=equal9_c (moM l) (moM l) (by omega) (by omega) (fun p hp=>by have:=b3 p hp;omega) (fun p hp=>by have:=b3 p hp;omega)
 rw [decide_eq_true rfl] at heq
 by_cases hk:NtOk l
 ·rw [decide_eq_true hk] at hii his
  have e1:ntK l=0:=if_pos hk
  have e2:bnA l=t0 l:=if_pos hk
  have e3:snA l=smp (t0 l):=if_pos hk
  have hob:=other_ok (l:=l) (u:=bnA l) hk (by rw [e2];exact bas_kept hk)
  have hos:=other_ok (l:=l) (u:=snA l) hk (by rw [e3];exact smp_kept hk)
  have hbl:(bnA l).length≤24:=by
   rw [e2]
   unfold t0
   have h1:=basL_len (ntO l)
   have h2:=nt_slen l
   rw [List.length_append]
   omega
  have hsl:(snA l).length≤(bnA l).length:=by rw [e2,e3];exact smp_len _
  obtain ⟨v,e,f,hC,he⟩:∃ v e f:Int,ctA l=[v,e,f]∧(cnt (basL (ntO l)) (seedC (ntS l))).2.1=e:=⟨_,_,_,if_pos hk,rfl⟩
  have hcb:=(cnt_b (ntO l) (ntS l) hk.1 hk.2 0).2
  rw [List.drop_zero,he] at hcb
  have hfc:=fun h=>mo_faces (l:=l) h
  have hmo:=fun h=>mo_map (l:=l) h
  have hmc:moC l=0∨(moC l=3∧400<4*e):=by
   by_cases h:400<4*e
   ·right
    refine ⟨?_,h⟩
    unfold moC
    rw [if_pos hk,he,if_pos h]
   ·left
    unfold moC
    rw [if_pos hk,he,if_neg h]
  have hcu:=fun u (h:u.length≤1048576)=>lv_t tp tq p q m (implCt_c tp tq p q u h)
  have hsu:=fun u (h:u.length≤1048576)=>lv_t tp tq p q m (implSa_c tp tq p q l u (by omega) h)
  have hiu:=fun u (h:u.length≤1048576)=>specIn_c u (by omega)
  rw [hC] at hob hos hct
  rw [e1] at hct hbn hsn
  clear e2 e3
  generalize moM l=M at *
  generalize snA l=sn at *
  generalize bnA l=bn at *
  generalize moC l=c at *
  refine RN ?_
  refine pureGC1 (hmi) ?_
  refine RN ?_
  refine call_pureG (hms) (by simp only [go_sem,↓reduceIte,Nat.reduceEqDiff,Nat.reduceAdd,reduceCtorEq]<;>rfl) ?_
  refine RN ?_
  refine GCall.on rfl ?_
  refine pureC heq (by simp only [go_sem,↓reduceIte,Nat.reduceEqDiff,Nat.reduceAdd,reduceCtorEq,frz_im _ _ M M.length rfl]) (by first | rfl | simp only [go_sem,↓reduceIte,Nat.reduceEqDiff,Nat.reduceAdd,reduceCtorEq]) ?_
  refine RN ?_
  refine GCall.on rfl ?_
  refine pureGC1 (hii) ?_
  refine RN ?_
  refine GCall.on rfl ?_
  refine pureC1 (his) ?_
  refine RN ?_
  refine pureGC1 (hct) ?_
  refine RN ?_
  refine pureGC1 (hbn) ?_
  refine RN ?_
  refine pureGC1 (hsn) ?_
  refine RN ?_
  refine pureGC1 (hii) ?_
  refine RN ?_
  intro _
  have hli:=likeInts_c [v,e,f] [v,e,f] (by simp) (by simp)
  rw [decide_eq_true rfl] at hli
  refine W_ref (Ref.sel [0] (F' := [(3,sV l),(4,.pto [.slc 1 M.length (M.map ints)] 0),(5,i64 c),(8,ints [v,e,f]),(10,sV bn),(12,sV sn)]) (H' := [some (gvs (LS tp tq p q m))]) rfl (by simp only [go_sem,↓reduceIte,Nat.reduceEqDiff,Nat.reduceAdd,reduceCtorEq]) ?_) ?_
  ·simp [sub,fget,go_sem,↓reduceIte,Nat.reduceEqDiff,Nat.reduceAdd,reduceCtorEq,frz_im _ _ M M.length rfl]
   rfl
  refine V_W ?_
  refine RN ?_
  refine V_loop (α:=Nat) (S:=fun k=>([(3,sV l),(4,.pto [.slc 1 M.length (M.map ints)] 0),(5,i64 c),(8,ints [v,e,f]),(10,sV bn),(12,sV sn),(14,i64 (k:Int))],[some (gvs (LS tp tq p q m))])) (C:=fun k=>k≤2) (μ:=fun k=>2 - k) 0 (by omega) (Ref.to1) ?_
  intro k hk2
  refine RN ?_
  refine ⟨fun hc2=>?_,fun hc2=>?_⟩
  ·have hk01:k=0∨k=1:=by omega
   refine RN ?_
   refine ⟨fun hk1=>?_,fun hk1=>?_⟩
   ·(refine RN ?_;try with_reducible exact trivial)
    by_cases hu:NtOk sn
    ·obtain ⟨o1,o2,o3⟩:=hos hu
     have hcu1:=hcu sn (by omega)
     rw [o1,o2] at hcu1
     have hiu1:=hiu sn (by omega)
     rw [decide_eq_true hu] at hiu1
     refine RN ?_
     refine pureC1 (hiu1) ?_
     refine RN ?_
     refine pureGC1 (hcu1) ?_
     refine RN ?_
     refine GCall.on rfl ?_
     refine pureC hli (by simp only [go_sem,↓reduceIte,Nat.reduceEqDiff,Nat.reduceAdd,reduceCtorEq]<;>rfl) (by first | rfl | simp only [go_sem,↓reduceIte,Nat.reduceEqDiff,Nat.reduceAdd,reduceCtorEq]) ?_
     refine RN ?_
     rcases hmc with h0 | ⟨h3,_⟩
     ·obtain ⟨m1,m2⟩:=hmo h0
      obtain ⟨s1,s2⟩:=o3 h0
      have hfl:=flags9_c M (by have:=m1.2;omega) (by omega) (fun p hp=>by have:=b3 p hp;omega)
      have hsu1:=hsu sn (by omega)
      rw [s1,s2] at hsu1
      subst h0
      refine RN ?_
      refine GCall.on rfl ?_
      refine pureC1 (hfl) ?_
      refine RN ?_
      refine ⟨fun h100=>?_,fun h100=>?_⟩
      ·(refine RN ?_;try with_reducible exact trivial)
       refine pureGC1 (hsu1) ?_
       refine RN ?_
       exact ⟨k+1,by omega,by omega,Ref.sel1 [0]⟩
      ·(refine RN ?_;try with_reducible exact trivial)
       exact ⟨k+1,by omega,by omega,Ref.sel1 [0]⟩
     ·subst h3
      refine RN ?_
      have e30:((3:Int) == 0)=false:=rfl
      have e31:((3:Int)=0)=False:=by simp
      refine GCall_no (i64 0) rfl ?_
      simp only [e30,e31,false_implies,go_sem,↓reduceIte,Nat.reduceEqDiff,Nat.reduceAdd,reduceCtorEq]
      (repeat first | simp only [e30,e31,go_sem,↓reduceIte,Nat.reduceEqDiff,Nat.reduceAdd,reduceCtorEq] | refine RX ?_ | decide)
      exact ⟨k+1,by omega,by omega,Ref.sel1 [0]⟩
    ·have hiu1:=hiu sn (by omega)
     rw [decide_eq_false hu] at hiu1
     refine RN ?_
     refine pureC1 (hiu1) ?_
     refine RN ?_
     exact ⟨k+1,by omega,by omega,Ref.sel1 [0]⟩
   ·(refine RN ?_;try with_reducible exact trivial)
    by_cases hu:NtOk bn
    ·obtain ⟨o1,o2,o3⟩:=hob hu
     have hcu1:=hcu bn (by omega)
     rw [o1,o2] at hcu1
     have hiu1:=hiu bn (by omega)
     rw [decide_eq_true hu] at hiu1
     refine RN ?_
     refine pureC1 (hiu1) ?_
     refine RN ?_
     refine pureGC1 (hcu1) ?_
     refine RN ?_
     refine GCall.on rfl ?_
     refine pureC hli (by simp only [go_sem,↓reduceIte,Nat.reduceEqDiff,Nat.reduceAdd,reduceCtorEq]<;>rfl) (by first | rfl | simp only [go_sem,↓reduceIte,Nat.reduceEqDiff,Nat.reduceAdd,reduceCtorEq]) ?_
     refine RN ?_
     rcases hmc with h0 | ⟨h3,_⟩
     ·obtain ⟨m1,m2⟩:=hmo h0
      obtain ⟨s1,s2⟩:=o3 h0
      have hfl:=flags9_c M (by have:=m1.2;omega) (by omega) (fun p hp=>by have:=b3 p hp;omega)
      have hsu1:=hsu bn (by omega)
      rw [s1,s2] at hsu1
      subst h0
      refine RN ?_
      refine GCall.on rfl ?_
      refine pureC1 (hfl) ?_
      refine RN ?_
      refine ⟨fun h100=>?_,fun h100=>?_⟩
      ·(refine RN ?_;try with_reducible exact trivial)
       refine pureGC1 (hsu1) ?_
       refine RN ?_
       exact ⟨k+1,by omega,by omega,Ref.sel1 [0]⟩
      ·(refine RN ?_;try with_reducible exact trivial)
       exact ⟨k+1,by omega,by omega,Ref.sel1 [0]⟩
     ·subst h3
      refine RN ?_
      have e30:((3:Int) == 0)=false:=rfl
      have e31:((3:Int)=0)=False:=by simp
      refine GCall_no (i64 0) rfl ?_
      simp only [e30,e31,false_implies,go_sem,↓reduceIte,Nat.reduceEqDiff,Nat.reduceAdd,reduceCtorEq]
      (repeat first | simp only [e30,e31,go_sem,↓reduceIte,Nat.reduceEqDiff,Nat.reduceAdd,reduceCtorEq] | refine RX ?_ | decide)
      exact ⟨k+1,by omega,by omega,Ref.sel1 [0]⟩
    ·have hiu1:=hiu bn (by omega)
     rw [decide_eq_false hu] at hiu1
     refine RN ?_
     refine pureC1 (hiu1) ?_
     refine RN ?_
     exact ⟨k+1,by omega,by omega,Ref.sel1 [0]⟩
  ·have hks:¬ k<2:=by omega
   rcases hmc with h0 | ⟨h3,h400⟩
   ·obtain ⟨m1,m2⟩:=hmo h0
    have hfv:=hfc h0
    have hfk:=faceCounts_y M m1.1
    have hM3:M.length=3:=m1.2
    rw [hfv,hC,hM3] at hfk
    subst h0
    rw [hM3]
    refine RN ?_
    refine pureC hfk (by simp only [go_sem,↓reduceIte,Nat.reduceEqDiff,Nat.reduceAdd,reduceCtorEq];first | done | (simp only [maniA,mat,hM3];done) | (simp only [maniA,mat,hM3];rfl)) (by first | rfl | simp only [go_sem,↓reduceIte,Nat.reduceEqDiff,Nat.reduceAdd,reduceCtorEq]) ?_
    refine RN ?_
    refine GCall.on rfl ?_
    refine pureC hli (by simp only [go_sem,↓reduceIte,Nat.reduceEqDiff,Nat.reduceAdd,reduceCtorEq]<;>rfl) (by first | rfl | simp only [go_sem,↓reduceIte,Nat.reduceEqDiff,Nat.reduceAdd,reduceCtorEq]) ?_
    refine RN ?_
    exact Ref.gc1 []
   ·subst h3
    have q1:[v,e,f].getD 1 0=e:=rfl
    refine RN ?_
    refine ⟨fun _=>?_,fun h=>absurd h (by decide)⟩
    (repeat first | simp only [q1,go_sem,↓reduceIte,Nat.reduceEqDiff,Nat.reduceAdd,reduceCtorEq] | refine RX ?_ | decide)
    exact Ref.gc [] rfl (by simp only [go_sem,↓reduceIte,Nat.reduceEqDiff,Nat.reduceAdd,reduceCtorEq]) (by simp [sub,fget,go_sem,↓reduceIte,Nat.reduceEqDiff,Nat.reduceAdd,reduceCtorEq];exact h400)
 ·have e0 : moC l = 6 := by
    rcases moC_k l with h | h
    ·exact absurd h.1 hk
    ·exact h.2
  have e1:ntK l=6:=if_neg hk
  rw [decide_eq_false hk] at hii his
  rw [e0] at hmi hms
  rw [e1] at hct hbn hsn
  generalize moM l=M at *
  generalize ctA l=C at *
  generalize snA l=sn at *
  generalize bnA l=bn at *
  refine RN ?_
  refine pureGC1 (hmi) ?_
  refine RN ?_
  refine call_pureG (hms) (by simp only [go_sem,↓reduceIte,Nat.reduceEqDiff,Nat.reduceAdd,reduceCtorEq]<;>rfl) ?_
  refine RN ?_
  refine GCall.on rfl ?_
  refine pureC heq (by simp only [go_sem,↓reduceIte,Nat.reduceEqDiff,Nat.reduceAdd,reduceCtorEq,frz_im _ _ M M.length rfl]) (by first | rfl | simp only [go_sem,↓reduceIte,Nat.reduceEqDiff,Nat.reduceAdd,reduceCtorEq]) ?_
  refine RN ?_
  refine GCall.on rfl ?_
  refine pureGC1 (hii) ?_
  refine RN ?_
  refine GCall.on rfl ?_
  refine pureC1 (his) ?_
  refine RN ?_
  refine pureGC1 (hct) ?_
  refine RN ?_
  refine pureGC1 (hbn) ?_
  refine RN ?_
  refine pureGC1 (hsn) ?_
  refine RN ?_
  refine pureGC1 (hii) ?_
  refine RN ?_
  exact Ref.gc1 []
end Go.Proofs.YtfcbamfkfadabaaGreatDoor
namespace Go.Proofs.YtfcbamfkfadabaaGreatDoor.JNt
open Go.Proofs.YtfcbamfkfadabaaGreatDoor
open Go.ChangeShapes Go.WideShapes Go.ChangeAt Go.RowKit Go.Gov Go.ChangeMaps
theorem wrap_shp {H : Type} {enc : TypeId × Value → H} {a : Assume} {C : Checked} {os : Os} {f : FuncId} {fn : Func} {s : ChangeSpec} {conds : List PathCond} {apart fresh handsOn again : Bool} {X : World → Array Value → Prop}
    (hX:∀ (w w' : World) (args:Array Value),w.heap=w'.heap→X w args→X w' args)
    (own:ownKnob C.prog.godebug=none) (started:os.Started) (noInit:C.prog.inits.idxOf? f=none) (hfn:C.prog.funcs[f]? = some fn)
    (witness:∃ (w:World) (tape:Tape) (i:Input),w.os=os∧(w.forCall tape i).Shaped C.prog∧i.vars=[]∧Input.okWide C.prog (w.forCall tape i) .any w.heap.size f i ∧
     ((s.pre enc C.prog fn conds apart (w.forCall tape i).memory i.args∧X (w.forCall tape i).memory i.args)∧sizedMet enc C.prog fn (OpenSpec.ofChange s) apart (w.forCall tape i).memory i.args)∧a.holds C.prog (lone (Frame.enter C.prog f i.args .normal) [] (w.forCall tape i)))
    (contract:∀ (W:World) (base:Nat) (args:Array Value) (ds gs:List (DataW H)) (before:List MemPlace),
     (∀ (j:Nat) t v,fn.params[j]? = some t→args[j]? = some v→Value.okWide C.prog W .any base t v) →
     DataW.Whole enc C.prog fn.params.toList s.vars apart W args.toList ds gs before→X W args→W.ShapedOpen C.prog →
     Calls C.prog f args W fun e W' => ∃ v,e = .returned v∧s.post enc C.prog fn apart fresh handsOn again W args v W'):
    ReturnsInHanded a C os f .any (fun w args=>(s.pre enc C.prog fn conds apart w args∧X w args)∧sizedMet enc C.prog fn (OpenSpec.ofChange s) apart w args) (s.post enc C.prog fn apart fresh handsOn again):=by
 refine returnsInHanded_of_calls own started noInit witness ?_
 intro w tape i _ hsh _ hok hpre hholds
 obtain ⟨_,_,_,fn', hfn', _,_,_,_,hval⟩:=hok
 obtain rfl:fn' = fn:=Option.some.inj (hfn'.symm.trans hfn)
 obtain ⟨⟨⟨ds,gs,before,hw,hc⟩,hx⟩,hz⟩:=hpre
 have hw' := DataW.Whole.of_heap (w' := w.forCall tape i) (by rfl) hw
 refine (contract (w.forCall tape i) w.heap.size i.args ds gs before hval hw' (hX _ _ _ (by rfl) hx) hsh).mono fun e W' ⟨v,he,hp⟩=>?_
 subst he
 exact ChangeSpec.post_blind hp
theorem max_in {W:World}(h:W.ShapedOpen Tryz.prog):∃ mm:Int,∃ ty z,W.heap[gMax]? = some (.cells #[.int .i64 mm] ty z):=by
 have hg:1<Tryz.prog.globals.size:=of_decide_eq_true (by kernel_rfl)
 have h0:((begin Tryz.prog (fun _ _=>0) default).world.heap[1]?).bind Obj.row? = some (#[.int .i64 0],3):=by kernel_rfl
 obtain ⟨mm,hm⟩:=cell_of_shapedOpen_int h hg h0 rfl (by kernel_rfl) (by kernel_rfl) Tryz.underlying3
 obtain ⟨cs,hh,hs,_⟩:=h.1 1 _ _ hg h0
 have hs1:cs.size=1:=hs
 obtain ⟨x,rfl⟩:∃ x,cs = #[x]:=by
  obtain ⟨l⟩:=cs
  match l,hs1 with
  | [x],_=>exact ⟨x,rfl⟩
 have hx:x = .int .i64 mm:=by simpa [World.cell?,hh] using hm
 subst hx
 have h1:gMax=1:=by unfold gMax;kernel_rfl
 rw [h1]
 exact ⟨mm,_,_,hh⟩
theorem vars_stay {H : Type} {enc : TypeId × Value → H} {W W' : World} {n : String} {g1 : DataW H} {q : List MemPlace} {sp' : Nat → Bool} {b : Nat} (hg : Tryz.prog.globalNamed n = some b) (hty : (Tryz.prog.globals[b]?).map (·.type) = some 98)
    (h:DataW.TrodVars enc Tryz.prog W (fun _=>true) [n] [g1] q) (hb:W'.heap[b]? = W.heap[b]?) (hsame:∀ p∈q,W.sameAt W' p) (hs:∀ p∈q,sp' p.block=true):DataW.TrodVars enc Tryz.prog W' sp' [n] [g1] q:=by
 obtain ⟨g,t,cs,fuel,p,r,h1,h2,h3,h4,h5,rfl⟩:=h
 obtain rfl:=Option.some.inj (hg.symm.trans h1)
 obtain rfl:=Option.some.inj (hty.symm.trans h2)
 refine ⟨_,_,cs,fuel,p,r,h1,h2,?_,?_,h5,rfl⟩
 ·rw [← h3]
  unfold World.var?
  rw [hg]
  simp only [Option.bind_some]
  rw [hb]
 ·exact DataW.trod_stays (kids_book Tryz.laidOut (by kernel_rfl)) (book_sized (by kernel_rfl)) (fun h=>by cases h) ⟨of_decide_eq_true (by kernel_rfl),book_self 98⟩ h4 (fun x hx=>hsame x (by simp [hx])) (fun x hx=>hs x (by simp [hx]))
theorem lifted (os : Os) (started : os.Started) (H : Type) (enc : TypeId × Value → H) :
    ReturnsInHanded {} Tryz.checked os 3 .any (fun w args=>(Rows.fnNotationsSpec.pre enc Tryz.prog Tryz.f3 [] false w args∧laidMetH Tryz.prog Rows.fnNotationsRow.laid w)∧sizedMet enc Tryz.prog Tryz.f3 (OpenSpec.ofChange Rows.fnNotationsSpec) false w args) (Rows.fnNotationsSpec.post enc Tryz.prog Tryz.f3 false true false false):=by
 refine wrap_shp (C:=Tryz.checked) (X:=fun w _=>laidMetH Tryz.prog Rows.fnNotationsRow.laid w) (fun _ _ _ hh h=>h.of_heap hh) Tryz.own started (by kernel_rfl) Tryz.func3
  (ChangeSpec.witness_shaped (enc:=enc) (C:=Tryz.checked) (os:=os) (X:=fun w _=>laidMetH Tryz.prog Rows.fnNotationsRow.laid w) false (World.laidAll Tryz.prog os Rows.fnNotationsRow.laid) #[.slice none 0 0] 8 (World.laidAll_os _ _ _) (World.shaped_of_ZipB (by kernel_rfl) (by kernel_rfl)) (by kernel_rfl) (by kernel_rfl) (by kernel_rfl) (by rw [MakeChecks.laidMetH_plain _ _ _ (by kernel_rfl)];exact laidMet_laidAll _ (by kernel_rfl) (by kernel_rfl))) ?_
 intro W base args ds gs before hval0 hW hLaid hShp
 have hval:∀ (j:Nat) t v,Tryz.f3.params[j]? = some t→args[j]? = some v→Value.okWide Tryz.prog W .any base t v:=hval0
 have hW' := hW
 obtain ⟨p,q,hA0,hV,rfl,hfz,hnd⟩:=hW
 have hA:DataW.TrodAll enc Tryz.prog W 0 (fun _=>true) true Tryz.f3.params.toList args.toList ds p:=hA0
 rw [Tryz.params3] at hA hval
 obtain ⟨v0,l0,d0,e0,p0,q0,ha0,rfl,rfl,h0,hA1⟩:=trodAll_cons hA
 obtain ⟨rfl,rfl,rfl⟩:=trodAll_nil hA1
 obtain rfl:args = #[v0]:=by rw [← Array.toArray_toList (xs:=args),ha0]
 have hv0:=hval 0 22 v0 rfl rfl
 obtain ⟨g1,rfl⟩:∃ g1,gs=[g1]:=by
  match gs,hV with
  | [g1],_=>exact ⟨g1,rfl⟩
  | _ :: _ :: _,h=>obtain ⟨_,_,_,_,_,_,_,_,_,_,h,_⟩:=h;exact h.elim
 obtain ⟨a0,b0,c0,rfl⟩:=okWide_slice Tryz.underlying22 hv0
 obtain ⟨m0,t0⟩:=h0
 obtain ⟨s0,X0,hs0,hX0,hX80,rdX0⟩:=rd_bytes Tryz.underlying22 Tryz.underlying5 (by kernel_rfl) t0
 have h0:DataW.Trod enc Tryz.prog W 0 (fun _=>true) true 22 (.slice a0 b0 c0) d0 p0:=⟨m0,t0⟩
 obtain rfl:Value.slice a0 b0 c0=s0:=by simpa [Value.cells] using hs0
 have hrd:∀ m (h:m<([bytA' X0]:List AV).length),Rd W ((g0 W).tr []) (g0 W).G ([bytA' X0]:List AV)[m] ((#[Value.slice a0 b0 c0]:Array Value).getD m undef) []:=fun m h=>by
  match m,h with
  | 0,_=>exact rdX0 _
 obtain ⟨tp,tq,pp,qq,hVs0⟩:=vars_in hLaid rfl rfl rfl
 obtain ⟨mm,hMx⟩:=max_in hShp
 have hVs:VarsIn W (LS tp tq pp qq mm):=fun x hx=>by
  rcases List.mem_append.1 hx with hx | hx
  ·exact hVs0 x hx
  ·simp only [LR,List.mem_cons,List.not_mem_nil,or_false] at hx
   rcases hx with rfl | rfl
   ·exact rules_in hLaid rfl
   ·exact hMx
 refine (below_ofG (lawNt_c tp tq pp qq mm X0 (Nat.le_trans hX0 (by decide)) hX80) hVs rfl hrd).mono fun e W' ⟨he,hb,hz⟩=>?_
 have hW0:0<W.heap.size:=by
  obtain ⟨_,_,h⟩:=hMx
  have:=(Array.getElem?_eq_some_iff.1 h).1
  omega
 simp only [List.append_nil] at hW'
 have hS0:∀ sp:Nat→Bool,(∀ x∈p0,sp x.block=true)→DataW.Trod enc Tryz.prog W' 0 sp true 22 (.slice a0 b0 c0) _ p0:=fun sp hsp=>
  WideElems.Trod_stays Tryz.laidOut (by kernel_rfl) (of_decide_eq_true (by kernel_rfl)) h0 (fun x hx=>hb.same (hW'.lt x (by simp [hx]))) (fun x hx=>hsp x (by simp [hx]))
 have hR1:∀ (b:Nat) (sp:Nat→Bool) (hd:Bool),DataW.Trod enc Tryz.prog W' b sp hd 4 (.bool true) (.lit (.bool true)) []:=fun _ _ _=>shut_bool Tryz.underlying4 true
 refine ⟨_,he,post_of_new (pa:=p0) (pv:=q) hW' (fun b sp hd=>trodAll_mk1 (hR1 b sp hd)) (fun sp hsp=>trodAll_mk1 (hS0 sp fun x hx=>hsp x (by simp [hx]))) (fun sp hsp=>?_) ?_ ?_ hz ?_⟩
 ·exact vars_stay (by kernel_rfl) (by kernel_rfl) hV (hb.block 0 hW0) (fun x hx=>hb.same (hW'.lt x (by simp [hx]))) (fun x hx=>hsp x (by simp [hx]))
 ·simp
 ·exact hb.frame _
 ·exact ok_one (by kernel_rfl) rfl (okWide_bool_mk Tryz.underlying4 true)
theorem holds:Rows.FnNotationsSaid:=
 OpenClaim.holds_of_wide 3 Tryz.f3 rfl rfl rfl rfl rfl rfl rfl ⟨rfl,rfl,rfl,rfl,rfl⟩ rfl rfl rfl rfl rfl (by kernel_rfl) Tryz.func3 (by kernel_rfl)
  (of_decide_eq_true (by kernel_rfl)) (by unfold Func.isWrapper;first | (rw [if_pos (by decide +kernel)];kernel_rfl) | (rw [if_neg (by decide +kernel)];exact ⟨rfl,rfl⟩))
  (fun os started H enc _=>lifted os started H enc)
theorem card_holds:Rows.FnNotationsCardSaid:=
 Claim7.holds_tied_plain_at .later [] [.data,.data,.data,.data,.sentinel,.sentinel,.data,.pinned] true Rows.fnNotationsCard.stood.harness Rows.fnNotationsCard.stood.looks
  holds (fun _ h=>by cases h) (by kernel_rfl) (fun _ h=>by cases h) fnNotations_row_tie rfl ⟨rfl,rfl⟩ (by kernel_rfl) rfl
  (fun f fn hf hfn=>by
   obtain rfl:f=3:=Option.some.inj ((show Tryz.prog.funcNamed "loop.example/g01108/laws.FnNotations" = some 3 by kernel_rfl).symm.trans hf) |>.symm
   obtain rfl:fn=Tryz.f3:=(Option.some.inj (Tryz.func3.symm.trans hfn)).symm
   exact ⟨by kernel_rfl,fun j t ht=>by
    rw [Tryz.params3] at ht
    have hm:t∈[22]:=by simpa using Array.mem_of_getElem? ht
    have hall:([22].all fun u=>!Tryz.prog.wantsStandIn u)=true:=by kernel_rfl
    exact (show Tryz.prog.wantsStandIn t=false by simpa using List.all_eq_true.1 hall t hm)⟩)
  (by kernel_rfl)
end Go.Proofs.YtfcbamfkfadabaaGreatDoor.JNt
