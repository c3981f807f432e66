/- Texts that belong together. -/
import Derived.Test.YtfcbamfkfadabaaGreatDoorS3
import Derived.Test.YtfcbamfkfadabaaGreatDoorS9
set_option linter.unusedSimpArgs false
set_option linter.unusedVariables false
set_option maxRecDepth 100000
namespace Go.Proofs.YtfcbamfkfadabaaGreatDoor
section
open Go.Gov Go.Nt
open Classical
variable (tp tq:TypeId) (p q:Value)
theorem specMo_c (l:List UInt8)(hs:l.length≤1048576):Pure Tryz.prog 10 [sV l] (.tup [maniA (moM l),i64 (moC l)]) []:=by
 have h:=l15Map_c l hs
 unfold moA at h
 generalize moM l=M at *
 generalize moC l=c at *
 refine pureRV ok10 rfl ?_;unfold c10
 refine RN ?_
 refine call_pureG h (by simp only [go_sem,↓reduceIte,Nat.reduceEqDiff,Nat.reduceAdd,reduceCtorEq]<;>rfl) ?_
 refine RN ?_
 exact Ref.gc2 []
theorem implMo_c (l:List UInt8)(hs:l.length≤1048576):PureG Tryz.prog (LV tp tq p q) 9 [sV l] (.tup [.agg [.sl 0 1 0 (moM l).length],i64 (moC l)]) [some ((moM l).map oints)]:=by
 have h:=mapOfNotation_c tp tq p q l hs
 generalize moM l=M at *
 generalize moC l=c at *
 refine pureGV ok9 rfl ?_;unfold c9
 refine RN ?_
 refine pureGC1 (h) ?_
 refine RN ?_
 exact Ref.gc2 [2]
theorem moM_b (l:List UInt8):(moM l).length≤3∧tot (moM l)≤1200∧∀ xs∈moM l,xs.length≤400:=by
 by_cases h:moC l=0
 ·obtain ⟨h1,h2⟩:=mo_map h
  have hI:=h1.mvi
  have hr:∀ xs∈moM l,xs.length≤400:=fun xs hx=>by
   obtain ⟨k,hk,rfl⟩:=List.mem_iff_getElem.1 hx
   have:=hI.row k (by have:=h1.2;omega)
   rw [List.getD_eq_getElem?_getD,List.getElem?_eq_getElem hk,Option.getD_some] at this
   omega
  refine ⟨by rw [h1.2];exact Nat.le_refl _,?_,hr⟩
  have h3:=h1.2
  generalize moM l=M at *
  match M,h3 with
  | [a,b,c],_=>
   have ha:=hr a (by simp)
   have hb:=hr b (by simp)
   have hc:=hr c (by simp)
   simp [tot]
   omega
 ·have:moM l=[]:=by unfold moM;rw [if_neg h]
  rw [this]
  simp [tot]
end
section
open Go.Gov Go.Nt
open Classical
variable (tp tq:TypeId) (p q:Value)
theorem moC_k (l:List UInt8):(NtOk l∧(moC l=0∨moC l=3))∨(¬ NtOk l∧moC l=6):=by
 unfold moC
 by_cases h:NtOk l
 ·refine .inl ⟨h,?_⟩
  rw [if_pos h]
  split
  ·exact .inr rfl
  ·exact .inl rfl
 ·exact .inr ⟨h,if_neg h⟩
noncomputable def saC (s t:List UInt8):Int:=if ¬ NtOk s∨¬ NtOk t then 6 else if moC s≠0∨moC t≠0 then 3 else 0
noncomputable def saB (s t:List UInt8):Bool:=decide (saC s t=0∧lsF (moM s)=lsF (moM t))
theorem lsF_ok {l:List UInt8}(h:moC l=0):IsMap (moM l)∧(lsF (moM l)).length=3∧∀ k,k<(lsF (moM l)).length→((lsF (moM l)).getD k []).length≤1048576:=by
 obtain ⟨h1,h2⟩:=mo_map h
 have:=lfK_ok h1 (fl (moM l)) (Nat.le_refl _)
 refine ⟨h1,this.1,fun k hk=>?_⟩
 have hk3:k<3:=by have:=this.1;unfold lsF at hk;omega
 have:=this.2 k hk3
 unfold lsF
 omega
set_option maxHeartbeats 2000000 in
theorem implSa_c (s t:List UInt8)(hs:s.length≤1048576)(ht:t.length≤1048576):PureG Tryz.prog (LV tp tq p q) 19 [sV s,sV t] (.tup [bl (saB s t),i64 (saC s t)]) []:=by
 have hm:=mapOfNotation_c tp tq p q s hs
 have hk:=mapOfNotation_c tp tq p q t ht
 have c1:=moC_k s
 have c2:=moC_k t
 by_cases hz:moC s=0∧moC t=0
 ·obtain ⟨z1,z2⟩:=hz
  have hn:¬ (¬ NtOk s∨¬ NtOk t):=by
   rintro (h | h)
   ·rcases c1 with c | c;exact h c.1;omega
   ·rcases c2 with c | c;exact h c.1;omega
  have e1:saC s t=0:=by unfold saC;rw [if_neg hn,if_neg (by rintro (h | h);exact h z1;exact h z2)]
  have e2:saB s t=decide (lsF (moM s)=lsF (moM t)):=by unfold saB;rw [e1];simp
  rw [e1,e2]
  obtain ⟨m1,m2,m3⟩:=lsF_ok z1
  obtain ⟨k1,k2,k3⟩:=lsF_ok z2
  have ha:=leastForm_p (moM s) m1
  have hb:=leastForm_p (moM t) k1
  have hc:=sameMan_c (lsF (moM s)) (lsF (moM t)) (by omega) (by omega) m3 k3
  rw [z1] at hm
  rw [z2] at hk
  have hM3:=m1.2
  have hK3:=k1.2
  generalize lsF (moM s)=A at *
  generalize lsF (moM t)=B at *
  generalize moM s=M at *
  generalize moM t=K at *
  refine pureGV ok19 rfl ?_;unfold c19
  refine RN ?_
  refine pureGC1 (hm) ?_
  refine RN ?_
  refine pureGC1 (hk) ?_
  refine RN ?_
  intro _
  refine RN ?_
  refine pureC ha (by simp only [go_sem,↓reduceIte,Nat.reduceEqDiff,Nat.reduceAdd,reduceCtorEq,frz_im _ _ M M.length rfl,frz_im _ _ K K.length rfl];first | done | rfl) (by first | rfl | simp only [go_sem,↓reduceIte,Nat.reduceEqDiff,Nat.reduceAdd,reduceCtorEq]) ?_
  refine RN ?_
  refine pureC hb (by simp only [go_sem,↓reduceIte,Nat.reduceEqDiff,Nat.reduceAdd,reduceCtorEq,frz_im _ _ M M.length rfl,frz_im _ _ K K.length rfl];first | done | rfl) (by first | rfl | simp only [go_sem,↓reduceIte,Nat.reduceEqDiff,Nat.reduceAdd,reduceCtorEq]) ?_
  refine RN ?_
  refine pureC hc (by simp only [go_sem,↓reduceIte,Nat.reduceEqDiff,Nat.reduceAdd,reduceCtorEq,frz_im _ _ A 3 m2,frz_im _ _ B 3 k2];first | done | (simp only [maniA,mat,m2,k2];done) | (simp only [maniA,mat,m2,k2];rfl)) (by first | rfl | simp only [go_sem,↓reduceIte,Nat.reduceEqDiff,Nat.reduceAdd,reduceCtorEq]) ?_
  refine RN ?_
  exact Ref.gc1 []
 ·have e2 : saB s t = false := decide_eq_false (fun h => by
    have h1:=h.1
    unfold saC at h1
    split at h1
    ·cases h1
    ·split at h1
     ·cases h1
     ·rename_i h3
      exact hz ⟨Classical.byContradiction fun h=>h3 (.inl h),Classical.byContradiction fun h=>h3 (.inr h)⟩)
  rw [e2]
  by_cases hn:¬ NtOk s∨¬ NtOk t
  ·have e1:saC s t=6:=if_pos hn
   rw [e1]
   have h6:moC s=6∨moC t=6:=by
    rcases hn with h | h
    ·rcases c1 with c | c;exact absurd c.1 h;exact .inl c.2
    ·rcases c2 with c | c;exact absurd c.1 h;exact .inr c.2
   clear c1 c2 hz e1 e2 hn
   generalize moM s=M at *
   generalize moM t=K at *
   generalize moC s=c at *
   generalize moC t=d at *
   refine pureGV ok19 rfl ?_;unfold c19
   refine RN ?_
   refine pureGC1 (hm) ?_
   refine RN ?_
   refine pureGC1 (hk) ?_
   refine RN ?_
   refine ⟨fun _=>?_,fun h=>?_⟩
   ·(refine RN ?_;try with_reducible exact trivial)
    exact Ref.gc1 []
   ·exfalso;omega
  ·have h1:NtOk s:=Classical.byContradiction fun h=>hn (.inl h)
   have h2:NtOk t:=Classical.byContradiction fun h=>hn (.inr h)
   have d1:moC s=0∨moC s=3:=by rcases c1 with h | h;exact h.2;exact absurd h1 h.1
   have d2:moC t=0∨moC t=3:=by rcases c2 with h | h;exact h.2;exact absurd h2 h.1
   have e1:saC s t=3:=by unfold saC;rw [if_neg hn,if_pos (by omega)]
   rw [e1]
   clear c1 c2 e1 e2 hn h1 h2
   generalize moM s=M at *
   generalize moM t=K at *
   generalize moC s=c at *
   generalize moC t=d at *
   refine pureGV ok19 rfl ?_;unfold c19
   refine RN ?_
   refine pureGC1 (hm) ?_
   refine RN ?_
   refine pureGC1 (hk) ?_
   refine RN ?_
   intro _
   refine RN ?_
   refine ⟨fun _=>?_,fun h=>?_⟩
   ·(refine RN ?_;try with_reducible exact trivial)
    exact Ref.gc1 []
   ·exfalso;omega
end
section
open Go.Gov Go.Ce Go.Cl Go.Nt
open Classical
theorem uni_cw {a b e v f:Nat}(ha:a≤32)(hb:b≤32)(h1:1≤e)(h2:e≤100)(hk:ckN a b e=true)(hc:ckW a b e v f=true):vef (uniT a b)=((v:Int),(e:Int),(f:Int)):=by
 obtain ⟨u1,u2,u3⟩:=uni_ck ha hb h1 h2 hk
 have hM:=u2.mvi
 rw [u3] at hM
 have ht:=uni_t ha hb h1 h2 hk
 unfold ckW at hc
 rw [Bool.and_eq_true,Bool.and_eq_true] at hc
 obtain ⟨c1,c2,c3⟩:=hc
 have ht2:∀ i x,i<3→x<4*e→mv (uniT a b) i x=Ce.tT (tS a b) (4*e) i x:=fun i x hi hx=>by
  unfold ckA at c1
  have h3:=allB_at c1 hx
  simp only [Bool.and_eq_true,beqN] at h3
  obtain ⟨q0,q1,q2⟩:=h3
  refine (ht i x hi hx).trans ?_
  match i,hi with
  | 0,_=>exact q0
  | 1,_=>exact q1
  | 2,_=>exact q2
 have e1:=num_ck (g:=1) (h:=2) hM ht2 (by omega) (by omega) c2
 have e2:=num_ck (g:=0) (h:=1) hM ht2 (by omega) (by omega) c3
 have e3:=num_edge hM
 unfold vef
 rw [u3]
 refine Prod.ext ?_ (Prod.ext ?_ ?_)
 ·exact congrArg (fun n:Nat=>(n:Int)) e1
 ·show ((eN (4*e) (uniT a b):Nat):Int)=(e:Int)
  omega
 ·exact congrArg (fun n:Nat=>(n:Int)) e2
theorem seed_vef {s:List UInt8}(h:SeedOk s):vef (seedM s)=seedC s:=by
 rcases h with ⟨b,rfl,hb⟩ | ⟨b,r,rfl,hb,h2,h3⟩
 ·have hb2 : b = 84 ∨ b = 67 ∨ b = 79 ∨ b = 68 ∨ b = 73 := by
    unfold seedL at hb
    rw [List.contains_iff_mem] at hb
    simpa using hb
  rcases hb2 with rfl | rfl | rfl | rfl | rfl
  ·exact uni_cw (a:=3) (b:=3) (e:=6) (by omega) (by omega) (by omega) (by omega) ck33 cw33
  ·exact uni_cw (a:=4) (b:=3) (e:=12) (by omega) (by omega) (by omega) (by omega) ck43 cw43
  ·exact uni_cw (a:=3) (b:=4) (e:=12) (by omega) (by omega) (by omega) (by omega) ck34 cw34
  ·exact uni_cw (a:=5) (b:=3) (e:=30) (by omega) (by omega) (by omega) (by omega) ck53 cw53
  ·exact uni_cw (a:=3) (b:=5) (e:=30) (by omega) (by omega) (by omega) (by omega) ck35 cw35
 ·obtain ⟨v,hv⟩:∃ v:Nat,valS r=(v+2:Nat):=⟨(valS r - 2).toNat,by omega⟩
  have hv2:v<29:=by omega
  have kH:ckN 2 (v+2) (v+2)=true:=allB_at ckH hv2
  have kZ:ckN (v+2) 2 (v+2)=true:=allB_at ckZ hv2
  rcases hb with rfl | rfl
  ·have e : seedM (72 :: r) = uniT 2 (v + 2) := by
     show uniT (2:Int).toNat (valS r).toNat=_
     rw [hv];rfl
   rw [e,uni_cw (by omega) (by omega) (by omega) (by omega) kH (cwH hv2)]
   show _=((2:Int),valS r,valS r)
   rw [hv];rfl
  ·have e : seedM (90 :: r) = uniT (v + 2) 2 := by
     show uniT (valS r).toNat (2:Int).toNat=_
     rw [hv];rfl
   rw [e,uni_cw (by omega) (by omega) (by omega) (by omega) kZ (cwZ hv2)]
   show _=(valS r,valS r,(2:Int))
   rw [hv];rfl
theorem stC_cstep {b:UInt8}(h:Ltr b)(c:C3):stC b c=cstep b c:=by
 rcases h with rfl | rfl | rfl | rfl<;>rfl
theorem ltr_wT {b:UInt8}(h:Ltr b):wT (wdI b.toNat)=bT b:=(wT_ltr h).1
theorem vef_moF:∀ (o:List UInt8) {M:List (List Int)},(∀ b∈o,Ltr b)→(∀ b∈o,opB b=true)→IsMap M→fl M*opZ o≤400→vef (moF o M)=cnt o (vef M)
 | [],_,_,_,_,_=>rfl
 | b :: o,M,hl,ho,hM,h4=>by
  have hr:∀ x∈o,opB x=true:=fun x hx=>ho x (by simp [hx])
  have hlr:∀ x∈o,Ltr x:=fun x hx=>hl x (by simp [hx])
  have hb:=hl b (by simp)
  have hop:=op_mem (ho b (by simp))
  have e2:opZ (b :: o)=(wT (wdI b.toNat)).length*opZ o:=rfl
  have hp:=(wd_ok _ hop).1.p1
  rw [e2] at h4
  have h5:fl M*opZ o≤400:=Nat.le_trans (Nat.mul_le_mul_left _ (Nat.le_mul_of_pos_left _ (by omega))) h4
  obtain ⟨m1,m2⟩:=moF_ok hM o hr h5
  have h6:fl (moF o M)*(wT (wdI b.toNat)).length≤400:=by
   rw [m2,Nat.mul_assoc,Nat.mul_comm (opZ o)]
   exact h4
  have m3:=op_ap m1 hop h6
  have e3:moF (b :: o) M=apM (moF o M) (bT b) 3:=by
   show apM (moF o M) (wT (wdI b.toNat)) 3=_
   rw [ltr_wT hb]
  rw [ltr_wT hb] at m3
  rw [e3,vef_step m1 hb m3.1,vef_moF o hlr hr hM h5,stC_cstep hb]
  rfl
theorem wd_word {b:UInt8}(h:opB b=true):wordOf b=wdI b.toNat∧(∀ x∈wordOf b,Ltr x):=by
 refine ⟨?_,fun x hx=>word_mem hx⟩
 unfold opB at h
 rw [List.contains_iff_mem] at h
 simp only [List.mem_cons,List.not_mem_nil,or_false] at h
 rcases h with rfl | rfl | rfl | rfl | rfl | rfl | rfl | rfl | rfl | rfl | rfl | rfl<;>rfl
theorem moF_rev:∀ (w:List UInt8) (M:List (List Int)),(∀ x∈w,Ltr x)→moF w.reverse M=mm M w
 | [],M,_=>rfl
 | b :: w,M,h=>by
  rw [List.reverse_cons,moF_app]
  have e1:moF [b] M=apM M (bT b) 3:=by
   show apM M (wT (wdI b.toNat)) 3=_
   rw [ltr_wT (h b (by simp))]
  rw [e1,moF_rev w _ fun x hx=>h x (by simp [hx])]
  rfl
theorem moF_bas:∀ (o:List UInt8) {M:List (List Int)},(∀ b∈o,opB b=true)→IsMap M→fl M*opZ o≤400→moF (basL o) M=moF o M
 | [],_,_,_,_=>rfl
 | b :: o,M,ho,hM,h4=>by
  have hr:∀ x∈o,opB x=true:=fun x hx=>ho x (by simp [hx])
  have hop:=op_mem (ho b (by simp))
  have e2:opZ (b :: o)=(wT (wdI b.toNat)).length*opZ o:=rfl
  have hp:=(wd_ok _ hop).1.p1
  rw [e2] at h4
  have h5:fl M*opZ o≤400:=Nat.le_trans (Nat.mul_le_mul_left _ (Nat.le_mul_of_pos_left _ (by omega))) h4
  obtain ⟨m1,m2⟩:=moF_ok hM o hr h5
  obtain ⟨w1,w2⟩:=wd_word (ho b (by simp))
  have e3:basL (b :: o)=(wordOf b).reverse++basL o:=rfl
  rw [e3,moF_app,moF_bas o hr hM h5,moF_rev _ _ w2,w1]
  obtain ⟨k1,k2,k3,k4,k5,k6⟩:=wd_ok _ hop
  have:=mm_wT m1 k5 k6 (wdI b.toNat).length k3 (Nat.le_refl _)
  rw [List.take_length] at this
  exact this
noncomputable def t0 (l:List UInt8):List UInt8:=basL (ntO l)++ntS l
theorem bas_ops (o:List UInt8):∀ b∈basL o,opB b=true:=fun b hb=>by
 obtain ⟨x,_,h⟩:=List.mem_flatMap.1 hb
 have:=word_mem (List.mem_reverse.1 h)
 rcases this with rfl | rfl | rfl | rfl<;>decide
theorem t0_ok {l:List UInt8}(hk:NtOk l):Bsc (t0 l)∧ntO (t0 l)=basL (ntO l)∧ntS (t0 l)=ntS l∧SeedOk (ntS (t0 l)):=by
 obtain ⟨h1,h2⟩:=parts_of (bas_ops (ntO l)) hk.2
 exact ⟨bas_bsc hk.2,h1,h2,by unfold t0;rw [h2];exact hk.2⟩
theorem opZ_bas (o:List UInt8)(h:∀ b∈o,opB b=true):opZ (basL o)=opZ o:=by
 have h1:=opZ_fac (basL o) (bas_ops o)
 have h2:basL (basL o)=basL o:=flat_basic (basL o) fun b hb=>by
  obtain ⟨x,_,h⟩:=List.mem_flatMap.1 hb
  exact word_mem (List.mem_reverse.1 h)
 rw [h2] at h1
 rw [← h1,opZ_fac o h]
theorem mo_few2 {l:List UInt8}(h:moC l=0):fl (seedM (ntS l))*opZ (ntO l)≤400:=by
 obtain ⟨a,b,_,_,_,_,e,_,h2⟩:=mo_few h
 rw [e]
 exact h2
theorem other_ok {l u:List UInt8}(hk:NtOk l)(ku:Kept (t0 l) u)(hu:NtOk u):ctA u=ctA l∧ntK u=0∧(moC l=0→saC l u=0∧saB l u=true):=by
 obtain ⟨b0,p1,p2,s0⟩:=t0_ok hk
 have hbu:basL (ntO u)=ntO u:=flat_basic (ntO u) fun b hb=>by
  obtain ⟨h1,h2⟩:=takeWhile_op hb
  exact ku.bsc b h1 h2
 have hc:cnt (basL (ntO u)) (seedC (ntS u))=cnt (basL (ntO l)) (seedC (ntS l)):=by
  have:=ku.cnt
  unfold KC at this
  rw [p1,p2] at this
  rw [hbu]
  exact this
 have hm:moC u=moC l:=by
  unfold moC
  rw [if_pos hu,if_pos hk,hc]
 refine ⟨?_,if_pos hu,fun h0=>?_⟩
 ·unfold ctA
  rw [if_pos hu,if_pos hk,hc]
 ·have hsa : saC l u = 0 := by
    unfold saC
    rw [if_neg (by rintro (h | h);exact h hk;exact h hu),if_neg (by rintro (h | h);exact h h0;exact h (by rw [hm];exact h0))]
  refine ⟨hsa,?_⟩
  unfold saB
  rw [decide_eq_true_iff]
  refine ⟨hsa,?_⟩
  have h0u:moC u=0:=by rw [hm];exact h0
  have hf:=mo_few2 h0
  have hs1:=(seed_map hk.2).1
  have eF:Few (t0 l):=by
   unfold Few
   rw [p1,p2,opZ_bas _ (nt_ops l)]
   exact hf
  obtain ⟨_,hi⟩:=ku.map eF
  have e1:KM (t0 l)=moM l:=by
   unfold KM
   rw [p1,p2,moF_bas _ (nt_ops l) hs1 hf]
   unfold moM
   rw [if_pos h0]
  have e2:KM u=moM u:=by
   unfold KM moM
   rw [if_pos h0u]
  rw [e1,e2] at hi
  exact lsF_iso (mo_map h0).1 (mo_map h0u).1 hi
theorem mo_faces {l:List UInt8}(h:moC l=0):fcV (fl (moM l)) (moM l) (moM l).length=ctA l:=by
 have hk:=(moC_0 h).1
 obtain ⟨b0,p1,p2,s0⟩:=t0_ok hk
 have hf:=mo_few2 h
 have hs1:=(seed_map hk.2).1
 have e1:moM l=moF (basL (ntO l)) (seedM (ntS l)):=by
  rw [moF_bas _ (nt_ops l) hs1 hf]
  unfold moM
  rw [if_pos h]
 have hv:=vef_moF (basL (ntO l)) (M:=seedM (ntS l)) (fun b hb=>by
  obtain ⟨x,_,h⟩:=List.mem_flatMap.1 hb
  exact word_mem (List.mem_reverse.1 h)) (bas_ops _) hs1 (by rw [opZ_bas _ (nt_ops l)];exact hf)
 rw [← e1,seed_vef hk.2] at hv
 rw [fc_vef (mo_map h).1,hv]
 unfold ctA
 rw [if_pos hk]
 rfl
theorem bas_kept {l:List UInt8}(hk:NtOk l):Kept (t0 l) (t0 l):=Kept.refl (t0_ok hk).1 (t0_ok hk).2.2.2
theorem smp_kept {l:List UInt8}(hk:NtOk l):Kept (t0 l) (smp (t0 l)):=kept_smp _ _ (Nat.lt_succ_self _) (t0_ok hk).1 (t0_ok hk).2.2.2
end
end Go.Proofs.YtfcbamfkfadabaaGreatDoor
