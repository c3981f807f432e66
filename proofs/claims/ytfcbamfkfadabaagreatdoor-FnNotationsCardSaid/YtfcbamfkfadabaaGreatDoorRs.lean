/- Texts that belong together. -/
import Derived.Test.YtfcbamfkfadabaaGreatDoorT9
import Derived.Test.YtfcbamfkfadabaaGreatDoorRg
import Derived.Test.YtfcbamfkfadabaaGreatDoorRp
set_option maxHeartbeats 16000000
set_option linter.unusedSimpArgs false
set_option linter.unusedVariables false
set_option maxRecDepth 100000
namespace Go.Proofs.YtfcbamfkfadabaaGreatDoor
open Go.Gov Go.Ce
open Classical
theorem beqN {a b:Nat}:Nat.beq a b=true ↔ a=b:=⟨Nat.eq_of_beq_eq_true,beq_t⟩
theorem bleN {a b:Nat}:Nat.ble a b=true ↔ a≤b:=⟨Nat.le_of_ble_eq_true,Nat.ble_eq_true_of_le⟩
theorem map_of_ck {M : List (List Int)} {t : Nat → Nat → Nat} {m : Nat} (hl : M.length = 3) (hr : ∀ g, g < 3 → (M.getD g []).length = m)
    (ht:∀ g j,g<3→j<m→(M.getD g []).getD j 0=(t g j:Nat)∧t g j<m) (h2:2≤m) (h4:m≤400) (hc:ckT t m=true):IsMap M:=by
 have hck:∀ j,j<m→(∀ g,g<3→t g (t g j)=j∧t g j≠j)∧t 2 (t 0 j)=t 0 (t 2 j)∧t 0 j≠t 2 j∧(j=0∨t 0 j<j∨t 1 j<j∨t 2 j<j):=fun j hj=>by
  have h:=allB_at hc hj
  simp only [Bool.and_eq_true,Bool.or_eq_true,Bool.not_eq_true', beqN,bleN] at h
  obtain ⟨h1,h2,h3,h4⟩:=h
  refine ⟨fun g hg=>?_,h2,(fun e=>by rw [beq_t e] at h3;cases h3),by omega⟩
  have:=allB_at h1 hg
  simp only [Bool.and_eq_true,Bool.not_eq_true', beqN] at this
  exact ⟨this.1,fun e=>by rw [beq_t e] at this;cases this.2⟩
 have hmv:∀ g j,g<3→j<m→mv M g j=t g j:=fun g j hg hj=>by
  unfold mv
  rw [(ht g j hg hj).1,Int.toNat_natCast]
 have hI:MvI m M:=by
  refine ⟨hl,hr,fun i x hi hx=>?_,fun i x hi hx=>?_,fun i x hi hx=>?_,fun i x hi hx=>?_,fun x hx=>?_,fun x hx=>?_⟩
  ·rw [hmv i x hi hx];exact (ht i x hi hx).1
  ·rw [hmv i x hi hx];exact (ht i x hi hx).2
  ·rw [hmv i x hi hx,hmv i _ hi (ht i x hi hx).2];exact ((hck x hx).1 i hi).1
  ·rw [hmv i x hi hx];exact ((hck x hx).1 i hi).2
  ·rw [hmv 0 x (by omega) hx,hmv 2 x (by omega) hx,hmv 2 _ (by omega) (ht 0 x (by omega) hx).2,hmv 0 _ (by omega) (ht 2 x (by omega) hx).2];exact (hck x hx).2.1
  ·rw [hmv 0 x (by omega) hx,hmv 2 x (by omega) hx];exact (hck x hx).2.2.1
 refine IsMap.of hI h2 h4 fun x=>?_
 induction x using Nat.strongRecOn with
 | _ x ih=>
  intro hx
  have hstep:∀ g,g<3→t g x<x→Rch M 0 x:=fun g hg hlt=>by
   have h1:=ih (t g x) hlt (by omega)
   have h3:=h1.step (p:=M.getD g []) (by
    rw [List.getD_eq_getElem?_getD,List.getElem?_eq_getElem (by omega)]
    exact List.getElem_mem _)
   rw [(ht g _ hg (by omega)).1,Int.toNat_natCast,((hck x hx).1 g hg).1] at h3
   exact h3
  rcases (hck x hx).2.2.2 with h | h | h | h
  ·subst h;exact .refl
  ·exact hstep 0 (by omega) h
  ·exact hstep 1 (by omega) h
  ·exact hstep 2 (by omega) h
theorem uni_ck {a b e:Nat}(ha:a≤32)(hb:b≤32)(h1:1≤e)(h2:e≤100)(h:ckN a b e=true):uniC a b=0∧IsMap (uniT a b)∧fl (uniT a b)=4*e:=by
 unfold ckN at h
 rw [show rlS a b=rls2 a b from rfl] at h
 simp only [Bool.and_eq_true,Bool.not_eq_true', beqN] at h
 obtain ⟨c1,c2,c3⟩:=h
 have hlet:∀ k,k<(rls2 a b).length→Let 3 ((rls2 a b).getD k []):=fun k hk=>(rls2_rows a b ha hb k hk).1
 have hR:=enumN_eq (G:=3) (by omega) hlet
 have hbad:(enum 3 (rls2 a b)).bad=false:=by rw [← hR.bad];exact c1
 have hE:=enum_ed (G:=3) (by omega) hlet hbad
 have hO:=ordN_eq hE hR
 have hm:(ord 3 (enum 3 (rls2 a b))).length=4*e:=by rw [← hO.m];exact c2
 have hM:IsMap (uniT a b):=by
  refine map_of_ck (tbl_len _ _) (fun g hg=>by rw [← hm];exact tbl_row hg) (fun g j hg hj=>?_) (by omega) (by omega) c3
  have:=tbN_eq hE hR (g:=g) (j:=j) hg (by omega)
  rw [hm] at this
  exact this
 refine ⟨?_,hM,by rw [← hm];exact tbl_row (by omega)⟩
 unfold uniC
 rw [if_pos ⟨hbad,by omega⟩,if_pos hM.1]
theorem uni_t {a b e:Nat}(ha:a≤32)(hb:b≤32)(h1:1≤e)(h2:e≤100)(h:ckN a b e=true):∀ i x,i<3→x<4*e→mv (uniT a b) i x=tbN 3 (enumN 3 (rlS a b)) (ordN 3 (enumN 3 (rlS a b))) i x:=fun i x hi hx=>by
 unfold ckN at h
 rw [show rlS a b=rls2 a b from rfl] at h ⊢
 simp only [Bool.and_eq_true,Bool.not_eq_true', beqN] at h
 obtain ⟨c1,c2,c3⟩:=h
 have hlet:∀ k,k<(rls2 a b).length→Let 3 ((rls2 a b).getD k []):=fun k hk=>(rls2_rows a b ha hb k hk).1
 have hR:=enumN_eq (G:=3) (by omega) hlet
 have hbad:(enum 3 (rls2 a b)).bad=false:=by rw [← hR.bad];exact c1
 have hE:=enum_ed (G:=3) (by omega) hlet hbad
 have hO:=ordN_eq hE hR
 have hm:(ord 3 (enum 3 (rls2 a b))).length=4*e:=by rw [← hO.m];exact c2
 unfold mv uniT
 rw [(tbN_eq hE hR (g:=i) (j:=x) hi (by omega)).1,Int.toNat_natCast]
end Go.Proofs.YtfcbamfkfadabaaGreatDoor
namespace Go.Gov
variable {N:Nat} {g:Gh} {F:Frame} {H:Heap} {a:Act} {w:World} {n0:Nat}
theorem Ref.nilC1 (k:Nat){y:AV}:Ref n0 [(0,.tup [.agg [nilS],y])] H [(0,.tup [.agg [.sl H.length k 0 0],y])] (H++[some []]):=fun N g a w hR=>by
 have hm:=nil_obj hR.hp
 refine ⟨_,⟨fun i=>?_,hm.hp,hR.size,hR.defers⟩,hm.toN⟩
 simp only [get_put]
 by_cases e:0=i
 ·subst e
  rw [if_pos rfl]
  have h1:=hm.lift _ _ (hR.fr 0)
  simp only [get_put,if_true] at h1
  generalize a.tmps.getD 0 undef=v at h1 ⊢
  cases h1 with
  | tup hl hr=>
   rename_i vs
   refine .tup (by simpa using hl) fun m hm' => ?_
   match m,hm' with
   | 0,_=>
    have h2:=hr 0 (by simp)
    simp only [List.getElem_cons_zero] at h2 ⊢
    generalize vs.getD 0 undef=v0 at h2 ⊢
    cases h2 with
    | agg hl2 hr2=>
     refine .agg (by simpa using hl2) fun m2 hm2=>?_
     match m2,hm2 with
     | 0,_=>
      have h3:=hr2 0 (by simp)
      simp only [List.getElem_cons_zero] at h3 ⊢
      exact nil_rd hR.hp k h3
   | 1,_=>exact hr 1 (by simp)
 ·rw [if_neg e];exact .any
end Go.Gov
namespace Go.Proofs.YtfcbamfkfadabaaGreatDoor
section
open Go.Gov Go.Ce Go.Nt
open Classical
theorem uni_ok {a b:Nat}(h:uniC a b=0):SmOk 3 (rls2 a b)∧IsMan (uniT a b):=by
 unfold uniC at h
 split at h
 ·rename_i h1
  split at h
  ·rename_i h2;exact ⟨h1,h2⟩
  ·cases h
 ·cases h
theorem seed_uni {s:List UInt8}(h:SeedOk s):∃ a b e:Nat,diaL s=[(a:Int),(b:Int)]∧(2≤a∧a≤32)∧(2≤b∧b≤32)∧(seedC s).2.1=(e:Int)∧1≤e∧e≤30∧uniC a b=0∧IsMap (uniT a b)∧fl (uniT a b)=4*e:=by
 have fin:∀ a b e:Nat,a≤32→b≤32→1≤e→e≤30→ckN a b e=true→uniC a b=0∧IsMap (uniT a b)∧fl (uniT a b)=4*e:=fun a b e ha hb h1 h2 hc=>uni_ck ha hb h1 (by omega) hc
 rcases h with ⟨b,rfl,hb⟩ | ⟨b,r,rfl,hb,h2,h3⟩
 ·have hb2 : b = 84 ∨ b = 67 ∨ b = 79 ∨ b = 68 ∨ b = 73 := by
    unfold seedL at hb
    rw [List.contains_iff_mem] at hb
    simpa using hb
  rcases hb2 with rfl | rfl | rfl | rfl | rfl
  ·exact ⟨3,3,6,rfl,by omega,by omega,rfl,by omega,by omega,fin 3 3 6 (by omega) (by omega) (by omega) (by omega) ck33⟩
  ·exact ⟨4,3,12,rfl,by omega,by omega,rfl,by omega,by omega,fin 4 3 12 (by omega) (by omega) (by omega) (by omega) ck43⟩
  ·exact ⟨3,4,12,rfl,by omega,by omega,rfl,by omega,by omega,fin 3 4 12 (by omega) (by omega) (by omega) (by omega) ck34⟩
  ·exact ⟨5,3,30,rfl,by omega,by omega,rfl,by omega,by omega,fin 5 3 30 (by omega) (by omega) (by omega) (by omega) ck53⟩
  ·exact ⟨3,5,30,rfl,by omega,by omega,rfl,by omega,by omega,fin 3 5 30 (by omega) (by omega) (by omega) (by omega) ck35⟩
 ·obtain ⟨v,hv⟩:∃ v:Nat,valS r=(v+2:Nat):=⟨(valS r - 2).toNat,by omega⟩
  have hn:numS (b :: r)=((v+2:Nat):Int):=hv
  have hv2:v<29:=by omega
  rcases hb with rfl | rfl
  ·refine ⟨2,v+2,v+2,?_,by omega,by omega,?_,by omega,by omega,fin 2 (v+2) (v+2) (by omega) (by omega) (by omega) (by omega) (allB_at ckH hv2)⟩
   ·show [2,numS (72 :: r)]=_
    rw [hn];rfl
   ·show numS (72 :: r)=_
    exact hn
  ·refine ⟨v+2,2,v+2,?_,by omega,by omega,?_,by omega,by omega,fin (v+2) 2 (v+2) (by omega) (by omega) (by omega) (by omega) (allB_at ckZ hv2)⟩
   ·show [numS (90 :: r),2]=_
    rw [hn];rfl
   ·show numS (90 :: r)=_
    exact hn
noncomputable def moF (o:List UInt8)(M:List (List Int)):List (List Int):=o.foldr (fun b m=>apM m (wT (wdI b.toNat)) 3) M
def opZ (o:List UInt8):Nat:=o.foldr (fun b a=>(wT (wdI b.toNat)).length*a) 1
theorem op_mem {b:UInt8}(h:opB b=true):(b.toNat:Int)∈opL:=by
 unfold opB at h
 rw [List.contains_iff_mem] at h
 simp only [List.mem_cons,List.not_mem_nil,or_false] at h
 rcases h with rfl | rfl | rfl | rfl | rfl | rfl | rfl | rfl | rfl | rfl | rfl | rfl<;>decide
theorem op_fac {b:UInt8}(h:opB b=true):facL (wordOf b).reverse=(wT (wdI b.toNat)).length:=by
 unfold opB at h
 rw [List.contains_iff_mem] at h
 simp only [List.mem_cons,List.not_mem_nil,or_false] at h
 rcases h with rfl | rfl | rfl | rfl | rfl | rfl | rfl | rfl | rfl | rfl | rfl | rfl<;>rfl
theorem nt_ops (l:List UInt8):∀ b∈ntO l,opB b=true:=fun b hb=>List.all_eq_true.1 List.all_takeWhile b hb
theorem opZ_fac:∀ o:List UInt8,(∀ b∈o,opB b=true)→facL (basL o)=opZ o
 | [],_=>rfl
 | b :: o,h=>by
  have ih:=opZ_fac o fun x hx=>h x (by simp [hx])
  show facL ((wordOf b).reverse++basL o)=(wT (wdI b.toNat)).length*opZ o
  rw [facL_app,ih,op_fac (h b (by simp))]
theorem opZ_pos:∀ o:List UInt8,(∀ b∈o,opB b=true)→1≤opZ o:=fun o h=>by rw [← opZ_fac o h];exact facL_pos _
theorem op_ap {M:List (List Int)}(hM:IsMap M){n:Int}(h:n∈opL)(h4:fl M*(wT (wdI n)).length≤400):IsMap (apM M (wT (wdI n)) 3)∧fl (apM M (wT (wdI n)) 3)=fl M*(wT (wdI n)).length:=by
 obtain ⟨h1,h2,h3,_,h5,h6⟩:=wd_ok n h
 have he:=mm_wT hM h5 h6 (wdI n).length h3 (Nat.le_refl _)
 rw [List.take_length] at he
 rw [← he,wT_len h3]
 rw [wT_len h3] at h4
 exact mm_map (wdI n) M hM (mem_getD h5) h4
theorem moF_ok {M:List (List Int)}(hM:IsMap M):∀ o:List UInt8,(∀ b∈o,opB b=true)→fl M*opZ o≤400→IsMap (moF o M)∧fl (moF o M)=fl M*opZ o
 | [],_,_=>⟨hM,by simp [moF,opZ]⟩
 | b :: o,h,h4=>by
  have hr:∀ x∈o,opB x=true:=fun x hx=>h x (by simp [hx])
  have hb:=op_mem (h b (by simp))
  have e:opZ (b :: o)=(wT (wdI b.toNat)).length*opZ o:=rfl
  have hp:=(wd_ok _ hb).1.p1
  rw [e] at h4 ⊢
  have h5:fl M*opZ o≤400:=Nat.le_trans (Nat.mul_le_mul_left _ (Nat.le_mul_of_pos_left _ (by omega))) h4
  obtain ⟨i1,i2⟩:=moF_ok hM o hr h5
  have e2:fl M*((wT (wdI b.toNat)).length*opZ o)=fl M*opZ o*(wT (wdI b.toNat)).length:=by rw [Nat.mul_comm (wT _).length,Nat.mul_assoc]
  rw [e2] at h4 ⊢
  have:=op_ap i1 hb (by rw [i2];exact h4)
  rw [i2] at this
  exact this
theorem opZ_drop (o:List UInt8)(h:∀ b∈o,opB b=true)(j:Nat):opZ (o.drop j)≤opZ o:=by
 rw [← opZ_fac o h,← opZ_fac (o.drop j) fun b hb=>h b (List.mem_of_mem_drop hb)]
 unfold basL
 conv=>rhs;rw [← List.take_append_drop j o,List.flatMap_append,facL_app]
 exact Nat.le_mul_of_pos_left _ (facL_pos _)
noncomputable def seedM (s:List UInt8):List (List Int):=uniT ((diaL s).getD 0 0).toNat ((diaL s).getD 1 0).toNat
noncomputable def moC (l:List UInt8):Int:=if NtOk l then (if 400<4*(cnt (basL (ntO l)) (seedC (ntS l))).2.1 then 3 else 0) else 6
noncomputable def moM (l:List UInt8):List (List Int):=if moC l=0 then moF (ntO l) (seedM (ntS l)) else []
noncomputable def moA (l:List UInt8):AV:=.tup [maniA (moM l),i64 (moC l)]
theorem moC_0 {l:List UInt8}(h:moC l=0):NtOk l∧¬ 400<4*(cnt (basL (ntO l)) (seedC (ntS l))).2.1:=by
 unfold moC at h
 split at h
 ·rename_i h1
  split at h
  ·cases h
  ·rename_i h2;exact ⟨h1,h2⟩
 ·cases h
theorem mo_few {l:List UInt8}(h:moC l=0):∃ a b:Nat,diaL (ntS l)=[(a:Int),(b:Int)]∧(2≤a∧a≤32)∧(2≤b∧b≤32)∧uniC a b=0∧seedM (ntS l)=uniT a b∧IsMap (uniT a b)∧fl (uniT a b)*opZ (ntO l)≤400:=by
 obtain ⟨h1,h2⟩:=moC_0 h
 obtain ⟨a,b,e,d1,d2,d3,d4,d5,d6,d7,d8,d9⟩:=seed_uni h1.2
 have hg:=seedC_good h1.2
 obtain ⟨_,c2,_⟩:=cnt_ok (basL (ntO l)) (seedC (ntS l)) hg.1 hg.2.1
 rw [c2,d4,opZ_fac _ (nt_ops l)] at h2
 refine ⟨a,b,d1,d2,d3,d7,?_,d8,?_⟩
 ·unfold seedM
  rw [d1]
  simp
 ·rw [d9]
  have e3:((4*e*opZ (ntO l):Nat):Int)=4*((opZ (ntO l):Int)*(e:Int)):=by push_cast;rw [Int.mul_assoc,Int.mul_comm (e:Int)]
  omega
theorem mo_map {l:List UInt8}(h:moC l=0):IsMap (moM l)∧fl (moM l)≤400:=by
 obtain ⟨a,b,_,_,_,_,e,h1,h2⟩:=mo_few h
 have:=moF_ok h1 (ntO l) (nt_ops l) h2
 unfold moM
 rw [if_pos h,e]
 exact ⟨this.1,by omega⟩
end
section
open Go.Gov
open Classical
structure Mvg (M:List (List Int)):Prop where
 three:M.length=3
 few:fl M≤100000
 rows:∀ k,k<3→(M.getD k []).length=fl M∧∀ f,f<fl M→0≤(M.getD k []).getD f 0∧(M.getD k []).getD f 0<(fl M:Int)
theorem apV_g {M:List (List Int)}{T:List (List Tg)}(hM:Mvg M)(hT:IsTpl T){i f j:Nat}(hi:i<3)(hf:f<fl M)(hj:j<T.length):0≤apV M T i f j∧apV M T i f j≤1300000:=by
 obtain ⟨o1,o2,o3,o4,_⟩:=hT.ok j i hj hi
 have h12:=hT.p2
 have h4:=hM.few
 have hg:0≤(if 0≤(tg T j i).2 then (M.getD (tg T j i).2.toNat []).getD f 0 else (f:Int))∧(if 0≤(tg T j i).2 then (M.getD (tg T j i).2.toNat []).getD f 0 else (f:Int))≤100000:=by
  split
  ·have h3:=hM.three
   obtain ⟨r1,r2⟩:=hM.rows (tg T j i).2.toNat (by omega)
   have:=r2 f hf
   omega
  ·omega
 unfold apV
 generalize (if 0≤(tg T j i).2 then (M.getD (tg T j i).2.toNat []).getD f 0 else (f:Int))=g at *
 have h5:g*T.length≤100000*12:=Int.mul_le_mul hg.2 (by omega) (by omega) (by omega)
 have h6:0≤g*T.length:=Int.mul_nonneg hg.1 (by omega)
 omega
theorem l14Apply_g (M:List (List Int))(T:List (List Tg))(hM:Mvg M)(hT:IsTpl T):Pure Tryz.prog 78 [maniA M,tplA T] (.agg [.sl 0 1 0 3]) [some ((apM M T 3).map oints)]:=by
 have hM3:M.length=3:=hM.three
 have hn4:=hM.few
 have hT1:=hT.p1
 have hT2:=hT.p2
 have hfe:fl M=(M.getD 0 []).length:=rfl
 have hfl:=l02Flags_c M (by omega) (by omega) (by omega)
 refine pureVg [4] ok78 rfl ?_;unfold c78
 refine RN ?_
 refine V_loop (α:=Nat) (S:=fun i=>([(2,.ref 0 0),(3,.ref 1 0),(4,.ref 2 0),(5,i64 T.length),(6,.ref 3 0),(7,i64 i)],[some [mat M],some [tmt T],some [nilS],some [.sl 4 1 0 i],some ((apM M T i).map oints)])) (C:=fun i=>i≤3) (μ:=fun i=>3 - i) 0 (by omega) ((Ref.nilC 3 0 1 rfl rfl).trans (Ref.to (by simp [apM]) (by simp [sub,fget]))) ?_
 intro i hi
 have hml:=apM_len M T i
 refine RN ?_
 refine ⟨fun hc=>?_,fun hc=>?_⟩
 ·have hi3:i<3:=by omega
  refine RN ?_
  refine V_loop (α:=Nat) (S:=fun f=>([(2,.ref 0 0),(3,.ref 1 0),(4,.ref 2 0),(5,i64 T.length),(6,.ref 3 0),(7,i64 i),(8,.sl 5 1 0 (apF M T i f).length),(9,i64 f)],[some [mat M],some [tmt T],some [nilS],some [.sl 4 1 0 i],some ((apM M T i).map oints),some (intsC (apF M T i f))])) (C:=fun f=>f≤fl M) (μ:=fun f=>fl M - f) 0 (by omega) (Ref.to (by simp [intsC,apF]) (by simp [sub,fget,apF])) ?_
  intro f hf
  have hfl2:=apF_len M T i f
  refine RN ?_
  refine pureC1 (hfl) ?_
  refine RN ?_
  refine ⟨fun hc1=>?_,fun hc1=>?_⟩
  ·have hff:f<fl M:=by omega
   have hfp:f*T.length≤100000*12:=Nat.mul_le_mul (by omega) hT2
   refine RN ?_
   refine V_loop (α:=Nat) (S:=fun j=>([(2,.ref 0 0),(3,.ref 1 0),(4,.ref 2 0),(5,i64 T.length),(6,.ref 3 0),(7,i64 i),(8,.sl 5 1 0 (apF M T i f++apR M T i f j).length),(9,i64 f),(10,i64 j)],[some [mat M],some [tmt T],some [nilS],some [.sl 4 1 0 i],some ((apM M T i).map oints),some (intsC (apF M T i f++apR M T i f j))])) (C:=fun j=>j≤T.length) (μ:=fun j=>T.length - j) 0 (by omega) (Ref.to (by simp [apR]) (by simp [sub,fget,apR])) ?_
   intro j hj
   have hrl:=apR_len M T i f j
   have hll:(apF M T i f++apR M T i f j).length=f*T.length+j:=by rw [List.length_append,hfl2,hrl]
   have hst:=apR_succ M T i f j
   generalize hL:apF M T i f++apR M T i f j=L at *
   refine RN ?_
   refine ⟨fun hc2=>?_,fun hc2=>?_⟩
   ·have hjl:j<T.length:=by omega
    have g1:=tmt_at T j hjl
    have g2:=tmt_any T j hjl
    have h3:=hT.len j hjl
    have g3:=flt_two (T.getD j []) i (by omega)
    obtain ⟨o1,o2,o3,o4,_⟩:=hT.ok j i hjl hi3
    have hvb:=apV_g hM hT hi3 hff hjl
    refine RN ?_
    simp only [g1,g2,go_sem,↓reduceIte,Nat.reduceEqDiff,Nat.reduceAdd,reduceCtorEq]
    refine RN ?_
    refine And.intro ⟨by rw [flt_len];omega,by rw [g3];rfl⟩ (And.intro (by rw [List.length_drop,len_intsC,flt_len];omega) (And.intro (by rw [g3];rfl) ?_))
    simp only [g3,go_sem,↓reduceIte,Nat.reduceEqDiff,Nat.reduceAdd,reduceCtorEq]
    change W _ _ _ _ _ _ _ _
    rw [show (T.getD j []).getD i T0=tg T j i from rfl]
    have hv:apV M T i f j=(if 0≤(tg T j i).2 then (M.getD (tg T j i).2.toNat []).getD f 0 else (f:Int))*T.length+(tg T j i).1:=rfl
    generalize hx:tg T j i=x at *
    have hrow:0≤x.2→f<(M.getD x.2.toNat []).length:=fun h=>by
     obtain ⟨r1,_⟩:=hM.rows x.2.toNat (by omega)
     omega
    refine RN ?_
    refine ⟨fun hc3=>?_,fun hc3=>?_⟩
    ·have hr2:=hrow hc3
     rw [if_pos hc3] at hv
     refine RN ?_
     refine ⟨j+1,by omega,by omega,?_⟩
     rw [hst,← List.append_assoc,hL,hv]
     refine Ref.gc [0,1,2,3,4,8] rfl ?_ (by simp [sub,fget,go_sem,↓reduceIte,Nat.reduceEqDiff,Nat.reduceAdd,reduceCtorEq];omega)
     (try simp only [go_sem,↓reduceIte,Nat.reduceEqDiff,Nat.reduceAdd,reduceCtorEq,take_ints_len,one_intsC,app_intsC])
    ·rw [if_neg (by omega)] at hv
     refine RN ?_
     refine ⟨j+1,by omega,by omega,?_⟩
     rw [hst,← List.append_assoc,hL,hv]
     refine Ref.gc [0,1,2,3,4,8] rfl ?_ (by simp [sub,fget,go_sem,↓reduceIte,Nat.reduceEqDiff,Nat.reduceAdd,reduceCtorEq];omega)
     (try simp only [go_sem,↓reduceIte,Nat.reduceEqDiff,Nat.reduceAdd,reduceCtorEq,take_ints_len,one_intsC,app_intsC])
   ·obtain rfl:j=T.length:=by omega
    have hs2:=apF_succ M T i f
    refine RN ?_
    refine ⟨f+1,by omega,by omega,?_⟩
    rw [hs2,hL]
    exact Ref.frame (by simp [sub,fget])
  ·obtain rfl:f=fl M:=by omega
   have hs3:=apM_succ M T i
   have hlb:(apF M T i (fl M)).length≤1200000:=by rw [apF_len];exact Nat.mul_le_mul hn4 hT2
   refine RN ?_
   refine ⟨i+1,by omega,by omega,?_⟩
   rw [hs3]
   refine (Ref.close 7 i 5 (k:=1) (n:=(apF M T i (fl M)).length) (cs2:=intsC (apF M T i (fl M))) rfl (by rw [List.getElem?_append_right (by simp [hml])];simp [hml]) rfl (by decide) (by simp [intsC])).trans (Ref.gc [0,1,2,3,7] rfl ?_ (by simp [sub,fget,go_sem,↓reduceIte,Nat.reduceEqDiff,Nat.reduceAdd,reduceCtorEq]))
   (try simp only [go_sem,↓reduceIte,Nat.reduceEqDiff,Nat.reduceAdd,reduceCtorEq])
   have hset:∀ x y:AV,((apM M T i).map oints++[x]).set i y=(apM M T i).map oints++[y]:=fun x y=>by
    rw [List.set_append_right _ _ (by simp [hml])];simp [hml]
   rw [List.take_of_length_le (by simp [hml]),rnmL_orows,hset]
   simp
 ·obtain rfl:i=3:=by omega
  (refine RN ?_;try with_reducible exact trivial)
theorem applyTemplate_g (M:List (List Int))(T:List (List Tg))(hM:Mvg M)(hT:IsTpl T):Pure Tryz.prog 74 [maniA M,tplA T] (.agg [.sl 0 1 0 3]) [some ((apM M T 3).map oints)]:=by
 have hM3:M.length=3:=hM.three
 have hn4:=hM.few
 have hT1:=hT.p1
 have hT2:=hT.p2
 have hfe:fl M=(M.getD 0 []).length:=rfl
 have hfl:=flags_c M (by omega) (by omega) (by omega)
 have hsz:=sizeT_c T (by omega)
 refine pureVg [4] ok74 rfl ?_;unfold c74
 refine RN ?_
 refine pureC1 (hsz) ?_
 refine RN ?_
 refine V_loop (α:=Nat) (S:=fun i=>([(2,.ref 0 0),(3,.ref 1 0),(4,.ref 2 0),(5,i64 T.length),(6,.ref 3 0),(16,i64 i)],[some [mat M],some [tmt T],some [nilS],some [.sl 4 1 0 i],some ((apM M T i).map oints)])) (C:=fun i=>i≤3) (μ:=fun i=>3 - i) 0 (by omega) ((Ref.nilC 3 0 1 rfl rfl).trans (Ref.to (by simp [apM]) (by simp [sub,fget]))) ?_
 intro i hi
 have hml:=apM_len M T i
 refine RN ?_
 refine ⟨fun hc=>?_,fun hc=>?_⟩
 ·have hi3:i<3:=by omega
  refine RN ?_
  refine pureC1 (hfl) ?_
  refine RN ?_
  refine V_loop (α:=Nat) (S:=fun f=>([(2,.ref 0 0),(3,.ref 1 0),(4,.ref 2 0),(5,i64 T.length),(6,.ref 3 0),(16,i64 i),(7,i64 i),(8,.sl 5 1 0 (apF M T i f).length),(19,i64 (M.getD 0 []).length),(20,i64 f)],[some [mat M],some [tmt T],some [nilS],some [.sl 4 1 0 i],some ((apM M T i).map oints),some (intsC (apF M T i f))])) (C:=fun f=>f≤fl M) (μ:=fun f=>fl M - f) 0 (by omega) ((Ref.nil 8 1 rfl).trans (Ref.to (by simp [intsC,apF]) (by simp [sub,fget,apF]))) ?_
  intro f hf
  have hfl2:=apF_len M T i f
  refine RN ?_
  refine ⟨fun hc1=>?_,fun hc1=>?_⟩
  ·have hff:f<fl M:=by omega
   have hfp:f*T.length≤100000*12:=Nat.mul_le_mul (by omega) hT2
   refine RN ?_
   refine V_loop (α:=Nat) (S:=fun j=>([(2,.ref 0 0),(3,.ref 1 0),(4,.ref 2 0),(5,i64 T.length),(6,.ref 3 0),(16,i64 i),(7,i64 i),(8,.sl 5 1 0 (apF M T i f++apR M T i f j).length),(19,i64 (M.getD 0 []).length),(20,i64 f),(9,i64 f),(24,tmt T),(25,i64 T.length),(26,i64 j)],[some [mat M],some [tmt T],some [nilS],some [.sl 4 1 0 i],some ((apM M T i).map oints),some (intsC (apF M T i f++apR M T i f j))])) (C:=fun j=>j≤T.length) (μ:=fun j=>T.length - j) 0 (by omega) (Ref.to (by simp [apR]) (by simp [sub,fget,apR])) ?_
   intro j hj
   have hrl:=apR_len M T i f j
   have hll:(apF M T i f++apR M T i f j).length=f*T.length+j:=by rw [List.length_append,hfl2,hrl]
   have hst:=apR_succ M T i f j
   generalize hL:apF M T i f++apR M T i f j=L at *
   refine RN ?_
   refine ⟨fun hc2=>?_,fun hc2=>?_⟩
   ·have hjl:j<T.length:=by omega
    have g1:=tmt_at T j hjl
    have g2:=tmt_any T j hjl
    have h3:=hT.len j hjl
    have hl6:(flt (T.getD j [])).length=6:=by rw [flt_len,h3]
    have g4:(flt (T.getD j [])).getD (i*2) 0=(tg T j i).1:=flt_at0 (T.getD j []) i
    have g5:(flt (T.getD j [])).getD (i*2+1) 0=(tg T j i).2:=flt_at1 (T.getD j []) i
    obtain ⟨o1,o2,o3,o4,_⟩:=hT.ok j i hjl hi3
    have hvb:=apV_g hM hT hi3 hff hjl
    refine RN ?_
    simp only [g1,g2,go_sem,↓reduceIte,Nat.reduceEqDiff,Nat.reduceAdd,reduceCtorEq]
    refine RN ?_
    simp only [g4,g5,go_sem,↓reduceIte,Nat.reduceEqDiff,Nat.reduceAdd,reduceCtorEq]
    have hv:apV M T i f j=(if 0≤(tg T j i).2 then (M.getD (tg T j i).2.toNat []).getD f 0 else (f:Int))*T.length+(tg T j i).1:=rfl
    generalize hx:tg T j i=x at *
    have hrow:0≤x.2→f<(M.getD x.2.toNat []).length:=fun h=>by
     obtain ⟨r1,_⟩:=hM.rows x.2.toNat (by omega)
     omega
    refine RN ?_
    refine ⟨fun hc3=>?_,fun hc3=>?_⟩
    ·have hr2:=hrow hc3
     rw [if_pos hc3] at hv
     refine RN ?_
     simp only [g4]
     refine ⟨j+1,by omega,by omega,?_⟩
     rw [hst,← List.append_assoc,hL,hv]
     refine Ref.gc [0,1,2,3,4,7] rfl ?_ (by simp [sub,fget,go_sem,↓reduceIte,Nat.reduceEqDiff,Nat.reduceAdd,reduceCtorEq];omega)
     (try simp only [go_sem,↓reduceIte,Nat.reduceEqDiff,Nat.reduceAdd,reduceCtorEq,take_ints_len,one_intsC,app_intsC])
    ·rw [if_neg (by omega)] at hv
     refine RN ?_
     simp only [g4]
     refine ⟨j+1,by omega,by omega,?_⟩
     rw [hst,← List.append_assoc,hL,hv]
     refine Ref.gc [0,1,2,3,4,7] rfl ?_ (by simp [sub,fget,go_sem,↓reduceIte,Nat.reduceEqDiff,Nat.reduceAdd,reduceCtorEq];omega)
     (try simp only [go_sem,↓reduceIte,Nat.reduceEqDiff,Nat.reduceAdd,reduceCtorEq,take_ints_len,one_intsC,app_intsC])
   ·obtain rfl:j=T.length:=by omega
    have hs2:=apF_succ M T i f
    refine RN ?_
    refine ⟨f+1,by omega,by omega,?_⟩
    rw [hs2,hL]
    exact Ref.frame (by simp [sub,fget])
  ·obtain rfl:f=fl M:=by omega
   have hs3:=apM_succ M T i
   have hlb:(apF M T i (fl M)).length≤1200000:=by rw [apF_len];exact Nat.mul_le_mul hn4 hT2
   refine RN ?_
   refine ⟨i+1,by omega,by omega,?_⟩
   rw [hs3]
   refine (Ref.close 7 i 5 (k:=1) (n:=(apF M T i (fl M)).length) (cs2:=intsC (apF M T i (fl M))) rfl (by rw [List.getElem?_append_right (by simp [hml])];simp [hml]) rfl (by decide) (by simp [intsC])).trans (Ref.gc [0,1,2,3,7] rfl ?_ (by simp [sub,fget,go_sem,↓reduceIte,Nat.reduceEqDiff,Nat.reduceAdd,reduceCtorEq]))
   (try simp only [go_sem,↓reduceIte,Nat.reduceEqDiff,Nat.reduceAdd,reduceCtorEq])
   have hset:∀ x y:AV,((apM M T i).map oints++[x]).set i y=(apM M T i).map oints++[y]:=fun x y=>by
    rw [List.set_append_right _ _ (by simp [hml])];simp [hml]
   rw [List.take_of_length_le (by simp [hml]),rnmL_orows,hset]
   simp
 ·obtain rfl:i=3:=by omega
  (refine RN ?_;try with_reducible exact trivial)
end
section
open Go.Gov Go.Ce Go.Nt
open Classical
theorem mvg_of {M:List (List Int)}(h:IsMap M)(h4:fl M≤400):Mvg M:=⟨h.2,by omega,fun k hk=>by
 have hI:=h.mvi
 refine ⟨hI.row k hk,fun f hf=>?_⟩
 have:=hI.lt k f hk hf
 rw [hI.val k f hk hf]
 omega⟩
theorem moM_n {l:List UInt8}{c:Int}(h:moC l=c)(hc:c≠0):moM l=[]:=by
 unfold moM
 rw [h,if_neg hc]
theorem moM_y {l:List UInt8}(h:moC l=0):moM l=moF (ntO l) (seedM (ntS l)):=by
 unfold moM
 rw [if_pos h]
theorem moF_step (o:List UInt8)(M:List (List Int)){j:Nat}(h0:0<j)(h:j≤o.length):moF (o.drop (j - 1)) M=apM (moF (o.drop j) M) (wT (wdI (o.getD (j - 1) 0).toNat)) 3:=by
 have e:o.drop (j - 1)=o.getD (j - 1) 0 :: o.drop j:=by
  rw [List.drop_eq_getElem_cons (by omega),List.getD_eq_getElem?_getD,List.getElem?_eq_getElem (by omega)]
  rw [show j - 1+1=j by omega]
  rfl
 rw [e]
 rfl
theorem l15Map_c (l:List UInt8)(hs:l.length≤1048576):Pure Tryz.prog 36 [sV l] (moA l) []:=by
 have h:=l15Seed_c l (by omega)
 have hl:=nt_len l
 have hsl:=nt_slen l
 by_cases hk:NtOk l
 ·have hb:=l15Basic_c l (ntO l).length hl (by omega)
  rw [nt_take,nt_drop] at hb
  have hc:=l15Counts_p (ntO l) (ntS l) hk.1 hk.2 (by omega)
  rw [if_pos hk] at h
  by_cases hg:400<4*(cnt (basL (ntO l)) (seedC (ntS l))).2.1
  ·have hmc:moC l=3:=by unfold moC;rw [if_pos hk,if_pos hg]
   unfold moA
   rw [moM_n hmc (by decide),hmc]
   have hcb:=(cnt_b (ntO l) (ntS l) hk.1 hk.2 0).2.2
   rw [List.drop_zero] at hcb
   generalize cnt (basL (ntO l)) (seedC (ntS l))=c at hc hg hcb ⊢
   refine pureRV ok36 rfl ?_;unfold c36
   refine RN ?_
   refine pureC1 (h) ?_
   (iterate 16 ((try (refine RN ?_;try with_reducible exact trivial));(try with_reducible refine fun _=>?_)))
   refine pureC1 (hb) ?_
   (iterate 16 ((try (refine RN ?_;try with_reducible exact trivial));(try with_reducible refine fun _=>?_)))
   refine pureC1 (hc) ?_
   (iterate 16 ((try (refine RN ?_;try with_reducible exact trivial));(try with_reducible refine fun _=>?_)))
   refine ⟨fun _=>?_,fun h=>absurd h (by omega)⟩
   refine RN ?_
   exact (Ref.gc [] (F' := [(0,.tup [.agg [nilS],i64 3])]) (H' := []) rfl (by simp only [go_sem,↓reduceIte,Nat.reduceEqDiff,Nat.reduceAdd,reduceCtorEq]) (by simp [sub,fget,go_sem,↓reduceIte,Nat.reduceEqDiff,Nat.reduceAdd,reduceCtorEq])).trans ((Ref.nilC1 1).trans ((Ref.dead (F' := [(0,.tup [maniA [],i64 3])]) (by simp [sub,fget,frzF,maniA,mat,go_sem,↓reduceIte,Nat.reduceEqDiff,Nat.reduceAdd,reduceCtorEq])).trans (Ref.gc [] rfl rfl (by simp [sub,fget,go_sem,↓reduceIte,Nat.reduceEqDiff,Nat.reduceAdd,reduceCtorEq]))))
  ·have h0:moC l=0:=by unfold moC;rw [if_pos hk,if_neg hg]
   unfold moA
   rw [moM_y h0,h0]
   have hcb:=(cnt_b (ntO l) (ntS l) hk.1 hk.2 0).2
   rw [List.drop_zero] at hcb
   obtain ⟨a,b,d1,d2,d3,d4,d5,d6,d7⟩:=mo_few h0
   have hd:=l15Diagram_p (ntS l) hk.2 (by omega)
   rw [d1] at hd
   have hu:=universalPolytope_p a b d2 d3
   rw [d4,if_pos rfl] at hu
   rw [d5]
   generalize uniT a b=T at *
   generalize cnt (basL (ntO l)) (seedC (ntS l))=c at hc hg hcb
   refine pureRV ok36 rfl ?_;unfold c36
   refine RN ?_
   refine pureC1 (h) ?_
   (iterate 16 ((try (refine RN ?_;try with_reducible exact trivial));(try with_reducible refine fun _=>?_)))
   refine pureC1 (hb) ?_
   (iterate 16 ((try (refine RN ?_;try with_reducible exact trivial));(try with_reducible refine fun _=>?_)))
   refine pureC1 (hc) ?_
   (iterate 16 ((try (refine RN ?_;try with_reducible exact trivial));(try with_reducible refine fun _=>?_)))
   simp only [List.take_length,nt_drop]
   refine pureC1 (hd) ?_
   refine RN ?_
   refine CallsX.ice 2 ?_
   refine call_pureG hu (by simp only [go_sem,↓reduceIte,Nat.reduceEqDiff,Nat.reduceAdd,reduceCtorEq]<;>rfl) ?_
   refine RN ?_
   refine V_loop (α:=Nat) (S:=fun j=>([(0,sV l),(2,.ref 0 0),(5,.ref 1 0),(6,i64 0),(7,i64 ((j:Int) - 1))],[some [nilS],some [mat (moF ((ntO l).drop j) T)]])) (C:=fun j=>j≤(ntO l).length) (μ:=fun j=>j) (ntO l).length (Nat.le_refl _) ?_ ?_
   ·rw [List.drop_length]
    exact Ref.gc2 [0,3]
   intro j hj
   refine RN ?_
   refine ⟨fun hc1=>?_,fun hc1=>?_⟩
   ·have hst:=moF_step (ntO l) T (j:=j) (by omega) hj
    have hbm:(ntO l).getD (j - 1) 0∈ntO l:=getD_mem8 (by omega)
    have hop:=op_mem (nt_ops l _ hbm)
    have hlo:l.getD (j - 1) 0=(ntO l).getD (j - 1) 0:=by
     conv=>lhs;rw [← nt_app l]
     exact getD_app1 (by omega)
    have hfl:=Nat.le_trans (Nat.mul_le_mul_left (fl T) (opZ_drop (ntO l) (nt_ops l) j)) d7
    obtain ⟨m1,m2⟩:=moF_ok d6 ((ntO l).drop j) (fun b hb=>nt_ops l b (List.mem_of_mem_drop hb)) hfl
    have hmv:=mvg_of m1 (by omega)
    have hnm:=l14Named_c (((ntO l).getD (j - 1) 0).toNat:Int) hop
    have htp:=(wd_ok _ hop).1
    have hap:=l14Apply_g _ _ hmv htp
    have ej:((j:Int) - 1).toNat=j - 1:=by omega
    rw [← hlo] at hst hnm hap
    obtain ⟨X,hX⟩:∃ X,X=moF ((ntO l).drop j) T:=⟨_,rfl⟩
    rw [← hX] at hst hap ⊢
    (repeat first | simp only [ej,go_sem,↓reduceIte,Nat.reduceEqDiff,Nat.reduceAdd,reduceCtorEq] | refine RX ?_ | decide)
    refine pureC1 (hnm) ?_
    refine RN ?_
    refine pureC1 (hap) ?_
    refine RN ?_
    refine ⟨j - 1,by omega,by omega,?_⟩
    rw [hst]
    have hm3:=apM_len X (wT (wdI (l.getD (j - 1) 0).toNat)) 3
    generalize apM X (wT (wdI (l.getD (j - 1) 0).toNat)) 3=Y at *
    refine Ref.sel [0,1] rfl ?_ ?_
    ·simp only [go_sem,↓reduceIte,Nat.reduceEqDiff,Nat.reduceAdd,reduceCtorEq,frz_im _ _ Y 3 hm3]
     simp [mat,hm3]
    ·simp [sub,fget,go_sem,↓reduceIte,Nat.reduceEqDiff,Nat.reduceAdd,reduceCtorEq];omega
   ·obtain rfl:j=0:=by omega
    rw [List.drop_zero]
    refine RN ?_
    exact Ref.gc2 []
 ·rw [if_neg hk] at h
  have hmc:moC l=6:=by unfold moC;rw [if_neg hk]
  unfold moA
  rw [moM_n hmc (by decide),hmc]
  refine pureRV ok36 rfl ?_;unfold c36
  refine RN ?_
  refine pureC1 (h) ?_
  refine RN ?_
  refine ⟨fun _=>?_,fun h=>absurd h (by decide)⟩
  refine RN ?_
  exact (Ref.gc [] (F' := [(0,.tup [.agg [nilS],i64 6])]) (H' := []) rfl (by simp only [go_sem,↓reduceIte,Nat.reduceEqDiff,Nat.reduceAdd,reduceCtorEq]) (by simp [sub,fget,go_sem,↓reduceIte,Nat.reduceEqDiff,Nat.reduceAdd,reduceCtorEq])).trans ((Ref.nilC1 1).trans ((Ref.dead (F' := [(0,.tup [maniA [],i64 6])]) (by simp [sub,fget,frzF,maniA,mat,go_sem,↓reduceIte,Nat.reduceEqDiff,Nat.reduceAdd,reduceCtorEq])).trans (Ref.gc [] rfl rfl (by simp [sub,fget,go_sem,↓reduceIte,Nat.reduceEqDiff,Nat.reduceAdd,reduceCtorEq]))))
end
section
open Go.Gov Go.Ce Go.Nt
open Classical
variable (tp tq:TypeId) (p q:Value)
theorem mapOfNotation_c (l:List UInt8)(hs:l.length≤1048576):PureG Tryz.prog (LV tp tq p q) 35 [sV l] (.tup [.agg [.sl 0 1 0 (moM l).length],i64 (moC l)]) [some ((moM l).map oints)]:=by
 have h:=parse_c tp tq p q l (by omega)
 have hsl:=nt_slen l
 by_cases hk:NtOk l
 ·have hc:=counts_p (ntO l) (ntS l) hk.1 hk.2
  have hcb:=(cnt_b (ntO l) (ntS l) hk.1 hk.2 0).2
  rw [List.drop_zero] at hcb
  by_cases hg:400<4*(cnt (basL (ntO l)) (seedC (ntS l))).2.1
  ·have hmc:moC l=3:=by unfold moC;rw [if_pos hk,if_pos hg]
   rw [moM_n hmc (by decide),hmc]
   generalize cnt (basL (ntO l)) (seedC (ntS l))=c at hc hg hcb ⊢
   refine pureGV ok35 rfl ?_;unfold c35
   refine RN ?_
   refine pureGEC1 (h) fun o ho=>?_
   obtain ⟨⟨a,b,c1⟩,d⟩:=o
   obtain ⟨ho1,ho2⟩:=ho
   dsimp only at ho1 ho2
   subst ho1
   obtain ⟨rfl,rfl,rfl⟩:a=ntO l∧b=ntS l∧c1=(if (ntS l).length=1 then 0 else numS (ntS l)):=by have:=ho2 hk;simpa using this
   rw [decide_eq_true hk]
   clear ho2 h
   generalize (if (ntS l).length=1 then 0 else numS (ntS l))=z at hc ⊢
   refine RN ?_
   refine pureC1 (hc) ?_
   refine RN ?_
   refine ⟨fun _=>?_,fun h=>absurd h (by omega)⟩
   refine RN ?_
   exact (Ref.gc [] (F' := [(0,.tup [.agg [nilS],i64 3])]) (H' := []) rfl (by simp only [go_sem,↓reduceIte,Nat.reduceEqDiff,Nat.reduceAdd,reduceCtorEq]) (by simp [sub,fget,go_sem,↓reduceIte,Nat.reduceEqDiff,Nat.reduceAdd,reduceCtorEq])).trans ((Ref.nilC1 1).trans (Ref.to1))
  ·have h0:moC l=0:=by unfold moC;rw [if_pos hk,if_neg hg]
   rw [moM_y h0,h0]
   obtain ⟨a,b,d1,d2,d3,d4,d5,d6,d7⟩:=mo_few h0
   have hd:=diagram_p (ntS l) (ntO l) hk.2 (by omega)
   rw [d1] at hd
   have hu:=universalI_p a b d2 d3 (uni_ok d4).1 d6.1
   rw [d5]
   generalize uniT a b=T at *
   generalize cnt (basL (ntO l)) (seedC (ntS l))=c at hc hg hcb
   refine pureGV ok35 rfl ?_;unfold c35
   refine RN ?_
   refine pureGEC1 (h) fun o ho=>?_
   obtain ⟨⟨a1,b1,c1⟩,d⟩:=o
   obtain ⟨ho1,ho2⟩:=ho
   dsimp only at ho1 ho2
   subst ho1
   obtain ⟨rfl,rfl,rfl⟩:a1=ntO l∧b1=ntS l∧c1=(if (ntS l).length=1 then 0 else numS (ntS l)):=by have:=ho2 hk;simpa using this
   rw [decide_eq_true hk]
   clear ho2 h
   generalize (if (ntS l).length=1 then 0 else numS (ntS l))=z at hc hd ⊢
   refine RN ?_
   refine pureC1 (hc) ?_
   refine RN ?_
   intro _
   refine RN ?_
   refine pureC1 (hd) ?_
   refine RN ?_
   refine pureC1 (hu) ?_
   refine RN ?_
   refine V_loop (α:=Nat) (S:=fun j=>([(2,.ref 1 0),(4,.ref 2 0),(6,.ref 3 0),(8,i64 ((j:Int) - 1))],[some (gvs (LV tp tq p q)),some [nilS],some [sV (ntO l),sV (ntS l),i64 z],some [.sl 4 1 0 3],some ((moF ((ntO l).drop j) T).map oints)])) (C:=fun j=>j≤(ntO l).length) (μ:=fun j=>j) (ntO l).length (Nat.le_refl _) ?_ ?_
   ·rw [List.drop_length]
    exact Ref.gc2 [0,1,2,6,5]
   intro j hj
   refine RN ?_
   refine ⟨fun hc1=>?_,fun hc1=>?_⟩
   ·have hst:=moF_step (ntO l) T (j:=j) (by omega) hj
    have hbm:(ntO l).getD (j - 1) 0∈ntO l:=getD_mem8 (by omega)
    have hop:=op_mem (nt_ops l _ hbm)
    have hfl:=Nat.le_trans (Nat.mul_le_mul_left (fl T) (opZ_drop (ntO l) (nt_ops l) j)) d7
    obtain ⟨m1,m2⟩:=moF_ok d6 ((ntO l).drop j) (fun b hb=>nt_ops l b (List.mem_of_mem_drop hb)) hfl
    have hmv:=mvg_of m1 (by omega)
    have hnm:=named_c (((ntO l).getD (j - 1) 0).toNat:Int) hop
    have htp:=(wd_ok _ hop).1
    have hap:=applyTemplate_g _ _ hmv htp
    have ej:((j:Int) - 1).toNat=j - 1:=by omega
    obtain ⟨X,hX⟩:∃ X,X=moF ((ntO l).drop j) T:=⟨_,rfl⟩
    rw [← hX] at hst hap ⊢
    have hx3:X.length=3:=by rw [hX];exact m1.2
    (repeat first | simp only [ej,go_sem,↓reduceIte,Nat.reduceEqDiff,Nat.reduceAdd,reduceCtorEq] | refine RX ?_ | decide)
    refine pureC1 (hnm) ?_
    refine RN ?_
    refine pureC hap (by simp only [go_sem,↓reduceIte,Nat.reduceEqDiff,Nat.reduceAdd,reduceCtorEq,frz_im _ _ X 3 hx3];first | done | (simp only [maniA,mat,hx3];done) | (simp only [maniA,mat,hx3];rfl)) (by first | rfl | simp only [go_sem,↓reduceIte,Nat.reduceEqDiff,Nat.reduceAdd,reduceCtorEq]) ?_
    refine RN ?_
    refine ⟨j - 1,by omega,by omega,?_⟩
    rw [hst]
    have hm3:=apM_len X (wT (wdI ((ntO l).getD (j - 1) 0).toNat)) 3
    generalize apM X (wT (wdI ((ntO l).getD (j - 1) 0).toNat)) 3=Y at *
    refine Ref.gc [0,1,2,3,6] rfl (by simp only [go_sem,↓reduceIte,Nat.reduceEqDiff,Nat.reduceAdd,reduceCtorEq]) ?_
    simp [sub,fget,go_sem,↓reduceIte,Nat.reduceEqDiff,Nat.reduceAdd,reduceCtorEq];omega
   ·obtain rfl:j=0:=by omega
    have hm3:=(moF_ok d6 (ntO l) (nt_ops l) d7).1.2
    rw [List.drop_zero,hm3]
    refine RN ?_
    exact Ref.gc2 [4]
 ·have hmc:moC l=6:=by unfold moC;rw [if_neg hk]
  rw [moM_n hmc (by decide),hmc]
  refine pureGV ok35 rfl ?_;unfold c35
  refine RN ?_
  refine pureGEC1 (h) fun o ho=>?_
  obtain ⟨⟨a,b,c⟩,d⟩:=o
  obtain ⟨ho1,ho2⟩:=ho
  dsimp only at ho1 ho2
  subst ho1
  rw [decide_eq_false hk]
  refine RN ?_
  exact (Ref.gc [] (F' := [(0,.tup [.agg [nilS],i64 6])]) (H' := []) rfl (by simp only [go_sem,↓reduceIte,Nat.reduceEqDiff,Nat.reduceAdd,reduceCtorEq]) (by simp [sub,fget,go_sem,↓reduceIte,Nat.reduceEqDiff,Nat.reduceAdd,reduceCtorEq])).trans ((Ref.nilC1 1).trans (Ref.to1))
end
end Go.Proofs.YtfcbamfkfadabaaGreatDoor
