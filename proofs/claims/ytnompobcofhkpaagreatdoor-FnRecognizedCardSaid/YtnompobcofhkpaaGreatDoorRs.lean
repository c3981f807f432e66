/- Texts that belong together. -/
import Derived.Test.YtnompobcofhkpaaGreatDoorT9
import Derived.Test.YtnompobcofhkpaaGreatDoorRg
import Derived.Test.YtnompobcofhkpaaGreatDoorRp
set_option maxHeartbeats 16000000
set_option linter.unusedSimpArgs false
set_option linter.unusedVariables false
set_option maxRecDepth 100000
namespace Go.Proofs.YtnompobcofhkpaaGreatDoor
open Go.Gov Go.Ce
open Classical
theorem Tx {a b:Nat}:Nat.beq a b=true ↔ a=b:=⟨Nat.eq_of_beq_eq_true,Fb⟩
theorem rD {a b:Nat}:Nat.ble a b=true ↔ a≤b:=⟨Nat.le_of_ble_eq_true,Nat.ble_eq_true_of_le⟩
theorem Aaa {M : List (List Int)} {t : Nat → Nat → Nat} {m : Nat} (hl : M.length = 3) (hr : ∀ g, g < 3 → (M.getD g []).length = m)
    (ht:∀ g j,g<3→j<m→(M.getD g []).getD j 0=(t g j:Nat)∧t g j<m) (h2:2≤m) (h4:m≤400) (hc:bX t m=true):IsMap M:=by
 have hck:∀ j,j<m→(∀ g,g<3→t g (t g j)=j∧t g j≠j)∧t 2 (t 0 j)=t 0 (t 2 j)∧t 0 j≠t 2 j∧(j=0∨t 0 j<j∨t 1 j<j∨t 2 j<j):=fun j hj=>by
  have h:=Nm hc hj
  simp only [Bool.and_eq_true,Bool.or_eq_true,Bool.not_eq_true', Tx,rD] at h
  obtain ⟨h1,h2,h3,h4⟩:=h
  refine ⟨fun g hg=>?_,h2,(fun e=>by rw [Fb e] at h3;cases h3),by omega⟩
  have:=Nm h1 hg
  simp only [Bool.and_eq_true,Bool.not_eq_true', Tx] at this
  exact ⟨this.1,fun e=>by rw [Fb e] at this;cases this.2⟩
 have hmv:∀ g j,g<3→j<m→mv M g j=t g j:=fun g j hg hj=>by
  unfold mv
  rw [(ht g j hg hj).1,Int.toNat_natCast]
 have hI:Gb m M:=by
  refine ⟨hl,hr,fun i x hi hx=>?_,fun i x hi hx=>?_,fun i x hi hx=>?_,fun i x hi hx=>?_,fun x hx=>?_,fun x hx=>?_⟩
  ·rw [hmv i x hi hx];exact (ht i x hi hx).1
  ·rw [hmv i x hi hx];exact (ht i x hi hx).2
  ·rw [hmv i x hi hx,hmv i _ hi (ht i x hi hx).2];exact ((hck x hx).1 i hi).1
  ·rw [hmv i x hi hx];exact ((hck x hx).1 i hi).2
  ·rw [hmv 0 x (by omega) hx,hmv 2 x (by omega) hx,hmv 2 _ (by omega) (ht 0 x (by omega) hx).2,hmv 0 _ (by omega) (ht 2 x (by omega) hx).2];exact (hck x hx).2.1
  ·rw [hmv 0 x (by omega) hx,hmv 2 x (by omega) hx];exact (hck x hx).2.2.1
 refine IsMap.of hI h2 h4 fun x=>?_
 induction x using Nat.strongRecOn with
 | _ x ih=>
  intro hx
  have hstep:∀ g,g<3→t g x<x→Rch M 0 x:=fun g hg hlt=>by
   have h1:=ih (t g x) hlt (by omega)
   have h3:=h1.step (p:=M.getD g []) (by
    rw [List.getD_eq_getElem?_getD,List.getElem?_eq_getElem (by omega)]
    exact List.getElem_mem _)
   rw [(ht g _ hg (by omega)).1,Int.toNat_natCast,((hck x hx).1 g hg).1] at h3
   exact h3
  rcases (hck x hx).2.2.2 with h | h | h | h
  ·subst h;exact .refl
  ·exact hstep 0 (by omega) h
  ·exact hstep 1 (by omega) h
  ·exact hstep 2 (by omega) h
theorem Ak0 {a b e:Nat}(ha:a≤32)(hb:b≤32)(h1:1≤e)(h2:e≤100)(h:If a b e=true):Ex a b=0∧IsMap (Ch a b)∧fl (Ch a b)=4*e:=by
 unfold If at h
 rw [show Pa a b=An a b from rfl] at h
 simp only [Bool.and_eq_true,Bool.not_eq_true', Tx] at h
 obtain ⟨c1,c2,c3⟩:=h
 have hlet:∀ k,k<(An a b).length→Ca 3 ((An a b).getD k []):=fun k hk=>(Ws a b ha hb k hk).1
 have hR:=tW (G:=3) (by omega) hlet
 have hbad:(Ba 3 (An a b)).bad=false:=by rw [← hR.bad];exact c1
 have hE:=Uw (G:=3) (by omega) hlet hbad
 have hO:=kX hE hR
 have hm:(B7 3 (Ba 3 (An a b))).length=4*e:=by rw [← hO.m];exact c2
 have hM:IsMap (Ch a b):=by
  refine Aaa (M4 _ _) (fun g hg=>by rw [← hm];exact Lj hg) (fun g j hg hj=>?_) (by omega) (by omega) c3
  have:=Akm hE hR (g:=g) (j:=j) hg (by omega)
  rw [hm] at this
  exact this
 refine ⟨?_,hM,by rw [← hm];exact Lj (by omega)⟩
 unfold Ex
 rw [if_pos ⟨hbad,by omega⟩,if_pos hM.1]
end Go.Proofs.YtnompobcofhkpaaGreatDoor
namespace Go.Gov
variable {N:Nat} {g:Gh} {F:Frame} {H:Heap} {a:Act} {w:World} {n0:Nat}
theorem Ref.nilC1 (k:Nat){y:AV}:Ref n0 [(0,.tup [.agg [Ai],y])] H [(0,.tup [.agg [.sl H.length k 0 0],y])] (H++[some []]):=fun N g a w hR=>by
 have hm:=R7 hR.hp
 refine ⟨_,⟨fun i=>?_,hm.hp,hR.size,hR.defers⟩,hm.toN⟩
 simp only [Dl]
 by_cases e:0=i
 ·subst e
  rw [if_pos rfl]
  have h1:=hm.lift _ _ (hR.fr 0)
  simp only [Dl,if_true] at h1
  generalize a.tmps.getD 0 undef=v at h1 ⊢
  cases h1 with
  | tup hl hr=>
   rename_i vs
   refine .tup (by simpa using hl) fun m hm' => ?_
   match m,hm' with
   | 0,_=>
    have h2:=hr 0 (by simp)
    simp only [List.getElem_cons_zero] at h2 ⊢
    generalize vs.getD 0 undef=v0 at h2 ⊢
    cases h2 with
    | agg hl2 hr2=>
     refine .agg (by simpa using hl2) fun m2 hm2=>?_
     match m2,hm2 with
     | 0,_=>
      have h3:=hr2 0 (by simp)
      simp only [List.getElem_cons_zero] at h3 ⊢
      exact Aa5 hR.hp k h3
   | 1,_=>exact hr 1 (by simp)
 ·rw [if_neg e];exact .any
end Go.Gov
namespace Go.Proofs.YtnompobcofhkpaaGreatDoor
section
open Go.Gov Go.Ce Go.Nt
open Classical
theorem Ak1 {a b:Nat}(h:Ex a b=0):Kg 3 (An a b)∧IsMan (Ch a b):=by
 unfold Ex at h
 split at h
 ·rename_i h1
  split at h
  ·rename_i h2;exact ⟨h1,h2⟩
  ·cases h
 ·cases h
theorem Ai9 {s:List UInt8}(h:Dh s):∃ a b e:Nat,Er s=[(a:Int),(b:Int)]∧(2≤a∧a≤32)∧(2≤b∧b≤32)∧(Aw s).2.1=(e:Int)∧1≤e∧e≤30∧Ex a b=0∧IsMap (Ch a b)∧fl (Ch a b)=4*e:=by
 have fin:∀ a b e:Nat,a≤32→b≤32→1≤e→e≤30→If a b e=true→Ex a b=0∧IsMap (Ch a b)∧fl (Ch a b)=4*e:=fun a b e ha hb h1 h2 hc=>Ak0 ha hb h1 (by omega) hc
 rcases h with ⟨b,rfl,hb⟩ | ⟨b,r,rfl,hb,h2,h3⟩
 ·have hb2 : b = 84 ∨ b = 67 ∨ b = 79 ∨ b = 68 ∨ b = 73 := by
    unfold Mw at hb
    rw [List.contains_iff_mem] at hb
    simpa using hb
  rcases hb2 with rfl | rfl | rfl | rfl | rfl
  ·exact ⟨3,3,6,rfl,by omega,by omega,rfl,by omega,by omega,fin 3 3 6 (by omega) (by omega) (by omega) (by omega) rY⟩
  ·exact ⟨4,3,12,rfl,by omega,by omega,rfl,by omega,by omega,fin 4 3 12 (by omega) (by omega) (by omega) (by omega) sB⟩
  ·exact ⟨3,4,12,rfl,by omega,by omega,rfl,by omega,by omega,fin 3 4 12 (by omega) (by omega) (by omega) (by omega) rZ⟩
  ·exact ⟨5,3,30,rfl,by omega,by omega,rfl,by omega,by omega,fin 5 3 30 (by omega) (by omega) (by omega) (by omega) sC⟩
  ·exact ⟨3,5,30,rfl,by omega,by omega,rfl,by omega,by omega,fin 3 5 30 (by omega) (by omega) (by omega) (by omega) sA⟩
 ·obtain ⟨v,hv⟩:∃ v:Nat,D1 r=(v+2:Nat):=⟨(D1 r - 2).toNat,by omega⟩
  have hn:Bb (b :: r)=((v+2:Nat):Int):=hv
  have hv2:v<29:=by omega
  rcases hb with rfl | rfl
  ·refine ⟨2,v+2,v+2,?_,by omega,by omega,?_,by omega,by omega,fin 2 (v+2) (v+2) (by omega) (by omega) (by omega) (by omega) (Nm sD hv2)⟩
   ·show [2,Bb (72 :: r)]=_
    rw [hn];rfl
   ·show Bb (72 :: r)=_
    exact hn
  ·refine ⟨v+2,2,v+2,?_,by omega,by omega,?_,by omega,by omega,fin (v+2) 2 (v+2) (by omega) (by omega) (by omega) (by omega) (Nm sE hv2)⟩
   ·show [Bb (90 :: r),2]=_
    rw [hn];rfl
   ·show Bb (90 :: r)=_
    exact hn
noncomputable def Hu (o:List UInt8)(M:List (List Int)):List (List Int):=o.foldr (fun b m=>Bc m (wT (B0 b.toNat)) 3) M
def Fl (o:List UInt8):Nat:=o.foldr (fun b a=>(wT (B0 b.toNat)).length*a) 1
theorem Wf {b:UInt8}(h:C0 b=true):(b.toNat:Int)∈Ip:=by
 unfold C0 at h
 rw [List.contains_iff_mem] at h
 simp only [List.mem_cons,List.not_mem_nil,or_false] at h
 rcases h with rfl | rfl | rfl | rfl | rfl | rfl | rfl | rfl | rfl | rfl | rfl | rfl<;>decide
theorem Afy {b:UInt8}(h:C0 b=true):Dk (C8 b).reverse=(wT (B0 b.toNat)).length:=by
 unfold C0 at h
 rw [List.contains_iff_mem] at h
 simp only [List.mem_cons,List.not_mem_nil,or_false] at h
 rcases h with rfl | rfl | rfl | rfl | rfl | rfl | rfl | rfl | rfl | rfl | rfl | rfl<;>rfl
theorem I9 (l:List UInt8):∀ b∈Al l,C0 b=true:=fun b hb=>List.all_eq_true.1 List.all_takeWhile b hb
theorem Sh:∀ o:List UInt8,(∀ b∈o,C0 b=true)→Dk (Aq o)=Fl o
 | [],_=>rfl
 | b :: o,h=>by
  have ih:=Sh o fun x hx=>h x (by simp [hx])
  show Dk ((C8 b).reverse++Aq o)=(wT (B0 b.toNat)).length*Fl o
  rw [Qt,ih,Afy (h b (by simp))]
theorem Afx {M:List (List Int)}(hM:IsMap M){n:Int}(h:n∈Ip)(h4:fl M*(wT (B0 n)).length≤400):IsMap (Bc M (wT (B0 n)) 3)∧fl (Bc M (wT (B0 n)) 3)=fl M*(wT (B0 n)).length:=by
 obtain ⟨h1,h2,h3,_,h5,h6⟩:=Na n h
 have he:=iV hM h5 h6 (B0 n).length h3 (Nat.le_refl _)
 rw [List.take_length] at he
 rw [← he,oI h3]
 rw [oI h3] at h4
 exact iT (B0 n) M hM (Aam h5) h4
theorem Ot {M:List (List Int)}(hM:IsMap M):∀ o:List UInt8,(∀ b∈o,C0 b=true)→fl M*Fl o≤400→IsMap (Hu o M)∧fl (Hu o M)=fl M*Fl o
 | [],_,_=>⟨hM,by simp [Hu,Fl]⟩
 | b :: o,h,h4=>by
  have hr:∀ x∈o,C0 x=true:=fun x hx=>h x (by simp [hx])
  have hb:=Wf (h b (by simp))
  have e:Fl (b :: o)=(wT (B0 b.toNat)).length*Fl o:=rfl
  have hp:=(Na _ hb).1.p1
  rw [e] at h4 ⊢
  have h5:fl M*Fl o≤400:=Nat.le_trans (Nat.mul_le_mul_left _ (Nat.le_mul_of_pos_left _ (by omega))) h4
  obtain ⟨i1,i2⟩:=Ot hM o hr h5
  have e2:fl M*((wT (B0 b.toNat)).length*Fl o)=fl M*Fl o*(wT (B0 b.toNat)).length:=by rw [Nat.mul_comm (wT _).length,Nat.mul_assoc]
  rw [e2] at h4 ⊢
  have:=Afx i1 hb (by rw [i2];exact h4)
  rw [i2] at this
  exact this
theorem kV (o:List UInt8)(h:∀ b∈o,C0 b=true)(j:Nat):Fl (o.drop j)≤Fl o:=by
 rw [← Sh o h,← Sh (o.drop j) fun b hb=>h b (List.mem_of_mem_drop hb)]
 unfold Aq
 conv=>rhs;rw [← List.take_append_drop j o,List.flatMap_append,Qt]
 exact Nat.le_mul_of_pos_left _ (dG _)
noncomputable def S2 (s:List UInt8):List (List Int):=Ch ((Er s).getD 0 0).toNat ((Er s).getD 1 0).toNat
noncomputable def B3 (l:List UInt8):Int:=if Dg l then (if 400<4*(Be (Aq (Al l)) (Aw (Au l))).2.1 then 3 else 0) else 6
noncomputable def Bz (l:List UInt8):List (List Int):=if B3 l=0 then Hu (Al l) (S2 (Au l)) else []
noncomputable def Mh (l:List UInt8):AV:=.tup [Ak (Bz l),i64 (B3 l)]
theorem Aar {l:List UInt8}(h:B3 l=0):Dg l∧¬ 400<4*(Be (Aq (Al l)) (Aw (Au l))).2.1:=by
 unfold B3 at h
 split at h
 ·rename_i h1
  split at h
  ·cases h
  ·rename_i h2;exact ⟨h1,h2⟩
 ·cases h
theorem Vw {l:List UInt8}(h:B3 l=0):∃ a b:Nat,Er (Au l)=[(a:Int),(b:Int)]∧(2≤a∧a≤32)∧(2≤b∧b≤32)∧Ex a b=0∧S2 (Au l)=Ch a b∧IsMap (Ch a b)∧fl (Ch a b)*Fl (Al l)≤400:=by
 obtain ⟨h1,h2⟩:=Aar h
 obtain ⟨a,b,e,d1,d2,d3,d4,d5,d6,d7,d8,d9⟩:=Ai9 h1.2
 have hg:=mT h1.2
 obtain ⟨_,c2,_⟩:=cF (Aq (Al l)) (Aw (Au l)) hg.1 hg.2.1
 rw [c2,d4,Sh _ (I9 l)] at h2
 refine ⟨a,b,d1,d2,d3,d7,?_,d8,?_⟩
 ·unfold S2
  rw [d1]
  simp
 ·rw [d9]
  have e3:((4*e*Fl (Al l):Nat):Int)=4*((Fl (Al l):Int)*(e:Int)):=by push_cast;rw [Int.mul_assoc,Int.mul_comm (e:Int)]
  omega
theorem Vx {l:List UInt8}(h:B3 l=0):IsMap (Bz l)∧fl (Bz l)≤400:=by
 obtain ⟨a,b,_,_,_,_,e,h1,h2⟩:=Vw h
 have:=Ot h1 (Al l) (I9 l) h2
 unfold Bz
 rw [if_pos h,e]
 exact ⟨this.1,by omega⟩
end
section
open Go.Gov
open Classical
structure Pw (M:List (List Int)):Prop where
 three:M.length=3
 few:fl M≤100000
 rows:∀ k,k<3→(M.getD k []).length=fl M∧∀ f,f<fl M→0≤(M.getD k []).getD f 0∧(M.getD k []).getD f 0<(fl M:Int)
theorem Xy {M:List (List Int)}{T:List (List Tg)}(hM:Pw M)(hT:Bs T){i f j:Nat}(hi:i<3)(hf:f<fl M)(hj:j<T.length):0≤Hm M T i f j∧Hm M T i f j≤1300000:=by
 obtain ⟨o1,o2,o3,o4,_⟩:=hT.ok j i hj hi
 have h12:=hT.p2
 have h4:=hM.few
 have hg:0≤(if 0≤(tg T j i).2 then (M.getD (tg T j i).2.toNat []).getD f 0 else (f:Int))∧(if 0≤(tg T j i).2 then (M.getD (tg T j i).2.toNat []).getD f 0 else (f:Int))≤100000:=by
  split
  ·have h3:=hM.three
   obtain ⟨r1,r2⟩:=hM.rows (tg T j i).2.toNat (by omega)
   have:=r2 f hf
   omega
  ·omega
 unfold Hm
 generalize (if 0≤(tg T j i).2 then (M.getD (tg T j i).2.toNat []).getD f 0 else (f:Int))=g at *
 have h5:g*T.length≤100000*12:=Int.mul_le_mul hg.2 (by omega) (by omega) (by omega)
 have h6:0≤g*T.length:=Int.mul_nonneg hg.1 (by omega)
 omega
theorem yB (M:List (List Int))(T:List (List Tg))(hM:Pw M)(hT:Bs T):Pure Tryz.prog 35 [Ak M,M7 T] (.agg [.sl 0 1 0 3]) [some ((Bc M T 3).map Ac)]:=by
 have hM3:M.length=3:=hM.three
 have hn4:=hM.few
 have hT1:=hT.p1
 have hT2:=hT.p2
 have hfe:fl M=(M.getD 0 []).length:=rfl
 have hfl:=Hs M (by omega) (by omega) (by omega)
 refine F6 [4] Adg rfl ?_;unfold Z0
 refine RN ?_
 refine Ah (α:=Nat) (S:=fun i=>([(2,.ref 0 0),(3,.ref 1 0),(4,.ref 2 0),(5,i64 T.length),(6,.ref 3 0),(7,i64 i)],[some [Ae M],some [Cv T],some [Ai],some [.sl 4 1 0 i],some ((Bc M T i).map Ac)])) (C:=fun i=>i≤3) (μ:=fun i=>3 - i) 0 (by omega) ((Ref.nilC 3 0 1 rfl rfl).trans (Ref.to (by simp [Bc]) (by simp [sub,Ab]))) ?_
 intro i hi
 have hml:=Pz M T i
 refine RN ?_
 refine ⟨fun hc=>?_,fun hc=>?_⟩
 ·have hi3:i<3:=by omega
  refine RN ?_
  refine Ah (α:=Nat) (S:=fun f=>([(2,.ref 0 0),(3,.ref 1 0),(4,.ref 2 0),(5,i64 T.length),(6,.ref 3 0),(7,i64 i),(8,.sl 5 1 0 (B9 M T i f).length),(9,i64 f)],[some [Ae M],some [Cv T],some [Ai],some [.sl 4 1 0 i],some ((Bc M T i).map Ac),some (Aa (B9 M T i f))])) (C:=fun f=>f≤fl M) (μ:=fun f=>fl M - f) 0 (by omega) (Ref.to (by simp [Aa,B9]) (by simp [sub,Ab,B9])) ?_
  intro f hf
  have hfl2:=Gx M T i f
  refine RN ?_
  refine Ag (hfl) ?_
  refine RN ?_
  refine ⟨fun hc1=>?_,fun hc1=>?_⟩
  ·have hff:f<fl M:=by omega
   have hfp:f*T.length≤100000*12:=Nat.mul_le_mul (by omega) hT2
   refine RN ?_
   refine Ah (α:=Nat) (S:=fun j=>([(2,.ref 0 0),(3,.ref 1 0),(4,.ref 2 0),(5,i64 T.length),(6,.ref 3 0),(7,i64 i),(8,.sl 5 1 0 (B9 M T i f++Ds M T i f j).length),(9,i64 f),(10,i64 j)],[some [Ae M],some [Cv T],some [Ai],some [.sl 4 1 0 i],some ((Bc M T i).map Ac),some (Aa (B9 M T i f++Ds M T i f j))])) (C:=fun j=>j≤T.length) (μ:=fun j=>T.length - j) 0 (by omega) (Ref.to (by simp [Ds]) (by simp [sub,Ab,Ds])) ?_
   intro j hj
   have hrl:=Tu M T i f j
   have hll:(B9 M T i f++Ds M T i f j).length=f*T.length+j:=by rw [List.length_append,hfl2,hrl]
   have hst:=Xx M T i f j
   generalize hL:B9 M T i f++Ds M T i f j=L at *
   refine RN ?_
   refine ⟨fun hc2=>?_,fun hc2=>?_⟩
   ·have hjl:j<T.length:=by omega
    have g1:=M6 T j hjl
    have g2:=M5 T j hjl
    have h3:=hT.len j hjl
    have g3:=N8 (T.getD j []) i (by omega)
    obtain ⟨o1,o2,o3,o4,_⟩:=hT.ok j i hjl hi3
    have hvb:=Xy hM hT hi3 hff hjl
    refine RN ?_
    simp only [g1,g2,go_sem,↓reduceIte,Nat.reduceEqDiff,Nat.reduceAdd,reduceCtorEq]
    refine RN ?_
    refine And.intro ⟨by rw [G3];omega,by rw [g3];rfl⟩ (And.intro (by rw [List.length_drop,A2,G3];omega) (And.intro (by rw [g3];rfl) ?_))
    simp only [g3,go_sem,↓reduceIte,Nat.reduceEqDiff,Nat.reduceAdd,reduceCtorEq]
    change W _ _ _ _ _ _ _ _
    rw [show (T.getD j []).getD i T0=tg T j i from rfl]
    have hv:Hm M T i f j=(if 0≤(tg T j i).2 then (M.getD (tg T j i).2.toNat []).getD f 0 else (f:Int))*T.length+(tg T j i).1:=rfl
    generalize hx:tg T j i=x at *
    have hrow:0≤x.2→f<(M.getD x.2.toNat []).length:=fun h=>by
     obtain ⟨r1,_⟩:=hM.rows x.2.toNat (by omega)
     omega
    refine RN ?_
    refine ⟨fun hc3=>?_,fun hc3=>?_⟩
    ·have hr2:=hrow hc3
     rw [if_pos hc3] at hv
     refine RN ?_
     refine ⟨j+1,by omega,by omega,?_⟩
     rw [hst,← List.append_assoc,hL,hv]
     refine Ref.gc [0,1,2,3,4,8] rfl ?_ (by simp [sub,Ab,go_sem,↓reduceIte,Nat.reduceEqDiff,Nat.reduceAdd,reduceCtorEq];omega)
     (try simp only [go_sem,↓reduceIte,Nat.reduceEqDiff,Nat.reduceAdd,reduceCtorEq,Pj,Io,Fa])
    ·rw [if_neg (by omega)] at hv
     refine RN ?_
     refine ⟨j+1,by omega,by omega,?_⟩
     rw [hst,← List.append_assoc,hL,hv]
     refine Ref.gc [0,1,2,3,4,8] rfl ?_ (by simp [sub,Ab,go_sem,↓reduceIte,Nat.reduceEqDiff,Nat.reduceAdd,reduceCtorEq];omega)
     (try simp only [go_sem,↓reduceIte,Nat.reduceEqDiff,Nat.reduceAdd,reduceCtorEq,Pj,Io,Fa])
   ·obtain rfl:j=T.length:=by omega
    have hs2:=Py M T i f
    refine RN ?_
    refine ⟨f+1,by omega,by omega,?_⟩
    rw [hs2,hL]
    exact Ref.frame (by simp [sub,Ab])
  ·obtain rfl:f=fl M:=by omega
   have hs3:=Xw M T i
   have hlb:(B9 M T i (fl M)).length≤1200000:=by rw [Gx];exact Nat.mul_le_mul hn4 hT2
   refine RN ?_
   refine ⟨i+1,by omega,by omega,?_⟩
   rw [hs3]
   refine (Ref.close 7 i 5 (k:=1) (n:=(B9 M T i (fl M)).length) (cs2:=Aa (B9 M T i (fl M))) rfl (by rw [List.getElem?_append_right (by simp [hml])];simp [hml]) rfl (by decide) (by simp [Aa])).trans (Ref.gc [0,1,2,3,7] rfl ?_ (by simp [sub,Ab,go_sem,↓reduceIte,Nat.reduceEqDiff,Nat.reduceAdd,reduceCtorEq]))
   (try simp only [go_sem,↓reduceIte,Nat.reduceEqDiff,Nat.reduceAdd,reduceCtorEq])
   have hset:∀ x y:AV,((Bc M T i).map Ac++[x]).set i y=(Bc M T i).map Ac++[y]:=fun x y=>by
    rw [List.set_append_right _ _ (by simp [hml])];simp [hml]
   rw [List.take_of_length_le (by simp [hml]),Lb,hset]
   simp
 ·obtain rfl:i=3:=by omega
  (refine RN ?_;try with_reducible exact trivial)
theorem qK (M:List (List Int))(T:List (List Tg))(hM:Pw M)(hT:Bs T):Pure Tryz.prog 58 [Ak M,M7 T] (.agg [.sl 0 1 0 3]) [some ((Bc M T 3).map Ac)]:=by
 have hM3:M.length=3:=hM.three
 have hn4:=hM.few
 have hT1:=hT.p1
 have hT2:=hT.p2
 have hfe:fl M=(M.getD 0 []).length:=rfl
 have hfl:=I5 M (by omega) (by omega) (by omega)
 have hsz:=nG T (by omega)
 refine F6 [4] Adz rfl ?_;unfold aH
 refine RN ?_
 refine Ag (hsz) ?_
 refine RN ?_
 refine Ah (α:=Nat) (S:=fun i=>([(2,.ref 0 0),(3,.ref 1 0),(4,.ref 2 0),(5,i64 T.length),(6,.ref 3 0),(16,i64 i)],[some [Ae M],some [Cv T],some [Ai],some [.sl 4 1 0 i],some ((Bc M T i).map Ac)])) (C:=fun i=>i≤3) (μ:=fun i=>3 - i) 0 (by omega) ((Ref.nilC 3 0 1 rfl rfl).trans (Ref.to (by simp [Bc]) (by simp [sub,Ab]))) ?_
 intro i hi
 have hml:=Pz M T i
 refine RN ?_
 refine ⟨fun hc=>?_,fun hc=>?_⟩
 ·have hi3:i<3:=by omega
  refine RN ?_
  refine Ag (hfl) ?_
  refine RN ?_
  refine Ah (α:=Nat) (S:=fun f=>([(2,.ref 0 0),(3,.ref 1 0),(4,.ref 2 0),(5,i64 T.length),(6,.ref 3 0),(16,i64 i),(7,i64 i),(8,.sl 5 1 0 (B9 M T i f).length),(19,i64 (M.getD 0 []).length),(20,i64 f)],[some [Ae M],some [Cv T],some [Ai],some [.sl 4 1 0 i],some ((Bc M T i).map Ac),some (Aa (B9 M T i f))])) (C:=fun f=>f≤fl M) (μ:=fun f=>fl M - f) 0 (by omega) ((Ref.nil 8 1 rfl).trans (Ref.to (by simp [Aa,B9]) (by simp [sub,Ab,B9]))) ?_
  intro f hf
  have hfl2:=Gx M T i f
  refine RN ?_
  refine ⟨fun hc1=>?_,fun hc1=>?_⟩
  ·have hff:f<fl M:=by omega
   have hfp:f*T.length≤100000*12:=Nat.mul_le_mul (by omega) hT2
   refine RN ?_
   refine Ah (α:=Nat) (S:=fun j=>([(2,.ref 0 0),(3,.ref 1 0),(4,.ref 2 0),(5,i64 T.length),(6,.ref 3 0),(16,i64 i),(7,i64 i),(8,.sl 5 1 0 (B9 M T i f++Ds M T i f j).length),(19,i64 (M.getD 0 []).length),(20,i64 f),(9,i64 f),(24,Cv T),(25,i64 T.length),(26,i64 j)],[some [Ae M],some [Cv T],some [Ai],some [.sl 4 1 0 i],some ((Bc M T i).map Ac),some (Aa (B9 M T i f++Ds M T i f j))])) (C:=fun j=>j≤T.length) (μ:=fun j=>T.length - j) 0 (by omega) (Ref.to (by simp [Ds]) (by simp [sub,Ab,Ds])) ?_
   intro j hj
   have hrl:=Tu M T i f j
   have hll:(B9 M T i f++Ds M T i f j).length=f*T.length+j:=by rw [List.length_append,hfl2,hrl]
   have hst:=Xx M T i f j
   generalize hL:B9 M T i f++Ds M T i f j=L at *
   refine RN ?_
   refine ⟨fun hc2=>?_,fun hc2=>?_⟩
   ·have hjl:j<T.length:=by omega
    have g1:=M6 T j hjl
    have g2:=M5 T j hjl
    have h3:=hT.len j hjl
    have hl6:(Ar (T.getD j [])).length=6:=by rw [G3,h3]
    have g4:(Ar (T.getD j [])).getD (i*2) 0=(tg T j i).1:=N5 (T.getD j []) i
    have g5:(Ar (T.getD j [])).getD (i*2+1) 0=(tg T j i).2:=N6 (T.getD j []) i
    obtain ⟨o1,o2,o3,o4,_⟩:=hT.ok j i hjl hi3
    have hvb:=Xy hM hT hi3 hff hjl
    refine RN ?_
    simp only [g1,g2,go_sem,↓reduceIte,Nat.reduceEqDiff,Nat.reduceAdd,reduceCtorEq]
    refine RN ?_
    simp only [g4,g5,go_sem,↓reduceIte,Nat.reduceEqDiff,Nat.reduceAdd,reduceCtorEq]
    have hv:Hm M T i f j=(if 0≤(tg T j i).2 then (M.getD (tg T j i).2.toNat []).getD f 0 else (f:Int))*T.length+(tg T j i).1:=rfl
    generalize hx:tg T j i=x at *
    have hrow:0≤x.2→f<(M.getD x.2.toNat []).length:=fun h=>by
     obtain ⟨r1,_⟩:=hM.rows x.2.toNat (by omega)
     omega
    refine RN ?_
    refine ⟨fun hc3=>?_,fun hc3=>?_⟩
    ·have hr2:=hrow hc3
     rw [if_pos hc3] at hv
     refine RN ?_
     simp only [g4]
     refine ⟨j+1,by omega,by omega,?_⟩
     rw [hst,← List.append_assoc,hL,hv]
     refine Ref.gc [0,1,2,3,4,7] rfl ?_ (by simp [sub,Ab,go_sem,↓reduceIte,Nat.reduceEqDiff,Nat.reduceAdd,reduceCtorEq];omega)
     (try simp only [go_sem,↓reduceIte,Nat.reduceEqDiff,Nat.reduceAdd,reduceCtorEq,Pj,Io,Fa])
    ·rw [if_neg (by omega)] at hv
     refine RN ?_
     simp only [g4]
     refine ⟨j+1,by omega,by omega,?_⟩
     rw [hst,← List.append_assoc,hL,hv]
     refine Ref.gc [0,1,2,3,4,7] rfl ?_ (by simp [sub,Ab,go_sem,↓reduceIte,Nat.reduceEqDiff,Nat.reduceAdd,reduceCtorEq];omega)
     (try simp only [go_sem,↓reduceIte,Nat.reduceEqDiff,Nat.reduceAdd,reduceCtorEq,Pj,Io,Fa])
   ·obtain rfl:j=T.length:=by omega
    have hs2:=Py M T i f
    refine RN ?_
    refine ⟨f+1,by omega,by omega,?_⟩
    rw [hs2,hL]
    exact Ref.frame (by simp [sub,Ab])
  ·obtain rfl:f=fl M:=by omega
   have hs3:=Xw M T i
   have hlb:(B9 M T i (fl M)).length≤1200000:=by rw [Gx];exact Nat.mul_le_mul hn4 hT2
   refine RN ?_
   refine ⟨i+1,by omega,by omega,?_⟩
   rw [hs3]
   refine (Ref.close 7 i 5 (k:=1) (n:=(B9 M T i (fl M)).length) (cs2:=Aa (B9 M T i (fl M))) rfl (by rw [List.getElem?_append_right (by simp [hml])];simp [hml]) rfl (by decide) (by simp [Aa])).trans (Ref.gc [0,1,2,3,7] rfl ?_ (by simp [sub,Ab,go_sem,↓reduceIte,Nat.reduceEqDiff,Nat.reduceAdd,reduceCtorEq]))
   (try simp only [go_sem,↓reduceIte,Nat.reduceEqDiff,Nat.reduceAdd,reduceCtorEq])
   have hset:∀ x y:AV,((Bc M T i).map Ac++[x]).set i y=(Bc M T i).map Ac++[y]:=fun x y=>by
    rw [List.set_append_right _ _ (by simp [hml])];simp [hml]
   rw [List.take_of_length_le (by simp [hml]),Lb,hset]
   simp
 ·obtain rfl:i=3:=by omega
  (refine RN ?_;try with_reducible exact trivial)
end
section
open Go.Gov Go.Ce Go.Nt
open Classical
theorem jF {M:List (List Int)}(h:IsMap M)(h4:fl M≤400):Pw M:=⟨h.2,by omega,fun k hk=>by
 have hI:=h.mvi
 refine ⟨hI.row k hk,fun f hf=>?_⟩
 have:=hI.lt k f hk hf
 rw [hI.val k f hk hf]
 omega⟩
theorem Ou {l:List UInt8}{c:Int}(h:B3 l=c)(hc:c≠0):Bz l=[]:=by
 unfold Bz
 rw [h,if_neg hc]
theorem iY {l:List UInt8}(h:B3 l=0):Bz l=Hu (Al l) (S2 (Au l)):=by
 unfold Bz
 rw [if_pos h]
theorem iX (o:List UInt8)(M:List (List Int)){j:Nat}(h0:0<j)(h:j≤o.length):Hu (o.drop (j - 1)) M=Bc (Hu (o.drop j) M) (wT (B0 (o.getD (j - 1) 0).toNat)) 3:=by
 have e:o.drop (j - 1)=o.getD (j - 1) 0 :: o.drop j:=by
  rw [List.drop_eq_getElem_cons (by omega),List.getD_eq_getElem?_getD,List.getElem?_eq_getElem (by omega)]
  rw [show j - 1+1=j by omega]
  rfl
 rw [e]
 rfl
theorem fY (l:List UInt8)(hs:l.length≤1048576):Pure Tryz.prog 12 [sV l] (Mh l) []:=by
 have h:=yL l (by omega)
 have hl:=jL l
 have hsl:=R8 l
 by_cases hk:Dg l
 ·have hb:=fW l (Al l).length hl (by omega)
  rw [jM,V5] at hb
  have hc:=fX (Al l) (Au l) hk.1 hk.2 (by omega)
  rw [if_pos hk] at h
  by_cases hg:400<4*(Be (Aq (Al l)) (Aw (Au l))).2.1
  ·have hmc:B3 l=3:=by unfold B3;rw [if_pos hk,if_pos hg]
   unfold Mh
   rw [Ou hmc (by decide),hmc]
   have hcb:=(Nx (Al l) (Au l) hk.1 hk.2 0).2.2
   rw [List.drop_zero] at hcb
   generalize Be (Aq (Al l)) (Aw (Au l))=c at hc hg hcb ⊢
   refine Bh V8 rfl ?_;unfold P7
   refine RN ?_
   refine Ag (h) ?_
   (iterate 16 ((try (refine RN ?_;try with_reducible exact trivial));(try with_reducible refine fun _=>?_)))
   refine Ag (hb) ?_
   (iterate 16 ((try (refine RN ?_;try with_reducible exact trivial));(try with_reducible refine fun _=>?_)))
   refine Ag (hc) ?_
   (iterate 16 ((try (refine RN ?_;try with_reducible exact trivial));(try with_reducible refine fun _=>?_)))
   refine ⟨fun _=>?_,fun h=>absurd h (by omega)⟩
   refine RN ?_
   exact (Ref.gc [] (F' := [(0,.tup [.agg [Ai],i64 3])]) (H' := []) rfl (by simp only [go_sem,↓reduceIte,Nat.reduceEqDiff,Nat.reduceAdd,reduceCtorEq]) (by simp [sub,Ab,go_sem,↓reduceIte,Nat.reduceEqDiff,Nat.reduceAdd,reduceCtorEq])).trans ((Ref.nilC1 1).trans ((Ref.dead (F' := [(0,.tup [Ak [],i64 3])]) (by simp [sub,Ab,Ih,Ak,Ae,go_sem,↓reduceIte,Nat.reduceEqDiff,Nat.reduceAdd,reduceCtorEq])).trans (Ref.gc [] rfl rfl (by simp [sub,Ab,go_sem,↓reduceIte,Nat.reduceEqDiff,Nat.reduceAdd,reduceCtorEq]))))
  ·have h0:B3 l=0:=by unfold B3;rw [if_pos hk,if_neg hg]
   unfold Mh
   rw [iY h0,h0]
   have hcb:=(Nx (Al l) (Au l) hk.1 hk.2 0).2
   rw [List.drop_zero] at hcb
   obtain ⟨a,b,d1,d2,d3,d4,d5,d6,d7⟩:=Vw h0
   have hd:=yH (Au l) hk.2 (by omega)
   rw [d1] at hd
   have hu:=Xc a b d2 d3
   rw [d4,if_pos rfl] at hu
   rw [d5]
   generalize Ch a b=T at *
   generalize Be (Aq (Al l)) (Aw (Au l))=c at hc hg hcb
   refine Bh V8 rfl ?_;unfold P7
   refine RN ?_
   refine Ag (h) ?_
   (iterate 16 ((try (refine RN ?_;try with_reducible exact trivial));(try with_reducible refine fun _=>?_)))
   refine Ag (hb) ?_
   (iterate 16 ((try (refine RN ?_;try with_reducible exact trivial));(try with_reducible refine fun _=>?_)))
   refine Ag (hc) ?_
   (iterate 16 ((try (refine RN ?_;try with_reducible exact trivial));(try with_reducible refine fun _=>?_)))
   simp only [List.take_length,V5]
   refine Ag (hd) ?_
   refine RN ?_
   refine CallsX.ice 2 ?_
   refine D3 hu (by simp only [go_sem,↓reduceIte,Nat.reduceEqDiff,Nat.reduceAdd,reduceCtorEq]<;>rfl) ?_
   refine RN ?_
   refine Ah (α:=Nat) (S:=fun j=>([(0,sV l),(2,.ref 0 0),(5,.ref 1 0),(6,i64 0),(7,i64 ((j:Int) - 1))],[some [Ai],some [Ae (Hu ((Al l).drop j) T)]])) (C:=fun j=>j≤(Al l).length) (μ:=fun j=>j) (Al l).length (Nat.le_refl _) ?_ ?_
   ·rw [List.drop_length]
    exact Ref.gc2 [0,3]
   intro j hj
   refine RN ?_
   refine ⟨fun hc1=>?_,fun hc1=>?_⟩
   ·have hst:=iX (Al l) T (j:=j) (by omega) hj
    have hbm:(Al l).getD (j - 1) 0∈Al l:=Q4 (by omega)
    have hop:=Wf (I9 l _ hbm)
    have hlo:l.getD (j - 1) 0=(Al l).getD (j - 1) 0:=by
     conv=>lhs;rw [← J6 l]
     exact eG (by omega)
    have hfl:=Nat.le_trans (Nat.mul_le_mul_left (fl T) (kV (Al l) (I9 l) j)) d7
    obtain ⟨m1,m2⟩:=Ot d6 ((Al l).drop j) (fun b hb=>I9 l b (List.mem_of_mem_drop hb)) hfl
    have hmv:=jF m1 (by omega)
    have hnm:=yG (((Al l).getD (j - 1) 0).toNat:Int) hop
    have htp:=(Na _ hop).1
    have hap:=yB _ _ hmv htp
    have ej:((j:Int) - 1).toNat=j - 1:=by omega
    rw [← hlo] at hst hnm hap
    obtain ⟨X,hX⟩:∃ X,X=Hu ((Al l).drop j) T:=⟨_,rfl⟩
    rw [← hX] at hst hap ⊢
    (repeat first | simp only [ej,go_sem,↓reduceIte,Nat.reduceEqDiff,Nat.reduceAdd,reduceCtorEq] | refine RX ?_ | decide)
    refine Ag (hnm) ?_
    refine RN ?_
    refine Ag (hap) ?_
    refine RN ?_
    refine ⟨j - 1,by omega,by omega,?_⟩
    rw [hst]
    have hm3:=Pz X (wT (B0 (l.getD (j - 1) 0).toNat)) 3
    generalize Bc X (wT (B0 (l.getD (j - 1) 0).toNat)) 3=Y at *
    refine Ref.sel [0,1] rfl ?_ ?_
    ·simp only [go_sem,↓reduceIte,Nat.reduceEqDiff,Nat.reduceAdd,reduceCtorEq,Bl _ _ Y 3 hm3]
     simp [Ae,hm3]
    ·simp [sub,Ab,go_sem,↓reduceIte,Nat.reduceEqDiff,Nat.reduceAdd,reduceCtorEq];omega
   ·obtain rfl:j=0:=by omega
    rw [List.drop_zero]
    refine RN ?_
    exact Ref.gc2 []
 ·rw [if_neg hk] at h
  have hmc:B3 l=6:=by unfold B3;rw [if_neg hk]
  unfold Mh
  rw [Ou hmc (by decide),hmc]
  refine Bh V8 rfl ?_;unfold P7
  refine RN ?_
  refine Ag (h) ?_
  refine RN ?_
  refine ⟨fun _=>?_,fun h=>absurd h (by decide)⟩
  refine RN ?_
  exact (Ref.gc [] (F' := [(0,.tup [.agg [Ai],i64 6])]) (H' := []) rfl (by simp only [go_sem,↓reduceIte,Nat.reduceEqDiff,Nat.reduceAdd,reduceCtorEq]) (by simp [sub,Ab,go_sem,↓reduceIte,Nat.reduceEqDiff,Nat.reduceAdd,reduceCtorEq])).trans ((Ref.nilC1 1).trans ((Ref.dead (F' := [(0,.tup [Ak [],i64 6])]) (by simp [sub,Ab,Ih,Ak,Ae,go_sem,↓reduceIte,Nat.reduceEqDiff,Nat.reduceAdd,reduceCtorEq])).trans (Ref.gc [] rfl rfl (by simp [sub,Ab,go_sem,↓reduceIte,Nat.reduceEqDiff,Nat.reduceAdd,reduceCtorEq]))))
end
section
open Go.Gov Go.Ce Go.Nt
open Classical
variable (tp tq:TypeId) (p q:Value)
theorem iM (l:List UInt8)(hs:l.length≤1048576):PureG Tryz.prog (LV tp tq p q) 29 [sV l] (.tup [.agg [.sl 0 1 0 (Bz l).length],i64 (B3 l)]) [some ((Bz l).map Ac)]:=by
 have h:=Wg tp tq p q l (by omega)
 have hsl:=R8 l
 by_cases hk:Dg l
 ·have hc:=cK (Al l) (Au l) hk.1 hk.2
  have hcb:=(Nx (Al l) (Au l) hk.1 hk.2 0).2
  rw [List.drop_zero] at hcb
  by_cases hg:400<4*(Be (Aq (Al l)) (Aw (Au l))).2.1
  ·have hmc:B3 l=3:=by unfold B3;rw [if_pos hk,if_pos hg]
   rw [Ou hmc (by decide),hmc]
   generalize Be (Aq (Al l)) (Aw (Au l))=c at hc hg hcb ⊢
   refine Hg Wa rfl ?_;unfold P9
   refine RN ?_
   refine K9 (h) fun o ho=>?_
   obtain ⟨⟨a,b,c1⟩,d⟩:=o
   obtain ⟨ho1,ho2⟩:=ho
   dsimp only at ho1 ho2
   subst ho1
   obtain ⟨rfl,rfl,rfl⟩:a=Al l∧b=Au l∧c1=(if (Au l).length=1 then 0 else Bb (Au l)):=by have:=ho2 hk;simpa using this
   rw [decide_eq_true hk]
   clear ho2 h
   generalize (if (Au l).length=1 then 0 else Bb (Au l))=z at hc ⊢
   refine RN ?_
   refine Ag (hc) ?_
   refine RN ?_
   refine ⟨fun _=>?_,fun h=>absurd h (by omega)⟩
   refine RN ?_
   exact (Ref.gc [] (F' := [(0,.tup [.agg [Ai],i64 3])]) (H' := []) rfl (by simp only [go_sem,↓reduceIte,Nat.reduceEqDiff,Nat.reduceAdd,reduceCtorEq]) (by simp [sub,Ab,go_sem,↓reduceIte,Nat.reduceEqDiff,Nat.reduceAdd,reduceCtorEq])).trans ((Ref.nilC1 1).trans (Ref.to1))
  ·have h0:B3 l=0:=by unfold B3;rw [if_pos hk,if_neg hg]
   rw [iY h0,h0]
   obtain ⟨a,b,d1,d2,d3,d4,d5,d6,d7⟩:=Vw h0
   have hd:=tO (Au l) (Al l) hk.2 (by omega)
   rw [d1] at hd
   have hu:=Ak2 a b d2 d3 (Ak1 d4).1 d6.1
   rw [d5]
   generalize Ch a b=T at *
   generalize Be (Aq (Al l)) (Aw (Au l))=c at hc hg hcb
   refine Hg Wa rfl ?_;unfold P9
   refine RN ?_
   refine K9 (h) fun o ho=>?_
   obtain ⟨⟨a1,b1,c1⟩,d⟩:=o
   obtain ⟨ho1,ho2⟩:=ho
   dsimp only at ho1 ho2
   subst ho1
   obtain ⟨rfl,rfl,rfl⟩:a1=Al l∧b1=Au l∧c1=(if (Au l).length=1 then 0 else Bb (Au l)):=by have:=ho2 hk;simpa using this
   rw [decide_eq_true hk]
   clear ho2 h
   generalize (if (Au l).length=1 then 0 else Bb (Au l))=z at hc hd ⊢
   refine RN ?_
   refine Ag (hc) ?_
   refine RN ?_
   intro _
   refine RN ?_
   refine Ag (hd) ?_
   refine RN ?_
   refine Ag (hu) ?_
   refine RN ?_
   refine Ah (α:=Nat) (S:=fun j=>([(2,.ref 1 0),(4,.ref 2 0),(6,.ref 3 0),(8,i64 ((j:Int) - 1))],[some (Cc (LV tp tq p q)),some [Ai],some [sV (Al l),sV (Au l),i64 z],some [.sl 4 1 0 3],some ((Hu ((Al l).drop j) T).map Ac)])) (C:=fun j=>j≤(Al l).length) (μ:=fun j=>j) (Al l).length (Nat.le_refl _) ?_ ?_
   ·rw [List.drop_length]
    exact Ref.gc2 [0,1,2,6,5]
   intro j hj
   refine RN ?_
   refine ⟨fun hc1=>?_,fun hc1=>?_⟩
   ·have hst:=iX (Al l) T (j:=j) (by omega) hj
    have hbm:(Al l).getD (j - 1) 0∈Al l:=Q4 (by omega)
    have hop:=Wf (I9 l _ hbm)
    have hfl:=Nat.le_trans (Nat.mul_le_mul_left (fl T) (kV (Al l) (I9 l) j)) d7
    obtain ⟨m1,m2⟩:=Ot d6 ((Al l).drop j) (fun b hb=>I9 l b (List.mem_of_mem_drop hb)) hfl
    have hmv:=jF m1 (by omega)
    have hnm:=Aax (((Al l).getD (j - 1) 0).toNat:Int) hop
    have htp:=(Na _ hop).1
    have hap:=qK _ _ hmv htp
    have ej:((j:Int) - 1).toNat=j - 1:=by omega
    obtain ⟨X,hX⟩:∃ X,X=Hu ((Al l).drop j) T:=⟨_,rfl⟩
    rw [← hX] at hst hap ⊢
    have hx3:X.length=3:=by rw [hX];exact m1.2
    (repeat first | simp only [ej,go_sem,↓reduceIte,Nat.reduceEqDiff,Nat.reduceAdd,reduceCtorEq] | refine RX ?_ | decide)
    refine Ag (hnm) ?_
    refine RN ?_
    refine A9 hap (by simp only [go_sem,↓reduceIte,Nat.reduceEqDiff,Nat.reduceAdd,reduceCtorEq,Bl _ _ X 3 hx3];first | done | (simp only [Ak,Ae,hx3];done) | (simp only [Ak,Ae,hx3];rfl)) (by first | rfl | simp only [go_sem,↓reduceIte,Nat.reduceEqDiff,Nat.reduceAdd,reduceCtorEq]) ?_
    refine RN ?_
    refine ⟨j - 1,by omega,by omega,?_⟩
    rw [hst]
    have hm3:=Pz X (wT (B0 ((Al l).getD (j - 1) 0).toNat)) 3
    generalize Bc X (wT (B0 ((Al l).getD (j - 1) 0).toNat)) 3=Y at *
    refine Ref.gc [0,1,2,3,6] rfl (by simp only [go_sem,↓reduceIte,Nat.reduceEqDiff,Nat.reduceAdd,reduceCtorEq]) ?_
    simp [sub,Ab,go_sem,↓reduceIte,Nat.reduceEqDiff,Nat.reduceAdd,reduceCtorEq];omega
   ·obtain rfl:j=0:=by omega
    have hm3:=(Ot d6 (Al l) (I9 l) d7).1.2
    rw [List.drop_zero,hm3]
    refine RN ?_
    exact Ref.gc2 [4]
 ·have hmc:B3 l=6:=by unfold B3;rw [if_neg hk]
  rw [Ou hmc (by decide),hmc]
  refine Hg Wa rfl ?_;unfold P9
  refine RN ?_
  refine K9 (h) fun o ho=>?_
  obtain ⟨⟨a,b,c⟩,d⟩:=o
  obtain ⟨ho1,ho2⟩:=ho
  dsimp only at ho1 ho2
  subst ho1
  rw [decide_eq_false hk]
  refine RN ?_
  exact (Ref.gc [] (F' := [(0,.tup [.agg [Ai],i64 6])]) (H' := []) rfl (by simp only [go_sem,↓reduceIte,Nat.reduceEqDiff,Nat.reduceAdd,reduceCtorEq]) (by simp [sub,Ab,go_sem,↓reduceIte,Nat.reduceEqDiff,Nat.reduceAdd,reduceCtorEq])).trans ((Ref.nilC1 1).trans (Ref.to1))
end
end Go.Proofs.YtnompobcofhkpaaGreatDoor
