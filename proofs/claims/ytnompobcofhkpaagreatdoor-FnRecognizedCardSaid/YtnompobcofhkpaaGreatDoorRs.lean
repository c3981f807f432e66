/- Texts that belong together. -/
import Derived.Test.YtnompobcofhkpaaGreatDoorT9
import Derived.Test.YtnompobcofhkpaaGreatDoorRg
import Derived.Test.YtnompobcofhkpaaGreatDoorRp
set_option maxHeartbeats 16000000
set_option linter.unusedSimpArgs false
set_option linter.unusedVariables false
set_option maxRecDepth 100000
namespace Go.Proofs.YtnompobcofhkpaaGreatDoor
open Go.Gov Go.Ce
open Classical
theorem T9 {a b:Nat}:Nat.beq a b=true ↔ a=b:=⟨Nat.eq_of_beq_eq_true,Fc⟩
theorem rO {a b:Nat}:Nat.ble a b=true ↔ a≤b:=⟨Nat.le_of_ble_eq_true,Nat.ble_eq_true_of_le⟩
theorem Aal {M : List (List Int)} {t : Nat → Nat → Nat} {m : Nat} (hl : M.length = 3) (hr : ∀ g, g < 3 → (M.getD g []).length = m)
    (ht:∀ g j,g<3→j<m→(M.getD g []).getD j 0=(t g j:Nat)∧t g j<m) (h2:2≤m) (h4:m≤400) (hc:cG t m=true):IsMap M:=by
 have hck:∀ j,j<m→(∀ g,g<3→t g (t g j)=j∧t g j≠j)∧t 2 (t 0 j)=t 0 (t 2 j)∧t 0 j≠t 2 j∧(j=0∨t 0 j<j∨t 1 j<j∨t 2 j<j):=fun j hj=>by
  have h:=Nu hc hj
  simp only [Bool.and_eq_true,Bool.or_eq_true,Bool.not_eq_true', T9,rO] at h
  obtain ⟨h1,h2,h3,h4⟩:=h
  refine ⟨fun g hg=>?_,h2,(fun e=>by rw [Fc e] at h3;cases h3),by omega⟩
  have:=Nu h1 hg
  simp only [Bool.and_eq_true,Bool.not_eq_true', T9] at this
  exact ⟨this.1,fun e=>by rw [Fc e] at this;cases this.2⟩
 have hmv:∀ g j,g<3→j<m→mv M g j=t g j:=fun g j hg hj=>by
  unfold mv
  rw [(ht g j hg hj).1,Int.toNat_natCast]
 have hI:Gg m M:=by
  refine ⟨hl,hr,fun i x hi hx=>?_,fun i x hi hx=>?_,fun i x hi hx=>?_,fun i x hi hx=>?_,fun x hx=>?_,fun x hx=>?_⟩
  ·rw [hmv i x hi hx];exact (ht i x hi hx).1
  ·rw [hmv i x hi hx];exact (ht i x hi hx).2
  ·rw [hmv i x hi hx,hmv i _ hi (ht i x hi hx).2];exact ((hck x hx).1 i hi).1
  ·rw [hmv i x hi hx];exact ((hck x hx).1 i hi).2
  ·rw [hmv 0 x (by omega) hx,hmv 2 x (by omega) hx,hmv 2 _ (by omega) (ht 0 x (by omega) hx).2,hmv 0 _ (by omega) (ht 2 x (by omega) hx).2];exact (hck x hx).2.1
  ·rw [hmv 0 x (by omega) hx,hmv 2 x (by omega) hx];exact (hck x hx).2.2.1
 refine IsMap.of hI h2 h4 fun x=>?_
 induction x using Nat.strongRecOn with
 | _ x ih=>
  intro hx
  have hstep:∀ g,g<3→t g x<x→Rch M 0 x:=fun g hg hlt=>by
   have h1:=ih (t g x) hlt (by omega)
   have h3:=h1.step (p:=M.getD g []) (by
    rw [List.getD_eq_getElem?_getD,List.getElem?_eq_getElem (by omega)]
    exact List.getElem_mem _)
   rw [(ht g _ hg (by omega)).1,Int.toNat_natCast,((hck x hx).1 g hg).1] at h3
   exact h3
  rcases (hck x hx).2.2.2 with h | h | h | h
  ·subst h;exact .refl
  ·exact hstep 0 (by omega) h
  ·exact hstep 1 (by omega) h
  ·exact hstep 2 (by omega) h
theorem Ald {a b e:Nat}(ha:a≤32)(hb:b≤32)(h1:1≤e)(h2:e≤100)(h:Ik a b e=true):Ey a b=0∧IsMap (Ch a b)∧fl (Ch a b)=4*e:=by
 unfold Ik at h
 rw [show Ph a b=An a b from rfl] at h
 simp only [Bool.and_eq_true,Bool.not_eq_true', T9] at h
 obtain ⟨c1,c2,c3⟩:=h
 have hlet:∀ k,k<(An a b).length→Ca 3 ((An a b).getD k []):=fun k hk=>(W1 a b ha hb k hk).1
 have hR:=uH (G:=3) (by omega) hlet
 have hbad:(Ba 3 (An a b)).bad=false:=by rw [← hR.bad];exact c1
 have hE:=U5 (G:=3) (by omega) hlet hbad
 have hO:=lI hE hR
 have hm:(B7 3 (Ba 3 (An a b))).length=4*e:=by rw [← hO.m];exact c2
 have hM:IsMap (Ch a b):=by
  refine Aal (Na _ _) (fun g hg=>by rw [← hm];exact Lq hg) (fun g j hg hj=>?_) (by omega) (by omega) c3
  have:=Akz hE hR (g:=g) (j:=j) hg (by omega)
  rw [hm] at this
  exact this
 refine ⟨?_,hM,by rw [← hm];exact Lq (by omega)⟩
 unfold Ey
 rw [if_pos ⟨hbad,by omega⟩,if_pos hM.1]
end Go.Proofs.YtnompobcofhkpaaGreatDoor
namespace Go.Gov
variable {N:Nat} {g:Gh} {F:Frame} {H:Heap} {a:Act} {w:World} {n0:Nat}
theorem Ref.nilC1 (k:Nat){y:AV}:Ref n0 [(0,.tup [.agg [Ai],y])] H [(0,.tup [.agg [.sl H.length k 0 0],y])] (H++[some []]):=fun N g a w hR=>by
 have hm:=Sf hR.hp
 refine ⟨_,⟨fun i=>?_,hm.hp,hR.size,hR.defers⟩,hm.toN⟩
 simp only [Dl]
 by_cases e:0=i
 ·subst e
  rw [if_pos rfl]
  have h1:=hm.lift _ _ (hR.fr 0)
  simp only [Dl,if_true] at h1
  generalize a.tmps.getD 0 undef=v at h1 ⊢
  cases h1 with
  | tup hl hr=>
   rename_i vs
   refine .tup (by simpa using hl) fun m hm' => ?_
   match m,hm' with
   | 0,_=>
    have h2:=hr 0 (by simp)
    simp only [List.getElem_cons_zero] at h2 ⊢
    generalize vs.getD 0 undef=v0 at h2 ⊢
    cases h2 with
    | agg hl2 hr2=>
     refine .agg (by simpa using hl2) fun m2 hm2=>?_
     match m2,hm2 with
     | 0,_=>
      have h3:=hr2 0 (by simp)
      simp only [List.getElem_cons_zero] at h3 ⊢
      exact Abg hR.hp k h3
   | 1,_=>exact hr 1 (by simp)
 ·rw [if_neg e];exact .any
end Go.Gov
namespace Go.Proofs.YtnompobcofhkpaaGreatDoor
section
open Go.Gov Go.Ce Go.Nt
open Classical
theorem Ale {a b:Nat}(h:Ey a b=0):Km 3 (An a b)∧IsMan (Ch a b):=by
 unfold Ey at h
 split at h
 ·rename_i h1
  split at h
  ·rename_i h2;exact ⟨h1,h2⟩
  ·cases h
 ·cases h
theorem Ajm {s:List UInt8}(h:Dh s):∃ a b e:Nat,Es s=[(a:Int),(b:Int)]∧(2≤a∧a≤32)∧(2≤b∧b≤32)∧(Aw s).2.1=(e:Int)∧1≤e∧e≤30∧Ey a b=0∧IsMap (Ch a b)∧fl (Ch a b)=4*e:=by
 have fin:∀ a b e:Nat,a≤32→b≤32→1≤e→e≤30→Ik a b e=true→Ey a b=0∧IsMap (Ch a b)∧fl (Ch a b)=4*e:=fun a b e ha hb h1 h2 hc=>Ald ha hb h1 (by omega) hc
 rcases h with ⟨b,rfl,hb⟩ | ⟨b,r,rfl,hb,h2,h3⟩
 ·have hb2 : b = 84 ∨ b = 67 ∨ b = 79 ∨ b = 68 ∨ b = 73 := by
    unfold M4 at hb
    rw [List.contains_iff_mem] at hb
    simpa using hb
  rcases hb2 with rfl | rfl | rfl | rfl | rfl
  ·exact ⟨3,3,6,rfl,by omega,by omega,rfl,by omega,by omega,fin 3 3 6 (by omega) (by omega) (by omega) (by omega) sJ⟩
  ·exact ⟨4,3,12,rfl,by omega,by omega,rfl,by omega,by omega,fin 4 3 12 (by omega) (by omega) (by omega) (by omega) sM⟩
  ·exact ⟨3,4,12,rfl,by omega,by omega,rfl,by omega,by omega,fin 3 4 12 (by omega) (by omega) (by omega) (by omega) sK⟩
  ·exact ⟨5,3,30,rfl,by omega,by omega,rfl,by omega,by omega,fin 5 3 30 (by omega) (by omega) (by omega) (by omega) sN⟩
  ·exact ⟨3,5,30,rfl,by omega,by omega,rfl,by omega,by omega,fin 3 5 30 (by omega) (by omega) (by omega) (by omega) sL⟩
 ·obtain ⟨v,hv⟩:∃ v:Nat,D2 r=(v+2:Nat):=⟨(D2 r - 2).toNat,by omega⟩
  have hn:Bb (b :: r)=((v+2:Nat):Int):=hv
  have hv2:v<29:=by omega
  rcases hb with rfl | rfl
  ·refine ⟨2,v+2,v+2,?_,by omega,by omega,?_,by omega,by omega,fin 2 (v+2) (v+2) (by omega) (by omega) (by omega) (by omega) (Nu sO hv2)⟩
   ·show [2,Bb (72 :: r)]=_
    rw [hn];rfl
   ·show Bb (72 :: r)=_
    exact hn
  ·refine ⟨v+2,2,v+2,?_,by omega,by omega,?_,by omega,by omega,fin (v+2) 2 (v+2) (by omega) (by omega) (by omega) (by omega) (Nu sP hv2)⟩
   ·show [Bb (90 :: r),2]=_
    rw [hn];rfl
   ·show Bb (90 :: r)=_
    exact hn
noncomputable def Hy (o:List UInt8)(M:List (List Int)):List (List Int):=o.foldr (fun b m=>Bc m (wT (B0 b.toNat)) 3) M
def Fo (o:List UInt8):Nat:=o.foldr (fun b a=>(wT (B0 b.toNat)).length*a) 1
theorem Wo {b:UInt8}(h:C0 b=true):(b.toNat:Int)∈Iv:=by
 unfold C0 at h
 rw [List.contains_iff_mem] at h
 simp only [List.mem_cons,List.not_mem_nil,or_false] at h
 rcases h with rfl | rfl | rfl | rfl | rfl | rfl | rfl | rfl | rfl | rfl | rfl | rfl<;>decide
theorem Agb {b:UInt8}(h:C0 b=true):Dk (C8 b).reverse=(wT (B0 b.toNat)).length:=by
 unfold C0 at h
 rw [List.contains_iff_mem] at h
 simp only [List.mem_cons,List.not_mem_nil,or_false] at h
 rcases h with rfl | rfl | rfl | rfl | rfl | rfl | rfl | rfl | rfl | rfl | rfl | rfl<;>rfl
theorem Jf (l:List UInt8):∀ b∈Al l,C0 b=true:=fun b hb=>List.all_eq_true.1 List.all_takeWhile b hb
theorem Sq:∀ o:List UInt8,(∀ b∈o,C0 b=true)→Dk (Aq o)=Fo o
 | [],_=>rfl
 | b :: o,h=>by
  have ih:=Sq o fun x hx=>h x (by simp [hx])
  show Dk ((C8 b).reverse++Aq o)=(wT (B0 b.toNat)).length*Fo o
  rw [Q1,ih,Agb (h b (by simp))]
theorem Aga {M:List (List Int)}(hM:IsMap M){n:Int}(h:n∈Iv)(h4:fl M*(wT (B0 n)).length≤400):IsMap (Bc M (wT (B0 n)) 3)∧fl (Bc M (wT (B0 n)) 3)=fl M*(wT (B0 n)).length:=by
 obtain ⟨h1,h2,h3,_,h5,h6⟩:=Nh n h
 have he:=jG hM h5 h6 (B0 n).length h3 (Nat.le_refl _)
 rw [List.take_length] at he
 rw [← he,oT h3]
 rw [oT h3] at h4
 exact jE (B0 n) M hM (Aax h5) h4
theorem O0 {M:List (List Int)}(hM:IsMap M):∀ o:List UInt8,(∀ b∈o,C0 b=true)→fl M*Fo o≤400→IsMap (Hy o M)∧fl (Hy o M)=fl M*Fo o
 | [],_,_=>⟨hM,by simp [Hy,Fo]⟩
 | b :: o,h,h4=>by
  have hr:∀ x∈o,C0 x=true:=fun x hx=>h x (by simp [hx])
  have hb:=Wo (h b (by simp))
  have e:Fo (b :: o)=(wT (B0 b.toNat)).length*Fo o:=rfl
  have hp:=(Nh _ hb).1.p1
  rw [e] at h4 ⊢
  have h5:fl M*Fo o≤400:=Nat.le_trans (Nat.mul_le_mul_left _ (Nat.le_mul_of_pos_left _ (by omega))) h4
  obtain ⟨i1,i2⟩:=O0 hM o hr h5
  have e2:fl M*((wT (B0 b.toNat)).length*Fo o)=fl M*Fo o*(wT (B0 b.toNat)).length:=by rw [Nat.mul_comm (wT _).length,Nat.mul_assoc]
  rw [e2] at h4 ⊢
  have:=Aga i1 hb (by rw [i2];exact h4)
  rw [i2] at this
  exact this
theorem lG (o:List UInt8)(h:∀ b∈o,C0 b=true)(j:Nat):Fo (o.drop j)≤Fo o:=by
 rw [← Sq o h,← Sq (o.drop j) fun b hb=>h b (List.mem_of_mem_drop hb)]
 unfold Aq
 conv=>rhs;rw [← List.take_append_drop j o,List.flatMap_append,Q1]
 exact Nat.le_mul_of_pos_left _ (dP _)
noncomputable def Tb (s:List UInt8):List (List Int):=Ch ((Es s).getD 0 0).toNat ((Es s).getD 1 0).toNat
noncomputable def B3 (l:List UInt8):Int:=if Dg l then (if 400<4*(Be (Aq (Al l)) (Aw (Au l))).2.1 then 3 else 0) else 6
noncomputable def Bz (l:List UInt8):List (List Int):=if B3 l=0 then Hy (Al l) (Tb (Au l)) else []
noncomputable def Mn (l:List UInt8):AV:=.tup [Ak (Bz l),i64 (B3 l)]
theorem Aa2 {l:List UInt8}(h:B3 l=0):Dg l∧¬ 400<4*(Be (Aq (Al l)) (Aw (Au l))).2.1:=by
 unfold B3 at h
 split at h
 ·rename_i h1
  split at h
  ·cases h
  ·rename_i h2;exact ⟨h1,h2⟩
 ·cases h
theorem V6 {l:List UInt8}(h:B3 l=0):∃ a b:Nat,Es (Au l)=[(a:Int),(b:Int)]∧(2≤a∧a≤32)∧(2≤b∧b≤32)∧Ey a b=0∧Tb (Au l)=Ch a b∧IsMap (Ch a b)∧fl (Ch a b)*Fo (Al l)≤400:=by
 obtain ⟨h1,h2⟩:=Aa2 h
 obtain ⟨a,b,e,d1,d2,d3,d4,d5,d6,d7,d8,d9⟩:=Ajm h1.2
 have hg:=nG h1.2
 obtain ⟨_,c2,_⟩:=cQ (Aq (Al l)) (Aw (Au l)) hg.1 hg.2.1
 rw [c2,d4,Sq _ (Jf l)] at h2
 refine ⟨a,b,d1,d2,d3,d7,?_,d8,?_⟩
 ·unfold Tb
  rw [d1]
  simp
 ·rw [d9]
  have e3:((4*e*Fo (Al l):Nat):Int)=4*((Fo (Al l):Int)*(e:Int)):=by push_cast;rw [Int.mul_assoc,Int.mul_comm (e:Int)]
  omega
theorem V7 {l:List UInt8}(h:B3 l=0):IsMap (Bz l)∧fl (Bz l)≤400:=by
 obtain ⟨a,b,_,_,_,_,e,h1,h2⟩:=V6 h
 have:=O0 h1 (Al l) (Jf l) h2
 unfold Bz
 rw [if_pos h,e]
 exact ⟨this.1,by omega⟩
end
section
open Go.Gov
open Classical
structure P4 (M:List (List Int)):Prop where
 three:M.length=3
 few:fl M≤100000
 rows:∀ k,k<3→(M.getD k []).length=fl M∧∀ f,f<fl M→0≤(M.getD k []).getD f 0∧(M.getD k []).getD f 0<(fl M:Int)
theorem X8 {M:List (List Int)}{T:List (List Tg)}(hM:P4 M)(hT:Bs T){i f j:Nat}(hi:i<3)(hf:f<fl M)(hj:j<T.length):0≤Hq M T i f j∧Hq M T i f j≤1300000:=by
 obtain ⟨o1,o2,o3,o4,_⟩:=hT.ok j i hj hi
 have h12:=hT.p2
 have h4:=hM.few
 have hg:0≤(if 0≤(tg T j i).2 then (M.getD (tg T j i).2.toNat []).getD f 0 else (f:Int))∧(if 0≤(tg T j i).2 then (M.getD (tg T j i).2.toNat []).getD f 0 else (f:Int))≤100000:=by
  split
  ·have h3:=hM.three
   obtain ⟨r1,r2⟩:=hM.rows (tg T j i).2.toNat (by omega)
   have:=r2 f hf
   omega
  ·omega
 unfold Hq
 generalize (if 0≤(tg T j i).2 then (M.getD (tg T j i).2.toNat []).getD f 0 else (f:Int))=g at *
 have h5:g*T.length≤100000*12:=Int.mul_le_mul hg.2 (by omega) (by omega) (by omega)
 have h6:0≤g*T.length:=Int.mul_nonneg hg.1 (by omega)
 omega
theorem yN (M:List (List Int))(T:List (List Tg))(hM:P4 M)(hT:Bs T):Pure Tryz.prog 35 [Ak M,Nd T] (.agg [.sl 0 1 0 3]) [some ((Bc M T 3).map Ac)]:=by
 have hM3:M.length=3:=hM.three
 have hn4:=hM.few
 have hT1:=hT.p1
 have hT2:=hT.p2
 have hfe:fl M=(M.getD 0 []).length:=rfl
 have hfl:=Hw M (by omega) (by omega) (by omega)
 refine Ga [4] Adt rfl ?_;unfold Z9
 refine RN ?_
 refine Ah (α:=Nat) (S:=fun i=>([(2,.ref 0 0),(3,.ref 1 0),(4,.ref 2 0),(5,i64 T.length),(6,.ref 3 0),(7,i64 i)],[some [Ae M],some [Cv T],some [Ai],some [.sl 4 1 0 i],some ((Bc M T i).map Ac)])) (C:=fun i=>i≤3) (μ:=fun i=>3 - i) 0 (by omega) ((Ref.nilC 3 0 1 rfl rfl).trans (Ref.to (by simp [Bc]) (by simp [sub,Ab]))) ?_
 intro i hi
 have hml:=P7 M T i
 refine RN ?_
 refine ⟨fun hc=>?_,fun hc=>?_⟩
 ·have hi3:i<3:=by omega
  refine RN ?_
  refine Ah (α:=Nat) (S:=fun f=>([(2,.ref 0 0),(3,.ref 1 0),(4,.ref 2 0),(5,i64 T.length),(6,.ref 3 0),(7,i64 i),(8,.sl 5 1 0 (B9 M T i f).length),(9,i64 f)],[some [Ae M],some [Cv T],some [Ai],some [.sl 4 1 0 i],some ((Bc M T i).map Ac),some (Aa (B9 M T i f))])) (C:=fun f=>f≤fl M) (μ:=fun f=>fl M - f) 0 (by omega) (Ref.to (by simp [Aa,B9]) (by simp [sub,Ab,B9])) ?_
  intro f hf
  have hfl2:=G1 M T i f
  refine RN ?_
  refine Ag (hfl) ?_
  refine RN ?_
  refine ⟨fun hc1=>?_,fun hc1=>?_⟩
  ·have hff:f<fl M:=by omega
   have hfp:f*T.length≤100000*12:=Nat.mul_le_mul (by omega) hT2
   refine RN ?_
   refine Ah (α:=Nat) (S:=fun j=>([(2,.ref 0 0),(3,.ref 1 0),(4,.ref 2 0),(5,i64 T.length),(6,.ref 3 0),(7,i64 i),(8,.sl 5 1 0 (B9 M T i f++Dt M T i f j).length),(9,i64 f),(10,i64 j)],[some [Ae M],some [Cv T],some [Ai],some [.sl 4 1 0 i],some ((Bc M T i).map Ac),some (Aa (B9 M T i f++Dt M T i f j))])) (C:=fun j=>j≤T.length) (μ:=fun j=>T.length - j) 0 (by omega) (Ref.to (by simp [Dt]) (by simp [sub,Ab,Dt])) ?_
   intro j hj
   have hrl:=T6 M T i f j
   have hll:(B9 M T i f++Dt M T i f j).length=f*T.length+j:=by rw [List.length_append,hfl2,hrl]
   have hst:=X7 M T i f j
   generalize hL:B9 M T i f++Dt M T i f j=L at *
   refine RN ?_
   refine ⟨fun hc2=>?_,fun hc2=>?_⟩
   ·have hjl:j<T.length:=by omega
    have g1:=Nc T j hjl
    have g2:=Nb T j hjl
    have h3:=hT.len j hjl
    have g3:=Og (T.getD j []) i (by omega)
    obtain ⟨o1,o2,o3,o4,_⟩:=hT.ok j i hjl hi3
    have hvb:=X8 hM hT hi3 hff hjl
    refine RN ?_
    simp only [g1,g2,go_sem,↓reduceIte,Nat.reduceEqDiff,Nat.reduceAdd,reduceCtorEq]
    refine RN ?_
    refine And.intro ⟨by rw [G7];omega,by rw [g3];rfl⟩ (And.intro (by rw [List.length_drop,A2,G7];omega) (And.intro (by rw [g3];rfl) ?_))
    simp only [g3,go_sem,↓reduceIte,Nat.reduceEqDiff,Nat.reduceAdd,reduceCtorEq]
    change W _ _ _ _ _ _ _ _
    rw [show (T.getD j []).getD i T0=tg T j i from rfl]
    have hv:Hq M T i f j=(if 0≤(tg T j i).2 then (M.getD (tg T j i).2.toNat []).getD f 0 else (f:Int))*T.length+(tg T j i).1:=rfl
    generalize hx:tg T j i=x at *
    have hrow:0≤x.2→f<(M.getD x.2.toNat []).length:=fun h=>by
     obtain ⟨r1,_⟩:=hM.rows x.2.toNat (by omega)
     omega
    refine RN ?_
    refine ⟨fun hc3=>?_,fun hc3=>?_⟩
    ·have hr2:=hrow hc3
     rw [if_pos hc3] at hv
     refine RN ?_
     refine ⟨j+1,by omega,by omega,?_⟩
     rw [hst,← List.append_assoc,hL,hv]
     refine Ref.gc [0,1,2,3,4,8] rfl ?_ (by simp [sub,Ab,go_sem,↓reduceIte,Nat.reduceEqDiff,Nat.reduceAdd,reduceCtorEq];omega)
     (try simp only [go_sem,↓reduceIte,Nat.reduceEqDiff,Nat.reduceAdd,reduceCtorEq,Pu,Iu,Fb])
    ·rw [if_neg (by omega)] at hv
     refine RN ?_
     refine ⟨j+1,by omega,by omega,?_⟩
     rw [hst,← List.append_assoc,hL,hv]
     refine Ref.gc [0,1,2,3,4,8] rfl ?_ (by simp [sub,Ab,go_sem,↓reduceIte,Nat.reduceEqDiff,Nat.reduceAdd,reduceCtorEq];omega)
     (try simp only [go_sem,↓reduceIte,Nat.reduceEqDiff,Nat.reduceAdd,reduceCtorEq,Pu,Iu,Fb])
   ·obtain rfl:j=T.length:=by omega
    have hs2:=P6 M T i f
    refine RN ?_
    refine ⟨f+1,by omega,by omega,?_⟩
    rw [hs2,hL]
    exact Ref.frame (by simp [sub,Ab])
  ·obtain rfl:f=fl M:=by omega
   have hs3:=X6 M T i
   have hlb:(B9 M T i (fl M)).length≤1200000:=by rw [G1];exact Nat.mul_le_mul hn4 hT2
   refine RN ?_
   refine ⟨i+1,by omega,by omega,?_⟩
   rw [hs3]
   refine (Ref.close 7 i 5 (k:=1) (n:=(B9 M T i (fl M)).length) (cs2:=Aa (B9 M T i (fl M))) rfl (by rw [List.getElem?_append_right (by simp [hml])];simp [hml]) rfl (by decide) (by simp [Aa])).trans (Ref.gc [0,1,2,3,7] rfl ?_ (by simp [sub,Ab,go_sem,↓reduceIte,Nat.reduceEqDiff,Nat.reduceAdd,reduceCtorEq]))
   (try simp only [go_sem,↓reduceIte,Nat.reduceEqDiff,Nat.reduceAdd,reduceCtorEq])
   have hset:∀ x y:AV,((Bc M T i).map Ac++[x]).set i y=(Bc M T i).map Ac++[y]:=fun x y=>by
    rw [List.set_append_right _ _ (by simp [hml])];simp [hml]
   rw [List.take_of_length_le (by simp [hml]),Lh,hset]
   simp
 ·obtain rfl:i=3:=by omega
  (refine RN ?_;try with_reducible exact trivial)
theorem qV (M:List (List Int))(T:List (List Tg))(hM:P4 M)(hT:Bs T):Pure Tryz.prog 58 [Ak M,Nd T] (.agg [.sl 0 1 0 3]) [some ((Bc M T 3).map Ac)]:=by
 have hM3:M.length=3:=hM.three
 have hn4:=hM.few
 have hT1:=hT.p1
 have hT2:=hT.p2
 have hfe:fl M=(M.getD 0 []).length:=rfl
 have hfl:=Jb M (by omega) (by omega) (by omega)
 have hsz:=nR T (by omega)
 refine Ga [4] Aec rfl ?_;unfold aQ
 refine RN ?_
 refine Ag (hsz) ?_
 refine RN ?_
 refine Ah (α:=Nat) (S:=fun i=>([(2,.ref 0 0),(3,.ref 1 0),(4,.ref 2 0),(5,i64 T.length),(6,.ref 3 0),(16,i64 i)],[some [Ae M],some [Cv T],some [Ai],some [.sl 4 1 0 i],some ((Bc M T i).map Ac)])) (C:=fun i=>i≤3) (μ:=fun i=>3 - i) 0 (by omega) ((Ref.nilC 3 0 1 rfl rfl).trans (Ref.to (by simp [Bc]) (by simp [sub,Ab]))) ?_
 intro i hi
 have hml:=P7 M T i
 refine RN ?_
 refine ⟨fun hc=>?_,fun hc=>?_⟩
 ·have hi3:i<3:=by omega
  refine RN ?_
  refine Ag (hfl) ?_
  refine RN ?_
  refine Ah (α:=Nat) (S:=fun f=>([(2,.ref 0 0),(3,.ref 1 0),(4,.ref 2 0),(5,i64 T.length),(6,.ref 3 0),(16,i64 i),(7,i64 i),(8,.sl 5 1 0 (B9 M T i f).length),(19,i64 (M.getD 0 []).length),(20,i64 f)],[some [Ae M],some [Cv T],some [Ai],some [.sl 4 1 0 i],some ((Bc M T i).map Ac),some (Aa (B9 M T i f))])) (C:=fun f=>f≤fl M) (μ:=fun f=>fl M - f) 0 (by omega) ((Ref.nil 8 1 rfl).trans (Ref.to (by simp [Aa,B9]) (by simp [sub,Ab,B9]))) ?_
  intro f hf
  have hfl2:=G1 M T i f
  refine RN ?_
  refine ⟨fun hc1=>?_,fun hc1=>?_⟩
  ·have hff:f<fl M:=by omega
   have hfp:f*T.length≤100000*12:=Nat.mul_le_mul (by omega) hT2
   refine RN ?_
   refine Ah (α:=Nat) (S:=fun j=>([(2,.ref 0 0),(3,.ref 1 0),(4,.ref 2 0),(5,i64 T.length),(6,.ref 3 0),(16,i64 i),(7,i64 i),(8,.sl 5 1 0 (B9 M T i f++Dt M T i f j).length),(19,i64 (M.getD 0 []).length),(20,i64 f),(9,i64 f),(24,Cv T),(25,i64 T.length),(26,i64 j)],[some [Ae M],some [Cv T],some [Ai],some [.sl 4 1 0 i],some ((Bc M T i).map Ac),some (Aa (B9 M T i f++Dt M T i f j))])) (C:=fun j=>j≤T.length) (μ:=fun j=>T.length - j) 0 (by omega) (Ref.to (by simp [Dt]) (by simp [sub,Ab,Dt])) ?_
   intro j hj
   have hrl:=T6 M T i f j
   have hll:(B9 M T i f++Dt M T i f j).length=f*T.length+j:=by rw [List.length_append,hfl2,hrl]
   have hst:=X7 M T i f j
   generalize hL:B9 M T i f++Dt M T i f j=L at *
   refine RN ?_
   refine ⟨fun hc2=>?_,fun hc2=>?_⟩
   ·have hjl:j<T.length:=by omega
    have g1:=Nc T j hjl
    have g2:=Nb T j hjl
    have h3:=hT.len j hjl
    have hl6:(Ar (T.getD j [])).length=6:=by rw [G7,h3]
    have g4:(Ar (T.getD j [])).getD (i*2) 0=(tg T j i).1:=Oc (T.getD j []) i
    have g5:(Ar (T.getD j [])).getD (i*2+1) 0=(tg T j i).2:=Oe (T.getD j []) i
    obtain ⟨o1,o2,o3,o4,_⟩:=hT.ok j i hjl hi3
    have hvb:=X8 hM hT hi3 hff hjl
    refine RN ?_
    simp only [g1,g2,go_sem,↓reduceIte,Nat.reduceEqDiff,Nat.reduceAdd,reduceCtorEq]
    refine RN ?_
    simp only [g4,g5,go_sem,↓reduceIte,Nat.reduceEqDiff,Nat.reduceAdd,reduceCtorEq]
    have hv:Hq M T i f j=(if 0≤(tg T j i).2 then (M.getD (tg T j i).2.toNat []).getD f 0 else (f:Int))*T.length+(tg T j i).1:=rfl
    generalize hx:tg T j i=x at *
    have hrow:0≤x.2→f<(M.getD x.2.toNat []).length:=fun h=>by
     obtain ⟨r1,_⟩:=hM.rows x.2.toNat (by omega)
     omega
    refine RN ?_
    refine ⟨fun hc3=>?_,fun hc3=>?_⟩
    ·have hr2:=hrow hc3
     rw [if_pos hc3] at hv
     refine RN ?_
     simp only [g4]
     refine ⟨j+1,by omega,by omega,?_⟩
     rw [hst,← List.append_assoc,hL,hv]
     refine Ref.gc [0,1,2,3,4,7] rfl ?_ (by simp [sub,Ab,go_sem,↓reduceIte,Nat.reduceEqDiff,Nat.reduceAdd,reduceCtorEq];omega)
     (try simp only [go_sem,↓reduceIte,Nat.reduceEqDiff,Nat.reduceAdd,reduceCtorEq,Pu,Iu,Fb])
    ·rw [if_neg (by omega)] at hv
     refine RN ?_
     simp only [g4]
     refine ⟨j+1,by omega,by omega,?_⟩
     rw [hst,← List.append_assoc,hL,hv]
     refine Ref.gc [0,1,2,3,4,7] rfl ?_ (by simp [sub,Ab,go_sem,↓reduceIte,Nat.reduceEqDiff,Nat.reduceAdd,reduceCtorEq];omega)
     (try simp only [go_sem,↓reduceIte,Nat.reduceEqDiff,Nat.reduceAdd,reduceCtorEq,Pu,Iu,Fb])
   ·obtain rfl:j=T.length:=by omega
    have hs2:=P6 M T i f
    refine RN ?_
    refine ⟨f+1,by omega,by omega,?_⟩
    rw [hs2,hL]
    exact Ref.frame (by simp [sub,Ab])
  ·obtain rfl:f=fl M:=by omega
   have hs3:=X6 M T i
   have hlb:(B9 M T i (fl M)).length≤1200000:=by rw [G1];exact Nat.mul_le_mul hn4 hT2
   refine RN ?_
   refine ⟨i+1,by omega,by omega,?_⟩
   rw [hs3]
   refine (Ref.close 7 i 5 (k:=1) (n:=(B9 M T i (fl M)).length) (cs2:=Aa (B9 M T i (fl M))) rfl (by rw [List.getElem?_append_right (by simp [hml])];simp [hml]) rfl (by decide) (by simp [Aa])).trans (Ref.gc [0,1,2,3,7] rfl ?_ (by simp [sub,Ab,go_sem,↓reduceIte,Nat.reduceEqDiff,Nat.reduceAdd,reduceCtorEq]))
   (try simp only [go_sem,↓reduceIte,Nat.reduceEqDiff,Nat.reduceAdd,reduceCtorEq])
   have hset:∀ x y:AV,((Bc M T i).map Ac++[x]).set i y=(Bc M T i).map Ac++[y]:=fun x y=>by
    rw [List.set_append_right _ _ (by simp [hml])];simp [hml]
   rw [List.take_of_length_le (by simp [hml]),Lh,hset]
   simp
 ·obtain rfl:i=3:=by omega
  (refine RN ?_;try with_reducible exact trivial)
end
section
open Go.Gov Go.Ce Go.Nt
open Classical
theorem jQ {M:List (List Int)}(h:IsMap M)(h4:fl M≤400):P4 M:=⟨h.2,by omega,fun k hk=>by
 have hI:=h.mvi
 refine ⟨hI.row k hk,fun f hf=>?_⟩
 have:=hI.lt k f hk hf
 rw [hI.val k f hk hf]
 omega⟩
theorem O3 {l:List UInt8}{c:Int}(h:B3 l=c)(hc:c≠0):Bz l=[]:=by
 unfold Bz
 rw [h,if_neg hc]
theorem jJ {l:List UInt8}(h:B3 l=0):Bz l=Hy (Al l) (Tb (Au l)):=by
 unfold Bz
 rw [if_pos h]
theorem jI (o:List UInt8)(M:List (List Int)){j:Nat}(h0:0<j)(h:j≤o.length):Hy (o.drop (j - 1)) M=Bc (Hy (o.drop j) M) (wT (B0 (o.getD (j - 1) 0).toNat)) 3:=by
 have e:o.drop (j - 1)=o.getD (j - 1) 0 :: o.drop j:=by
  rw [List.drop_eq_getElem_cons (by omega),List.getD_eq_getElem?_getD,List.getElem?_eq_getElem (by omega)]
  rw [show j - 1+1=j by omega]
  rfl
 rw [e]
 rfl
theorem iA (l:List UInt8)(hs:l.length≤1048576):Pure Tryz.prog 12 [sV l] (Mn l) []:=by
 have h:=yY l (by omega)
 have hl:=jX l
 have hsl:=Sg l
 by_cases hk:Dg l
 ·have hb:=gY l (Al l).length hl (by omega)
  rw [jY,We] at hb
  have hc:=gZ (Al l) (Au l) hk.1 hk.2 (by omega)
  rw [if_pos hk] at h
  by_cases hg:400<4*(Be (Aq (Al l)) (Aw (Au l))).2.1
  ·have hmc:B3 l=3:=by unfold B3;rw [if_pos hk,if_pos hg]
   unfold Mn
   rw [O3 hmc (by decide),hmc]
   have hcb:=(N4 (Al l) (Au l) hk.1 hk.2 0).2.2
   rw [List.drop_zero] at hcb
   generalize Be (Aq (Al l)) (Aw (Au l))=c at hc hg hcb ⊢
   refine Bh Wh rfl ?_;unfold Qf
   refine RN ?_
   refine Ag (h) ?_
   (iterate 16 ((try (refine RN ?_;try with_reducible exact trivial));(try with_reducible refine fun _=>?_)))
   refine Ag (hb) ?_
   (iterate 16 ((try (refine RN ?_;try with_reducible exact trivial));(try with_reducible refine fun _=>?_)))
   refine Ag (hc) ?_
   (iterate 16 ((try (refine RN ?_;try with_reducible exact trivial));(try with_reducible refine fun _=>?_)))
   refine ⟨fun _=>?_,fun h=>absurd h (by omega)⟩
   refine RN ?_
   exact (Ref.gc [] (F' := [(0,.tup [.agg [Ai],i64 3])]) (H' := []) rfl (by simp only [go_sem,↓reduceIte,Nat.reduceEqDiff,Nat.reduceAdd,reduceCtorEq]) (by simp [sub,Ab,go_sem,↓reduceIte,Nat.reduceEqDiff,Nat.reduceAdd,reduceCtorEq])).trans ((Ref.nilC1 1).trans ((Ref.dead (F' := [(0,.tup [Ak [],i64 3])]) (by simp [sub,Ab,Im,Ak,Ae,go_sem,↓reduceIte,Nat.reduceEqDiff,Nat.reduceAdd,reduceCtorEq])).trans (Ref.gc [] rfl rfl (by simp [sub,Ab,go_sem,↓reduceIte,Nat.reduceEqDiff,Nat.reduceAdd,reduceCtorEq]))))
  ·have h0:B3 l=0:=by unfold B3;rw [if_pos hk,if_neg hg]
   unfold Mn
   rw [jJ h0,h0]
   have hcb:=(N4 (Al l) (Au l) hk.1 hk.2 0).2
   rw [List.drop_zero] at hcb
   obtain ⟨a,b,d1,d2,d3,d4,d5,d6,d7⟩:=V6 h0
   have hd:=yT (Au l) hk.2 (by omega)
   rw [d1] at hd
   have hu:=Xl a b d2 d3
   rw [d4,if_pos rfl] at hu
   rw [d5]
   generalize Ch a b=T at *
   generalize Be (Aq (Al l)) (Aw (Au l))=c at hc hg hcb
   refine Bh Wh rfl ?_;unfold Qf
   refine RN ?_
   refine Ag (h) ?_
   (iterate 16 ((try (refine RN ?_;try with_reducible exact trivial));(try with_reducible refine fun _=>?_)))
   refine Ag (hb) ?_
   (iterate 16 ((try (refine RN ?_;try with_reducible exact trivial));(try with_reducible refine fun _=>?_)))
   refine Ag (hc) ?_
   (iterate 16 ((try (refine RN ?_;try with_reducible exact trivial));(try with_reducible refine fun _=>?_)))
   simp only [List.take_length,We]
   refine Ag (hd) ?_
   refine RN ?_
   refine CallsX.ice 2 ?_
   refine D4 hu (by simp only [go_sem,↓reduceIte,Nat.reduceEqDiff,Nat.reduceAdd,reduceCtorEq]<;>rfl) ?_
   refine RN ?_
   refine Ah (α:=Nat) (S:=fun j=>([(0,sV l),(2,.ref 0 0),(5,.ref 1 0),(6,i64 0),(7,i64 ((j:Int) - 1))],[some [Ai],some [Ae (Hy ((Al l).drop j) T)]])) (C:=fun j=>j≤(Al l).length) (μ:=fun j=>j) (Al l).length (Nat.le_refl _) ?_ ?_
   ·rw [List.drop_length]
    exact Ref.gc2 [0,3]
   intro j hj
   refine RN ?_
   refine ⟨fun hc1=>?_,fun hc1=>?_⟩
   ·have hst:=jI (Al l) T (j:=j) (by omega) hj
    have hbm:(Al l).getD (j - 1) 0∈Al l:=Rc (by omega)
    have hop:=Wo (Jf l _ hbm)
    have hlo:l.getD (j - 1) 0=(Al l).getD (j - 1) 0:=by
     conv=>lhs;rw [← Kc l]
     exact eR (by omega)
    have hfl:=Nat.le_trans (Nat.mul_le_mul_left (fl T) (lG (Al l) (Jf l) j)) d7
    obtain ⟨m1,m2⟩:=O0 d6 ((Al l).drop j) (fun b hb=>Jf l b (List.mem_of_mem_drop hb)) hfl
    have hmv:=jQ m1 (by omega)
    have hnm:=yS (((Al l).getD (j - 1) 0).toNat:Int) hop
    have htp:=(Nh _ hop).1
    have hap:=yN _ _ hmv htp
    have ej:((j:Int) - 1).toNat=j - 1:=by omega
    rw [← hlo] at hst hnm hap
    obtain ⟨X,hX⟩:∃ X,X=Hy ((Al l).drop j) T:=⟨_,rfl⟩
    rw [← hX] at hst hap ⊢
    (repeat first | simp only [ej,go_sem,↓reduceIte,Nat.reduceEqDiff,Nat.reduceAdd,reduceCtorEq] | refine RX ?_ | decide)
    refine Ag (hnm) ?_
    refine RN ?_
    refine Ag (hap) ?_
    refine RN ?_
    refine ⟨j - 1,by omega,by omega,?_⟩
    rw [hst]
    have hm3:=P7 X (wT (B0 (l.getD (j - 1) 0).toNat)) 3
    generalize Bc X (wT (B0 (l.getD (j - 1) 0).toNat)) 3=Y at *
    refine Ref.sel [0,1] rfl ?_ ?_
    ·simp only [go_sem,↓reduceIte,Nat.reduceEqDiff,Nat.reduceAdd,reduceCtorEq,Bl _ _ Y 3 hm3]
     simp [Ae,hm3]
    ·simp [sub,Ab,go_sem,↓reduceIte,Nat.reduceEqDiff,Nat.reduceAdd,reduceCtorEq];omega
   ·obtain rfl:j=0:=by omega
    rw [List.drop_zero]
    refine RN ?_
    exact Ref.gc2 []
 ·rw [if_neg hk] at h
  have hmc:B3 l=6:=by unfold B3;rw [if_neg hk]
  unfold Mn
  rw [O3 hmc (by decide),hmc]
  refine Bh Wh rfl ?_;unfold Qf
  refine RN ?_
  refine Ag (h) ?_
  refine RN ?_
  refine ⟨fun _=>?_,fun h=>absurd h (by decide)⟩
  refine RN ?_
  exact (Ref.gc [] (F' := [(0,.tup [.agg [Ai],i64 6])]) (H' := []) rfl (by simp only [go_sem,↓reduceIte,Nat.reduceEqDiff,Nat.reduceAdd,reduceCtorEq]) (by simp [sub,Ab,go_sem,↓reduceIte,Nat.reduceEqDiff,Nat.reduceAdd,reduceCtorEq])).trans ((Ref.nilC1 1).trans ((Ref.dead (F' := [(0,.tup [Ak [],i64 6])]) (by simp [sub,Ab,Im,Ak,Ae,go_sem,↓reduceIte,Nat.reduceEqDiff,Nat.reduceAdd,reduceCtorEq])).trans (Ref.gc [] rfl rfl (by simp [sub,Ab,go_sem,↓reduceIte,Nat.reduceEqDiff,Nat.reduceAdd,reduceCtorEq]))))
end
section
open Go.Gov Go.Ce Go.Nt
open Classical
variable (tp tq:TypeId) (p q:Value)
theorem iY (l:List UInt8)(hs:l.length≤1048576):PureG Tryz.prog (LV tp tq p q) 29 [sV l] (.tup [.agg [.sl 0 1 0 (Bz l).length],i64 (B3 l)]) [some ((Bz l).map Ac)]:=by
 have h:=Wp tp tq p q l (by omega)
 have hsl:=Sg l
 by_cases hk:Dg l
 ·have hc:=cV (Al l) (Au l) hk.1 hk.2
  have hcb:=(N4 (Al l) (Au l) hk.1 hk.2 0).2
  rw [List.drop_zero] at hcb
  by_cases hg:400<4*(Be (Aq (Al l)) (Aw (Au l))).2.1
  ·have hmc:B3 l=3:=by unfold B3;rw [if_pos hk,if_pos hg]
   rw [O3 hmc (by decide),hmc]
   generalize Be (Aq (Al l)) (Aw (Au l))=c at hc hg hcb ⊢
   refine Hk Wj rfl ?_;unfold Qh
   refine RN ?_
   refine Lf (h) fun o ho=>?_
   obtain ⟨⟨a,b,c1⟩,d⟩:=o
   obtain ⟨ho1,ho2⟩:=ho
   dsimp only at ho1 ho2
   subst ho1
   obtain ⟨rfl,rfl,rfl⟩:a=Al l∧b=Au l∧c1=(if (Au l).length=1 then 0 else Bb (Au l)):=by have:=ho2 hk;simpa using this
   rw [decide_eq_true hk]
   clear ho2 h
   generalize (if (Au l).length=1 then 0 else Bb (Au l))=z at hc ⊢
   refine RN ?_
   refine Ag (hc) ?_
   refine RN ?_
   refine ⟨fun _=>?_,fun h=>absurd h (by omega)⟩
   refine RN ?_
   exact (Ref.gc [] (F' := [(0,.tup [.agg [Ai],i64 3])]) (H' := []) rfl (by simp only [go_sem,↓reduceIte,Nat.reduceEqDiff,Nat.reduceAdd,reduceCtorEq]) (by simp [sub,Ab,go_sem,↓reduceIte,Nat.reduceEqDiff,Nat.reduceAdd,reduceCtorEq])).trans ((Ref.nilC1 1).trans (Ref.to1))
  ·have h0:B3 l=0:=by unfold B3;rw [if_pos hk,if_neg hg]
   rw [jJ h0,h0]
   obtain ⟨a,b,d1,d2,d3,d4,d5,d6,d7⟩:=V6 h0
   have hd:=uA (Au l) (Al l) hk.2 (by omega)
   rw [d1] at hd
   have hu:=Alf a b d2 d3 (Ale d4).1 d6.1
   rw [d5]
   generalize Ch a b=T at *
   generalize Be (Aq (Al l)) (Aw (Au l))=c at hc hg hcb
   refine Hk Wj rfl ?_;unfold Qh
   refine RN ?_
   refine Lf (h) fun o ho=>?_
   obtain ⟨⟨a1,b1,c1⟩,d⟩:=o
   obtain ⟨ho1,ho2⟩:=ho
   dsimp only at ho1 ho2
   subst ho1
   obtain ⟨rfl,rfl,rfl⟩:a1=Al l∧b1=Au l∧c1=(if (Au l).length=1 then 0 else Bb (Au l)):=by have:=ho2 hk;simpa using this
   rw [decide_eq_true hk]
   clear ho2 h
   generalize (if (Au l).length=1 then 0 else Bb (Au l))=z at hc hd ⊢
   refine RN ?_
   refine Ag (hc) ?_
   refine RN ?_
   intro _
   refine RN ?_
   refine Ag (hd) ?_
   refine RN ?_
   refine Ag (hu) ?_
   refine RN ?_
   refine Ah (α:=Nat) (S:=fun j=>([(2,.ref 1 0),(4,.ref 2 0),(6,.ref 3 0),(8,i64 ((j:Int) - 1))],[some (Cc (LV tp tq p q)),some [Ai],some [sV (Al l),sV (Au l),i64 z],some [.sl 4 1 0 3],some ((Hy ((Al l).drop j) T).map Ac)])) (C:=fun j=>j≤(Al l).length) (μ:=fun j=>j) (Al l).length (Nat.le_refl _) ?_ ?_
   ·rw [List.drop_length]
    exact Ref.gc2 [0,1,2,6,5]
   intro j hj
   refine RN ?_
   refine ⟨fun hc1=>?_,fun hc1=>?_⟩
   ·have hst:=jI (Al l) T (j:=j) (by omega) hj
    have hbm:(Al l).getD (j - 1) 0∈Al l:=Rc (by omega)
    have hop:=Wo (Jf l _ hbm)
    have hfl:=Nat.le_trans (Nat.mul_le_mul_left (fl T) (lG (Al l) (Jf l) j)) d7
    obtain ⟨m1,m2⟩:=O0 d6 ((Al l).drop j) (fun b hb=>Jf l b (List.mem_of_mem_drop hb)) hfl
    have hmv:=jQ m1 (by omega)
    have hnm:=Aa8 (((Al l).getD (j - 1) 0).toNat:Int) hop
    have htp:=(Nh _ hop).1
    have hap:=qV _ _ hmv htp
    have ej:((j:Int) - 1).toNat=j - 1:=by omega
    obtain ⟨X,hX⟩:∃ X,X=Hy ((Al l).drop j) T:=⟨_,rfl⟩
    rw [← hX] at hst hap ⊢
    have hx3:X.length=3:=by rw [hX];exact m1.2
    (repeat first | simp only [ej,go_sem,↓reduceIte,Nat.reduceEqDiff,Nat.reduceAdd,reduceCtorEq] | refine RX ?_ | decide)
    refine Ag (hnm) ?_
    refine RN ?_
    refine A9 hap (by simp only [go_sem,↓reduceIte,Nat.reduceEqDiff,Nat.reduceAdd,reduceCtorEq,Bl _ _ X 3 hx3];first | done | (simp only [Ak,Ae,hx3];done) | (simp only [Ak,Ae,hx3];rfl)) (by first | rfl | simp only [go_sem,↓reduceIte,Nat.reduceEqDiff,Nat.reduceAdd,reduceCtorEq]) ?_
    refine RN ?_
    refine ⟨j - 1,by omega,by omega,?_⟩
    rw [hst]
    have hm3:=P7 X (wT (B0 ((Al l).getD (j - 1) 0).toNat)) 3
    generalize Bc X (wT (B0 ((Al l).getD (j - 1) 0).toNat)) 3=Y at *
    refine Ref.gc [0,1,2,3,6] rfl (by simp only [go_sem,↓reduceIte,Nat.reduceEqDiff,Nat.reduceAdd,reduceCtorEq]) ?_
    simp [sub,Ab,go_sem,↓reduceIte,Nat.reduceEqDiff,Nat.reduceAdd,reduceCtorEq];omega
   ·obtain rfl:j=0:=by omega
    have hm3:=(O0 d6 (Al l) (Jf l) d7).1.2
    rw [List.drop_zero,hm3]
    refine RN ?_
    exact Ref.gc2 [4]
 ·have hmc:B3 l=6:=by unfold B3;rw [if_neg hk]
  rw [O3 hmc (by decide),hmc]
  refine Hk Wj rfl ?_;unfold Qh
  refine RN ?_
  refine Lf (h) fun o ho=>?_
  obtain ⟨⟨a,b,c⟩,d⟩:=o
  obtain ⟨ho1,ho2⟩:=ho
  dsimp only at ho1 ho2
  subst ho1
  rw [decide_eq_false hk]
  refine RN ?_
  exact (Ref.gc [] (F' := [(0,.tup [.agg [Ai],i64 6])]) (H' := []) rfl (by simp only [go_sem,↓reduceIte,Nat.reduceEqDiff,Nat.reduceAdd,reduceCtorEq]) (by simp [sub,Ab,go_sem,↓reduceIte,Nat.reduceEqDiff,Nat.reduceAdd,reduceCtorEq])).trans ((Ref.nilC1 1).trans (Ref.to1))
end
end Go.Proofs.YtnompobcofhkpaaGreatDoor
