/- Texts that belong together. -/
import Derived.Test.YtnompobcofhkpaaGreatDoorRs
import Derived.Test.YtnompobcofhkpaaGreatDoorS6
set_option maxHeartbeats 16000000
set_option linter.unusedSimpArgs false
set_option linter.unusedVariables false
set_option maxRecDepth 100000
namespace Go.Proofs.YtnompobcofhkpaaGreatDoor
section
open Go.Ce Go.Nt
open Classical
def seedsT:List (List UInt8):=[[84],[67],[79],[68],[73]]++((List.range 29).map fun v=>72 :: tx (v+2))++((List.range 29).map fun v=>90 :: tx (v+2))
def opN:List UInt8:=[97,98,99,100,101,106,107,109,110,111,116,122]
def B4:Nat→List (List UInt8)
 | 0=>[[]]
 | n+1=>(B4 n).flatMap fun o=>opN.map fun c=>o++[c]
theorem Te:seedsT.length=63:=rfl
theorem nH:∀ s∈seedsT,Dh s∧s.length≤3∧Al s=[]:=fun s hs=>by
 unfold seedsT at hs
 have hv:∀ b:UInt8,(b=72∨b=90)→∀ v,v<29→Dh (b :: tx (v+2))∧(b :: tx (v+2)).length≤3∧Al (b :: tx (v+2))=[]:=fun b hb v hv=>by
  have h1:=oQ (v+2) (by omega) (by omega)
  refine ⟨.inr ⟨b,tx (v+2),rfl,hb,by omega,by omega⟩,?_,?_⟩
  ·unfold tx;split<;>simp
  ·unfold Al
   rw [List.takeWhile_cons_of_neg]
   rcases hb with rfl | rfl<;>decide
 rcases List.mem_append.1 hs with hs | hs
 ·rcases List.mem_append.1 hs with hs | hs
  ·simp only [List.mem_cons,List.not_mem_nil,or_false] at hs
   rcases hs with rfl | rfl | rfl | rfl | rfl
   all_goals exact ⟨.inl ⟨_,rfl,by decide⟩,by decide,by decide⟩
  ·obtain ⟨v,hv1,rfl⟩:=List.mem_map.1 hs
   exact hv 72 (.inl rfl) v (List.mem_range.1 hv1)
 ·obtain ⟨v,hv1,rfl⟩:=List.mem_map.1 hs
  exact hv 90 (.inr rfl) v (List.mem_range.1 hv1)
theorem Af2:∀ c∈opN,C0 c=true:=by decide
theorem Pc:∀ n,∀ o∈B4 n,o.length=n∧∀ b∈o,C0 b=true
 | 0,o,ho=>by
  simp only [B4,List.mem_cons,List.not_mem_nil,or_false] at ho
  subst ho
  exact ⟨rfl,fun b hb=>by cases hb⟩
 | n+1,o,ho=>by
  simp only [B4,List.mem_flatMap,List.mem_map] at ho
  obtain ⟨q,hq,c,hc,rfl⟩:=ho
  obtain ⟨h1,h2⟩:=Pc n q hq
  refine ⟨by simp [h1],fun b hb=>?_⟩
  rcases List.mem_append.1 hb with h | h
  ·exact h2 b h
  ·rw [List.mem_singleton.1 h];exact Af2 c hc
theorem Abq {o s:List UInt8}(ho:∀ b∈o,C0 b=true)(hs:Al s=[]):Al (o++s)=o∧Au (o++s)=s:=by
 have h1:Al (o++s)=o++Al s:=by
  unfold Al
  exact List.takeWhile_append_of_pos ho
 have h2:=Kc (o++s)
 rw [h1,hs,List.append_nil] at h2
 refine ⟨by rw [h1,hs,List.append_nil],List.append_cancel_left h2⟩
theorem Abp {o s:List UInt8}{n:Nat}(hn:n≤12)(ho:o∈B4 n)(hs:s∈seedsT):Dg (o++s)∧Al (o++s)=o∧Au (o++s)=s:=by
 obtain ⟨h1,h2⟩:=Pc n o ho
 obtain ⟨h3,_,h5⟩:=nH s hs
 obtain ⟨e1,e2⟩:=Abq h2 h5
 refine ⟨⟨?_,?_⟩,e1,e2⟩
 ·rw [e1];omega
 ·rw [e2];exact h3
noncomputable def cL (l:List UInt8):List Int:=[(Be (Aq (Al l)) (Aw (Au l))).1,(Be (Aq (Al l)) (Aw (Au l))).2.1,(Be (Aq (Al l)) (Aw (Au l))).2.2]
noncomputable def Gt (M:List (List Int))(l:List UInt8):Bool:=decide (cL l=D6 (fl M) M 3)&&(decide (B3 l=0)&&decide (Ct (Bz l)=Ct M))
def Hm (o:List UInt8)(k:Nat):List (List UInt8):=(seedsT.drop k).map fun s=>o++s
def Ek (L:List (List UInt8))(i:Nat):List (List UInt8):=(L.drop i).flatMap fun o=>Hm o 0
def Iz:Nat→List (List UInt8)
 | 0=>Ek (B4 0) 0++(Ek (B4 1) 0++Ek (B4 2) 0)
 | 1=>Ek (B4 1) 0++Ek (B4 2) 0
 | 2=>Ek (B4 2) 0
 | _=>[]
theorem mU {n:Nat}(h:n<3):Iz n=Ek (B4 n) 0++Iz (n+1):=by
 match n,h with
 | 0,_=>rfl
 | 1,_=>rfl
 | 2,_=>exact (List.append_nil _).symm
theorem mT {L:List (List UInt8)}{i:Nat}(h:i<L.length):Ek L i=Hm (L.getD i []) 0++Ek L (i+1):=by
 unfold Ek
 rw [List.drop_eq_getElem_cons h,List.flatMap_cons]
 simp [h]
theorem mS (L:List (List UInt8)):Ek L L.length=[]:=by unfold Ek;simp
theorem mP (o:List UInt8){k:Nat}(h:k<63):Hm o k=(o++seedsT.getD k []) :: Hm o (k+1):=by
 unfold Hm
 have h2:k<seedsT.length:=h
 rw [List.drop_eq_getElem_cons h2,List.map_cons]
 simp [h2]
theorem mO (o:List UInt8):Hm o 63=[]:=by unfold Hm;rw [← Te];simp
noncomputable def Gu (M:List (List Int)):Option (List UInt8):=(Iz 0).find? (Gt M)
theorem mJ {M:List (List Int)}{l:List UInt8}(h:Gu M=some l):Gt M l=true∧∃ n o s,n<3∧o∈B4 n∧s∈seedsT∧l=o++s:=by
 have h1:=List.find?_some h
 have h2:=List.mem_of_find?_eq_some h
 refine ⟨h1,?_⟩
 have key:∀ n,l∈Ek (B4 n) 0→∃ o s,o∈B4 n∧s∈seedsT∧l=o++s:=fun n hn=>by
  simp only [Ek,Hm,List.drop_zero,List.mem_flatMap,List.mem_map] at hn
  obtain ⟨o,ho,s,hs,rfl⟩:=hn
  exact ⟨o,s,ho,hs,rfl⟩
 unfold Iz at h2
 rcases List.mem_append.1 h2 with h | h
 ·obtain ⟨o,s,q⟩:=key 0 h;exact ⟨0,o,s,by omega,q⟩
 ·rcases List.mem_append.1 h with h | h
  ·obtain ⟨o,s,q⟩:=key 1 h;exact ⟨1,o,s,by omega,q⟩
  ·obtain ⟨o,s,q⟩:=key 2 h;exact ⟨2,o,s,by omega,q⟩
theorem Sp:∀ n,(B4 n).length=12^n
 | 0=>rfl
 | n+1=>by
  rw [B4,List.length_flatMap,Nat.pow_succ,← Sp n]
  generalize B4 n=L
  induction L with
  | nil=>rfl
  | cons o L ih=>
   have e:((o :: L).map fun o=>(opN.map fun c=>o++[c]).length).sum=12+(L.map fun o=>(opN.map fun c=>o++[c]).length).sum:=by
    rw [List.map_cons,List.sum_cons,List.length_map];rfl
   rw [List.length_cons,Nat.succ_mul,← ih]
   exact e.trans (Nat.add_comm _ _)
def Dc (L:List (List UInt8))(i:Nat):List (List UInt8):=(L.take i).flatMap fun o=>opN.map fun c=>o++[c]
def H5 (o:List UInt8)(k:Nat):List (List UInt8):=(opN.take k).map fun c=>o++[c]
theorem Wn {L:List (List UInt8)}{i:Nat}(h:i<L.length):Dc L (i+1)=Dc L i++H5 (L.getD i []) 12:=by
 unfold Dc H5
 rw [List.take_succ_eq_append_getElem h,List.flatMap_append,List.take_of_length_le (show opN.length≤12 from Nat.le_refl _)]
 simp [h]
theorem lE (n:Nat):Dc (B4 n) (B4 n).length=B4 (n+1):=by unfold Dc;rw [List.take_length];rfl
theorem Sn (L:List (List UInt8))(i:Nat)(h:i≤L.length):(Dc L i).length=12*i:=by
 have key:∀ K:List (List UInt8),(K.flatMap fun o=>opN.map fun c=>o++[c]).length=12*K.length:=fun K=>by
  induction K with
  | nil=>rfl
  | cons o K ih=>
   rw [List.flatMap_cons,List.length_append,ih,List.length_map,List.length_cons,show opN.length=12 from rfl]
   omega
 unfold Dc
 rw [key,List.length_take]
 omega
theorem Af1 (o:List UInt8){k:Nat}(h:k<12):H5 o (k+1)=H5 o k++[o++[opN.getD k 0]]:=by
 unfold H5
 rw [List.take_succ_eq_append_getElem (show k<opN.length from h),List.map_append]
 simp [show k<opN.length from h]
theorem Af0 (o:List UInt8){k:Nat}(h:k≤12):(H5 o k).length=k:=by
 unfold H5
 rw [List.length_map,List.length_take,show opN.length=12 from rfl]
 omega
end
section
open Go.Gov Go.Nt
open Classical
theorem Xk (n:Nat)(h:n<256):IntKind.u8.wrap (n:Int)=(n:Int):=by
 simp only [IntKind.wrap,IntKind.bits,IntKind.signed]
 simp
 omega
theorem fT (v:Nat)(h:v<10):Pure Tryz.prog 37 [i64 (v:Int)] (sV (tx v)) []:=by
 have e1:(48:Int)+(v:Int)=((48+v:Nat):Int):=by omega
 have e2:=Xk (48+v) (by omega)
 have e3:tx v=[UInt8.ofNat (48+v)]:=by unfold tx;rw [if_pos h]
 rw [e3]
 refine Ao kY rfl rfl ?_;unfold c37
 refine RN ?_
 refine ⟨fun hc=>?_,fun hc=>absurd hc (by omega)⟩
 (repeat first | simp only [e1,e2,go_sem,↓reduceIte,Nat.reduceEqDiff,Nat.reduceAdd,reduceCtorEq] | refine RX ?_ | decide)
 all_goals first | done | rfl
theorem Vo (v:Nat)(h:v<100):Pure Tryz.prog 37 [i64 (v:Int)] (sV (tx v)) []:=by
 by_cases h1:v<10
 ·exact fT v h1
 ·have hmx:1099511627776000≤maxLen:=by decide
  have hd:=fT (v / 10) (by omega)
  have e0:tx (v / 10)=[UInt8.ofNat (48+v / 10)]:=by unfold tx;rw [if_pos (by omega)]
  rw [e0] at hd
  have e1:(48:Int)+((v%10:Nat):Int)=((48+v%10:Nat):Int):=by omega
  have e2:=Xk (48+v%10) (by omega)
  have e3:tx v=[UInt8.ofNat (48+v / 10),UInt8.ofNat (48+v%10)]:=by unfold tx;rw [if_neg h1]
  have e4:(v:Int).tdiv 10=((v / 10:Nat):Int):=(Int.ofNat_tdiv v 10).symm
  have e5:(v:Int).tmod 10=((v%10:Nat):Int):=(Int.ofNat_tmod v 10).symm
  rw [e3]
  refine Ao kY rfl rfl ?_;unfold c37
  refine RN ?_
  intro _
  refine Bj ?_
  refine Ho [(2,sV [UInt8.ofNat (48+v / 10),UInt8.ofNat (48+v%10)])] [] ?_ ?_
  ·(repeat' first | simp only [go_sem,↓reduceIte,Nat.reduceEqDiff,Nat.reduceAdd,reduceCtorEq] | with_reducible refine Ck ?_ | with_reducible refine Eo ?_ | with_reducible refine Cj ?_ | with_reducible exact Cm | with_reducible refine Ci ?_ ?_ | (with_reducible refine And.intro ?_ ?_;focus first | assumption | omega | grind))
   all_goals simp only [e4,e5,e1,e2,go_sem,↓reduceIte,Nat.reduceEqDiff,Nat.reduceAdd,reduceCtorEq]
   all_goals refine Ag (hd) ?_
   all_goals (repeat' first | simp only [go_sem,↓reduceIte,Nat.reduceEqDiff,Nat.reduceAdd,reduceCtorEq] | with_reducible refine Ck ?_ | with_reducible refine Eo ?_ | with_reducible refine Cj ?_ | with_reducible exact Cm | with_reducible refine Ci ?_ ?_ | (with_reducible refine And.intro ?_ ?_;focus first | assumption | omega | grind))
   all_goals exact Ref.gc1 []
  (refine RN ?_;try with_reducible exact trivial)
def Ew (i:Nat):List (List UInt8):=[[84],[67],[79],[68],[73]]++(List.range i).map fun v=>72 :: tx (v+2)
def Gb (i:Nat):List (List UInt8):=Ew 29++(List.range i).map fun v=>90 :: tx (v+2)
theorem nC (i:Nat):Ew (i+1)=Ew i++[72 :: tx (i+2)]:=by simp [Ew,List.range_succ]
theorem nE (i:Nat):Gb (i+1)=Gb i++[90 :: tx (i+2)]:=by simp [Gb,List.range_succ]
theorem M3 (i:Nat):(Ew i).length=5+i:=by simp [Ew];omega
theorem Ta (i:Nat):(Gb i).length=34+i:=by simp [Gb,M3]
theorem nD:Gb 29=seedsT:=rfl
theorem nF:Gb 0=Ew 29:=by simp [Gb]
theorem Pz (v:Nat):(tx v).length≤2:=by unfold tx;split<;>simp
theorem yZ:Pure Tryz.prog 23 [] (.sl 0 1 0 63) [some (As seedsT)]:=by
 have hmx:1099511627776000≤maxLen:=by decide
 refine Bh Adk rfl ?_;unfold Z0
 refine RN ?_
 refine Ah (α:=Nat) (S:=fun i=>([(1,.sl 0 1 0 (Ew i).length),(2,i64 ((i+2:Nat):Int))],[some (As (Ew i))])) (C:=fun i=>i≤29) (μ:=fun i=>29 - i) 0 (by omega) ?_ ?_
 ·exact Ref.to (by simp [As,Ew]) (by simp [sub,Ab,M3])
 intro i hi
 have hs:=nC i
 have hl:=M3 i
 refine RN ?_
 refine ⟨fun hc=>?_,fun hc=>?_⟩
 ·have hd:=Vo (i+2) (by omega)
  have ht:=Pz (i+2)
  generalize tx (i+2)=t at hd hs ht
  generalize Ew i=L at hs hl ⊢
  refine RN ?_
  refine Ag (hd) ?_
  refine RN ?_
  refine ⟨i+1,by omega,by omega,?_⟩
  rw [hs]
  exact Ref.gc [2] rfl (by simp only [go_sem,↓reduceIte,Nat.reduceEqDiff,Nat.reduceAdd,reduceCtorEq]<;>rfl) (by simp [sub,Ab,go_sem,↓reduceIte,Nat.reduceEqDiff,Nat.reduceAdd,reduceCtorEq];omega)
 ·obtain rfl:i=29:=by omega
  rw [← nF]
  refine RN ?_
  refine Ah (α:=Nat) (S:=fun i=>([(1,.sl 0 1 0 (Gb i).length),(3,i64 ((i+2:Nat):Int))],[some (As (Gb i))])) (C:=fun i=>i≤29) (μ:=fun i=>29 - i) 0 (by omega) ?_ ?_
  ·exact Ref.to1
  intro i hi
  have hs:=nE i
  have hl:=Ta i
  refine RN ?_
  refine ⟨fun hc=>?_,fun hc=>?_⟩
  ·have hd:=Vo (i+2) (by omega)
   have ht:=Pz (i+2)
   generalize tx (i+2)=t at hd hs ht
   generalize Gb i=L at hs hl ⊢
   refine RN ?_
   refine Ag (hd) ?_
   refine RN ?_
   refine ⟨i+1,by omega,by omega,?_⟩
   rw [hs]
   exact Ref.gc [2] rfl (by simp only [go_sem,↓reduceIte,Nat.reduceEqDiff,Nat.reduceAdd,reduceCtorEq]<;>rfl) (by simp [sub,Ab,go_sem,↓reduceIte,Nat.reduceEqDiff,Nat.reduceAdd,reduceCtorEq];omega)
  ·obtain rfl:i=29:=by omega
   rw [nD]
   refine RN ?_
   exact Ref.to rfl (by simp [sub,Ab,Te])
def Kf (c:Nat):List UInt8:=((List.range c).map fun k=>UInt8.ofNat (97+k)).filter C0
theorem Afx (c:Nat):Kf (c+1)=Kf c++if C0 (UInt8.ofNat (97+c)) then [UInt8.ofNat (97+c)] else []:=by
 unfold Kf
 rw [List.range_succ,List.map_append,List.filter_append]
 congr 1
 show List.filter C0 [UInt8.ofNat (97+c)]=_
 rw [List.filter_cons]
 rfl
theorem Afv:Kf 26=opN:=by decide
theorem Afw (c:Nat):(Kf c).length≤c:=by
 unfold Kf
 exact Nat.le_trans (List.length_filter_le _ _) (by simp)
def La (o:List UInt8)(c:Nat):List (List UInt8):=(Kf c).map fun c=>o++[c]
theorem Afz (o:List UInt8)(c:Nat):(La o c).length≤c:=by unfold La;rw [List.length_map];exact Afw c
theorem Afy (o:List UInt8):La o 26=H5 o 12:=by unfold La H5;rw [Afv];rfl
def Hg (L:List (List UInt8))(i c:Nat):List (List UInt8):=Dc L i++La (L.getD i []) c
theorem lF (L:List (List UInt8))(i:Nat):Hg L i 0=Dc L i:=by simp [Hg,La,Kf]
theorem Af5 (L:List (List UInt8))(i c:Nat):Hg L i (c+1)=Hg L i c++if C0 (UInt8.ofNat (97+c)) then [L.getD i []++[UInt8.ofNat (97+c)]] else []:=by
 unfold Hg La
 rw [Afx,List.map_append,List.append_assoc]
 congr 2
 split<;>rfl
theorem Af3 {L:List (List UInt8)}{i:Nat}(h:i<L.length):Hg L i 26=Dc L (i+1):=by
 unfold Hg
 rw [Afy,Wn h]
theorem Af4 (L:List (List UInt8)){i:Nat}(h:i≤L.length)(c:Nat):(Hg L i c).length≤12*i+c:=by
 have:=Sn L i h
 have:=Afz (L.getD i []) c
 unfold Hg
 rw [List.length_append]
 omega
theorem yX (n:Nat)(hn:n≤2):Pure Tryz.prog 24 [i64 (n:Int)] (.sl 0 1 0 (B4 n).length) [some (As (B4 n))]:=by
 have hmx:1099511627776000≤maxLen:=by decide
 refine Bh Adl rfl ?_;unfold Z1
 refine RN ?_
 refine Ah (α:=Nat) (S:=fun t=>([(0,i64 ((n:Int) - t)),(3,.sl 0 1 0 (B4 t).length)],[some (As (B4 t))])) (C:=fun t=>t≤n) (μ:=fun t=>n - t) 0 (by omega) ?_ ?_
 ·exact Ref.to (by simp [As,B4]) (by simp [sub,Ab,B4])
 intro t ht
 have hTl:=Sp t
 have hT12:12^t≤12^2:=Nat.pow_le_pow_right (by omega) (by omega)
 have hTo:=fun o ho=>(Pc t o ho).1
 have hTe:=lE t
 refine RN ?_
 refine ⟨fun hc=>?_,fun hc=>?_⟩
 ·generalize B4 t=L at hTl hTo hTe ⊢
  refine RN ?_
  refine Ah (α:=Nat) (S:=fun i=>([(0,i64 ((n:Int) - t)),(3,.sl 0 1 0 L.length),(4,.sl 1 1 0 (Dc L i).length),(5,i64 (i:Int))],[some (As L),some (As (Dc L i))])) (C:=fun i=>i≤L.length) (μ:=fun i=>L.length - i) 0 (by omega) ?_ ?_
  ·exact Ref.to (by simp [As,Dc]) (by simp [sub,Ab,Dc])
  intro i hi
  have hMl:=Sn L i hi
  refine RN ?_
  refine ⟨fun hc1=>?_,fun hc1=>?_⟩
  ·have hil:i<L.length:=by omega
   have hol:(L.getD i []).length=t:=hTo _ (by
    rw [List.getD_eq_getElem?_getD,List.getElem?_eq_getElem hil];exact List.getElem_mem hil)
   have hMs:=Wn hil
   have hlt:12*i≤12*12^2:=Nat.mul_le_mul_left _ (by omega)
   refine RN ?_
   refine Ah (α:=Nat) (S:=fun c=>([(0,i64 ((n:Int) - t)),(3,.sl 0 1 0 L.length),(4,.sl 1 1 0 (Hg L i c).length),(5,i64 (i:Int)),(6,.val (.int .u8 ((97+c:Nat):Int)))],[some (As L),some (As (Hg L i c))])) (C:=fun c=>c≤26) (μ:=fun c=>26 - c) 0 (by omega) ?_ ?_
   ·exact Ref.to (by rw [lF]) (by rw [lF];simp [sub,Ab])
   intro c hc2
   have hXs:=Af5 L i c
   have hXl:=Af4 L hi c
   have hXe:=Af3 hil
   refine RN ?_
   refine ⟨fun hc3=>?_,fun hc3=>?_⟩
   ·have hc26:c<26:=by omega
    have hb:(UInt8.ofNat (97+c)).toNat=97+c:=by simp;omega
    have hw:=Rx (UInt8.ofNat (97+c))
    rw [u8,hb] at hw
    have hwo:=Xr (UInt8.ofNat (97+c))
    have e1:((97+c:Nat):Int)+1=((97+(c+1):Nat):Int):=by omega
    have e2:=Xk (97+(c+1)) (by omega)
    have e3:UInt8.ofNat ((97+c:Nat):Int).toNat=UInt8.ofNat (97+c):=by rw [Int.toNat_natCast]
    generalize Hg L i c=K at hXs hXl ⊢
    refine RN ?_
    refine Ag (hw) ?_
    (repeat first | simp only [hwo,Bool.not_not,go_sem,↓reduceIte,Nat.reduceEqDiff,Nat.reduceAdd,reduceCtorEq] | refine RX ?_ | decide)
    refine ⟨fun hc4=>?_,fun hc4=>?_⟩
    ·rw [if_pos hc4] at hXs
     generalize L.getD i []=o at *
     (repeat first | simp only [e3,e1,e2,go_sem,↓reduceIte,Nat.reduceEqDiff,Nat.reduceAdd,reduceCtorEq] | refine RX ?_ | decide)
     refine ⟨c+1,by omega,by omega,?_⟩
     rw [hXs]
     exact Ref.gc2 [0,4]
    ·rw [if_neg (fun h=>by rw [hc4] at h;cases h),List.append_nil] at hXs
     (repeat first | simp only [e1,e2,go_sem,↓reduceIte,Nat.reduceEqDiff,Nat.reduceAdd,reduceCtorEq] | refine RX ?_ | decide)
     refine ⟨c+1,by omega,by omega,?_⟩
     rw [hXs]
     exact Ref.to1
   ·obtain rfl:c=26:=by omega
    rw [hXe]
    refine RN ?_
    refine ⟨i+1,by omega,by omega,?_⟩
    exact Ref.to1
  ·obtain rfl:i=L.length:=by omega
   rw [hTe]
   refine RN ?_
   refine ⟨t+1,by omega,by omega,?_⟩
   exact Ref.gc [1] rfl (by simp only [go_sem,↓reduceIte,Nat.reduceEqDiff,Nat.reduceAdd,reduceCtorEq]<;>rfl) (by simp [sub,Ab,go_sem,↓reduceIte,Nat.reduceEqDiff,Nat.reduceAdd,reduceCtorEq];omega)
 ·obtain rfl:t=n:=by omega
  refine RN ?_
  exact Ref.to1
end
section
open Go.Gov Go.Nt
open Classical
variable (tp tq:TypeId) (p q:Value)
theorem Ajl:PureG Tryz.prog (LV tp tq p q) 45 [] (.sl 0 1 0 63) [some (As seedsT)]:=by
 have hmx:1099511627776000≤maxLen:=by decide
 refine Hk Ad1 rfl ?_;unfold aH
 refine RN ?_
 refine Ah (α:=Nat) (S:=fun k=>([(1,.sl 1 1 0 (if k=0 then 5 else if k=1 then 34 else 63)),(6,.slc 1 2 (As [[72],[90]])),(7,i64 2),(8,i64 (k:Int))],[some (Cc (LV tp tq p q)),some (As (if k=0 then Ew 0 else if k=1 then Ew 29 else seedsT))])) (C:=fun k=>k≤2) (μ:=fun k=>2 - k) 0 (by omega) ?_ ?_
 ·refine Ref.sel [0,1] rfl ?_ ?_
  ·simp [go_sem,↓reduceIte,Nat.reduceEqDiff,Nat.reduceAdd,reduceCtorEq,As,Ew]
  ·simp [sub,Ab,go_sem,↓reduceIte,Nat.reduceEqDiff,Nat.reduceAdd,reduceCtorEq,As]
 intro k hk
 refine RN ?_
 refine ⟨fun hc=>?_,fun hc=>?_⟩
 ·have hk2:k=0∨k=1:=by omega
  rcases hk2 with rfl | rfl
  ·simp only [if_true,go_sem,↓reduceIte,Nat.reduceEqDiff,Nat.reduceAdd,reduceCtorEq]
   refine RN ?_
   refine Ah (α:=Nat) (S:=fun i=>([(1,.sl 1 1 0 (Ew i).length),(3,sV [72]),(4,i64 ((i+2:Nat):Int)),(6,.slc 1 2 (As [[72],[90]])),(7,i64 2),(8,i64 0)],[some (Cc (LV tp tq p q)),some (As (Ew i))])) (C:=fun i=>i≤29) (μ:=fun i=>29 - i) 0 (by omega) ?_ ?_
   ·exact Ref.to rfl (by simp [sub,Ab,M3])
   intro i hi
   have hs:=nC i
   have hl:=M3 i
   refine RN ?_
   refine ⟨fun hc=>?_,fun hc=>?_⟩
   ·have hd:=U1 tp tq p q ((i+2:Nat):Int) (by omega) (by omega)
    rw [Rl (by omega)] at hd
    have ht:=Pz (i+2)
    generalize tx (i+2)=t at hd hs ht
    generalize Ew i=L at hs hl ⊢
    refine RN ?_
    refine Gs (hd) ?_
    refine RN ?_
    refine ⟨i+1,by omega,by omega,?_⟩
    rw [hs]
    exact Ref.gc [0,3] rfl (by simp only [go_sem,↓reduceIte,Nat.reduceEqDiff,Nat.reduceAdd,reduceCtorEq]<;>rfl) (by simp [sub,Ab,go_sem,↓reduceIte,Nat.reduceEqDiff,Nat.reduceAdd,reduceCtorEq];omega)
   ·obtain rfl:i=29:=by omega
    refine RN ?_
    refine ⟨1,by omega,by omega,?_⟩
    exact Ref.to rfl (by simp [sub,Ab,M3])
  ·simp only [if_true,if_neg (show ¬ (1:Nat)=0 by decide),go_sem,↓reduceIte,Nat.reduceEqDiff,Nat.reduceAdd,reduceCtorEq]
   rw [← nF]
   refine RN ?_
   refine Ah (α:=Nat) (S:=fun i=>([(1,.sl 1 1 0 (Gb i).length),(3,sV [90]),(4,i64 ((i+2:Nat):Int)),(6,.slc 1 2 (As [[72],[90]])),(7,i64 2),(8,i64 1)],[some (Cc (LV tp tq p q)),some (As (Gb i))])) (C:=fun i=>i≤29) (μ:=fun i=>29 - i) 0 (by omega) ?_ ?_
   ·exact Ref.to rfl (by simp [sub,Ab,Ta])
   intro i hi
   have hs:=nE i
   have hl:=Ta i
   refine RN ?_
   refine ⟨fun hc=>?_,fun hc=>?_⟩
   ·have hd:=U1 tp tq p q ((i+2:Nat):Int) (by omega) (by omega)
    rw [Rl (by omega)] at hd
    have ht:=Pz (i+2)
    generalize tx (i+2)=t at hd hs ht
    generalize Gb i=L at hs hl ⊢
    refine RN ?_
    refine Gs (hd) ?_
    refine RN ?_
    refine ⟨i+1,by omega,by omega,?_⟩
    rw [hs]
    exact Ref.gc [0,3] rfl (by simp only [go_sem,↓reduceIte,Nat.reduceEqDiff,Nat.reduceAdd,reduceCtorEq]<;>rfl) (by simp [sub,Ab,go_sem,↓reduceIte,Nat.reduceEqDiff,Nat.reduceAdd,reduceCtorEq];omega)
   ·obtain rfl:i=29:=by omega
    refine RN ?_
    refine ⟨2,by omega,by omega,?_⟩
    exact Ref.to (by rw [nD];rfl) (by simp [sub,Ab,Ta])
 ·obtain rfl:k=2:=by omega
  refine RN ?_
  exact Ref.gc2 [1]
end
end Go.Proofs.YtnompobcofhkpaaGreatDoor
