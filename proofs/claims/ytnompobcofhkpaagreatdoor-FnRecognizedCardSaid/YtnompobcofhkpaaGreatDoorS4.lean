/- Texts that belong together. -/
import Derived.Test.YtnompobcofhkpaaGreatDoorRs
import Derived.Test.YtnompobcofhkpaaGreatDoorS6
set_option maxHeartbeats 16000000
set_option linter.unusedSimpArgs false
set_option linter.unusedVariables false
set_option maxRecDepth 100000
namespace Go.Proofs.YtnompobcofhkpaaGreatDoor
section
open Go.Ce Go.Nt
open Classical
def seedsT:List (List UInt8):=[[84],[67],[79],[68],[73]]++((List.range 29).map fun v=>72 :: tx (v+2))++((List.range 29).map fun v=>90 :: tx (v+2))
def opN:List UInt8:=[97,98,99,100,101,106,107,109,110,111,116,122]
def B4:Nat→List (List UInt8)
 | 0=>[[]]
 | n+1=>(B4 n).flatMap fun o=>opN.map fun c=>o++[c]
theorem S5:seedsT.length=63:=rfl
theorem mU:∀ s∈seedsT,Dh s∧s.length≤3∧Al s=[]:=fun s hs=>by
 unfold seedsT at hs
 have hv:∀ b:UInt8,(b=72∨b=90)→∀ v,v<29→Dh (b :: tx (v+2))∧(b :: tx (v+2)).length≤3∧Al (b :: tx (v+2))=[]:=fun b hb v hv=>by
  have h1:=oD (v+2) (by omega) (by omega)
  refine ⟨.inr ⟨b,tx (v+2),rfl,hb,by omega,by omega⟩,?_,?_⟩
  ·unfold tx;split<;>simp
  ·unfold Al
   rw [List.takeWhile_cons_of_neg]
   rcases hb with rfl | rfl<;>decide
 rcases List.mem_append.1 hs with hs | hs
 ·rcases List.mem_append.1 hs with hs | hs
  ·simp only [List.mem_cons,List.not_mem_nil,or_false] at hs
   rcases hs with rfl | rfl | rfl | rfl | rfl
   all_goals exact ⟨.inl ⟨_,rfl,by decide⟩,by decide,by decide⟩
  ·obtain ⟨v,hv1,rfl⟩:=List.mem_map.1 hs
   exact hv 72 (.inl rfl) v (List.mem_range.1 hv1)
 ·obtain ⟨v,hv1,rfl⟩:=List.mem_map.1 hs
  exact hv 90 (.inr rfl) v (List.mem_range.1 hv1)
theorem Afp:∀ c∈opN,C0 c=true:=by decide
theorem O5:∀ n,∀ o∈B4 n,o.length=n∧∀ b∈o,C0 b=true
 | 0,o,ho=>by
  simp only [B4,List.mem_cons,List.not_mem_nil,or_false] at ho
  subst ho
  exact ⟨rfl,fun b hb=>by cases hb⟩
 | n+1,o,ho=>by
  simp only [B4,List.mem_flatMap,List.mem_map] at ho
  obtain ⟨q,hq,c,hc,rfl⟩:=ho
  obtain ⟨h1,h2⟩:=O5 n q hq
  refine ⟨by simp [h1],fun b hb=>?_⟩
  rcases List.mem_append.1 hb with h | h
  ·exact h2 b h
  ·rw [List.mem_singleton.1 h];exact Afp c hc
theorem Abf {o s:List UInt8}(ho:∀ b∈o,C0 b=true)(hs:Al s=[]):Al (o++s)=o∧Au (o++s)=s:=by
 have h1:Al (o++s)=o++Al s:=by
  unfold Al
  exact List.takeWhile_append_of_pos ho
 have h2:=J6 (o++s)
 rw [h1,hs,List.append_nil] at h2
 refine ⟨by rw [h1,hs,List.append_nil],List.append_cancel_left h2⟩
theorem Abe {o s:List UInt8}{n:Nat}(hn:n≤12)(ho:o∈B4 n)(hs:s∈seedsT):Dg (o++s)∧Al (o++s)=o∧Au (o++s)=s:=by
 obtain ⟨h1,h2⟩:=O5 n o ho
 obtain ⟨h3,_,h5⟩:=mU s hs
 obtain ⟨e1,e2⟩:=Abf h2 h5
 refine ⟨⟨?_,?_⟩,e1,e2⟩
 ·rw [e1];omega
 ·rw [e2];exact h3
noncomputable def cL (l:List UInt8):List Int:=[(Be (Aq (Al l)) (Aw (Au l))).1,(Be (Aq (Al l)) (Aw (Au l))).2.1,(Be (Aq (Al l)) (Aw (Au l))).2.2]
noncomputable def Gp (M:List (List Int))(l:List UInt8):Bool:=decide (cL l=D5 (fl M) M 3)&&(decide (B3 l=0)&&decide (Ct (Bz l)=Ct M))
def Hi (o:List UInt8)(k:Nat):List (List UInt8):=(seedsT.drop k).map fun s=>o++s
def Ej (L:List (List UInt8))(i:Nat):List (List UInt8):=(L.drop i).flatMap fun o=>Hi o 0
def It:Nat→List (List UInt8)
 | 0=>Ej (B4 0) 0++(Ej (B4 1) 0++Ej (B4 2) 0)
 | 1=>Ej (B4 1) 0++Ej (B4 2) 0
 | 2=>Ej (B4 2) 0
 | _=>[]
theorem mG {n:Nat}(h:n<3):It n=Ej (B4 n) 0++It (n+1):=by
 match n,h with
 | 0,_=>rfl
 | 1,_=>rfl
 | 2,_=>exact (List.append_nil _).symm
theorem mF {L:List (List UInt8)}{i:Nat}(h:i<L.length):Ej L i=Hi (L.getD i []) 0++Ej L (i+1):=by
 unfold Ej
 rw [List.drop_eq_getElem_cons h,List.flatMap_cons]
 simp [h]
theorem mE (L:List (List UInt8)):Ej L L.length=[]:=by unfold Ej;simp
theorem mD (o:List UInt8){k:Nat}(h:k<63):Hi o k=(o++seedsT.getD k []) :: Hi o (k+1):=by
 unfold Hi
 have h2:k<seedsT.length:=h
 rw [List.drop_eq_getElem_cons h2,List.map_cons]
 simp [h2]
theorem mC (o:List UInt8):Hi o 63=[]:=by unfold Hi;rw [← S5];simp
noncomputable def Gq (M:List (List Int)):Option (List UInt8):=(It 0).find? (Gp M)
theorem lX {M:List (List Int)}{l:List UInt8}(h:Gq M=some l):Gp M l=true∧∃ n o s,n<3∧o∈B4 n∧s∈seedsT∧l=o++s:=by
 have h1:=List.find?_some h
 have h2:=List.mem_of_find?_eq_some h
 refine ⟨h1,?_⟩
 have key:∀ n,l∈Ej (B4 n) 0→∃ o s,o∈B4 n∧s∈seedsT∧l=o++s:=fun n hn=>by
  simp only [Ej,Hi,List.drop_zero,List.mem_flatMap,List.mem_map] at hn
  obtain ⟨o,ho,s,hs,rfl⟩:=hn
  exact ⟨o,s,ho,hs,rfl⟩
 unfold It at h2
 rcases List.mem_append.1 h2 with h | h
 ·obtain ⟨o,s,q⟩:=key 0 h;exact ⟨0,o,s,by omega,q⟩
 ·rcases List.mem_append.1 h with h | h
  ·obtain ⟨o,s,q⟩:=key 1 h;exact ⟨1,o,s,by omega,q⟩
  ·obtain ⟨o,s,q⟩:=key 2 h;exact ⟨2,o,s,by omega,q⟩
theorem Sg:∀ n,(B4 n).length=12^n
 | 0=>rfl
 | n+1=>by
  rw [B4,List.length_flatMap,Nat.pow_succ,← Sg n]
  generalize B4 n=L
  induction L with
  | nil=>rfl
  | cons o L ih=>
   have e:((o :: L).map fun o=>(opN.map fun c=>o++[c]).length).sum=12+(L.map fun o=>(opN.map fun c=>o++[c]).length).sum:=by
    rw [List.map_cons,List.sum_cons,List.length_map];rfl
   rw [List.length_cons,Nat.succ_mul,← ih]
   exact e.trans (Nat.add_comm _ _)
def Dc (L:List (List UInt8))(i:Nat):List (List UInt8):=(L.take i).flatMap fun o=>opN.map fun c=>o++[c]
def Hy (o:List UInt8)(k:Nat):List (List UInt8):=(opN.take k).map fun c=>o++[c]
theorem We {L:List (List UInt8)}{i:Nat}(h:i<L.length):Dc L (i+1)=Dc L i++Hy (L.getD i []) 12:=by
 unfold Dc Hy
 rw [List.take_succ_eq_append_getElem h,List.flatMap_append,List.take_of_length_le (show opN.length≤12 from Nat.le_refl _)]
 simp [h]
theorem kT (n:Nat):Dc (B4 n) (B4 n).length=B4 (n+1):=by unfold Dc;rw [List.take_length];rfl
theorem Sf (L:List (List UInt8))(i:Nat)(h:i≤L.length):(Dc L i).length=12*i:=by
 have key:∀ K:List (List UInt8),(K.flatMap fun o=>opN.map fun c=>o++[c]).length=12*K.length:=fun K=>by
  induction K with
  | nil=>rfl
  | cons o K ih=>
   rw [List.flatMap_cons,List.length_append,ih,List.length_map,List.length_cons,show opN.length=12 from rfl]
   omega
 unfold Dc
 rw [key,List.length_take]
 omega
theorem Afo (o:List UInt8){k:Nat}(h:k<12):Hy o (k+1)=Hy o k++[o++[opN.getD k 0]]:=by
 unfold Hy
 rw [List.take_succ_eq_append_getElem (show k<opN.length from h),List.map_append]
 simp [show k<opN.length from h]
theorem Afn (o:List UInt8){k:Nat}(h:k≤12):(Hy o k).length=k:=by
 unfold Hy
 rw [List.length_map,List.length_take,show opN.length=12 from rfl]
 omega
end
section
open Go.Gov Go.Nt
open Classical
theorem Xb (n:Nat)(h:n<256):IntKind.u8.wrap (n:Int)=(n:Int):=by
 simp only [IntKind.wrap,IntKind.bits,IntKind.signed]
 simp
 omega
theorem fI (v:Nat)(h:v<10):Pure Tryz.prog 37 [i64 (v:Int)] (sV (tx v)) []:=by
 have e1:(48:Int)+(v:Int)=((48+v:Nat):Int):=by omega
 have e2:=Xb (48+v) (by omega)
 have e3:tx v=[UInt8.ofNat (48+v)]:=by unfold tx;rw [if_pos h]
 rw [e3]
 refine Ao kN rfl rfl ?_;unfold c37
 refine RN ?_
 refine ⟨fun hc=>?_,fun hc=>absurd hc (by omega)⟩
 (repeat first | simp only [e1,e2,go_sem,↓reduceIte,Nat.reduceEqDiff,Nat.reduceAdd,reduceCtorEq] | refine RX ?_ | decide)
 all_goals first | done | rfl
theorem Vf (v:Nat)(h:v<100):Pure Tryz.prog 37 [i64 (v:Int)] (sV (tx v)) []:=by
 by_cases h1:v<10
 ·exact fI v h1
 ·have hmx:1099511627776000≤maxLen:=by decide
  have hd:=fI (v / 10) (by omega)
  have e0:tx (v / 10)=[UInt8.ofNat (48+v / 10)]:=by unfold tx;rw [if_pos (by omega)]
  rw [e0] at hd
  have e1:(48:Int)+((v%10:Nat):Int)=((48+v%10:Nat):Int):=by omega
  have e2:=Xb (48+v%10) (by omega)
  have e3:tx v=[UInt8.ofNat (48+v / 10),UInt8.ofNat (48+v%10)]:=by unfold tx;rw [if_neg h1]
  have e4:(v:Int).tdiv 10=((v / 10:Nat):Int):=(Int.ofNat_tdiv v 10).symm
  have e5:(v:Int).tmod 10=((v%10:Nat):Int):=(Int.ofNat_tmod v 10).symm
  rw [e3]
  refine Ao kN rfl rfl ?_;unfold c37
  refine RN ?_
  intro _
  refine Bj ?_
  refine Hk [(2,sV [UInt8.ofNat (48+v / 10),UInt8.ofNat (48+v%10)])] [] ?_ ?_
  ·(repeat' first | simp only [go_sem,↓reduceIte,Nat.reduceEqDiff,Nat.reduceAdd,reduceCtorEq] | with_reducible refine Ck ?_ | with_reducible refine En ?_ | with_reducible refine Cj ?_ | with_reducible exact Cm | with_reducible refine Ci ?_ ?_ | (with_reducible refine And.intro ?_ ?_;focus first | assumption | omega | grind))
   all_goals simp only [e4,e5,e1,e2,go_sem,↓reduceIte,Nat.reduceEqDiff,Nat.reduceAdd,reduceCtorEq]
   all_goals refine Ag (hd) ?_
   all_goals (repeat' first | simp only [go_sem,↓reduceIte,Nat.reduceEqDiff,Nat.reduceAdd,reduceCtorEq] | with_reducible refine Ck ?_ | with_reducible refine En ?_ | with_reducible refine Cj ?_ | with_reducible exact Cm | with_reducible refine Ci ?_ ?_ | (with_reducible refine And.intro ?_ ?_;focus first | assumption | omega | grind))
   all_goals exact Ref.gc1 []
  (refine RN ?_;try with_reducible exact trivial)
def Ev (i:Nat):List (List UInt8):=[[84],[67],[79],[68],[73]]++(List.range i).map fun v=>72 :: tx (v+2)
def F7 (i:Nat):List (List UInt8):=Ev 29++(List.range i).map fun v=>90 :: tx (v+2)
theorem mN (i:Nat):Ev (i+1)=Ev i++[72 :: tx (i+2)]:=by simp [Ev,List.range_succ]
theorem mP (i:Nat):F7 (i+1)=F7 i++[90 :: tx (i+2)]:=by simp [F7,List.range_succ]
theorem Mu (i:Nat):(Ev i).length=5+i:=by simp [Ev];omega
theorem S1 (i:Nat):(F7 i).length=34+i:=by simp [F7,Mu]
theorem mO:F7 29=seedsT:=rfl
theorem mS:F7 0=Ev 29:=by simp [F7]
theorem Pq (v:Nat):(tx v).length≤2:=by unfold tx;split<;>simp
theorem yM:Pure Tryz.prog 23 [] (.sl 0 1 0 63) [some (As seedsT)]:=by
 have hmx:1099511627776000≤maxLen:=by decide
 refine Bh Ac7 rfl ?_;unfold Zr
 refine RN ?_
 refine Ah (α:=Nat) (S:=fun i=>([(1,.sl 0 1 0 (Ev i).length),(2,i64 ((i+2:Nat):Int))],[some (As (Ev i))])) (C:=fun i=>i≤29) (μ:=fun i=>29 - i) 0 (by omega) ?_ ?_
 ·exact Ref.to (by simp [As,Ev]) (by simp [sub,Ab,Mu])
 intro i hi
 have hs:=mN i
 have hl:=Mu i
 refine RN ?_
 refine ⟨fun hc=>?_,fun hc=>?_⟩
 ·have hd:=Vf (i+2) (by omega)
  have ht:=Pq (i+2)
  generalize tx (i+2)=t at hd hs ht
  generalize Ev i=L at hs hl ⊢
  refine RN ?_
  refine Ag (hd) ?_
  refine RN ?_
  refine ⟨i+1,by omega,by omega,?_⟩
  rw [hs]
  exact Ref.gc [2] rfl (by simp only [go_sem,↓reduceIte,Nat.reduceEqDiff,Nat.reduceAdd,reduceCtorEq]<;>rfl) (by simp [sub,Ab,go_sem,↓reduceIte,Nat.reduceEqDiff,Nat.reduceAdd,reduceCtorEq];omega)
 ·obtain rfl:i=29:=by omega
  rw [← mS]
  refine RN ?_
  refine Ah (α:=Nat) (S:=fun i=>([(1,.sl 0 1 0 (F7 i).length),(3,i64 ((i+2:Nat):Int))],[some (As (F7 i))])) (C:=fun i=>i≤29) (μ:=fun i=>29 - i) 0 (by omega) ?_ ?_
  ·exact Ref.to1
  intro i hi
  have hs:=mP i
  have hl:=S1 i
  refine RN ?_
  refine ⟨fun hc=>?_,fun hc=>?_⟩
  ·have hd:=Vf (i+2) (by omega)
   have ht:=Pq (i+2)
   generalize tx (i+2)=t at hd hs ht
   generalize F7 i=L at hs hl ⊢
   refine RN ?_
   refine Ag (hd) ?_
   refine RN ?_
   refine ⟨i+1,by omega,by omega,?_⟩
   rw [hs]
   exact Ref.gc [2] rfl (by simp only [go_sem,↓reduceIte,Nat.reduceEqDiff,Nat.reduceAdd,reduceCtorEq]<;>rfl) (by simp [sub,Ab,go_sem,↓reduceIte,Nat.reduceEqDiff,Nat.reduceAdd,reduceCtorEq];omega)
  ·obtain rfl:i=29:=by omega
   rw [mO]
   refine RN ?_
   exact Ref.to rfl (by simp [sub,Ab,S5])
def J8 (c:Nat):List UInt8:=((List.range c).map fun k=>UInt8.ofNat (97+k)).filter C0
theorem Afk (c:Nat):J8 (c+1)=J8 c++if C0 (UInt8.ofNat (97+c)) then [UInt8.ofNat (97+c)] else []:=by
 unfold J8
 rw [List.range_succ,List.map_append,List.filter_append]
 congr 1
 show List.filter C0 [UInt8.ofNat (97+c)]=_
 rw [List.filter_cons]
 rfl
theorem Afi:J8 26=opN:=by decide
theorem Afj (c:Nat):(J8 c).length≤c:=by
 unfold J8
 exact Nat.le_trans (List.length_filter_le _ _) (by simp)
def K4 (o:List UInt8)(c:Nat):List (List UInt8):=(J8 c).map fun c=>o++[c]
theorem Afm (o:List UInt8)(c:Nat):(K4 o c).length≤c:=by unfold K4;rw [List.length_map];exact Afj c
theorem Afl (o:List UInt8):K4 o 26=Hy o 12:=by unfold K4 Hy;rw [Afi];rfl
def Hc (L:List (List UInt8))(i c:Nat):List (List UInt8):=Dc L i++K4 (L.getD i []) c
theorem kU (L:List (List UInt8))(i:Nat):Hc L i 0=Dc L i:=by simp [Hc,K4,J8]
theorem Afs (L:List (List UInt8))(i c:Nat):Hc L i (c+1)=Hc L i c++if C0 (UInt8.ofNat (97+c)) then [L.getD i []++[UInt8.ofNat (97+c)]] else []:=by
 unfold Hc K4
 rw [Afk,List.map_append,List.append_assoc]
 congr 2
 split<;>rfl
theorem Afq {L:List (List UInt8)}{i:Nat}(h:i<L.length):Hc L i 26=Dc L (i+1):=by
 unfold Hc
 rw [Afl,We h]
theorem Afr (L:List (List UInt8)){i:Nat}(h:i≤L.length)(c:Nat):(Hc L i c).length≤12*i+c:=by
 have:=Sf L i h
 have:=Afm (L.getD i []) c
 unfold Hc
 rw [List.length_append]
 omega
theorem yK (n:Nat)(hn:n≤2):Pure Tryz.prog 24 [i64 (n:Int)] (.sl 0 1 0 (B4 n).length) [some (As (B4 n))]:=by
 have hmx:1099511627776000≤maxLen:=by decide
 refine Bh Ac8 rfl ?_;unfold Zs
 refine RN ?_
 refine Ah (α:=Nat) (S:=fun t=>([(0,i64 ((n:Int) - t)),(3,.sl 0 1 0 (B4 t).length)],[some (As (B4 t))])) (C:=fun t=>t≤n) (μ:=fun t=>n - t) 0 (by omega) ?_ ?_
 ·exact Ref.to (by simp [As,B4]) (by simp [sub,Ab,B4])
 intro t ht
 have hTl:=Sg t
 have hT12:12^t≤12^2:=Nat.pow_le_pow_right (by omega) (by omega)
 have hTo:=fun o ho=>(O5 t o ho).1
 have hTe:=kT t
 refine RN ?_
 refine ⟨fun hc=>?_,fun hc=>?_⟩
 ·generalize B4 t=L at hTl hTo hTe ⊢
  refine RN ?_
  refine Ah (α:=Nat) (S:=fun i=>([(0,i64 ((n:Int) - t)),(3,.sl 0 1 0 L.length),(4,.sl 1 1 0 (Dc L i).length),(5,i64 (i:Int))],[some (As L),some (As (Dc L i))])) (C:=fun i=>i≤L.length) (μ:=fun i=>L.length - i) 0 (by omega) ?_ ?_
  ·exact Ref.to (by simp [As,Dc]) (by simp [sub,Ab,Dc])
  intro i hi
  have hMl:=Sf L i hi
  refine RN ?_
  refine ⟨fun hc1=>?_,fun hc1=>?_⟩
  ·have hil:i<L.length:=by omega
   have hol:(L.getD i []).length=t:=hTo _ (by
    rw [List.getD_eq_getElem?_getD,List.getElem?_eq_getElem hil];exact List.getElem_mem hil)
   have hMs:=We hil
   have hlt:12*i≤12*12^2:=Nat.mul_le_mul_left _ (by omega)
   refine RN ?_
   refine Ah (α:=Nat) (S:=fun c=>([(0,i64 ((n:Int) - t)),(3,.sl 0 1 0 L.length),(4,.sl 1 1 0 (Hc L i c).length),(5,i64 (i:Int)),(6,.val (.int .u8 ((97+c:Nat):Int)))],[some (As L),some (As (Hc L i c))])) (C:=fun c=>c≤26) (μ:=fun c=>26 - c) 0 (by omega) ?_ ?_
   ·exact Ref.to (by rw [kU]) (by rw [kU];simp [sub,Ab])
   intro c hc2
   have hXs:=Afs L i c
   have hXl:=Afr L hi c
   have hXe:=Afq hil
   refine RN ?_
   refine ⟨fun hc3=>?_,fun hc3=>?_⟩
   ·have hc26:c<26:=by omega
    have hb:(UInt8.ofNat (97+c)).toNat=97+c:=by simp;omega
    have hw:=Rk (UInt8.ofNat (97+c))
    rw [u8,hb] at hw
    have hwo:=Xi (UInt8.ofNat (97+c))
    have e1:((97+c:Nat):Int)+1=((97+(c+1):Nat):Int):=by omega
    have e2:=Xb (97+(c+1)) (by omega)
    have e3:UInt8.ofNat ((97+c:Nat):Int).toNat=UInt8.ofNat (97+c):=by rw [Int.toNat_natCast]
    generalize Hc L i c=K at hXs hXl ⊢
    refine RN ?_
    refine Ag (hw) ?_
    (repeat first | simp only [hwo,Bool.not_not,go_sem,↓reduceIte,Nat.reduceEqDiff,Nat.reduceAdd,reduceCtorEq] | refine RX ?_ | decide)
    refine ⟨fun hc4=>?_,fun hc4=>?_⟩
    ·rw [if_pos hc4] at hXs
     generalize L.getD i []=o at *
     (repeat first | simp only [e3,e1,e2,go_sem,↓reduceIte,Nat.reduceEqDiff,Nat.reduceAdd,reduceCtorEq] | refine RX ?_ | decide)
     refine ⟨c+1,by omega,by omega,?_⟩
     rw [hXs]
     exact Ref.gc2 [0,4]
    ·rw [if_neg (fun h=>by rw [hc4] at h;cases h),List.append_nil] at hXs
     (repeat first | simp only [e1,e2,go_sem,↓reduceIte,Nat.reduceEqDiff,Nat.reduceAdd,reduceCtorEq] | refine RX ?_ | decide)
     refine ⟨c+1,by omega,by omega,?_⟩
     rw [hXs]
     exact Ref.to1
   ·obtain rfl:c=26:=by omega
    rw [hXe]
    refine RN ?_
    refine ⟨i+1,by omega,by omega,?_⟩
    exact Ref.to1
  ·obtain rfl:i=L.length:=by omega
   rw [hTe]
   refine RN ?_
   refine ⟨t+1,by omega,by omega,?_⟩
   exact Ref.gc [1] rfl (by simp only [go_sem,↓reduceIte,Nat.reduceEqDiff,Nat.reduceAdd,reduceCtorEq]<;>rfl) (by simp [sub,Ab,go_sem,↓reduceIte,Nat.reduceEqDiff,Nat.reduceAdd,reduceCtorEq];omega)
 ·obtain rfl:t=n:=by omega
  refine RN ?_
  exact Ref.to1
end
section
open Go.Gov Go.Nt
open Classical
variable (tp tq:TypeId) (p q:Value)
theorem Ai8:PureG Tryz.prog (LV tp tq p q) 45 [] (.sl 0 1 0 63) [some (As seedsT)]:=by
 have hmx:1099511627776000≤maxLen:=by decide
 refine Hg Ado rfl ?_;unfold Z8
 refine RN ?_
 refine Ah (α:=Nat) (S:=fun k=>([(1,.sl 1 1 0 (if k=0 then 5 else if k=1 then 34 else 63)),(6,.slc 1 2 (As [[72],[90]])),(7,i64 2),(8,i64 (k:Int))],[some (Cc (LV tp tq p q)),some (As (if k=0 then Ev 0 else if k=1 then Ev 29 else seedsT))])) (C:=fun k=>k≤2) (μ:=fun k=>2 - k) 0 (by omega) ?_ ?_
 ·refine Ref.sel [0,1] rfl ?_ ?_
  ·simp [go_sem,↓reduceIte,Nat.reduceEqDiff,Nat.reduceAdd,reduceCtorEq,As,Ev]
  ·simp [sub,Ab,go_sem,↓reduceIte,Nat.reduceEqDiff,Nat.reduceAdd,reduceCtorEq,As]
 intro k hk
 refine RN ?_
 refine ⟨fun hc=>?_,fun hc=>?_⟩
 ·have hk2:k=0∨k=1:=by omega
  rcases hk2 with rfl | rfl
  ·simp only [if_true,go_sem,↓reduceIte,Nat.reduceEqDiff,Nat.reduceAdd,reduceCtorEq]
   refine RN ?_
   refine Ah (α:=Nat) (S:=fun i=>([(1,.sl 1 1 0 (Ev i).length),(3,sV [72]),(4,i64 ((i+2:Nat):Int)),(6,.slc 1 2 (As [[72],[90]])),(7,i64 2),(8,i64 0)],[some (Cc (LV tp tq p q)),some (As (Ev i))])) (C:=fun i=>i≤29) (μ:=fun i=>29 - i) 0 (by omega) ?_ ?_
   ·exact Ref.to rfl (by simp [sub,Ab,Mu])
   intro i hi
   have hs:=mN i
   have hl:=Mu i
   refine RN ?_
   refine ⟨fun hc=>?_,fun hc=>?_⟩
   ·have hd:=Us tp tq p q ((i+2:Nat):Int) (by omega) (by omega)
    rw [Rc (by omega)] at hd
    have ht:=Pq (i+2)
    generalize tx (i+2)=t at hd hs ht
    generalize Ev i=L at hs hl ⊢
    refine RN ?_
    refine Gn (hd) ?_
    refine RN ?_
    refine ⟨i+1,by omega,by omega,?_⟩
    rw [hs]
    exact Ref.gc [0,3] rfl (by simp only [go_sem,↓reduceIte,Nat.reduceEqDiff,Nat.reduceAdd,reduceCtorEq]<;>rfl) (by simp [sub,Ab,go_sem,↓reduceIte,Nat.reduceEqDiff,Nat.reduceAdd,reduceCtorEq];omega)
   ·obtain rfl:i=29:=by omega
    refine RN ?_
    refine ⟨1,by omega,by omega,?_⟩
    exact Ref.to rfl (by simp [sub,Ab,Mu])
  ·simp only [if_true,if_neg (show ¬ (1:Nat)=0 by decide),go_sem,↓reduceIte,Nat.reduceEqDiff,Nat.reduceAdd,reduceCtorEq]
   rw [← mS]
   refine RN ?_
   refine Ah (α:=Nat) (S:=fun i=>([(1,.sl 1 1 0 (F7 i).length),(3,sV [90]),(4,i64 ((i+2:Nat):Int)),(6,.slc 1 2 (As [[72],[90]])),(7,i64 2),(8,i64 1)],[some (Cc (LV tp tq p q)),some (As (F7 i))])) (C:=fun i=>i≤29) (μ:=fun i=>29 - i) 0 (by omega) ?_ ?_
   ·exact Ref.to rfl (by simp [sub,Ab,S1])
   intro i hi
   have hs:=mP i
   have hl:=S1 i
   refine RN ?_
   refine ⟨fun hc=>?_,fun hc=>?_⟩
   ·have hd:=Us tp tq p q ((i+2:Nat):Int) (by omega) (by omega)
    rw [Rc (by omega)] at hd
    have ht:=Pq (i+2)
    generalize tx (i+2)=t at hd hs ht
    generalize F7 i=L at hs hl ⊢
    refine RN ?_
    refine Gn (hd) ?_
    refine RN ?_
    refine ⟨i+1,by omega,by omega,?_⟩
    rw [hs]
    exact Ref.gc [0,3] rfl (by simp only [go_sem,↓reduceIte,Nat.reduceEqDiff,Nat.reduceAdd,reduceCtorEq]<;>rfl) (by simp [sub,Ab,go_sem,↓reduceIte,Nat.reduceEqDiff,Nat.reduceAdd,reduceCtorEq];omega)
   ·obtain rfl:i=29:=by omega
    refine RN ?_
    refine ⟨2,by omega,by omega,?_⟩
    exact Ref.to (by rw [mO];rfl) (by simp [sub,Ab,S1])
 ·obtain rfl:k=2:=by omega
  refine RN ?_
  exact Ref.gc2 [1]
end
end Go.Proofs.YtnompobcofhkpaaGreatDoor
