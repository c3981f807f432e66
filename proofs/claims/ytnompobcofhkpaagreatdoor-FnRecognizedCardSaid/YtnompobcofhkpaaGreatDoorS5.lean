/- Texts that belong together. -/
import Derived.Test.YtnompobcofhkpaaGreatDoorS4
set_option maxHeartbeats 16000000
set_option linter.unusedSimpArgs false
set_option linter.unusedVariables false
set_option maxRecDepth 100000
namespace Go.Proofs.YtnompobcofhkpaaGreatDoor
section
open Go.Gov Go.Nt
open Classical
theorem Ajb {M:List (List Int)}(hM:IsMap M):∀ p∈M,p.length≤400:=fun p hp=>by
 obtain ⟨k,hk,rfl⟩:=List.mem_iff_getElem.1 hp
 have h1:=(hM.1.rows k hk).1
 have:=hM.1.f4
 rw [show M.getD k []=M[k] by simp [hk]] at h1
 omega
theorem To {n:Nat}(hn:n≤2){o s:List UInt8}(ho:o∈B4 n)(hs:s∈seedsT):(o++s).length≤5∧o.length=n∧Dg (o++s)∧Al (o++s)=o∧Au (o++s)=s∧Dh s∧s.length≤3∧s≠[]:=by
 obtain ⟨h1,h2,h3⟩:=Abp (n:=n) (by omega) ho hs
 obtain ⟨s1,s2,_⟩:=nH s hs
 have h4:=(Pc n o ho).1
 refine ⟨by rw [List.length_append];omega,h4,h1,h2,h3,s1,s2,fun e=>?_⟩
 subst e
 rcases s1 with ⟨b,h,_⟩ | ⟨b,r,h,_⟩<;>cases h
theorem cC {o s:List UInt8}(h1:Al (o++s)=o)(h2:Au (o++s)=s):cL (o++s)=[(Be (Aq o) (Aw s)).1,(Be (Aq o) (Aw s)).2.1,(Be (Aq o) (Aw s)).2.2]:=by
 unfold cL
 rw [h1,h2]
theorem iU {l:List UInt8}(h:B3 l=0):IsMap (Bz l)∧(Ct (Bz l)).length=3∧∀ k,k<(Ct (Bz l)).length→((Ct (Bz l)).getD k []).length≤1048576:=by
 have hM:=(V7 h).1
 obtain ⟨h1,h2⟩:=Mi hM (fl (Bz l)) (Nat.le_refl _)
 have h4:=hM.1.f4
 refine ⟨hM,h1,fun k hk=>?_⟩
 have:=h2 k (by unfold Ct at hk;omega)
 unfold Ct
 omega
theorem mH {M:List (List Int)}{l:List UInt8}{C:List Int}(hC:D6 (fl M) M 3=C)(h1:cL l=C)(h0:B3 l=0):Gt M l=decide (Ct (Bz l)=Ct M):=by
 unfold Gt
 rw [hC,decide_eq_true h1,decide_eq_true h0];rfl
theorem mG {M:List (List Int)}{l:List UInt8}{C:List Int}(hC:D6 (fl M) M 3=C)(h1:¬ cL l=C):Gt M l=false:=by
 unfold Gt
 rw [hC,decide_eq_false h1];rfl
theorem mF {M:List (List Int)}{l:List UInt8}(h0:¬ B3 l=0):Gt M l=false:=by
 unfold Gt
 rw [decide_eq_false h0];simp
theorem dW {α:Type}{P:α→Bool}{x:α}{L R:List α}{r:Option α}(h:r=((x :: L)++R).find? P)(hx:P x=false):r=(L++R).find? P:=by
 rw [h,List.cons_append,List.find?_cons_of_neg (by simp [hx])]
theorem dX {α:Type}{P:α→Bool}{x:α}{L R:List α}{r:Option α}(h:r=((x :: L)++R).find? P)(hx:P x=true):r=some x:=by
 rw [h,List.cons_append,List.find?_cons_of_pos hx]
theorem Aj6 (M:List (List Int))(hM:IsMap M):Pure Tryz.prog 7 [Ak M] (.tup [sV ((Gu M).getD []),i64 (if (Gu M).isSome then 0 else 4)]) []:=by
 have hM3:M.length=3:=hM.2
 have hMr:∀ p∈M,p.length≤1048576:=fun p hp=>by have:=Ajb hM p hp;omega
 have h4:=hM.1.f4
 have hli:=Rv M (by omega) hMr
 rw [decide_eq_true hM] at hli
 have hfc:=xP (fl M) M hM.1.mv rfl (by omega) (by omega)
 have hll:=gM M hM
 have hsd:=yZ
 obtain ⟨a1,a2⟩:=Mi hM (fl M) (Nat.le_refl _)
 change (Ct M).length=3 at a1
 have a3:∀ k,k<(Ct M).length→((Ct M).getD k []).length≤1048576:=fun k hk=>by
  have:=a2 k (by omega)
  unfold Ct
  omega
 obtain ⟨C,hC⟩:∃ C,D6 (fl M) M 3=C:=⟨_,rfl⟩
 have hCl:C.length=3:=by rw [← hC,Q2]
 rw [hM3,hC] at hfc
 have hP1:=fun l h1 h0=>mH (M:=M) (l:=l) hC h1 h0
 have hP2:=fun l h1=>mG (M:=M) (l:=l) hC h1
 have hP3:=fun l h0=>mF (M:=M) (l:=l) h0
 have hr0:Gu M=(Iz 0).find? (Gt M):=rfl
 have hSl:=Te
 generalize hA:Ct M=A at *
 generalize Gu M=r at *
 generalize Gt M=P at *
 refine Ao lB rfl rfl ?_;unfold c7
 refine RN ?_
 refine Ag (hli) ?_
 refine RN ?_
 refine Ho [(4,.slc 1 3 (Aa C)),(5,.pto [.slc 1 3 (A.map Ad)] 0),(6,.slc 1 63 (As seedsT))] [] ?_ ?_
 ·have tkC:(Aa C).take 3=Aa C:=List.take_of_length_le (by rw [A2];omega)
  have tkS:(As seedsT).take 63=As seedsT:=List.take_of_length_le (by rw [Ry];omega)
  (repeat' first | simp only [go_sem,↓reduceIte,Nat.reduceEqDiff,Nat.reduceAdd,reduceCtorEq] | with_reducible refine Ck ?_ | with_reducible refine Eo ?_ | with_reducible refine Cj ?_ | with_reducible exact Cm | with_reducible refine Ci ?_ ?_ | (with_reducible refine And.intro ?_ ?_;focus first | assumption | omega | grind))
  all_goals refine Ag (hfc) ?_
  all_goals (repeat' first | simp only [go_sem,↓reduceIte,Nat.reduceEqDiff,Nat.reduceAdd,reduceCtorEq] | with_reducible refine Ck ?_ | with_reducible refine Eo ?_ | with_reducible refine Cj ?_ | with_reducible exact Cm | with_reducible refine Ci ?_ ?_ | (with_reducible refine And.intro ?_ ?_;focus first | assumption | omega | grind))
  all_goals refine Ag (hll) ?_
  all_goals (repeat' first | simp only [go_sem,↓reduceIte,Nat.reduceEqDiff,Nat.reduceAdd,reduceCtorEq] | with_reducible refine Ck ?_ | with_reducible refine Eo ?_ | with_reducible refine Cj ?_ | with_reducible exact Cm | with_reducible refine Ci ?_ ?_ | (with_reducible refine And.intro ?_ ?_;focus first | assumption | omega | grind))
  all_goals refine Ag (hsd) ?_
  all_goals (repeat' first | simp only [go_sem,↓reduceIte,Nat.reduceEqDiff,Nat.reduceAdd,reduceCtorEq] | with_reducible refine Ck ?_ | with_reducible refine Eo ?_ | with_reducible refine Cj ?_ | with_reducible exact Cm | with_reducible refine Ci ?_ ?_ | (with_reducible refine And.intro ?_ ?_;focus first | assumption | omega | grind))
  all_goals exact Ref.sel [] rfl (by simp only [go_sem,↓reduceIte,Nat.reduceEqDiff,Nat.reduceAdd,reduceCtorEq]) (by simp [sub,Ab,go_sem,↓reduceIte,Nat.reduceEqDiff,Nat.reduceAdd,reduceCtorEq,Bl _ _ A 3 a1,tkC,tkS])
 refine RN ?_
 refine Ah (α:=Nat) (S:=fun n=>([(4,.slc 1 3 (Aa C)),(5,.pto [.slc 1 3 (A.map Ad)] 0),(6,.slc 1 63 (As seedsT)),(7,i64 (n:Int))],[])) (C:=fun n=>n≤3∧r=(Iz n).find? P) (μ:=fun n=>3 - n) 0 ⟨by omega,hr0⟩ (Ref.to1) ?_
 rintro n ⟨hn,hr⟩
 refine RN ?_
 refine ⟨fun hc=>?_,fun hc=>?_⟩
 ·have hn3:n<3:=by omega
  have hop:=yX n (by omega)
  have hLo:=fun o s (ho:o∈B4 n) hs=>To (n:=n) (o:=o) (s:=s) (by omega) ho hs
  rw [mU hn3] at hr
  have hTl:=Sp n
  have hT12:12^n≤12^2:=Nat.pow_le_pow_right (by omega) (by omega)
  obtain ⟨R3,hR3⟩:∃ R3,R3=Iz (n+1):=⟨_,rfl⟩
  rw [← hR3] at hr
  generalize B4 n=L at *
  have tkL:(As L).take L.length=As L:=Xg L
  refine RN ?_
  refine Ag (hop) ?_
  refine RN ?_
  refine Ah (α:=Nat) (S:=fun i=>([(4,.slc 1 3 (Aa C)),(5,.pto [.slc 1 3 (A.map Ad)] 0),(6,.slc 1 63 (As seedsT)),(7,i64 (n:Int)),(8,.slc 1 L.length (As L)),(9,i64 (i:Int))],[])) (C:=fun i=>i≤L.length∧r=(Ek L i++R3).find? P) (μ:=fun i=>L.length - i) 0 ⟨by omega,hr⟩ ?_ ?_
  ·exact Ref.sel [] rfl (by simp only [go_sem,↓reduceIte,Nat.reduceEqDiff,Nat.reduceAdd,reduceCtorEq]) (by simp [sub,Ab,go_sem,↓reduceIte,Nat.reduceEqDiff,Nat.reduceAdd,reduceCtorEq,tkL])
  rintro i ⟨hi,hr2⟩
  refine RN ?_
  refine ⟨fun hc1=>?_,fun hc1=>?_⟩
  ·have hil:i<L.length:=by omega
   rw [mT hil,List.append_assoc] at hr2
   have ho:L.getD i []∈L:=by
    rw [List.getD_eq_getElem?_getD,List.getElem?_eq_getElem hil]
    exact List.getElem_mem hil
   obtain ⟨R2,hR2⟩:∃ R2,R2=Ek L (i+1)++R3:=⟨_,rfl⟩
   rw [← hR2] at hr2
   refine RN ?_
   refine Ah (α:=Nat) (S:=fun k=>([(4,.slc 1 3 (Aa C)),(5,.pto [.slc 1 3 (A.map Ad)] 0),(6,.slc 1 63 (As seedsT)),(7,i64 (n:Int)),(8,.slc 1 L.length (As L)),(9,i64 (i:Int)),(10,i64 (k:Int))],[])) (C:=fun k=>k≤63∧r=(Hm (L.getD i []) k++R2).find? P) (μ:=fun k=>63 - k) 0 ⟨by omega,hr2⟩ (Ref.to1) ?_
   rintro k ⟨hk,hr3⟩
   refine RN ?_
   refine ⟨fun hc2=>?_,fun hc2=>?_⟩
   ·have hk63:k<63:=by omega
    rw [mP _ hk63] at hr3
    have hsm:seedsT.getD k []∈seedsT:=by
     rw [List.getD_eq_getElem?_getD,List.getElem?_eq_getElem (show k<seedsT.length by omega)]
     exact List.getElem_mem _
    obtain ⟨f1,f2,f3,f4,f5,f6,f7,f8⟩:=hLo _ _ ho hsm
    have hmx:1099511627776000≤maxLen:=by decide
    obtain ⟨R1,hR1⟩:∃ R1,R1=Hm (L.getD i []) (k+1):=⟨_,rfl⟩
    rw [← hR1] at hr3
    generalize hse:seedsT.getD k []=s at *
    generalize hoe:L.getD i []=o at *
    have hbs:=gY (o++s) n (by rw [List.length_append];omega) (by omega)
    rw [show (o++s).take n=o from List.take_left' f2,show (o++s).drop n=s from List.drop_left' f2] at hbs
    have hct:=gZ o s (by omega) f6 (by omega)
    have hct2:Pure Tryz.prog 26 [sV (Aq o++s)] (.sl 0 1 0 3) [some (Aa (cL (o++s)))]:=by rw [cC f4 f5];exact hct
    have hcl3:(cL (o++s)).length=3:=rfl
    have hsc:=W3 (cL (o++s)) C (by omega) (by omega)
    have hmp:=iA (o++s) (by omega)
    unfold Mn at hmp
    have hN:=dW hr3
    have hY:=dX hr3
    rw [hR1] at hN
    have tk3:(Aa (cL (o++s))).take 3=Aa (cL (o++s)):=List.take_of_length_le (by rw [A2];omega)
    have ix3:AV.slc 1 3 (Aa (cL (o++s)))=Ad (cL (o++s)):=rfl
    have ixC:AV.slc 1 3 (Aa C)=Ad C:=by rw [Ad,hCl]
    by_cases hcC:cL (o++s)=C
    ·rw [decide_eq_true hcC] at hsc
     by_cases h0:B3 (o++s)=0
     ·obtain ⟨m1,m2,m3⟩:=iU h0
      have hP:=hP1 (o++s) hcC h0
      have hlm:=gM (Bz (o++s)) m1
      have hss:=xW (Ct (Bz (o++s))) A (by omega) (by omega) m3 a3
      rw [h0] at hmp
      generalize cL (o++s)=c at *
      generalize Ct (Bz (o++s))=B at *
      generalize Bz (o++s)=K at *
      have hK3:K.length=3:=m1.2
      by_cases hBA:B=A
      ·rw [decide_eq_true hBA] at hss hP
       have hrr:=hY hP
       rw [hrr]
       (repeat first | simp only [hoe,hse,go_sem,↓reduceIte,Nat.reduceEqDiff,Nat.reduceAdd,reduceCtorEq] | refine RX ?_ | decide)
       refine Ag (hbs) ?_
       refine RN ?_
       refine Ag (hct2) ?_
       refine RN ?_
       refine A9 hsc (by simp only [go_sem,↓reduceIte,Nat.reduceEqDiff,Nat.reduceAdd,reduceCtorEq,tk3,ix3,ixC]) (by first | rfl | simp only [go_sem,↓reduceIte,Nat.reduceEqDiff,Nat.reduceAdd,reduceCtorEq]) ?_
       refine RN ?_
       refine D4 (hmp) (by simp only [go_sem,↓reduceIte,Nat.reduceEqDiff,Nat.reduceAdd,reduceCtorEq]<;>rfl) ?_
       refine RN ?_
       refine GCall.on rfl ?_
       refine A9 hlm (by simp only [go_sem,↓reduceIte,Nat.reduceEqDiff,Nat.reduceAdd,reduceCtorEq]<;>rfl) (by first | rfl | simp only [go_sem,↓reduceIte,Nat.reduceEqDiff,Nat.reduceAdd,reduceCtorEq]) ?_
       refine RN ?_
       refine GCall.on rfl ?_
       (try simp only [go_sem,↓reduceIte,Nat.reduceEqDiff,Nat.reduceAdd,reduceCtorEq])
       (try refine And.intro trivial ?_)
       refine A9 hss (by simp only [go_sem,↓reduceIte,Nat.reduceEqDiff,Nat.reduceAdd,reduceCtorEq,Bl _ _ B 3 m2];first | done | (simp only [Ak,Ae,m2,a1];done) | (simp only [Ak,Ae,m2,a1];rfl)) (by first | rfl | simp only [go_sem,↓reduceIte,Nat.reduceEqDiff,Nat.reduceAdd,reduceCtorEq]) ?_
       (refine RN ?_;try with_reducible exact trivial)
      ·rw [decide_eq_false hBA] at hss hP
       have hrr:=hN hP
       (repeat first | simp only [hoe,hse,go_sem,↓reduceIte,Nat.reduceEqDiff,Nat.reduceAdd,reduceCtorEq] | refine RX ?_ | decide)
       refine Ag (hbs) ?_
       refine RN ?_
       refine Ag (hct2) ?_
       refine RN ?_
       refine A9 hsc (by simp only [go_sem,↓reduceIte,Nat.reduceEqDiff,Nat.reduceAdd,reduceCtorEq,tk3,ix3,ixC]) (by first | rfl | simp only [go_sem,↓reduceIte,Nat.reduceEqDiff,Nat.reduceAdd,reduceCtorEq]) ?_
       refine RN ?_
       refine D4 (hmp) (by simp only [go_sem,↓reduceIte,Nat.reduceEqDiff,Nat.reduceAdd,reduceCtorEq]<;>rfl) ?_
       refine RN ?_
       refine GCall.on rfl ?_
       refine A9 hlm (by simp only [go_sem,↓reduceIte,Nat.reduceEqDiff,Nat.reduceAdd,reduceCtorEq]<;>rfl) (by first | rfl | simp only [go_sem,↓reduceIte,Nat.reduceEqDiff,Nat.reduceAdd,reduceCtorEq]) ?_
       refine RN ?_
       refine GCall.on rfl ?_
       (try simp only [go_sem,↓reduceIte,Nat.reduceEqDiff,Nat.reduceAdd,reduceCtorEq])
       (try refine And.intro trivial ?_)
       refine A9 hss (by simp only [go_sem,↓reduceIte,Nat.reduceEqDiff,Nat.reduceAdd,reduceCtorEq,Bl _ _ B 3 m2];first | done | (simp only [Ak,Ae,m2,a1];done) | (simp only [Ak,Ae,m2,a1];rfl)) (by first | rfl | simp only [go_sem,↓reduceIte,Nat.reduceEqDiff,Nat.reduceAdd,reduceCtorEq]) ?_
       refine RN ?_
       exact ⟨k+1,⟨by omega,hrr⟩,by omega,Ref.gc1 []⟩
     ·have hP:=hP3 (o++s) h0
      have hrr:=hN hP
      have h0b:(B3 (o++s) == 0)=false:=by simpa using h0
      generalize cL (o++s)=c at *
      generalize Bz (o++s)=K at *
      generalize B3 (o++s)=z at *
      (repeat first | simp only [hoe,hse,go_sem,↓reduceIte,Nat.reduceEqDiff,Nat.reduceAdd,reduceCtorEq] | refine RX ?_ | decide)
      refine Ag (hbs) ?_
      refine RN ?_
      refine Ag (hct2) ?_
      refine RN ?_
      refine A9 hsc (by simp only [go_sem,↓reduceIte,Nat.reduceEqDiff,Nat.reduceAdd,reduceCtorEq,tk3,ix3,ixC]) (by first | rfl | simp only [go_sem,↓reduceIte,Nat.reduceEqDiff,Nat.reduceAdd,reduceCtorEq]) ?_
      refine RN ?_
      refine D4 (hmp) (by simp only [go_sem,↓reduceIte,Nat.reduceEqDiff,Nat.reduceAdd,reduceCtorEq]<;>rfl) ?_
      (repeat first | simp only [h0b,go_sem,↓reduceIte,Nat.reduceEqDiff,Nat.reduceAdd,reduceCtorEq] | refine RX ?_ | decide)
      refine Fv (bl false) rfl ?_
      refine RN ?_
      refine Fv (bl false) rfl ?_
      refine RN ?_
      exact ⟨k+1,⟨by omega,hrr⟩,by omega,Ref.gc1 []⟩
    ·rw [decide_eq_false hcC] at hsc
     have hrr:=hN (hP2 (o++s) hcC)
     generalize cL (o++s)=c at *
     (repeat first | simp only [hoe,hse,go_sem,↓reduceIte,Nat.reduceEqDiff,Nat.reduceAdd,reduceCtorEq] | refine RX ?_ | decide)
     refine Ag (hbs) ?_
     refine RN ?_
     refine Ag (hct2) ?_
     refine RN ?_
     refine A9 hsc (by simp only [go_sem,↓reduceIte,Nat.reduceEqDiff,Nat.reduceAdd,reduceCtorEq,tk3,ix3,ixC]) (by first | rfl | simp only [go_sem,↓reduceIte,Nat.reduceEqDiff,Nat.reduceAdd,reduceCtorEq]) ?_
     refine RN ?_
     exact ⟨k+1,⟨by omega,hrr⟩,by omega,Ref.gc1 []⟩
   ·obtain rfl:k=63:=by omega
    rw [mO,List.nil_append,hR2] at hr3
    refine RN ?_
    exact ⟨i+1,⟨by omega,hr3⟩,by omega,Ref.to1⟩
  ·obtain rfl:i=L.length:=by omega
   rw [mS,List.nil_append,hR3] at hr2
   refine RN ?_
   exact ⟨n+1,⟨by omega,hr2⟩,by omega,Ref.to1⟩
 ·obtain rfl:n=3:=by omega
  have hrn:r=none:=hr
  rw [hrn]
  refine RN ?_
  rfl
end
section
open Go.Gov Go.Nt
open Classical
def Hh (L:List (List UInt8))(i c:Nat):List (List UInt8):=Dc L i++H5 (L.getD i []) c
theorem Af9 (L:List (List UInt8))(i:Nat):Hh L i 0=Dc L i:=by simp [Hh,H5]
theorem Af8 (L:List (List UInt8))(i:Nat){c:Nat}(h:c<12):Hh L i (c+1)=Hh L i c++[L.getD i []++[opN.getD c 0]]:=by
 unfold Hh
 rw [Af1 _ h,List.append_assoc]
theorem Af6 {L:List (List UInt8)}{i:Nat}(h:i<L.length):Hh L i 12=Dc L (i+1):=by
 unfold Hh
 rw [Wn h]
theorem Af7 (L:List (List UInt8)){i:Nat}(h:i≤L.length){c:Nat}(hc:c≤12):(Hh L i c).length=12*i+c:=by
 unfold Hh
 rw [List.length_append,Sn L i h,Af0 _ hc]
theorem Akp (w:List UInt8)(i:Nat)(h:i<w.length):(w.take (i+1)).drop i=[w.getD i 0]:=by
 rw [List.take_succ_eq_append_getElem h,List.drop_append]
 simp [h,Nat.min_eq_left (Nat.le_of_lt h)]
theorem Alk (ks:List Nat)(H:Heap)(L:List (List UInt8)):(As L).map (E9 ks H)=As L:=by simp [As,E9,Am]
theorem Alj (ks:List Nat)(H:Heap)(L:List (Nat×List Value)):(Cc L).map (E9 ks H)=Cc L:=by simp [Cc,E9,Am]
attribute [go_sem] Alk Alj
variable (tp tq:TypeId) (p q:Value)
theorem Aif (M:List (List Int))(hM:IsMap M):PureG Tryz.prog (LV tp tq p q) 19 [Ak M] (sV ((Gu M).getD [])) []:=by
 have hM3:M.length=3:=hM.2
 have h4:=hM.1.f4
 have hfc:=uP (fl M) M hM.1.mv rfl (by omega) (by omega)
 have hll:=iL M hM
 have hsd:=Ajl tp tq p q
 obtain ⟨a1,a2⟩:=Mi hM (fl M) (Nat.le_refl _)
 change (Ct M).length=3 at a1
 have a3:∀ k,k<(Ct M).length→((Ct M).getD k []).length≤1048576:=fun k hk=>by
  have:=a2 k (by omega)
  unfold Ct
  omega
 obtain ⟨C,hC⟩:∃ C,D6 (fl M) M 3=C:=⟨_,rfl⟩
 have hCl:C.length=3:=by rw [← hC,Q2]
 rw [hM3,hC] at hfc
 have hP1:=fun l h1 h0=>mH (M:=M) (l:=l) hC h1 h0
 have hP2:=fun l h1=>mG (M:=M) (l:=l) hC h1
 have hP3:=fun l h0=>mF (M:=M) (l:=l) h0
 have hr0:Gu M=(Iz 0).find? (Gt M):=rfl
 have hSl:=Te
 have hmx:1099511627776000≤maxLen:=by decide
 generalize hA:Ct M=A at *
 generalize Gu M=r at *
 generalize Gt M=P at *
 have tkC:(Aa C).take 3=Aa C:=List.take_of_length_le (by rw [A2];omega)
 have tkS:(As seedsT).take 63=As seedsT:=List.take_of_length_le (by rw [Ry];omega)
 have ixC:AV.slc 1 3 (Aa C)=Ad C:=by rw [Ad,hCl]
 refine Hk Adb rfl ?_;unfold Zu
 refine RN ?_
 refine Ag (hfc) ?_
 refine RN ?_
 refine A9 hll (by simp only [go_sem,↓reduceIte,Nat.reduceEqDiff,Nat.reduceAdd,reduceCtorEq]<;>rfl) (by first | rfl | simp only [go_sem,↓reduceIte,Nat.reduceEqDiff,Nat.reduceAdd,reduceCtorEq]) ?_
 refine RN ?_
 refine Ah (α:=Nat) (S:=fun n=>([(3,.slc 1 3 (Aa C)),(4,.pto [.slc 1 3 (A.map Ad)] 0),(5,.slc 1 (B4 n).length (As (B4 n))),(20,i64 (n:Int))],[some (Cc (LV tp tq p q))])) (C:=fun n=>n≤3∧r=(Iz n).find? P) (μ:=fun n=>3 - n) 0 ⟨by omega,hr0⟩ ?_ ?_
 ·refine Ref.sel [0] rfl (by simp only [go_sem,↓reduceIte,Nat.reduceEqDiff,Nat.reduceAdd,reduceCtorEq]) ?_
  simp [sub,Ab,go_sem,↓reduceIte,Nat.reduceEqDiff,Nat.reduceAdd,reduceCtorEq,Bl _ _ A 3 a1,tkC,B4,As]
 rintro n ⟨hn,hr⟩
 refine RN ?_
 refine ⟨fun hc=>?_,fun hc=>?_⟩
 ·have hn3:n<3:=by omega
  have hLo:=fun o s (ho:o∈B4 n) hs=>To (n:=n) (o:=o) (s:=s) (by omega) ho hs
  rw [mU hn3] at hr
  have hTl:=Sp n
  have hTe:=lE n
  have hT12:12^n≤12^2:=Nat.pow_le_pow_right (by omega) (by omega)
  obtain ⟨R3,hR3⟩:∃ R3,R3=Iz (n+1):=⟨_,rfl⟩
  rw [← hR3] at hr
  generalize hTL:B4 n=L at *
  have tkL:(As L).take L.length=As L:=Xg L
  refine RN ?_
  refine Ah (α:=Nat) (S:=fun i=>([(3,.slc 1 3 (Aa C)),(4,.pto [.slc 1 3 (A.map Ad)] 0),(6,.sl 1 1 0 (Dc L i).length),(20,i64 (n:Int)),(22,.slc 1 L.length (As L)),(23,i64 L.length),(24,i64 (i:Int))],[some (Cc (LV tp tq p q)),some (As (Dc L i))])) (C:=fun i=>i≤L.length∧r=(Ek L i++R3).find? P) (μ:=fun i=>L.length - i) 0 ⟨by omega,hr⟩ ?_ ?_
  ·exact (Ref.nil 6 1 rfl).trans (Ref.to rfl (by simp [sub,Ab,Dc]))
  rintro i ⟨hi,hr2⟩
  refine RN ?_
  refine ⟨fun hc1=>?_,fun hc1=>?_⟩
  ·have hil:i<L.length:=by omega
   rw [mT hil,List.append_assoc] at hr2
   have ho:L.getD i []∈L:=by
    rw [List.getD_eq_getElem?_getD,List.getElem?_eq_getElem hil]
    exact List.getElem_mem hil
   obtain ⟨R2,hR2⟩:∃ R2,R2=Ek L (i+1)++R3:=⟨_,rfl⟩
   rw [← hR2] at hr2
   have hMl:=Sn L i hi
   have hYe:=Af6 hil
   have hY0:=Af9 L i
   have hYs:=fun c (hc:c<12)=>Af8 L i hc
   have hYl:=fun c (hc:c≤12)=>Af7 L hi hc
   refine RN ?_
   refine Gs (hsd) ?_
   refine RN ?_
   generalize hoe:L.getD i []=u at *
   refine Ah (α:=Nat) (S:=fun k=>([(3,.slc 1 3 (Aa C)),(4,.pto [.slc 1 3 (A.map Ad)] 0),(6,.sl 1 1 0 (Dc L i).length),(8,sV u),(20,i64 (n:Int)),(22,.slc 1 L.length (As L)),(23,i64 L.length),(24,i64 (i:Int)),(28,.slc 1 63 (As seedsT)),(29,i64 63),(30,i64 (k:Int))],[some (Cc (LV tp tq p q)),some (As (Dc L i))])) (C:=fun k=>k≤63∧r=(Hm u k++R2).find? P) (μ:=fun k=>63 - k) 0 ⟨by omega,hr2⟩ ?_ ?_
   ·refine Ref.sel [0,1] rfl (by simp only [go_sem,↓reduceIte,Nat.reduceEqDiff,Nat.reduceAdd,reduceCtorEq]) ?_
    simp [sub,Ab,go_sem,↓reduceIte,Nat.reduceEqDiff,Nat.reduceAdd,reduceCtorEq,tkS]
   rintro k ⟨hk,hr3⟩
   refine RN ?_
   refine ⟨fun hc2=>?_,fun hc2=>?_⟩
   ·have hk63:k<63:=by omega
    rw [mP _ hk63] at hr3
    have hsm:seedsT.getD k []∈seedsT:=by
     rw [List.getD_eq_getElem?_getD,List.getElem?_eq_getElem (show k<seedsT.length by omega)]
     exact List.getElem_mem _
    obtain ⟨f1,f2,f3,f4,f5,f6,f7,f8⟩:=hLo _ _ ho hsm
    obtain ⟨R1,hR1⟩:∃ R1,R1=Hm u (k+1):=⟨_,rfl⟩
    rw [← hR1] at hr3
    generalize hse:seedsT.getD k []=s at *
    have hpa:=Wp tp tq p q (u++s) (by omega)
    have hct:=cV u s (by omega) f6
    have hct2:Pure Tryz.prog 47 [.agg [sV u,sV s,i64 (if s.length=1 then 0 else Bb s)]] (.sl 0 1 0 3) [some (Aa (cL (u++s)))]:=by rw [cC f4 f5];exact hct
    have hcl3:(cL (u++s)).length=3:=rfl
    have hsc:=dL (cL (u++s)) C (by omega) (by omega)
    have hmp:=iY tp tq p q (u++s) (by omega)
    have hN:=dW hr3
    have hY:=dX hr3
    rw [hR1] at hN
    have tk3:(Aa (cL (u++s))).take 3=Aa (cL (u++s)):=List.take_of_length_le (by rw [A2];omega)
    have ix3:AV.slc 1 3 (Aa (cL (u++s)))=Ad (cL (u++s)):=rfl
    (repeat first | simp only [hse,go_sem,↓reduceIte,Nat.reduceEqDiff,Nat.reduceAdd,reduceCtorEq] | refine RX ?_ | decide)
    refine Lf (hpa) fun o ho=>?_
    obtain ⟨⟨b1,b2,b3⟩,d⟩:=o
    obtain ⟨ho1,ho2⟩:=ho
    dsimp only at ho1 ho2
    subst ho1
    obtain ⟨q1,q2,q3⟩:b1=u∧b2=s∧b3=(if s.length=1 then 0 else Bb s):=by have:=ho2 f3;rw [f4,f5] at this;simpa using this
    subst b1 b2 b3
    rw [decide_eq_true f3]
    clear ho2 hpa hct
    generalize (if s.length=1 then 0 else Bb s)=z at hct2 ⊢
    by_cases hcC:cL (u++s)=C
    ·rw [decide_eq_true hcC] at hsc
     by_cases h0:B3 (u++s)=0
     ·obtain ⟨m1,m2,m3⟩:=iU h0
      have hP:=hP1 (u++s) hcC h0
      have hlm:=iL (Bz (u++s)) m1
      have hss:=Ajg (Ct (Bz (u++s))) A (by omega) (by omega) m3 a3
      rw [h0] at hmp
      generalize cL (u++s)=c at *
      generalize Ct (Bz (u++s))=B at *
      generalize Bz (u++s)=K at *
      have hK3:K.length=3:=m1.2
      rw [hK3] at hmp
      by_cases hBA:B=A
      ·rw [decide_eq_true hBA] at hss hP
       have hrr:=hY hP
       rw [hrr]
       refine RN ?_
       refine Ag (hct2) ?_
       refine RN ?_
       refine A9 hsc (by simp only [go_sem,↓reduceIte,Nat.reduceEqDiff,Nat.reduceAdd,reduceCtorEq,tk3,ix3,ixC]) (by first | rfl | simp only [go_sem,↓reduceIte,Nat.reduceEqDiff,Nat.reduceAdd,reduceCtorEq]) ?_
       refine RN ?_
       refine Gs (hmp) ?_
       refine RN ?_
       refine GCall.on rfl ?_
       refine A9 hlm (by simp only [go_sem,↓reduceIte,Nat.reduceEqDiff,Nat.reduceAdd,reduceCtorEq,Bl _ _ K 3 hK3];first | done | (simp only [Ak,Ae,hK3];done) | (simp only [Ak,Ae,hK3];rfl)) (by first | rfl | simp only [go_sem,↓reduceIte,Nat.reduceEqDiff,Nat.reduceAdd,reduceCtorEq]) ?_
       refine RN ?_
       refine GCall.on rfl ?_
       (try simp only [go_sem,↓reduceIte,Nat.reduceEqDiff,Nat.reduceAdd,reduceCtorEq])
       (try refine And.intro trivial ?_)
       refine A9 hss (by simp only [go_sem,↓reduceIte,Nat.reduceEqDiff,Nat.reduceAdd,reduceCtorEq,Bl _ _ B 3 m2];first | done | (simp only [Ak,Ae,m2,a1];done) | (simp only [Ak,Ae,m2,a1];rfl)) (by first | rfl | simp only [go_sem,↓reduceIte,Nat.reduceEqDiff,Nat.reduceAdd,reduceCtorEq]) ?_
       refine RN ?_
       exact Ref.gc1 []
      ·rw [decide_eq_false hBA] at hss hP
       have hrr:=hN hP
       refine RN ?_
       refine Ag (hct2) ?_
       refine RN ?_
       refine A9 hsc (by simp only [go_sem,↓reduceIte,Nat.reduceEqDiff,Nat.reduceAdd,reduceCtorEq,tk3,ix3,ixC]) (by first | rfl | simp only [go_sem,↓reduceIte,Nat.reduceEqDiff,Nat.reduceAdd,reduceCtorEq]) ?_
       refine RN ?_
       refine Gs (hmp) ?_
       refine RN ?_
       refine GCall.on rfl ?_
       refine A9 hlm (by simp only [go_sem,↓reduceIte,Nat.reduceEqDiff,Nat.reduceAdd,reduceCtorEq,Bl _ _ K 3 hK3];first | done | (simp only [Ak,Ae,hK3];done) | (simp only [Ak,Ae,hK3];rfl)) (by first | rfl | simp only [go_sem,↓reduceIte,Nat.reduceEqDiff,Nat.reduceAdd,reduceCtorEq]) ?_
       refine RN ?_
       refine GCall.on rfl ?_
       (try simp only [go_sem,↓reduceIte,Nat.reduceEqDiff,Nat.reduceAdd,reduceCtorEq])
       (try refine And.intro trivial ?_)
       refine A9 hss (by simp only [go_sem,↓reduceIte,Nat.reduceEqDiff,Nat.reduceAdd,reduceCtorEq,Bl _ _ B 3 m2];first | done | (simp only [Ak,Ae,m2,a1];done) | (simp only [Ak,Ae,m2,a1];rfl)) (by first | rfl | simp only [go_sem,↓reduceIte,Nat.reduceEqDiff,Nat.reduceAdd,reduceCtorEq]) ?_
       refine RN ?_
       refine ⟨k+1,⟨by omega,hrr⟩,by omega,?_⟩
       refine Ref.sel [0,1] rfl (by simp only [go_sem,↓reduceIte,Nat.reduceEqDiff,Nat.reduceAdd,reduceCtorEq]) ?_
       simp [sub,Ab,go_sem,↓reduceIte,Nat.reduceEqDiff,Nat.reduceAdd,reduceCtorEq]
     ·have hP:=hP3 (u++s) h0
      have hrr:=hN hP
      have h0b:(B3 (u++s) == 0)=false:=by simpa using h0
      generalize cL (u++s)=c at *
      generalize Bz (u++s)=K at *
      generalize B3 (u++s)=y at *
      refine RN ?_
      refine Ag (hct2) ?_
      refine RN ?_
      refine A9 hsc (by simp only [go_sem,↓reduceIte,Nat.reduceEqDiff,Nat.reduceAdd,reduceCtorEq,tk3,ix3,ixC]) (by first | rfl | simp only [go_sem,↓reduceIte,Nat.reduceEqDiff,Nat.reduceAdd,reduceCtorEq]) ?_
      refine RN ?_
      refine Gs (hmp) ?_
      (repeat first | simp only [h0b,go_sem,↓reduceIte,Nat.reduceEqDiff,Nat.reduceAdd,reduceCtorEq] | refine RX ?_ | decide)
      refine Fv (bl false) rfl ?_
      refine RN ?_
      refine Fv (bl false) rfl ?_
      refine RN ?_
      refine ⟨k+1,⟨by omega,hrr⟩,by omega,?_⟩
      refine Ref.sel [0,1] rfl (by simp only [go_sem,↓reduceIte,Nat.reduceEqDiff,Nat.reduceAdd,reduceCtorEq]) ?_
      simp [sub,Ab,go_sem,↓reduceIte,Nat.reduceEqDiff,Nat.reduceAdd,reduceCtorEq]
    ·rw [decide_eq_false hcC] at hsc
     have hrr:=hN (hP2 (u++s) hcC)
     generalize cL (u++s)=c at *
     refine RN ?_
     refine Ag (hct2) ?_
     refine RN ?_
     refine A9 hsc (by simp only [go_sem,↓reduceIte,Nat.reduceEqDiff,Nat.reduceAdd,reduceCtorEq,tk3,ix3,ixC]) (by first | rfl | simp only [go_sem,↓reduceIte,Nat.reduceEqDiff,Nat.reduceAdd,reduceCtorEq]) ?_
     refine RN ?_
     refine ⟨k+1,⟨by omega,hrr⟩,by omega,?_⟩
     refine Ref.sel [0,1] rfl (by simp only [go_sem,↓reduceIte,Nat.reduceEqDiff,Nat.reduceAdd,reduceCtorEq]) ?_
     simp [sub,Ab,go_sem,↓reduceIte,Nat.reduceEqDiff,Nat.reduceAdd,reduceCtorEq]
   ·obtain rfl:k=63:=by omega
    rw [mO,List.nil_append,hR2] at hr3
    refine RN ?_
    refine Ah (α:=Nat) (S:=fun c=>([(3,.slc 1 3 (Aa C)),(4,.pto [.slc 1 3 (A.map Ad)] 0),(6,.sl 1 1 0 (Hh L i c).length),(8,sV u),(20,i64 (n:Int)),(22,.slc 1 L.length (As L)),(23,i64 L.length),(24,i64 (i:Int)),(65,i64 (c:Int))],[some (Cc (LV tp tq p q)),some (As (Hh L i c))])) (C:=fun c=>c≤12) (μ:=fun c=>12 - c) 0 (by omega) ?_ ?_
    ·exact Ref.to (by rw [hY0]) (by rw [hY0];simp [sub,Ab])
    intro c hc3
    have hYlc:=hYl c hc3
    have hNl:opN.length=12:=rfl
    refine RN ?_
    refine ⟨fun hc4=>?_,fun hc4=>?_⟩
    ·have hc12:c<12:=by omega
     have hys:=hYs c hc12
     have hsub:((97:UInt8) :: ([98,99,100,101,106,107,109,110,111,116,122]:List UInt8).take c).drop c=[opN.getD c 0]:=Akp opN c hc12
     have e1:((c:Int)+1).toNat=c+1:=by omega
     have hul:u.length≤2:=by
      have:=(Pc n u (by rw [hTL];exact ho)).1
      omega
     generalize opN.getD c 0=b at hys hsub
     generalize Hh L i c=K at hys hYlc ⊢
     (repeat first | simp only [e1,hsub,go_sem,↓reduceIte,Nat.reduceEqDiff,Nat.reduceAdd,reduceCtorEq] | refine RX ?_ | decide)
     refine ⟨c+1,by omega,by omega,?_⟩
     rw [hys]
     exact Ref.gc2 [0,3]
    ·obtain rfl:c=12:=by omega
     rw [hYe]
     refine RN ?_
     refine ⟨i+1,⟨by omega,hr3⟩,by omega,?_⟩
     exact Ref.to1
  ·obtain rfl:i=L.length:=by omega
   rw [mS,List.nil_append,hR3] at hr2
   rw [hTe]
   refine RN ?_
   refine ⟨n+1,⟨by omega,hr2⟩,by omega,?_⟩
   refine Ref.sel [0] rfl (by simp only [go_sem,↓reduceIte,Nat.reduceEqDiff,Nat.reduceAdd,reduceCtorEq]) ?_
   simp [sub,Ab,go_sem,↓reduceIte,Nat.reduceEqDiff,Nat.reduceAdd,reduceCtorEq]
 ·obtain rfl:n=3:=by omega
  have hrn:r=none:=hr
  rw [hrn]
  refine RN ?_
  exact Ref.gc1 []
end
end Go.Proofs.YtnompobcofhkpaaGreatDoor
