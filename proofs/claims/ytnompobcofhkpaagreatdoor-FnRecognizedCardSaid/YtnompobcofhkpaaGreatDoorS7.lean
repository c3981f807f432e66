/- Texts that belong together. -/
import Derived.Test.YtnompobcofhkpaaGreatDoorS6
set_option linter.unusedSimpArgs false
set_option linter.unusedVariables false
set_option maxRecDepth 100000
namespace Go.Proofs.YtnompobcofhkpaaGreatDoor
open Go.Gov Go.Ce
open Classical
structure Jq (M N:List (List Int)) (φ:Nat→Nat):Prop where
 n:fl M=fl N
 lt:∀ x,x<fl M→φ x<fl M
 inj:∀ x y,x<fl M→y<fl M→φ x=φ y→x=y
 mv:∀ k x,k<3→x<fl M→mv N k (φ x)=φ (mv M k x)
def Nl (M N:List (List Int)):Prop:=∃ φ,Jq M N φ
theorem iQ:∀ {A B C:List (List Int)},Cf A B=true→Cf B C=true→Cf A C=true
 | [],[],_,h,_=>by simp [Cf] at h
 | [],_ :: _,[],_,h=>by simp [Cf] at h
 | [],_ :: _,_ :: _,_,_=>by simp [Cf]
 | _ :: _,[],_,h,_=>by simp [Cf] at h
 | _ :: _,_ :: _,[],_,h=>by simp [Cf] at h
 | a :: A,b :: B,c :: C,h1,h2=>by
  unfold Cf at h1 h2 ⊢
  by_cases e1:a=b
  ·rw [if_pos e1] at h1
   by_cases e2:b=c
   ·rw [if_pos e2] at h2
    rw [if_pos (e1.trans e2)]
    exact iQ h1 h2
   ·rw [if_neg e2] at h2
    rw [if_neg (by rw [e1];exact e2),e1]
    exact h2
  ·rw [if_neg e1] at h1
   by_cases e2:b=c
   ·rw [if_neg (by rw [← e2];exact e1),← e2]
    exact h1
   ·rw [if_neg e2] at h2
    have h3:=Vx h1 h2
    rw [if_neg (fun e=>by rw [e,Rz] at h3;cases h3)]
    exact h3
theorem Vz (M:List (List Int)):∀ k,1≤k→(∃ j,j<k∧C4 M k=Bx M j)∧∀ j,j<k→Cf (Bx M j) (C4 M k)=false
 | 0,h=>by omega
 | 1,_=>by
  rw [iR]
  refine ⟨⟨0,by omega,rfl⟩,fun j hj=>?_⟩
  obtain rfl:j=0:=by omega
  exact Vy _
 | k+2,_=>by
  obtain ⟨⟨j0,hj0,e0⟩,hm⟩:=Vz M (k+1) (by omega)
  rw [C4]
  by_cases h:Cf (Bx M (k+1)) (C4 M (k+1))=true
  ·rw [if_pos h]
   refine ⟨⟨k+1,by omega,rfl⟩,fun j hj=>?_⟩
   by_cases e:j=k+1
   ·rw [e];exact Vy _
   ·have h1:=hm j (by omega)
    cases h2:Cf (Bx M j) (Bx M (k+1)) with
    | false=>rfl
    | true=>rw [iQ h2 h] at h1;cases h1
  ·rw [if_neg h]
   refine ⟨⟨j0,by omega,e0⟩,fun j hj=>?_⟩
   by_cases e:j=k+1
   ·rw [e];exact Bool.eq_false_iff.2 h
   ·exact hm j (by omega)
theorem wV {M N:List (List Int)}(hM:IsMap M)(hN:IsMap N)(h:Ct M=Ct N):Nl M N:=by
 have h2:=hM.1.f2
 have h3:=hN.1.f2
 obtain ⟨⟨f,hf,e1⟩,_⟩:=Vz M (fl M) (by omega)
 obtain ⟨⟨g,hg,e2⟩,_⟩:=Vz N (fl N) (by omega)
 have e:Bx M f=Bx N g:=by rw [← e1,← e2];exact h
 obtain ⟨a1,a2⟩:=Ny hM hf
 obtain ⟨b1,b2⟩:=Ny hN hg
 have hA:=(Nz (O6 hM) hf).bd
 have hB:=(Nz (O6 hN) hg).bd
 have hn:fl M=fl N:=by
  have q1:=(Ky hM hf).2 0 (by omega)
  have q2:=(Ky hN hg).2 0 (by omega)
  rw [e,q2] at q1
  exact q1.symm
 have key:∀ k j,k<3→j<fl M→A4 (Cg M (fl M) f) (mv M k ((Cg M (fl M) f).getD j 0))=A4 (Cg N (fl N) g) (mv N k ((Cg N (fl N) g).getD j 0)):=fun k j hk hj=>by
  have h5:((Bx M f).getD k []).getD j 0=((Bx N g).getD k []).getD j 0:=by rw [e]
  have hx:∀ {K:List (List Int)} {O:List Nat} {k j:Nat},k<3→j<O.length→((Dw K O 3).getD k []).getD j 0=(A4 O (mv K k (O.getD j 0)):Int):=fun {K O k j} hk hj=>by
   unfold Dw Gn
   simp [hk,hj]
  unfold Bx at h5
  rw [hM.2,hN.2,hx hk (by omega),hx hk (by omega)] at h5
  exact_mod_cast h5
 generalize Cg M (fl M) f=A at a1 a2 hA key
 generalize Cg N (fl N) g=B at b1 b2 hB key
 refine ⟨fun x=>B.getD (A4 A x) 0,hn,fun x hx=>?_,fun x y hx hy ex=>?_,fun k x hk hx=>?_⟩
 ·have:=Jg (a1 x hx)
  rw [hn]
  exact hB.lt _ (Et (by omega))
 ·have p1:=Jg (a1 x hx)
  have p2:=Jg (a1 y hy)
  have q1:=Sw hB.nd (i:=A4 A x) (by omega)
  have q2:=Sw hB.nd (i:=A4 A y) (by omega)
  have ex' : B.getD (A4 A x) 0=B.getD (A4 A y) 0:=ex
  rw [ex', q2] at q1
  have r1:=Lc (a1 x hx)
  have r2:=Lc (a1 y hy)
  rw [← r1,← q1,r2]
 ·have p1:=Jg (a1 x hx)
  have h6:=key k (A4 A x) hk (by omega)
  rw [Lc (a1 x hx)] at h6
  show mv N k (B.getD (A4 A x) 0)=B.getD (A4 A (mv M k x)) 0
  rw [h6]
  exact (Lc (b1 _ (hN.mvi.lt k _ hk (hB.lt _ (Et (by omega)))))).symm
end Go.Proofs.YtnompobcofhkpaaGreatDoor
