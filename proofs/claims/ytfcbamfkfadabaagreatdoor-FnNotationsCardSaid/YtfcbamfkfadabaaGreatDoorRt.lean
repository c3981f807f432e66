/- Texts that belong together. -/
import Derived.Test.YtfcbamfkfadabaaGreatDoorRs
set_option linter.unusedSimpArgs false
set_option linter.unusedVariables false
set_option maxRecDepth 100000
namespace Go.Ce
def mnB (a b:Nat):Nat:=bif Nat.ble a b then a else b
def rdN (t:Nat→Nat→Nat)(g h:Nat):Nat→Nat→Nat
 | 0,x=>x
 | k+1,x=>t g (t h (rdN t g h k x))
def lmN (t:Nat→Nat→Nat)(g h:Nat):Nat→Nat→Nat
 | 0,x=>x
 | k+1,x=>mnB (lmN t g h k x) (mnB (rdN t g h k x) (t h (rdN t g h k x)))
def cntB:Nat→(Nat→Bool)→Nat
 | 0,_=>0
 | k+1,f=>bif f k then cntB k f+1 else cntB k f
def ckL (t:Nat→Nat→Nat)(m g h b c:Nat):Bool:=(allB m fun x=>Nat.beq (lmN t g h b (t g x)) (lmN t g h b x)&&Nat.beq (lmN t g h b (t h x)) (lmN t g h b x))&&Nat.beq (cntB m fun x=>Nat.beq (lmN t g h b x) x) c
end Go.Ce
namespace Go.Proofs.YtfcbamfkfadabaaGreatDoor
open Go.Gov Go.Ce Go.Cl
open Classical
theorem mnB_eq (a b:Nat):mnB a b=min a b:=by
 unfold mnB
 by_cases h:a≤b
 ·rw [bleN.2 h,cond_true,Nat.min_eq_left h]
 ·have : Nat.ble a b = false := by
    cases hb:Nat.ble a b with
    | false=>rfl
    | true=>exact absurd (bleN.1 hb) h
  rw [this,cond_false,Nat.min_eq_right (by omega)]
theorem cntB_eq (f:Nat→Bool):∀ m:Nat,cntB m f=((List.range m).filter f).length
 | 0=>rfl
 | m+1=>by
  rw [List.range_succ,List.filter_append,List.length_append,← cntB_eq f m]
  have e:cntB (m+1) f=bif f m then cntB m f+1 else cntB m f:=rfl
  rw [e]
  cases h:f m<;>simp [h]
section
variable {M:List (List Int)} {t:Nat→Nat→Nat} {m g h:Nat}
theorem rdN_lk (hM:MvI m M)(ht:∀ i x,i<3→x<m→mv M i x=t i x)(hg:g<3)(hh:h<3){x:Nat}(hx:x<m):∀ k:Nat,Lk M [g,h] x (rdN t g h k x)∧rdN t g h k x<m
 | 0=>⟨.refl,hx⟩
 | k+1=>by
  obtain ⟨h1,h2⟩:=rdN_lk hM ht hg hh hx k
  have e1:=ht h _ hh h2
  have l1:=hM.lt h _ hh h2
  have e2:=ht g _ hg l1
  have l2:=hM.lt g _ hg l1
  rw [e1] at e2 l2 l1
  have s1:=h1.step (i:=h) (by simp)
  rw [e1] at s1
  have s2:=s1.step (i:=g) (by simp)
  rw [e2] at s2 l2
  exact ⟨s2,l2⟩
theorem lmN_lk (hM:MvI m M)(ht:∀ i x,i<3→x<m→mv M i x=t i x)(hg:g<3)(hh:h<3){x:Nat}(hx:x<m):∀ k:Nat,Lk M [g,h] x (lmN t g h k x)∧lmN t g h k x<m
 | 0=>⟨.refl,hx⟩
 | k+1=>by
  obtain ⟨h1,h2⟩:=lmN_lk hM ht hg hh hx k
  obtain ⟨r1,r2⟩:=rdN_lk hM ht hg hh hx k
  have e1:=ht h _ hh r2
  have l1:=hM.lt h _ hh r2
  rw [e1] at l1
  have s1:=r1.step (i:=h) (by simp)
  rw [e1] at s1
  unfold lmN
  rw [mnB_eq,mnB_eq]
  rcases Nat.le_total (lmN t g h k x) (min (rdN t g h k x) (t h (rdN t g h k x))) with q | q
  ·rw [Nat.min_eq_left q];exact ⟨h1,h2⟩
  ·rw [Nat.min_eq_right q]
   rcases Nat.le_total (rdN t g h k x) (t h (rdN t g h k x)) with q2 | q2
   ·rw [Nat.min_eq_left q2];exact ⟨r1,r2⟩
   ·rw [Nat.min_eq_right q2];exact ⟨s1,l1⟩
theorem num_ck (hM:MvI m M)(ht:∀ i x,i<3→x<m→mv M i x=t i x)(hg:g<3)(hh:h<3){b c:Nat}(hc:ckL t m g h b c=true):num m (Lk M [g,h])=c:=by
 unfold ckL at hc
 rw [Bool.and_eq_true] at hc
 obtain ⟨c1,c2⟩:=hc
 have hS:∀ i∈[g,h],i<3:=fun i hi=>by
  simp only [List.mem_cons,List.not_mem_nil,or_false] at hi
  omega
 have hst:∀ x,x<m→∀ i∈[g,h],lmN t g h b (mv M i x)=lmN t g h b x:=fun x hx i hi=>by
  have:=allB_at c1 hx
  simp only [Bool.and_eq_true,beqN] at this
  simp only [List.mem_cons,List.not_mem_nil,or_false] at hi
  rcases hi with rfl | rfl
  ·rw [ht _ x hg hx];exact this.1
  ·rw [ht _ x hh hx];exact this.2
 have hinv:∀ {x y},Lk M [g,h] x y→x<m→lmN t g h b y=lmN t g h b x:=fun {x y} hl hx=>by
  induction hl with
  | refl=>rfl
  | step h1 hi ih=>rw [hst _ (h1.lt hM hS hx) _ hi,ih]
 have hsys:Cl.Sys m (Lk M [g,h]) ((List.range m).filter fun x=>Nat.beq (lmN t g h b x) x):=by
  have hmem:∀ x,x∈((List.range m).filter fun x=>Nat.beq (lmN t g h b x) x) ↔ x<m∧lmN t g h b x=x:=fun x=>by
   rw [List.mem_filter,List.mem_range,beqN]
  refine ⟨List.nodup_range.filter _,fun v hv=>((hmem v).1 hv).1,fun v hv u hu hl=>?_,fun x hx=>?_⟩
  ·obtain ⟨a1,a2⟩:=(hmem v).1 hv
   obtain ⟨b1,b2⟩:=(hmem u).1 hu
   rw [← a2,← b2,hinv hl a1]
  ·obtain ⟨l1,l2⟩:=lmN_lk hM ht hg hh hx b
   exact ⟨_,(hmem _).2 ⟨l2,hinv l1 hx⟩,l1.symm hM hS hx⟩
 rw [num_eq (lk_eqv hM hS) hsys,← cntB_eq]
 exact beqN.1 c2
end
end Go.Proofs.YtfcbamfkfadabaaGreatDoor
