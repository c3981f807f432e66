/- Texts that belong together. -/
import Derived.Test.YtcneanpkpmfaiaaGreatY5
import Derived.Test.YtcneanpkpmfaiaaGreatY9
import Derived.Test.YtcneanpkpmfaiaaGreatQc
set_option linter.unusedSimpArgs false
set_option linter.unusedVariables false
set_option maxRecDepth 100000
namespace Go.Proofs.YtcneanpkpmfaiaaGreat
open Go.Gov
open Classical
section
variable {r:Int} {R:List Int} {B:List (List Int)} {i:Int} {a b c:List Int}
theorem chOk_iff:ChOk R i c ↔ sst c∧∀ e∈c,e∈Am R i:=by
 constructor
 ·intro h
  refine ⟨h.sst,fun e he=>?_⟩
  obtain ⟨k,hk,hke⟩:=List.mem_iff_getElem.1 he
  obtain ⟨h1,h2,h3,_⟩:=h k hk
  rw [B8 c k hk,hke] at h1 h2 h3
  exact mem_plc.2 ⟨h1,by omega,h3⟩
 ·rintro ⟨h1,h2⟩ k hk
  obtain ⟨a1,a2,a3⟩:=mem_plc.1 (h2 _ (List.getElem_mem hk))
  unfold Mn
  rw [B8 c k hk]
  refine ⟨a1,by omega,a3,fun hk0=>?_⟩
  rw [B8 c (k - 1) (by omega)]
  exact List.pairwise_iff_getElem.1 h1 (k - 1) k (by omega) hk (by omega)
theorem mK {cs:List (List Int)}(hp:IsPos r R B)(h0:0≤i)(h1:i≤r - 1)(h:∀ c∈cs,ChOk R i c):D4 r R B i cs=0:=by
 unfold D4
 rw [if_pos hp,if_pos ⟨⟨h0,h1⟩,h⟩]
theorem oP (hp:IsPos r R B)(hc:sst c)(hn:¬ Sp (fun g=>∃ e∈(Am R (i+1)).reverse,g=Av R B e) c):Ho R B i c=none:=by
 have hf:∀ e,sst (Av R B e):=E9 hp.rows.2
 have hc0:c≠[]:=fun e=>hn (e ▸ .zero)
 unfold Ho
 rw [if_neg hc0,dif_neg]
 rintro ⟨y,⟨⟨ld,P,hl,hP,hA,hd⟩,_⟩,h4⟩
 have h3:bd (Av R B) []=Ag c c:=by rw [La,Iv hc]
 exact hn ((hA.zero hl hP hf D9 hc hc h3 hd).1 h4)
theorem eW (hp:IsPos r R B)(hi:¬ i≤r - 1):Am R i=[]:=List.eq_nil_iff_forall_not_mem.2 fun e he=>by
 obtain ⟨h1,h2,h3⟩:=mem_plc.1 he
 have:=(hp.2 e.toNat (by omega)).1.2.1
 omega
theorem len_bd:((Bc R B c).length:Int) == 0 ↔ bd (Av R B) c=[]:=by
 show (((bd (Av R B) c).length:Int) == 0)=true ↔ _
 rw [beq_iff_eq]
 constructor
 ·intro h;exact List.eq_nil_of_length_eq_zero (by omega)
 ·intro h;rw [h];rfl
theorem pY (h:D4 r R B i [c]=0)(hb:i=0∨bd (Av R B) c=[]):Ns r R B i c=true:=by
 unfold Ns
 rw [if_pos h]
 rcases hb with hb | hb
 ·simp [hb]
 ·rw [len_bd.2 hb,Bool.or_true]
theorem Ac3 (hp:IsPos r R B)(hi:¬ i≤r - 1):Fj R B i=0:=by
 unfold Fj
 rw [eW hp hi]
 rfl
theorem Wq (hp:IsPos r R B)(h1:1<r):(Gi r R B r.toNat).getD 1 0=((Am R 1).length:Int) - Fj R B 1 - Fj R B 2:=by
 obtain ⟨k,hk⟩:∃ k:Nat,r.toNat=k+2:=⟨r.toNat - 2,by omega⟩
 have hbt:(Gi r R B r.toNat).getD 1 0=(R.count ((1:Nat):Int):Int) - (Dy r R B).getD 1 0 - (Dy r R B).getD 2 0:=by
  unfold Gi
  rw [hk]
  simp [List.getD_eq_getElem?_getD]
 have hA1:(Dy r R B).getD 1 0=Fj R B 1:=by
  unfold Dy L5 D3
  rw [hk]
  simp [List.getD_eq_getElem?_getD,List.range_succ_eq_map]
 have hA2:(Dy r R B).getD 2 0=Fj R B 2:=by
  unfold Dy L5 D3
  rw [hk]
  cases k with
  | zero=>
   rw [Ac3 hp (i:=2) (by omega)]
   simp [List.getD_eq_getElem?_getD,List.range_succ_eq_map]
  | succ k=>simp [List.getD_eq_getElem?_getD,List.range_succ_eq_map]
 rw [hbt,hA1,hA2,← Abb R ((1:Nat):Int)]
 rfl
theorem cH (hp : IsPos r R B) (he : Cd R B) (h14 : (Am R 1).length ≤ 14) :
    Pb r R B=0∧(I6 r R B).length=r.toNat∧1≤r ∧
    ((B3 R B).isSome=true→1<r∧0<(I6 r R B).getD 1 0∧Ev r R B=0∧D4 r R B 1 [Cr r R B]=0∧Ns r R B 1 (Cr r R B)=true∧Qf r R B 1 (Cr r R B)=4∧(Cr r R B).length≠0) ∧
    ((B3 R B).isSome=false→(1<r→¬ 0<(I6 r R B).getD 1 0)∧Ev r R B=4∧(Cr r R B).length=0):=by
 have hbv:I6 r R B=Gi r R B r.toNat:=if_pos ⟨hp,he⟩
 have hli:=uS hp he h14
 have hlv:Cr r R B=(B3 R B).getD []:=if_pos ⟨hp,he,h14⟩
 have hlc:Ev r R B=if (B3 R B).isSome then 0 else 4:=by unfold Ev;rw [if_pos hp,if_pos he,if_pos h14]
 refine ⟨by unfold Pb;rw [if_pos hp,if_pos he],by rw [hbv,Wp],hp.1.1,fun hs=>?_,fun hs=>?_⟩
 ·obtain ⟨c,hc⟩:=Option.isSome_iff_exists.1 hs
  obtain ⟨c1,c2,c3,c4,c5⟩:=cG hp h14 hc
  have hr:1<r:=Classical.byContradiction fun hn=>by
   cases c with
   | nil=>exact c5 rfl
   | cons x c=>have:=c2 x (by simp);rw [eW hp (by omega)] at this;cases this
  have hlt:=hli.1 hs
  have hok:D4 r R B 1 [c]=0:=mK hp (by decide) (by omega) fun x hx=>by rw [List.mem_singleton.1 hx];exact chOk_iff.2 ⟨c1,c2⟩
  have hv:Cr r R B=c:=by rw [hlv,hc];rfl
  rw [hv,hbv,Wq hp hr,hlc,if_pos hs]
  refine ⟨hr,by omega,rfl,hok,pY hok (.inr c3),?_,fun h=>c5 (List.eq_nil_of_length_eq_zero h)⟩
  unfold Qf
  rw [if_pos hok,oP (i:=1) hp c1 (show ¬ Sp (fun g=>∃ e∈(Am R (1+1)).reverse,g=Av R B e) c from c4)]
  rfl
 ·have hn:B3 R B=none:=by cases h:B3 R B with | none=>rfl | some c=>rw [h] at hs;cases hs
  refine ⟨fun hr h0=>?_,by rw [hlc,hs];rfl,by rw [hlv,hn];rfl⟩
  rw [hbv,Wq hp hr] at h0
  have:=hli.2 (by omega)
  rw [hs] at this
  cases this
end
end Go.Proofs.YtcneanpkpmfaiaaGreat
