/- Texts that belong together. -/
import Derived.Test.YtcneanpkpmfaiaaGreatY5
import Derived.Test.YtcneanpkpmfaiaaGreatY9
import Derived.Test.YtcneanpkpmfaiaaGreatQc
set_option linter.unusedSimpArgs false
set_option linter.unusedVariables false
set_option maxRecDepth 100000
namespace Go.Proofs.YtcneanpkpmfaiaaGreat
open Go.Gov
open Classical
section
variable {r:Int} {R:List Int} {B:List (List Int)} {i:Int} {a b c:List Int}
theorem chOk_iff:ChOk R i c ↔ sst c∧∀ e∈c,e∈Ba R i:=by
 constructor
 ·intro h
  refine ⟨h.sst,fun e he=>?_⟩
  obtain ⟨k,hk,hke⟩:=List.mem_iff_getElem.1 he
  obtain ⟨h1,h2,h3,_⟩:=h k hk
  rw [Dj c k hk,hke] at h1 h2 h3
  exact mem_plc.2 ⟨h1,by omega,h3⟩
 ·rintro ⟨h1,h2⟩ k hk
  obtain ⟨a1,a2,a3⟩:=mem_plc.1 (h2 _ (List.getElem_mem hk))
  unfold Ih
  rw [Dj c k hk]
  refine ⟨a1,by omega,a3,fun hk0=>?_⟩
  rw [Dj c (k - 1) (by omega)]
  exact List.pairwise_iff_getElem.1 h1 (k - 1) k (by omega) hk (by omega)
theorem Ov {cs:List (List Int)}(hp:IsPos r R B)(h0:0≤i)(h1:i≤r - 1)(h:∀ c∈cs,ChOk R i c):A3 r R B i cs=0:=by
 unfold A3
 rw [if_pos hp,if_pos ⟨⟨h0,h1⟩,h⟩]
theorem Sj (hp:IsPos r R B)(hc:sst c){d:List Int}(h:D3 R B i c=some d):sst d∧(∀ e∈d,e∈Ba R (i+1))∧bd (At R B) d=c:=by
 have hf:∀ e,sst (At R B e):=Gj hp.rows.2
 unfold D3 at h
 split at h
 ·rename_i h0
  obtain rfl:=Option.some.inj h
  exact ⟨Es,by simp,by rw [h0];rfl⟩
 ·split at h
  ·rename_i hex
   have hs:=Classical.choose_spec hex
   obtain rfl:=Option.some.inj h
   generalize Classical.choose hex=y at hs
   obtain ⟨⟨⟨ld,P,hl,hP,hA,hd⟩,_⟩,h4⟩:=hs
   have h3:bd (At R B) []=Ag c c:=by rw [Rn,Lr hc]
   obtain ⟨i1,i2,i3,i4,_⟩:=hA.keep hP hf Es hc hc h3
   refine ⟨i1,fun e he=>?_,by rw [i3,h4,H4]⟩
   rcases i4 e he with h5 | h5
   ·cases h5
   ·exact List.mem_reverse.1 (N3 h5)
  ·cases h
theorem jP (hp:IsPos r R B){g:Int}(hg:g∈Ba R i):∀ e∈At R B g,e∈Ba R (i - 1):=fun e hm=>by
 obtain ⟨g1,g2,g3⟩:=mem_plc.1 hg
 have hm2:=List.mem_filter.1 hm
 obtain ⟨k,hk,hke⟩:=List.mem_iff_getElem.1 hm2.1
 have h1:=hp.rows.1 g.toNat (by have:=hp.1.2.2.2;omega) k hk
 rw [Dj _ k hk,hke] at h1
 have h2:R.getD e.toNat 0=R.getD g.toNat 0 - 1:=by
  have:=hm2.2
  unfold B6 at this
  simpa using this
 exact mem_plc.2 ⟨h1.1,by omega,by omega⟩
theorem jG (hp:IsPos r R B)(hs:∀ e∈c,e∈Ba R i):sst (bd (At R B) c)∧∀ e∈bd (At R B) c,e∈Ba R (i - 1):=by
 have hf:∀ e,sst (At R B e):=Gj hp.rows.2
 obtain ⟨h1,h2⟩:=Gq hf c
 refine ⟨h1,fun e he=>?_⟩
 have h3:=(h2 e).1 he
 obtain ⟨x,x1,x2⟩:=List.countP_pos_iff.1 (show 0<c.countP fun x=>decide (e∈At R B x) by omega)
 exact jP hp (hs x x1) e (of_decide_eq_true x2)
theorem Vk (hp:IsPos r R B)(he:Gf R B)(hi:1<i)(hs:∀ e∈c,e∈Ba R i):bd (At R B) (bd (At R B) c)=[]:=by
 have hf:∀ e,sst (At R B e):=Gj hp.rows.2
 have:=(Vm hf c).le (G' := fun g=>∃ e∈Ba R i,g=At R B e) (fun g ⟨e,_,h⟩=>h ▸ hf e) fun g ⟨e,h1,h2⟩=>.one ⟨e,hs e h1,h2⟩
 exact (Acj hf (mC hp he hi) this).2.1
theorem dI (hp:IsPos r R B)(hi:¬ i≤r - 1):Ba R i=[]:=List.eq_nil_iff_forall_not_mem.2 fun e he=>by
 obtain ⟨h1,h2,h3⟩:=mem_plc.1 he
 have:=(hp.2 e.toNat (by omega)).1.2.1
 omega
theorem len_bd:((B9 R B c).length:Int) == 0 ↔ bd (At R B) c=[]:=by
 show (((bd (At R B) c).length:Int) == 0)=true ↔ _
 rw [beq_iff_eq]
 constructor
 ·intro h;exact List.eq_nil_of_length_eq_zero (by omega)
 ·intro h;rw [h];rfl
theorem S1 (h:A3 r R B i [c]=0)(hb:i=0∨bd (At R B) c=[]):Fz r R B i c=true:=by
 unfold Fz
 rw [if_pos h]
 rcases hb with hb | hb
 ·simp [hb]
 ·rw [len_bd.2 hb,Bool.or_true]
theorem kK (h : A3 r R B i [a, b] = 0) :
    Dv r R B i a b=Ag a b∧A3 r R B i [Ag a b,b]=0∧Dv r R B i (Ag a b) b=a∧A3 r R B i [Ag a b]=0 ∧
    Jk r R B i a b=(Hp r R B i (Ag a b) == 0) ∧
    (Hp r R B i (Ag a b)=0→D9 r R B i (Ag a b)≠[]→Jl r R B (i+1) (D9 r R B i (Ag a b))=0∧El r R B (i+1) (D9 r R B i (Ag a b))=Ag a b∧(Gf R B→Fz r R B i (Ag a b)=true)) ∧
    (Hp r R B i (Ag a b)=0→D9 r R B i (Ag a b)=[]→Ag a b=[]) ∧
    (i=0→Fz r R B i (Ag a b)=true) ∧
    (i≠0→Jl r R B i (Ag a b)=0∧Fz r R B i (Ag a b)=(((El r R B i (Ag a b)).length:Int) == 0)∧A3 r R B (i - 1) [El r R B i (Ag a b)]=0∧(Gf R B→Fz r R B (i - 1) (El r R B i (Ag a b))=true)):=by
 obtain ⟨hp,⟨hi0,hi1⟩,hall⟩:=Hm h
 have hka:=hall a (by simp)
 have hkb:=hall b (by simp)
 obtain ⟨a1,a2⟩:=chOk_iff.1 hka
 obtain ⟨b1,b2⟩:=chOk_iff.1 hkb
 have s1:=Bt a1 b1
 have s2:∀ e∈Ag a b,e∈Ba R i:=fun e he=>by
  have h1:=(Dt a1 b1 e).1 he
  by_cases h2:e∈a
  ·exact a2 e h2
  ·exact b2 e (Classical.byContradiction fun h3=>h1 (iff_of_false h2 h3))
 have hks:=chOk_iff.2 ⟨s1,s2⟩
 have hsb:A3 r R B i [Ag a b,b]=0:=Ov hp hi0 hi1 fun x hx=>by
  rcases List.mem_cons.1 hx with rfl | hx
  ·exact hks
  ·rw [List.mem_singleton.1 hx];exact hkb
 have hs0:A3 r R B i [Ag a b]=0:=Ov hp hi0 hi1 fun x hx=>by rw [List.mem_singleton.1 hx];exact hks
 have hab:Ag (Ag a b) b=a:=by rw [Gw a1 b1 b1,Lr b1,Gv]
 have hah:Jk r R B i a b=(D3 R B i (Ag a b)).isSome:=by unfold Jk;rw [if_pos h]
 refine ⟨by unfold Dv;rw [if_pos h],hsb,by unfold Dv;rw [if_pos hsb,hab],hs0,?_,?_,?_,fun h0=>S1 hs0 (.inl h0),fun h0=>?_⟩
 ·rw [hah]
  unfold Hp
  rw [if_pos hs0]
  cases (D3 R B i (Ag a b)).isSome<;>rfl
 ·intro f0 fne
  unfold Hp at f0
  rw [if_pos hs0] at f0
  cases hfi:D3 R B i (Ag a b) with
  | none=>rw [hfi] at f0;cases f0
  | some d=>
   have hv:D9 r R B i (Ag a b)=d:=by unfold D9;rw [if_pos hs0,hfi];rfl
   rw [hv] at fne ⊢
   obtain ⟨d1,d2,d3⟩:=Sj hp s1 hfi
   have hir:i+1≤r - 1:=Classical.byContradiction fun hn=>by
    have:=dI hp hn
    cases d with
    | nil=>exact fne rfl
    | cons x d=>have:=d2 x (by simp);rw [dI hp hn] at this;cases this
   have hd0:A3 r R B (i+1) [d]=0:=Ov hp (by omega) hir fun x hx=>by rw [List.mem_singleton.1 hx];exact chOk_iff.2 ⟨d1,d2⟩
   refine ⟨by unfold Jl;rw [if_pos hd0,if_neg (by omega)],by unfold El;rw [if_pos hd0,if_neg (by omega)];exact d3,fun he=>S1 hs0 ?_⟩
   by_cases h0:i=0
   ·exact .inl h0
   ·right
    rw [← d3]
    exact Vk hp he (by omega) d2
 ·intro f0 fn
  unfold Hp at f0
  rw [if_pos hs0] at f0
  cases hfi:D3 R B i (Ag a b) with
  | none=>rw [hfi] at f0;cases f0
  | some d=>
   have hv:D9 r R B i (Ag a b)=d:=by unfold D9;rw [if_pos hs0,hfi];rfl
   rw [hv] at fn
   obtain ⟨d1,d2,d3⟩:=Sj hp s1 hfi
   rw [← d3,fn]
   rfl
 ·have hbv:El r R B i (Ag a b)=bd (At R B) (Ag a b):=by unfold El;rw [if_pos hs0,if_neg h0];rfl
  obtain ⟨e1,e2⟩:=jG hp s2
  have he0:A3 r R B (i - 1) [bd (At R B) (Ag a b)]=0:=Ov hp (by omega) (by omega) fun x hx=>by rw [List.mem_singleton.1 hx];exact chOk_iff.2 ⟨e1,e2⟩
  rw [hbv]
  refine ⟨by unfold Jl;rw [if_pos hs0,if_neg h0],?_,he0,fun he=>S1 he0 ?_⟩
  ·unfold Fz
   rw [if_pos hs0,show (i == 0)=false by simpa using h0,Bool.false_or]
   rfl
  ·by_cases h1:i - 1=0
   ·exact .inl h1
   ·exact .inr (Vk hp he (by omega) s2)
end
end Go.Proofs.YtcneanpkpmfaiaaGreat
