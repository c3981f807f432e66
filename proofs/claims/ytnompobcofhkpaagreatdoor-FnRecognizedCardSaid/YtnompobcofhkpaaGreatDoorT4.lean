/- Texts that belong together. -/
import Derived.Test.YtnompobcofhkpaaGreatDoorZt
import Derived.Test.YtnompobcofhkpaaGreatDoorT3
set_option maxHeartbeats 16000000
set_option linter.unusedSimpArgs false
set_option linter.unusedVariables false
set_option maxRecDepth 100000
namespace Go.Proofs.YtnompobcofhkpaaGreatDoor
section
open Go.Gov Go.Nt
open Classical
theorem I3 {b c:UInt8}(h:(b.toNat:Int)=(c.toNat:Int)):b=c:=UInt8.toNat_inj.1 (by omega)
theorem Xi (b:UInt8):b.toNat<256:=b.toNat_lt
theorem C5 {n:Int}(h0:0≤n)(h1:n<256){m:Nat}(hm:m<256)(h:n≠(m:Int)):UInt8.ofNat n.toNat≠UInt8.ofNat m:=fun e=>by
 have:=congrArg UInt8.toNat e
 simp only [UInt8.toNat_ofNat'] at this
 rw [Nat.mod_eq_of_lt (by omega),Nat.mod_eq_of_lt (by omega)] at this
 omega
set_option hygiene false in
theorem Alv (n:Int)(h0:0≤n)(h1:n<256):Pure Tryz.prog 53 [.val (.int .u8 n)] (sV (C8 (UInt8.ofNat n.toNat))) []:=by
 by_cases c1:n=100
 ·subst c1
  refine Ao F9 rfl rfl ?_;unfold c53
  (iterate 16 ((try (refine RN ?_;try with_reducible exact trivial));(try with_reducible refine fun _=>?_)))
  try rfl
 by_cases c2:n=97
 ·subst c2
  refine Ao F9 rfl rfl ?_;unfold c53
  (iterate 16 ((try (refine RN ?_;try with_reducible exact trivial));(try with_reducible refine fun _=>?_)))
  try rfl
 by_cases c3:n=116
 ·subst c3
  refine Ao F9 rfl rfl ?_;unfold c53
  (iterate 16 ((try (refine RN ?_;try with_reducible exact trivial));(try with_reducible refine fun _=>?_)))
  try rfl
 by_cases c4:n=99
 ·subst c4
  refine Ao F9 rfl rfl ?_;unfold c53
  (iterate 16 ((try (refine RN ?_;try with_reducible exact trivial));(try with_reducible refine fun _=>?_)))
  try rfl
 by_cases c5:n=98
 ·subst c5
  refine Ao F9 rfl rfl ?_;unfold c53
  (iterate 16 ((try (refine RN ?_;try with_reducible exact trivial));(try with_reducible refine fun _=>?_)))
  try rfl
 by_cases c6:n=101
 ·subst c6
  refine Ao F9 rfl rfl ?_;unfold c53
  (iterate 16 ((try (refine RN ?_;try with_reducible exact trivial));(try with_reducible refine fun _=>?_)))
  try rfl
 by_cases c7:n=106
 ·subst c7
  refine Ao F9 rfl rfl ?_;unfold c53
  (iterate 16 ((try (refine RN ?_;try with_reducible exact trivial));(try with_reducible refine fun _=>?_)))
  try rfl
 by_cases c8:n=107
 ·subst c8
  refine Ao F9 rfl rfl ?_;unfold c53
  (iterate 16 ((try (refine RN ?_;try with_reducible exact trivial));(try with_reducible refine fun _=>?_)))
  try rfl
 by_cases c9:n=109
 ·subst c9
  refine Ao F9 rfl rfl ?_;unfold c53
  (iterate 16 ((try (refine RN ?_;try with_reducible exact trivial));(try with_reducible refine fun _=>?_)))
  try rfl
 by_cases d1:n=110
 ·subst d1
  refine Ao F9 rfl rfl ?_;unfold c53
  (iterate 16 ((try (refine RN ?_;try with_reducible exact trivial));(try with_reducible refine fun _=>?_)))
  try rfl
 by_cases d2:n=111
 ·subst d2
  refine Ao F9 rfl rfl ?_;unfold c53
  (iterate 16 ((try (refine RN ?_;try with_reducible exact trivial));(try with_reducible refine fun _=>?_)))
  try rfl
 by_cases d3:n=122
 ·subst d3
  refine Ao F9 rfl rfl ?_;unfold c53
  (iterate 16 ((try (refine RN ?_;try with_reducible exact trivial));(try with_reducible refine fun _=>?_)))
  try rfl
 have hw:C8 (UInt8.ofNat n.toNat)=[]:=by
  have e1:=C5 h0 h1 (m:=100) (by decide) c1
  have e2:=C5 h0 h1 (m:=97) (by decide) c2
  have e3:=C5 h0 h1 (m:=116) (by decide) c3
  have e4:=C5 h0 h1 (m:=99) (by decide) c4
  have e5:=C5 h0 h1 (m:=98) (by decide) c5
  have e6:=C5 h0 h1 (m:=101) (by decide) c6
  have e7:=C5 h0 h1 (m:=106) (by decide) c7
  have e8:=C5 h0 h1 (m:=107) (by decide) c8
  have e9:=C5 h0 h1 (m:=109) (by decide) c9
  have f1:=C5 h0 h1 (m:=110) (by decide) d1
  have f2:=C5 h0 h1 (m:=111) (by decide) d2
  have f3:=C5 h0 h1 (m:=122) (by decide) d3
  generalize UInt8.ofNat n.toNat=b at *
  unfold C8
  rw [if_neg (by rintro (h | h | h | h);exact e1 h;exact e2 h;exact e3 h;exact e4 h),if_neg (show ¬ b=98 from e5),if_neg (show ¬ b=101 from e6),if_neg (show ¬ b=106 from e7),if_neg (show ¬ b=107 from e8),if_neg (show ¬ b=109 from e9),if_neg (show ¬ b=110 from f1),if_neg (show ¬ b=111 from f2),if_neg (show ¬ b=122 from f3)]
 rw [hw]
 refine Ao F9 rfl rfl ?_;unfold c53
 (iterate 16 ((try (refine RN ?_;try with_reducible exact trivial));(try with_reducible refine fun _=>?_)))
 try rfl
theorem Rx (b:UInt8):Pure Tryz.prog 53 [u8 b] (sV (C8 b)) []:=by
 have h:=Alv b.toNat (by omega) (by have:=Xi b;omega)
 rwa [Int.toNat_natCast,UInt8.ofNat_toNat] at h
theorem Rc {s:List UInt8}{i:Nat}(h:i<s.length):s.getD i 0∈s:=by
 rw [List.getD_eq_getElem?_getD,List.getElem?_eq_getElem h]
 exact List.getElem_mem h
theorem oE {s:List UInt8}{i:Nat}(h:i<s.length):s.take (i+1)=s.take i++[s.getD i 0]:=by
 rw [List.take_succ_eq_append_getElem h]
 simp [List.getD_eq_getElem?_getD,h]
theorem Abr (n:Int)(a b:List UInt8):Eh n (a++b)=Eh (Eh n a) b:=List.foldl_append
theorem Alz {n:Int}(h0:0≤n)(h1:n<256):IntKind.wrap .u8 n=n:=by
 simp only [IntKind.wrap,IntKind.signed,IntKind.bits]
 simp
 omega
theorem Vp (s:List UInt8)(hs:s.length≤1099511627776):Pure Tryz.prog 54 [sV s] (i64 (D2 s)) []:=by
 have h9:((s.getD 0 0).toNat:Int)=48 ↔ s.getD 0 0=48:=⟨fun h=>I3 (c:=48) h,fun h=>by rw [h];rfl⟩
 refine Ao Ad9 rfl rfl ?_;unfold aN
 refine RN ?_
 refine ⟨fun hc=>?_,fun hc=>?_⟩
 ·(refine RN ?_;try with_reducible exact trivial)
  have:D2 s = -1:=by
   unfold D2
   rw [if_pos]
   rcases hc with (h | h) | ⟨h,h2⟩
   ·exact .inl (by omega)
   ·exact .inr (.inl (by omega))
   ·exact .inr (.inr ⟨by omega,h9.1 h2⟩)
  rw [this]
 ·have hv : D2 s = if ∀ b ∈ s, F3 b then Eh 0 s else -1 := by
    unfold D2
    rw [if_neg]
    rintro (h | h | ⟨h,h2⟩)
    ·omega
    ·omega
    ·have:=h9.2 h2
     omega
  refine RN ?_
  refine Ah (α:=Nat) (S:=fun i=>([(0,sV s),(3,i64 (Eh 0 (s.take i))),(4,i64 (i:Int))],[])) (C:=fun i=>i≤s.length∧∀ b∈s.take i,F3 b) (μ:=fun i=>s.length - i) 0 ⟨Nat.zero_le _,by simp⟩ (Ref.to rfl (by simp [sub,Ab,Eh])) ?_
  rintro i ⟨h1,h2⟩
  refine RN ?_
  refine ⟨fun hi=>?_,fun hi=>?_⟩
  ·have h3:=oE (s:=s) (i:=i) (by omega)
   have h4:=Rc (s:=s) (i:=i) (by omega)
   obtain ⟨b,hb⟩:∃ b,b=s.getD i 0:=⟨_,rfl⟩
   rw [← hb] at h3 h4
   have h5:=Xi b
   have h6:=kD (s.take i) 0 (Int.le_refl _) h2
   have h7:(s.take i).length≤8:=by rw [List.length_take];omega
   have h8:(10:Int)^(s.take i).length≤10^8:=by
    have:=Nat.pow_le_pow_right (n:=10) (by decide) h7
    exact_mod_cast this
   obtain ⟨v,hv2⟩:∃ v,v=Eh 0 (s.take i):=⟨_,rfl⟩
   have h10:0≤v∧v<100000000:=by rw [hv2];omega
   rw [← hv2]
   (refine RN ?_;try with_reducible exact trivial)
   try simp only [← hb,go_sem,↓reduceIte,Nat.reduceEqDiff,Nat.reduceAdd,reduceCtorEq]
   refine RN ?_
   refine ⟨fun hd=>?_,fun hd=>?_⟩
   ·(refine RN ?_;try with_reducible exact trivial)
    rw [hv,if_neg fun h=>by have:=h b h4;unfold F3 at this;omega]
   ·have hw:=Alz (n:=(b.toNat:Int) - 48) (by omega) (by omega)
    (refine RN ?_;try with_reducible exact trivial)
    try simp only [← hb,hw,go_sem,↓reduceIte,Nat.reduceEqDiff,Nat.reduceAdd,reduceCtorEq]
    refine RN ?_
    refine ⟨i+1,⟨by omega,fun c hc2=>?_⟩,by omega,Ref.to rfl ?_⟩
    ·rw [h3] at hc2
     rcases List.mem_append.1 hc2 with h | h
     ·exact h2 c h
     ·rw [List.mem_singleton.1 h];unfold F3;omega
    ·have:Eh 0 (s.take (i+1))=v*10+((b.toNat:Int) - 48):=by rw [h3,Abr,← hv2];rfl
     simp [sub,Ab,this]
  ·(refine RN ?_;try with_reducible exact trivial)
   have:s.take i=s:=List.take_of_length_le (by omega)
   rw [this] at h2 ⊢
   rw [hv,if_pos h2]
theorem Ajj (b:UInt8):M4 b=true ↔ ((b.toNat:Int)=84∨(b.toNat:Int)=67∨(b.toNat:Int)=79∨(b.toNat:Int)=68∨(b.toNat:Int)=73):=by
 unfold M4
 rw [List.contains_iff_mem]
 simp only [List.mem_cons,List.not_mem_nil,or_false]
 exact or_congr ⟨fun h=>by rw [h];rfl,fun h=>I3 (c:=84) h⟩ (or_congr ⟨fun h=>by rw [h];rfl,fun h=>I3 (c:=67) h⟩ (or_congr ⟨fun h=>by rw [h];rfl,fun h=>I3 (c:=79) h⟩ (or_congr ⟨fun h=>by rw [h];rfl,fun h=>I3 (c:=68) h⟩ ⟨fun h=>by rw [h];rfl,fun h=>I3 (c:=73) h⟩)))
theorem vW (b:UInt8):(b=72∨b=90) ↔ ((b.toNat:Int)=72∨(b.toNat:Int)=90):=
 or_congr ⟨fun h=>by rw [h];rfl,fun h=>I3 (c:=72) h⟩ ⟨fun h=>by rw [h];rfl,fun h=>I3 (c:=90) h⟩
theorem Tc (s:List UInt8):Dh s ↔ (s.length=1∧(((s.getD 0 0).toNat:Int)=84∨((s.getD 0 0).toNat:Int)=67∨((s.getD 0 0).toNat:Int)=79∨((s.getD 0 0).toNat:Int)=68∨((s.getD 0 0).toNat:Int)=73))∨(1≤s.length∧(((s.getD 0 0).toNat:Int)=72∨((s.getD 0 0).toNat:Int)=90)∧2≤Bb s∧Bb s≤30):=by
 rw [Ajk,Ajj,vW]
theorem yW (s:List UInt8)(hs:s.length≤1099511627776):Pure Tryz.prog 65 [sV s] (bl (decide (Dh s))) []:=by
 have hok:=Tc s
 have hv:=Vp (s.drop 1) (by rw [List.length_drop];omega)
 have hin:=Oo (Bb s) 2 30
 rw [show D2 (s.drop 1)=Bb s from rfl] at hv
 refine Ao Aeg rfl rfl ?_;unfold aU
 refine RN ?_
 refine ⟨fun hc=>?_,fun hc=>?_⟩
 ·(refine RN ?_;try with_reducible exact trivial)
  exact congrArg bl (Eq.symm (decide_eq_false fun h=>by rcases hok.1 h with h | h<;>omega))
 ·(refine RN ?_;try with_reducible exact trivial)
  generalize hn:((s.getD 0 0).toNat:Int)=n at hok ⊢
  by_cases c1:n=84∨n=67∨n=79∨n=68∨n=73
  ·rcases c1 with rfl | rfl | rfl | rfl | rfl<;>(iterate 16 ((try (refine RN ?_;try with_reducible exact trivial));(try with_reducible refine fun _=>?_)))<;>exact congrArg bl (decide_eq_decide.2 ⟨fun h=>hok.2 (by omega),fun h=>by rcases hok.1 h with h | h<;>omega⟩)
  ·by_cases c2:n=72∨n=90
   ·have hsd:(s.take s.length).drop 1=s.drop 1:=by rw [List.take_length]
    rcases c2 with rfl | rfl
    all_goals
     (iterate 16 ((try (refine RN ?_;try with_reducible exact trivial));(try with_reducible refine fun _=>?_)))
     try simp only [hsd,go_sem,↓reduceIte,Nat.reduceEqDiff,Nat.reduceAdd,reduceCtorEq]
     refine Ag (hv) ?_
     (iterate 16 ((try (refine RN ?_;try with_reducible exact trivial));(try with_reducible refine fun _=>?_)))
     refine Ag (hin) ?_
     (iterate 16 ((try (refine RN ?_;try with_reducible exact trivial));(try with_reducible refine fun _=>?_)))
     refine congrArg bl ?_
     rw [← Bool.decide_and]
     exact decide_eq_decide.2 ⟨fun h=>hok.2 (.inr ⟨by omega,by omega,h⟩),fun h=>by rcases hok.1 h with h | h<;>omega⟩
   ·(iterate 16 ((try (refine RN ?_;try with_reducible exact trivial));(try with_reducible refine fun _=>?_)))
    exact congrArg bl (Eq.symm (decide_eq_false fun h=>by rcases hok.1 h with h | h<;>omega))
theorem yY (l:List UInt8)(hs:l.length≤1099511627776):Pure Tryz.prog 32 [sV l] (i64 (if Dg l then ((Al l).length:Int) else -1)) []:=by
 have hlen:=jX l
 have hse:=yW (Au l) (by have:=Sg l;omega)
 refine Ao Ads rfl rfl ?_;unfold Z8
 refine RN ?_
 refine Ah (α:=Nat) (S:=fun i=>([(0,sV l),(3,i64 (i:Int))],[])) (C:=fun i=>i≤(Al l).length) (μ:=fun i=>l.length - i) 0 (Nat.zero_le _) (by exact Ref.frame (by simp [sub,Ab])) ?_
 intro i hi
 have hst:=Wf l i hi
 have hwo:=Rx (l.getD i 0)
 have hwe:=Xr (l.getD i 0)
 refine RN ?_
 refine C9 (sV (C8 (l.getD i 0)) ) (fun hg =>  hwo) ?_
 simp only [hwe,Bool.not_not,go_sem,↓reduceIte,Nat.reduceEqDiff,Nat.reduceAdd,reduceCtorEq]
 refine RN ?_
 refine ⟨fun hc=>?_,fun hc=>?_⟩
 ·have:=hst.2 ⟨by omega,hc.2⟩
  refine RN ?_
  exact ⟨i+1,by omega,by omega,Ref.to1⟩
 ·obtain rfl : i = (Al l).length := by
    rcases Nat.lt_or_ge i (Al l).length with h | h
    ·have h2:=hst.1 h
     rcases hc with h3 | h3
     ·omega
     ·rw [h2.2] at h3;cases h3
    ·omega
  have hdr:(l.take l.length).drop (Al l).length=Au l:=by rw [List.take_length,We]
  (refine RN ?_;try with_reducible exact trivial)
  try simp only [hdr,go_sem,↓reduceIte,Nat.reduceEqDiff,Nat.reduceAdd,reduceCtorEq]
  refine C9 (bl (decide (Dh (Au l))) ) (fun hg =>  hse) ?_
  refine RN ?_
  refine ⟨fun hd=>?_,fun hd=>?_⟩
  ·(refine RN ?_;try with_reducible exact trivial)
   rw [if_neg fun h:Dg l=>by
    unfold Dg at h
    rcases hd with h2 | h2
    ·omega
    ·exact h2 h.2]
  ·(refine RN ?_;try with_reducible exact trivial)
   have hk:Dg l:=⟨by omega,hd.2⟩
   rw [if_pos hk]
end
section
open Go.Gov Go.Nt
open Classical
variable (tp tq:TypeId) (p q:Value)
theorem U1 (n:Int)(h0 : -9223372036854775808≤n)(h1:n≤9223372036854775807):PureG Tryz.prog (LV tp tq p q) 87 [i64 n] (sV (Go.Lib.itoa n)) []:=by
 have hf:=(uW n h0 h1).sub (L' := LV tp tq p q) (by simp [LV];intros;simp_all)
 refine Hk Ae0 rfl ?_;unfold bO
 refine RN ?_
 refine Gs (hf) ?_
 refine RN ?_
 exact Ref.gc1 []
def rdR (s:List UInt8)(o:Int×Bool):Prop:=(o.2=true→Go.Lib.itoa o.1=s)∧(∀ v:Nat,2≤v→v≤30→s=tx v→o=((v:Int),true))
theorem Aid (s:List UInt8)(hs:s.length≤1099511627776):Js Tryz.prog (LV tp tq p q) 62 [sV s] (rdR s) (fun o=>.tup [i64 o.1,bl o.2]) (fun _=>[]):=by
 have hp:=Agf s (by omega) tp tq p q
 refine lU Aed rfl ?_;unfold aR
 refine RN ?_
 refine Lf (hp) fun o ho=>?_
 obtain ⟨⟨v,b⟩,t,k⟩:=o
 obtain ⟨⟨ho0,ho1⟩,ho⟩:=ho
 dsimp only at ho ho0 ho1
 cases b with
 | false=>
  simp only [Q0,Bool.false_eq_true,go_sem,↓reduceIte,Nat.reduceEqDiff,Nat.reduceAdd,reduceCtorEq]
  refine RN ?_
  refine Fv (sV []) rfl ?_
  refine RN ?_
  refine ⟨(v,false),⟨fun h=>(by cases h),fun u h1 h2 h3=>?_⟩,Ref.gc1 []⟩
  subst h3
  rw [lM (by omega)] at ho
  cases ho
 | true=>
  have hd:=U1 tp tq p q v ho0 ho1
  simp only [Q0,go_sem,↓reduceIte,Nat.reduceEqDiff,Nat.reduceAdd,reduceCtorEq]
  refine RN ?_
  refine Xv (sV (Go.Lib.itoa v) ) (fun hg =>  hd) ?_
  refine RN ?_
  refine ⟨(v,Go.Lib.itoa v == s),⟨fun h=>eq_of_beq h,fun u h1 h2 h3=>?_⟩,Ref.gc1 []⟩
  subst h3
  rw [lM (by omega)] at ho
  simp only [Prod.mk.injEq,and_true] at ho
  rw [ho,Rl (by omega)]
  simp
def paR (l:List UInt8)(o:(List UInt8×List UInt8×Int)×Bool):Prop:=o.2=decide (Dg l)∧(Dg l→o.1=(Al l,Au l,if (Au l).length=1 then 0 else Bb (Au l)))
theorem Wp (l:List UInt8)(hs:l.length≤1099511627776):Js Tryz.prog (LV tp tq p q) 30 [sV l] (paR l) (fun o=>.tup [.agg [sV o.1.1,sV o.1.2.1,i64 o.1.2.2],bl o.2]) (fun _=>[]):=by
 have htl:=Alb l [97,98,99,100,101,106,107,109,110,111,116,122] (by decide) (by decide) (by decide)
 have hlen:=Sg l
 have hsd:l.dropWhile (([97,98,99,100,101,106,107,109,110,111,116,122]:List UInt8).contains ·)=Au l:=rfl
 rw [hsd] at htl
 refine lU Adq rfl ?_;unfold Z6
 refine RN ?_
 have hk:((l.length:Int) - ((Au l).length:Int)).toNat=(Al l).length:=by omega
 have hst:=Tc (Au l)
 have hok:Dg l ↔ (Al l).length≤12∧Dh (Au l):=Iff.rfl
 refine Ag (htl) ?_
 refine RN ?_
 simp only [hk,jY,List.drop_zero,go_sem,↓reduceIte,Nat.reduceEqDiff,Nat.reduceAdd,reduceCtorEq]
 refine ⟨fun hc=>?_,fun hc=>?_⟩
 ·(refine RN ?_;try with_reducible exact trivial)
  refine ⟨(([],[],0),false),⟨(decide_eq_false fun h=>by have:=hok.1 h;omega).symm,fun h=>by have:=hok.1 h;omega⟩,Ref.gc1 []⟩
 ·have hc12:(Al l).length≤12:=by omega
  by_cases h1:(Au l).length=1
  ·obtain ⟨c,hS⟩:∃ c,Au l=[c]:=List.length_eq_one_iff.1 h1
   have hcc:=tQ [84,67,79,68,73] c
   rw [hS] at hst hok ⊢
   refine RN ?_
   refine C9 (bl (decide (c∈([84,67,79,68,73]:List UInt8))) ) (fun hg =>  hcc) ?_
   refine RN ?_
   have hsl:M4 c=true ↔ c∈([84,67,79,68,73]:List UInt8):=List.contains_iff_mem
   refine ⟨fun hd=>?_,fun hd=>?_⟩
   ·have hyes:Dg l:=hok.2 ⟨hc12,.inl ⟨c,rfl,hsl.2 hd.2⟩⟩
    refine RN ?_
    refine ⟨((Al l,[c],0),true),⟨(decide_eq_true hyes).symm,fun _=>by rw [hS];rfl⟩,Ref.gc1 []⟩
   ·have hno : ¬ Dg l := fun h => by
      rcases (hok.1 h).2 with ⟨b,h2,h3⟩ | ⟨b,r,h2,h3,h4⟩
      ·cases h2
       rcases hd with h5 | h5
       ·exact h5 rfl
       ·exact h5 (hsl.1 h3)
      ·obtain ⟨rfl,rfl⟩:=List.cons.inj h2
       have:D2 [] = -1:=rfl
       omega
    refine RN ?_
    refine ⟨fun hd2=>?_,fun hd2=>?_⟩
    ·(refine RN ?_;try with_reducible exact trivial)
     refine ⟨(([],[],0),false),⟨(decide_eq_false hno).symm,fun h=>absurd h hno⟩,Ref.gc1 []⟩
    ·exfalso
     simp at hd2
  ·have hb1 : ((((Au l).length : Int) == 1)) = false := by
     rw [beq_eq_false_iff_ne];omega
   refine RN ?_
   refine Fv (bl false) (by simpa using hb1) ?_
   refine RN ?_
   refine ⟨fun hd=>?_,fun hd=>?_⟩
   ·have hno : ¬ Dg l := fun h => by
      have h2:=hst.1 (hok.1 h).2
      rcases hd with h5 | ⟨h5,h6⟩<;>rcases h2 with h2 | ⟨h2,h3,h4,h7⟩
      ·omega
      ·have : Bb (Au l) = -1 := by
         have h8:(Au l).drop 1=[]:=List.drop_eq_nil_iff.2 (by omega)
         unfold Bb
         rw [h8]
         rfl
       omega
      ·omega
      ·omega
    refine RN ?_
    refine ⟨(([],[],0),false),⟨(decide_eq_false hno).symm,fun h=>absurd h hno⟩,Ref.gc1 []⟩
   ·have hrn:=Aid tp tq p q ((Au l).drop 1) (by rw [List.length_drop];omega)
    have hsd2:((Au l).take (Au l).length).drop 1=(Au l).drop 1:=by rw [List.take_length]
    (refine RN ?_;try with_reducible exact trivial)
    try simp only [hsd2,go_sem,↓reduceIte,Nat.reduceEqDiff,Nat.reduceAdd,reduceCtorEq]
    refine Lf (hrn) fun o ho=>?_
    obtain ⟨v,b⟩:=o
    obtain ⟨ho1,ho2⟩:=ho
    dsimp only at ho1 ho2
    have hnum:Dg l→∃ u:Nat,2≤u∧u≤30∧(v,b)=((u:Int),true)∧Bb (Au l)=u:=fun h=>by
     have h2:=hst.1 (hok.1 h).2
     rcases h2 with h2 | ⟨_,_,h4,h7⟩
     ·omega
     ·obtain ⟨u,u1,u2,u3,u4⟩:=Alg ⟨h4,h7⟩
      exact ⟨u,u1,u2,ho2 u u1 u2 u3,u4⟩
    cases b with
    | false=>
     have hno:¬ Dg l:=fun h=>by obtain ⟨u,_,_,h3,_⟩:=hnum h;cases h3
     refine RN ?_
     refine Ho [(2,.ref 1 0),(3,bl false)] [some (Cc (LV tp tq p q)),some [sV (Al l),sV (Au l),i64 v]] ?_ ?_
     ·(repeat' first | simp only [go_sem,↓reduceIte,Nat.reduceEqDiff,Nat.reduceAdd,reduceCtorEq] | with_reducible refine Ck ?_ | with_reducible refine Eo ?_ | with_reducible refine Cj ?_ | with_reducible exact Cm | with_reducible refine Ci ?_ ?_ | (with_reducible refine And.intro ?_ ?_;focus first | assumption | omega | grind))
      all_goals
       refine Fv (bl false) rfl ?_
       (repeat' first | simp only [go_sem,↓reduceIte,Nat.reduceEqDiff,Nat.reduceAdd,reduceCtorEq] | with_reducible refine Ck ?_ | with_reducible refine Eo ?_ | with_reducible refine Cj ?_ | with_reducible exact Cm | with_reducible refine Ci ?_ ?_ | (with_reducible refine And.intro ?_ ?_;focus first | assumption | omega | grind))
       exact Ref.gc1 [0,1]
     ·(refine RN ?_;try with_reducible exact trivial)
      refine ⟨((Al l,Au l,v),false),⟨(decide_eq_false hno).symm,fun h=>absurd h hno⟩,Ref.gc1 []⟩
    | true=>
     have hyes:decide (Dg l)=(decide (2≤v)&&decide (v≤30)):=by
      rw [← Bool.decide_and]
      refine decide_eq_decide.2 ⟨fun h=>?_,fun h=>?_⟩
      ·obtain ⟨u,u1,u2,h3,_⟩:=hnum h
       cases h3
       omega
      ·refine hok.2 ⟨hc12,hst.2 (.inr ⟨by omega,hd.2,?_⟩)⟩
       obtain ⟨u,rfl⟩:∃ u:Nat,v=u:=⟨v.toNat,by omega⟩
       have h3:=ho1 rfl
       rw [Rl (by omega)] at h3
       have h4:=oQ u (by omega) (by omega)
       unfold Bb
       rw [← h3,h4]
       omega
     refine RN ?_
     refine Ho [(2,.ref 1 0),(3,bl (decide (2≤v)&&decide (v≤30)))] [some (Cc (LV tp tq p q)),some [sV (Al l),sV (Au l),i64 v]] ?_ ?_
     ·(repeat' first | simp only [go_sem,↓reduceIte,Nat.reduceEqDiff,Nat.reduceAdd,reduceCtorEq] | with_reducible refine Ck ?_ | with_reducible refine Eo ?_ | with_reducible refine Cj ?_ | with_reducible exact Cm | with_reducible refine Ci ?_ ?_ | (with_reducible refine And.intro ?_ ?_;focus first | assumption | omega | grind))
      all_goals
       refine C9 (bl (decide (2≤v)&&decide (v≤30)) ) (fun hg =>  Lr v 2 30) ?_
       (repeat' first | simp only [go_sem,↓reduceIte,Nat.reduceEqDiff,Nat.reduceAdd,reduceCtorEq] | with_reducible refine Ck ?_ | with_reducible refine Eo ?_ | with_reducible refine Cj ?_ | with_reducible exact Cm | with_reducible refine Ci ?_ ?_ | (with_reducible refine And.intro ?_ ?_;focus first | assumption | omega | grind))
       exact Ref.gc1 [0,1]
     ·(refine RN ?_;try with_reducible exact trivial)
      refine ⟨((Al l,Au l,v),decide (2≤v)&&decide (v≤30)),⟨hyes.symm,fun h=>?_⟩,Ref.gc1 []⟩
      obtain ⟨u,_,_,h3,h4⟩:=hnum h
      cases h3
      rw [if_neg h1,h4]
end
section
open Go.Gov Go.Nt
open Classical
variable (tp tq:TypeId) (p q:Value)
theorem wE (l:List UInt8)(hs:l.length≤1099511627776):PureG Tryz.prog (LV tp tq p q) 9 [sV l] (bl (decide (Dg l))) []:=by
 have h:=Wp tp tq p q l hs
 refine Hk ok9 rfl ?_;unfold c9
 refine RN ?_
 refine Lf (h) fun o ho=>?_
 obtain ⟨⟨a,b,c⟩,d⟩:=o
 obtain ⟨ho1,ho2⟩:=ho
 dsimp only at ho1
 subst ho1
 refine RN ?_
 exact Ref.gc1 []
theorem W4 {s : List UInt8} (h : Dh s) : ∃ n : Int, ((s.getD 0 0).toNat : Int) = n ∧ ((s.length = 1 ∧ ((n = 84 ∧ Es s = [3, 3]) ∨ (n = 67 ∧ Es s = [4, 3]) ∨ (n = 79 ∧ Es s = [3, 4]) ∨ (n = 68 ∧ Es s = [5, 3]) ∨ (n = 73 ∧ Es s = [3, 5]))) ∨
    (2≤s.length∧((n=72∧Es s=[2,Bb s])∨(n=90∧Es s=[Bb s,2])))):=by
 refine ⟨_,rfl,?_⟩
 obtain ⟨b,hb⟩:∃ b,b=s.getD 0 0:=⟨_,rfl⟩
 have hd:∀ c:UInt8,((b.toNat:Int)=(c.toNat:Int))→b=c:=fun c h=>I3 h
 rcases (Tc s).1 h with ⟨h1,h2⟩ | ⟨h1,h2,h3,h4⟩
 ·rw [← hb] at h2 ⊢
  refine .inl ⟨h1,?_⟩
  unfold Es
  rw [← hb]
  rcases h2 with h2 | h2 | h2 | h2 | h2
  ·obtain rfl:=hd 84 h2;exact .inl ⟨rfl,rfl⟩
  ·obtain rfl:=hd 67 h2;exact .inr (.inl ⟨rfl,rfl⟩)
  ·obtain rfl:=hd 79 h2;exact .inr (.inr (.inl ⟨rfl,rfl⟩))
  ·obtain rfl:=hd 68 h2;exact .inr (.inr (.inr (.inl ⟨rfl,rfl⟩)))
  ·obtain rfl:=hd 73 h2;exact .inr (.inr (.inr (.inr ⟨rfl,rfl⟩)))
 ·have h5 : 2 ≤ s.length := by
    rcases Nat.lt_or_ge s.length 2 with h6 | h6
    ·have h8:s.drop 1=[]:=List.drop_eq_nil_iff.2 (by omega)
     unfold Bb at h3
     rw [h8] at h3
     have:D2 [] = -1:=rfl
     omega
    ·exact h6
  rw [← hb] at h2 ⊢
  refine .inr ⟨h5,?_⟩
  unfold Es
  rw [← hb]
  rcases h2 with h2 | h2
  ·obtain rfl:=hd 72 h2;exact .inl ⟨rfl,rfl⟩
  ·obtain rfl:=hd 90 h2;exact .inr ⟨rfl,rfl⟩
theorem yT (s:List UInt8)(h:Dh s)(hs:s.length≤1099511627776):Pure Tryz.prog 34 [sV s] (.sl 0 1 0 (Es s).length) [some (Aa (Es s))]:=by
 obtain ⟨n,hn,hk⟩:=W4 h
 have hv:=Vp (s.drop 1) (by rw [List.length_drop];omega)
 rw [show D2 (s.drop 1)=Bb s from rfl] at hv
 have hsd:(s.take s.length).drop 1=s.drop 1:=by rw [List.take_length]
 have hpos:0<s.length:=by rcases hk with h | h<;>omega
 rcases hk with ⟨_,hk⟩ | ⟨_,hk⟩
 ·rcases hk with ⟨rfl,e⟩ | ⟨rfl,e⟩ | ⟨rfl,e⟩ | ⟨rfl,e⟩ | ⟨rfl,e⟩
  all_goals
   rw [e]
   refine Bh kX rfl ?_;unfold Up
   (refine RN ?_;try with_reducible exact trivial)
   try simp only [hn,go_sem,↓reduceIte,Nat.reduceEqDiff,Nat.reduceAdd,reduceCtorEq]
   (iterate 16 ((try (refine RN ?_;try with_reducible exact trivial));(try with_reducible refine fun _=>?_)))
   exact Ref.to rfl (by simp [sub,Ab,Aa])
 ·rcases hk with ⟨rfl,e⟩ | ⟨rfl,e⟩
  all_goals
   rw [e]
   refine Bh kX rfl ?_;unfold Up
   (refine RN ?_;try with_reducible exact trivial)
   try simp only [hn,go_sem,↓reduceIte,Nat.reduceEqDiff,Nat.reduceAdd,reduceCtorEq]
   (iterate 16 ((try (refine RN ?_;try with_reducible exact trivial));(try with_reducible refine fun _=>?_)))
   try simp only [hsd,go_sem,↓reduceIte,Nat.reduceEqDiff,Nat.reduceAdd,reduceCtorEq]
   refine Ag (hv) ?_
   (iterate 16 ((try (refine RN ?_;try with_reducible exact trivial));(try with_reducible refine fun _=>?_)))
   exact Ref.to rfl (by simp [sub,Ab,Aa])
theorem uA (s:List UInt8)(o:List UInt8)(h:Dh s)(hs:s.length≤1099511627776):Pure Tryz.prog 57 [.agg [sV o,sV s,i64 (if s.length=1 then 0 else Bb s)]] (.sl 0 1 0 (Es s).length) [some (Aa (Es s))]:=by
 obtain ⟨n,hn,hk⟩:=W4 h
 have hpos:0<s.length:=by rcases hk with h | h<;>omega
 rcases hk with ⟨h1,hk⟩ | ⟨h1,hk⟩
 ·rw [if_pos h1]
  rcases hk with ⟨rfl,e⟩ | ⟨rfl,e⟩ | ⟨rfl,e⟩ | ⟨rfl,e⟩ | ⟨rfl,e⟩
  all_goals
   rw [e]
   refine Bh lA rfl ?_;unfold Ur
   (refine RN ?_;try with_reducible exact trivial)
   try simp only [hn,go_sem,↓reduceIte,Nat.reduceEqDiff,Nat.reduceAdd,reduceCtorEq]
   (iterate 16 ((try (refine RN ?_;try with_reducible exact trivial));(try with_reducible refine fun _=>?_)))
   exact Ref.gc [1] rfl (by simp only [go_sem,↓reduceIte,Nat.reduceEqDiff,Nat.reduceAdd,reduceCtorEq];rfl) (by simp [sub,Ab,go_sem,↓reduceIte,Nat.reduceEqDiff,Nat.reduceAdd,reduceCtorEq])
 ·rw [if_neg (by omega)]
  rcases hk with ⟨rfl,e⟩ | ⟨rfl,e⟩
  all_goals
   rw [e]
   refine Bh lA rfl ?_;unfold Ur
   (refine RN ?_;try with_reducible exact trivial)
   try simp only [hn,go_sem,↓reduceIte,Nat.reduceEqDiff,Nat.reduceAdd,reduceCtorEq]
   (iterate 16 ((try (refine RN ?_;try with_reducible exact trivial));(try with_reducible refine fun _=>?_)))
   exact Ref.gc [1] rfl (by simp only [go_sem,↓reduceIte,Nat.reduceEqDiff,Nat.reduceAdd,reduceCtorEq];rfl) (by simp [sub,Ab,go_sem,↓reduceIte,Nat.reduceEqDiff,Nat.reduceAdd,reduceCtorEq])
end
end Go.Proofs.YtnompobcofhkpaaGreatDoor
