/- Texts that belong together. -/
import Derived.Test.YtfcbamfkfadabaaGreatDoorZt
import Derived.Test.YtfcbamfkfadabaaGreatDoorT3
set_option maxHeartbeats 16000000
set_option linter.unusedSimpArgs false
set_option linter.unusedVariables false
set_option maxRecDepth 100000
namespace Go.Proofs.YtfcbamfkfadabaaGreatDoor
section
open Go.Gov Go.Nt
open Classical
theorem u8_eq {b c:UInt8}(h:(b.toNat:Int)=(c.toNat:Int)):b=c:=UInt8.toNat_inj.1 (by omega)
theorem u8_lt (b:UInt8):b.toNat<256:=b.toNat_lt
theorem of_ne {n:Int}(h0:0≤n)(h1:n<256){m:Nat}(hm:m<256)(h:n≠(m:Int)):UInt8.ofNat n.toNat≠UInt8.ofNat m:=fun e=>by
 have:=congrArg UInt8.toNat e
 simp only [UInt8.toNat_ofNat'] at this
 rw [Nat.mod_eq_of_lt (by omega),Nat.mod_eq_of_lt (by omega)] at this
 omega
set_option hygiene false in
theorem word_core (n:Int)(h0:0≤n)(h1:n<256):Pure Tryz.prog 84 [.val (.int .u8 n)] (sV (wordOf (UInt8.ofNat n.toNat))) []:=by
 by_cases c1:n=100
 ·subst c1
  refine pureV0 ok84 rfl rfl ?_;unfold c84
  (iterate 16 ((try (refine RN ?_;try with_reducible exact trivial));(try with_reducible refine fun _=>?_)))
  try rfl
 by_cases c2:n=97
 ·subst c2
  refine pureV0 ok84 rfl rfl ?_;unfold c84
  (iterate 16 ((try (refine RN ?_;try with_reducible exact trivial));(try with_reducible refine fun _=>?_)))
  try rfl
 by_cases c3:n=116
 ·subst c3
  refine pureV0 ok84 rfl rfl ?_;unfold c84
  (iterate 16 ((try (refine RN ?_;try with_reducible exact trivial));(try with_reducible refine fun _=>?_)))
  try rfl
 by_cases c4:n=99
 ·subst c4
  refine pureV0 ok84 rfl rfl ?_;unfold c84
  (iterate 16 ((try (refine RN ?_;try with_reducible exact trivial));(try with_reducible refine fun _=>?_)))
  try rfl
 by_cases c5:n=98
 ·subst c5
  refine pureV0 ok84 rfl rfl ?_;unfold c84
  (iterate 16 ((try (refine RN ?_;try with_reducible exact trivial));(try with_reducible refine fun _=>?_)))
  try rfl
 by_cases c6:n=101
 ·subst c6
  refine pureV0 ok84 rfl rfl ?_;unfold c84
  (iterate 16 ((try (refine RN ?_;try with_reducible exact trivial));(try with_reducible refine fun _=>?_)))
  try rfl
 by_cases c7:n=106
 ·subst c7
  refine pureV0 ok84 rfl rfl ?_;unfold c84
  (iterate 16 ((try (refine RN ?_;try with_reducible exact trivial));(try with_reducible refine fun _=>?_)))
  try rfl
 by_cases c8:n=107
 ·subst c8
  refine pureV0 ok84 rfl rfl ?_;unfold c84
  (iterate 16 ((try (refine RN ?_;try with_reducible exact trivial));(try with_reducible refine fun _=>?_)))
  try rfl
 by_cases c9:n=109
 ·subst c9
  refine pureV0 ok84 rfl rfl ?_;unfold c84
  (iterate 16 ((try (refine RN ?_;try with_reducible exact trivial));(try with_reducible refine fun _=>?_)))
  try rfl
 by_cases d1:n=110
 ·subst d1
  refine pureV0 ok84 rfl rfl ?_;unfold c84
  (iterate 16 ((try (refine RN ?_;try with_reducible exact trivial));(try with_reducible refine fun _=>?_)))
  try rfl
 by_cases d2:n=111
 ·subst d2
  refine pureV0 ok84 rfl rfl ?_;unfold c84
  (iterate 16 ((try (refine RN ?_;try with_reducible exact trivial));(try with_reducible refine fun _=>?_)))
  try rfl
 by_cases d3:n=122
 ·subst d3
  refine pureV0 ok84 rfl rfl ?_;unfold c84
  (iterate 16 ((try (refine RN ?_;try with_reducible exact trivial));(try with_reducible refine fun _=>?_)))
  try rfl
 have hw:wordOf (UInt8.ofNat n.toNat)=[]:=by
  have e1:=of_ne h0 h1 (m:=100) (by decide) c1
  have e2:=of_ne h0 h1 (m:=97) (by decide) c2
  have e3:=of_ne h0 h1 (m:=116) (by decide) c3
  have e4:=of_ne h0 h1 (m:=99) (by decide) c4
  have e5:=of_ne h0 h1 (m:=98) (by decide) c5
  have e6:=of_ne h0 h1 (m:=101) (by decide) c6
  have e7:=of_ne h0 h1 (m:=106) (by decide) c7
  have e8:=of_ne h0 h1 (m:=107) (by decide) c8
  have e9:=of_ne h0 h1 (m:=109) (by decide) c9
  have f1:=of_ne h0 h1 (m:=110) (by decide) d1
  have f2:=of_ne h0 h1 (m:=111) (by decide) d2
  have f3:=of_ne h0 h1 (m:=122) (by decide) d3
  generalize UInt8.ofNat n.toNat=b at *
  unfold wordOf
  rw [if_neg (by rintro (h | h | h | h);exact e1 h;exact e2 h;exact e3 h;exact e4 h),if_neg (show ¬ b=98 from e5),if_neg (show ¬ b=101 from e6),if_neg (show ¬ b=106 from e7),if_neg (show ¬ b=107 from e8),if_neg (show ¬ b=109 from e9),if_neg (show ¬ b=110 from f1),if_neg (show ¬ b=111 from f2),if_neg (show ¬ b=122 from f3)]
 rw [hw]
 refine pureV0 ok84 rfl rfl ?_;unfold c84
 (iterate 16 ((try (refine RN ?_;try with_reducible exact trivial));(try with_reducible refine fun _=>?_)))
 try rfl
theorem l14Word_c (b:UInt8):Pure Tryz.prog 84 [u8 b] (sV (wordOf b)) []:=by
 have h:=word_core b.toNat (by omega) (by have:=u8_lt b;omega)
 rwa [Int.toNat_natCast,UInt8.ofNat_toNat] at h
theorem getD_mem8 {s:List UInt8}{i:Nat}(h:i<s.length):s.getD i 0∈s:=by
 rw [List.getD_eq_getElem?_getD,List.getElem?_eq_getElem h]
 exact List.getElem_mem h
theorem take_one8 {s:List UInt8}{i:Nat}(h:i<s.length):s.take (i+1)=s.take i++[s.getD i 0]:=by
 rw [List.take_succ_eq_append_getElem h]
 simp [List.getD_eq_getElem?_getD,h]
theorem numF_app (n:Int)(a b:List UInt8):numF n (a++b)=numF (numF n a) b:=List.foldl_append
theorem wrap_u8 {n:Int}(h0:0≤n)(h1:n<256):IntKind.wrap .u8 n=n:=by
 simp only [IntKind.wrap,IntKind.signed,IntKind.bits]
 simp
 omega
theorem l01Value_c (s:List UInt8)(hs:s.length≤1099511627776):Pure Tryz.prog 108 [sV s] (i64 (valS s)) []:=by
 have h9:((s.getD 0 0).toNat:Int)=48 ↔ s.getD 0 0=48:=⟨fun h=>u8_eq (c:=48) h,fun h=>by rw [h];rfl⟩
 refine pureV0 ok108 rfl rfl ?_;unfold c108
 refine RN ?_
 refine ⟨fun hc=>?_,fun hc=>?_⟩
 ·(refine RN ?_;try with_reducible exact trivial)
  have:valS s = -1:=by
   unfold valS
   rw [if_pos]
   rcases hc with (h | h) | ⟨h,h2⟩
   ·exact .inl (by omega)
   ·exact .inr (.inl (by omega))
   ·exact .inr (.inr ⟨by omega,h9.1 h2⟩)
  rw [this]
 ·have hv : valS s = if ∀ b ∈ s, dig b then numF 0 s else -1 := by
    unfold valS
    rw [if_neg]
    rintro (h | h | ⟨h,h2⟩)
    ·omega
    ·omega
    ·have:=h9.2 h2
     omega
  refine RN ?_
  refine V_loop (α:=Nat) (S:=fun i=>([(0,sV s),(3,i64 (numF 0 (s.take i))),(4,i64 (i:Int))],[])) (C:=fun i=>i≤s.length∧∀ b∈s.take i,dig b) (μ:=fun i=>s.length - i) 0 ⟨Nat.zero_le _,by simp⟩ (Ref.to rfl (by simp [sub,fget,numF])) ?_
  rintro i ⟨h1,h2⟩
  refine RN ?_
  refine ⟨fun hi=>?_,fun hi=>?_⟩
  ·have h3:=take_one8 (s:=s) (i:=i) (by omega)
   have h4:=getD_mem8 (s:=s) (i:=i) (by omega)
   obtain ⟨b,hb⟩:∃ b,b=s.getD i 0:=⟨_,rfl⟩
   rw [← hb] at h3 h4
   have h5:=u8_lt b
   have h6:=numF_le (s.take i) 0 (Int.le_refl _) h2
   have h7:(s.take i).length≤8:=by rw [List.length_take];omega
   have h8:(10:Int)^(s.take i).length≤10^8:=by
    have:=Nat.pow_le_pow_right (n:=10) (by decide) h7
    exact_mod_cast this
   obtain ⟨v,hv2⟩:∃ v,v=numF 0 (s.take i):=⟨_,rfl⟩
   have h10:0≤v∧v<100000000:=by rw [hv2];omega
   rw [← hv2]
   (refine RN ?_;try with_reducible exact trivial)
   try simp only [← hb,go_sem,↓reduceIte,Nat.reduceEqDiff,Nat.reduceAdd,reduceCtorEq]
   refine RN ?_
   refine ⟨fun hd=>?_,fun hd=>?_⟩
   ·(refine RN ?_;try with_reducible exact trivial)
    rw [hv,if_neg fun h=>by have:=h b h4;unfold dig at this;omega]
   ·have hw:=wrap_u8 (n:=(b.toNat:Int) - 48) (by omega) (by omega)
    (refine RN ?_;try with_reducible exact trivial)
    try simp only [← hb,hw,go_sem,↓reduceIte,Nat.reduceEqDiff,Nat.reduceAdd,reduceCtorEq]
    refine RN ?_
    refine ⟨i+1,⟨by omega,fun c hc2=>?_⟩,by omega,Ref.to rfl ?_⟩
    ·rw [h3] at hc2
     rcases List.mem_append.1 hc2 with h | h
     ·exact h2 c h
     ·rw [List.mem_singleton.1 h];unfold dig;omega
    ·have:numF 0 (s.take (i+1))=v*10+((b.toNat:Int) - 48):=by rw [h3,numF_app,← hv2];rfl
     simp [sub,fget,this]
  ·(refine RN ?_;try with_reducible exact trivial)
   have:s.take i=s:=List.take_of_length_le (by omega)
   rw [this] at h2 ⊢
   rw [hv,if_pos h2]
theorem seedL_iff (b:UInt8):seedL b=true ↔ ((b.toNat:Int)=84∨(b.toNat:Int)=67∨(b.toNat:Int)=79∨(b.toNat:Int)=68∨(b.toNat:Int)=73):=by
 unfold seedL
 rw [List.contains_iff_mem]
 simp only [List.mem_cons,List.not_mem_nil,or_false]
 exact or_congr ⟨fun h=>by rw [h];rfl,fun h=>u8_eq (c:=84) h⟩ (or_congr ⟨fun h=>by rw [h];rfl,fun h=>u8_eq (c:=67) h⟩ (or_congr ⟨fun h=>by rw [h];rfl,fun h=>u8_eq (c:=79) h⟩ (or_congr ⟨fun h=>by rw [h];rfl,fun h=>u8_eq (c:=68) h⟩ ⟨fun h=>by rw [h];rfl,fun h=>u8_eq (c:=73) h⟩)))
theorem hz_iff (b:UInt8):(b=72∨b=90) ↔ ((b.toNat:Int)=72∨(b.toNat:Int)=90):=
 or_congr ⟨fun h=>by rw [h];rfl,fun h=>u8_eq (c:=72) h⟩ ⟨fun h=>by rw [h];rfl,fun h=>u8_eq (c:=90) h⟩
theorem seedOk_n (s:List UInt8):SeedOk s ↔ (s.length=1∧(((s.getD 0 0).toNat:Int)=84∨((s.getD 0 0).toNat:Int)=67∨((s.getD 0 0).toNat:Int)=79∨((s.getD 0 0).toNat:Int)=68∨((s.getD 0 0).toNat:Int)=73))∨(1≤s.length∧(((s.getD 0 0).toNat:Int)=72∨((s.getD 0 0).toNat:Int)=90)∧2≤numS s∧numS s≤30):=by
 rw [seedOk_iff,seedL_iff,hz_iff]
theorem l15IsSeed_c (s:List UInt8)(hs:s.length≤1099511627776):Pure Tryz.prog 85 [sV s] (bl (decide (SeedOk s))) []:=by
 have hok:=seedOk_n s
 have hv:=l01Value_c (s.drop 1) (by rw [List.length_drop];omega)
 have hin:=l01In_c (numS s) 2 30
 rw [show valS (s.drop 1)=numS s from rfl] at hv
 refine pureV0 ok85 rfl rfl ?_;unfold c85
 refine RN ?_
 refine ⟨fun hc=>?_,fun hc=>?_⟩
 ·(refine RN ?_;try with_reducible exact trivial)
  exact congrArg bl (Eq.symm (decide_eq_false fun h=>by rcases hok.1 h with h | h<;>omega))
 ·(refine RN ?_;try with_reducible exact trivial)
  generalize hn:((s.getD 0 0).toNat:Int)=n at hok ⊢
  by_cases c1:n=84∨n=67∨n=79∨n=68∨n=73
  ·rcases c1 with rfl | rfl | rfl | rfl | rfl<;>(iterate 16 ((try (refine RN ?_;try with_reducible exact trivial));(try with_reducible refine fun _=>?_)))<;>exact congrArg bl (decide_eq_decide.2 ⟨fun h=>hok.2 (by omega),fun h=>by rcases hok.1 h with h | h<;>omega⟩)
  ·by_cases c2:n=72∨n=90
   ·have hsd:(s.take s.length).drop 1=s.drop 1:=by rw [List.take_length]
    rcases c2 with rfl | rfl
    all_goals
     (iterate 16 ((try (refine RN ?_;try with_reducible exact trivial));(try with_reducible refine fun _=>?_)))
     try simp only [hsd,go_sem,↓reduceIte,Nat.reduceEqDiff,Nat.reduceAdd,reduceCtorEq]
     refine pureC1 (hv) ?_
     (iterate 16 ((try (refine RN ?_;try with_reducible exact trivial));(try with_reducible refine fun _=>?_)))
     refine pureC1 (hin) ?_
     (iterate 16 ((try (refine RN ?_;try with_reducible exact trivial));(try with_reducible refine fun _=>?_)))
     refine congrArg bl ?_
     rw [← Bool.decide_and]
     exact decide_eq_decide.2 ⟨fun h=>hok.2 (.inr ⟨by omega,by omega,h⟩),fun h=>by rcases hok.1 h with h | h<;>omega⟩
   ·(iterate 16 ((try (refine RN ?_;try with_reducible exact trivial));(try with_reducible refine fun _=>?_)))
    exact congrArg bl (Eq.symm (decide_eq_false fun h=>by rcases hok.1 h with h | h<;>omega))
theorem l15Seed_c (l:List UInt8)(hs:l.length≤1099511627776):Pure Tryz.prog 39 [sV l] (i64 (if NtOk l then ((ntO l).length:Int) else -1)) []:=by
 have hlen:=nt_len l
 have hse:=l15IsSeed_c (ntS l) (by have:=nt_slen l;omega)
 refine pureV0 ok39 rfl rfl ?_;unfold c39
 refine RN ?_
 refine V_loop (α:=Nat) (S:=fun i=>([(0,sV l),(3,i64 (i:Int))],[])) (C:=fun i=>i≤(ntO l).length) (μ:=fun i=>l.length - i) 0 (Nat.zero_le _) (by exact Ref.frame (by simp [sub,fget])) ?_
 intro i hi
 have hst:=nt_step l i hi
 have hwo:=l14Word_c (l.getD i 0)
 have hwe:=word_op (l.getD i 0)
 refine RN ?_
 refine GC1 (sV (wordOf (l.getD i 0)) ) (fun hg =>  hwo) ?_
 simp only [hwe,Bool.not_not,go_sem,↓reduceIte,Nat.reduceEqDiff,Nat.reduceAdd,reduceCtorEq]
 refine RN ?_
 refine ⟨fun hc=>?_,fun hc=>?_⟩
 ·have:=hst.2 ⟨by omega,hc.2⟩
  refine RN ?_
  exact ⟨i+1,by omega,by omega,Ref.to1⟩
 ·obtain rfl : i = (ntO l).length := by
    rcases Nat.lt_or_ge i (ntO l).length with h | h
    ·have h2:=hst.1 h
     rcases hc with h3 | h3
     ·omega
     ·rw [h2.2] at h3;cases h3
    ·omega
  have hdr:(l.take l.length).drop (ntO l).length=ntS l:=by rw [List.take_length,nt_drop]
  (refine RN ?_;try with_reducible exact trivial)
  try simp only [hdr,go_sem,↓reduceIte,Nat.reduceEqDiff,Nat.reduceAdd,reduceCtorEq]
  refine GC1 (bl (decide (SeedOk (ntS l))) ) (fun hg =>  hse) ?_
  refine RN ?_
  refine ⟨fun hd=>?_,fun hd=>?_⟩
  ·(refine RN ?_;try with_reducible exact trivial)
   rw [if_neg fun h:NtOk l=>by
    unfold NtOk at h
    rcases hd with h2 | h2
    ·omega
    ·exact h2 h.2]
  ·(refine RN ?_;try with_reducible exact trivial)
   have hk:NtOk l:=⟨by omega,hd.2⟩
   rw [if_pos hk]
end
section
open Go.Gov Go.Nt
open Classical
variable (tp tq:TypeId) (p q:Value)
theorem decimal_c (n:Int)(h0 : -9223372036854775808≤n)(h1:n≤9223372036854775807):PureG Tryz.prog (LV tp tq p q) 142 [i64 n] (sV (Go.Lib.itoa n)) []:=by
 have hf:=(formatInt_c n h0 h1).sub (L' := LV tp tq p q) (by simp [LV];intros;simp_all)
 refine pureGV ok142 rfl ?_;unfold c142
 refine RN ?_
 refine pureGC1 (hf) ?_
 refine RN ?_
 exact Ref.gc1 []
def rdR (s:List UInt8)(o:Int×Bool):Prop:=(o.2=true→Go.Lib.itoa o.1=s)∧(∀ v:Nat,2≤v→v≤30→s=tx v→o=((v:Int),true))
theorem readNumber_c (s:List UInt8)(hs:s.length≤1099511627776):PureGE Tryz.prog (LV tp tq p q) 82 [sV s] (rdR s) (fun o=>.tup [i64 o.1,bl o.2]) (fun _=>[]):=by
 have hp:=parseInt_c s (by omega) tp tq p q
 refine pureGEV ok82 rfl ?_;unfold c82
 refine RN ?_
 refine pureGEC1 (hp) fun o ho=>?_
 obtain ⟨⟨v,b⟩,t,k⟩:=o
 obtain ⟨⟨ho0,ho1⟩,ho⟩:=ho
 dsimp only at ho ho0 ho1
 cases b with
 | false=>
  simp only [errV,Bool.false_eq_true,go_sem,↓reduceIte,Nat.reduceEqDiff,Nat.reduceAdd,reduceCtorEq]
  refine RN ?_
  refine GCall_no (sV []) rfl ?_
  refine RN ?_
  refine ⟨(v,false),⟨fun h=>(by cases h),fun u h1 h2 h3=>?_⟩,Ref.gc1 []⟩
  subst h3
  rw [parse_ok (by omega)] at ho
  cases ho
 | true=>
  have hd:=decimal_c tp tq p q v ho0 ho1
  simp only [errV,go_sem,↓reduceIte,Nat.reduceEqDiff,Nat.reduceAdd,reduceCtorEq]
  refine RN ?_
  refine GCV1 (sV (Go.Lib.itoa v) ) (fun hg =>  hd) ?_
  refine RN ?_
  refine ⟨(v,Go.Lib.itoa v == s),⟨fun h=>eq_of_beq h,fun u h1 h2 h3=>?_⟩,Ref.gc1 []⟩
  subst h3
  rw [parse_ok (by omega)] at ho
  simp only [Prod.mk.injEq,and_true] at ho
  rw [ho,itoa_tx (by omega)]
  simp
def paR (l:List UInt8)(o:(List UInt8×List UInt8×Int)×Bool):Prop:=o.2=decide (NtOk l)∧(NtOk l→o.1=(ntO l,ntS l,if (ntS l).length=1 then 0 else numS (ntS l)))
theorem parse_c (l:List UInt8)(hs:l.length≤1099511627776):PureGE Tryz.prog (LV tp tq p q) 38 [sV l] (paR l) (fun o=>.tup [.agg [sV o.1.1,sV o.1.2.1,i64 o.1.2.2],bl o.2]) (fun _=>[]):=by
 have htl:=trimLeft_c l [97,98,99,100,101,106,107,109,110,111,116,122] (by decide) (by decide) (by decide)
 have hlen:=nt_slen l
 have hsd:l.dropWhile (([97,98,99,100,101,106,107,109,110,111,116,122]:List UInt8).contains ·)=ntS l:=rfl
 rw [hsd] at htl
 refine pureGEV ok38 rfl ?_;unfold c38
 refine RN ?_
 have hk:((l.length:Int) - ((ntS l).length:Int)).toNat=(ntO l).length:=by omega
 have hst:=seedOk_n (ntS l)
 have hok:NtOk l ↔ (ntO l).length≤12∧SeedOk (ntS l):=Iff.rfl
 refine pureC1 (htl) ?_
 refine RN ?_
 simp only [hk,nt_take,List.drop_zero,go_sem,↓reduceIte,Nat.reduceEqDiff,Nat.reduceAdd,reduceCtorEq]
 refine ⟨fun hc=>?_,fun hc=>?_⟩
 ·(refine RN ?_;try with_reducible exact trivial)
  refine ⟨(([],[],0),false),⟨(decide_eq_false fun h=>by have:=hok.1 h;omega).symm,fun h=>by have:=hok.1 h;omega⟩,Ref.gc1 []⟩
 ·have hc12:(ntO l).length≤12:=by omega
  by_cases h1:(ntS l).length=1
  ·obtain ⟨c,hS⟩:∃ c,ntS l=[c]:=List.length_eq_one_iff.1 h1
   have hcc:=contains_c [84,67,79,68,73] c
   rw [hS] at hst hok ⊢
   refine RN ?_
   refine GC1 (bl (decide (c∈([84,67,79,68,73]:List UInt8))) ) (fun hg =>  hcc) ?_
   refine RN ?_
   have hsl:seedL c=true ↔ c∈([84,67,79,68,73]:List UInt8):=List.contains_iff_mem
   refine ⟨fun hd=>?_,fun hd=>?_⟩
   ·have hyes:NtOk l:=hok.2 ⟨hc12,.inl ⟨c,rfl,hsl.2 hd.2⟩⟩
    refine RN ?_
    refine ⟨((ntO l,[c],0),true),⟨(decide_eq_true hyes).symm,fun _=>by rw [hS];rfl⟩,Ref.gc1 []⟩
   ·have hno : ¬ NtOk l := fun h => by
      rcases (hok.1 h).2 with ⟨b,h2,h3⟩ | ⟨b,r,h2,h3,h4⟩
      ·cases h2
       rcases hd with h5 | h5
       ·exact h5 rfl
       ·exact h5 (hsl.1 h3)
      ·obtain ⟨rfl,rfl⟩:=List.cons.inj h2
       have:valS [] = -1:=rfl
       omega
    refine RN ?_
    refine ⟨fun hd2=>?_,fun hd2=>?_⟩
    ·(refine RN ?_;try with_reducible exact trivial)
     refine ⟨(([],[],0),false),⟨(decide_eq_false hno).symm,fun h=>absurd h hno⟩,Ref.gc1 []⟩
    ·exfalso
     simp at hd2
  ·have hb1 : ((((ntS l).length : Int) == 1)) = false := by
     rw [beq_eq_false_iff_ne];omega
   refine RN ?_
   refine GCall_no (bl false) (by simpa using hb1) ?_
   refine RN ?_
   refine ⟨fun hd=>?_,fun hd=>?_⟩
   ·have hno : ¬ NtOk l := fun h => by
      have h2:=hst.1 (hok.1 h).2
      rcases hd with h5 | ⟨h5,h6⟩<;>rcases h2 with h2 | ⟨h2,h3,h4,h7⟩
      ·omega
      ·have : numS (ntS l) = -1 := by
         have h8:(ntS l).drop 1=[]:=List.drop_eq_nil_iff.2 (by omega)
         unfold numS
         rw [h8]
         rfl
       omega
      ·omega
      ·omega
    refine RN ?_
    refine ⟨(([],[],0),false),⟨(decide_eq_false hno).symm,fun h=>absurd h hno⟩,Ref.gc1 []⟩
   ·have hrn:=readNumber_c tp tq p q ((ntS l).drop 1) (by rw [List.length_drop];omega)
    have hsd2:((ntS l).take (ntS l).length).drop 1=(ntS l).drop 1:=by rw [List.take_length]
    (refine RN ?_;try with_reducible exact trivial)
    try simp only [hsd2,go_sem,↓reduceIte,Nat.reduceEqDiff,Nat.reduceAdd,reduceCtorEq]
    refine pureGEC1 (hrn) fun o ho=>?_
    obtain ⟨v,b⟩:=o
    obtain ⟨ho1,ho2⟩:=ho
    dsimp only at ho1 ho2
    have hnum:NtOk l→∃ u:Nat,2≤u∧u≤30∧(v,b)=((u:Int),true)∧numS (ntS l)=u:=fun h=>by
     have h2:=hst.1 (hok.1 h).2
     rcases h2 with h2 | ⟨_,_,h4,h7⟩
     ·omega
     ·obtain ⟨u,u1,u2,u3,u4⟩:=valS_some ⟨h4,h7⟩
      exact ⟨u,u1,u2,ho2 u u1 u2 u3,u4⟩
    cases b with
    | false=>
     have hno:¬ NtOk l:=fun h=>by obtain ⟨u,_,_,h3,_⟩:=hnum h;cases h3
     refine RN ?_
     refine V_altsS [(2,.ref 1 0),(3,bl false)] [some (gvs (LV tp tq p q)),some [sV (ntO l),sV (ntS l),i64 v]] ?_ ?_
     ·(repeat' first | simp only [go_sem,↓reduceIte,Nat.reduceEqDiff,Nat.reduceAdd,reduceCtorEq] | with_reducible refine LT_reg ?_ | with_reducible refine LT_regz1 ?_ | with_reducible refine LT_fin ?_ | with_reducible exact LT_tt | with_reducible refine LT_alt ?_ ?_ | (with_reducible refine And.intro ?_ ?_;focus first | assumption | omega | grind))
      all_goals
       refine GCall_no (bl false) rfl ?_
       (repeat' first | simp only [go_sem,↓reduceIte,Nat.reduceEqDiff,Nat.reduceAdd,reduceCtorEq] | with_reducible refine LT_reg ?_ | with_reducible refine LT_regz1 ?_ | with_reducible refine LT_fin ?_ | with_reducible exact LT_tt | with_reducible refine LT_alt ?_ ?_ | (with_reducible refine And.intro ?_ ?_;focus first | assumption | omega | grind))
       exact Ref.gc1 [0,1]
     ·(refine RN ?_;try with_reducible exact trivial)
      refine ⟨((ntO l,ntS l,v),false),⟨(decide_eq_false hno).symm,fun h=>absurd h hno⟩,Ref.gc1 []⟩
    | true=>
     have hyes:decide (NtOk l)=(decide (2≤v)&&decide (v≤30)):=by
      rw [← Bool.decide_and]
      refine decide_eq_decide.2 ⟨fun h=>?_,fun h=>?_⟩
      ·obtain ⟨u,u1,u2,h3,_⟩:=hnum h
       cases h3
       omega
      ·refine hok.2 ⟨hc12,hst.2 (.inr ⟨by omega,hd.2,?_⟩)⟩
       obtain ⟨u,rfl⟩:∃ u:Nat,v=u:=⟨v.toNat,by omega⟩
       have h3:=ho1 rfl
       rw [itoa_tx (by omega)] at h3
       have h4:=valS_tx u (by omega) (by omega)
       unfold numS
       rw [← h3,h4]
       omega
     refine RN ?_
     refine V_altsS [(2,.ref 1 0),(3,bl (decide (2≤v)&&decide (v≤30)))] [some (gvs (LV tp tq p q)),some [sV (ntO l),sV (ntS l),i64 v]] ?_ ?_
     ·(repeat' first | simp only [go_sem,↓reduceIte,Nat.reduceEqDiff,Nat.reduceAdd,reduceCtorEq] | with_reducible refine LT_reg ?_ | with_reducible refine LT_regz1 ?_ | with_reducible refine LT_fin ?_ | with_reducible exact LT_tt | with_reducible refine LT_alt ?_ ?_ | (with_reducible refine And.intro ?_ ?_;focus first | assumption | omega | grind))
      all_goals
       refine GC1 (bl (decide (2≤v)&&decide (v≤30)) ) (fun hg =>  within_c v 2 30) ?_
       (repeat' first | simp only [go_sem,↓reduceIte,Nat.reduceEqDiff,Nat.reduceAdd,reduceCtorEq] | with_reducible refine LT_reg ?_ | with_reducible refine LT_regz1 ?_ | with_reducible refine LT_fin ?_ | with_reducible exact LT_tt | with_reducible refine LT_alt ?_ ?_ | (with_reducible refine And.intro ?_ ?_;focus first | assumption | omega | grind))
       exact Ref.gc1 [0,1]
     ·(refine RN ?_;try with_reducible exact trivial)
      refine ⟨((ntO l,ntS l,v),decide (2≤v)&&decide (v≤30)),⟨hyes.symm,fun h=>?_⟩,Ref.gc1 []⟩
      obtain ⟨u,_,_,h3,h4⟩:=hnum h
      cases h3
      rw [if_neg h1,h4]
end
section
open Go.Gov Go.Nt
open Classical
variable (tp tq:TypeId) (p q:Value)
theorem seed_ge (l:List UInt8):(0≤(if NtOk l then ((ntO l).length:Int) else -1)) ↔ NtOk l:=by
 split
 ·rename_i h;exact ⟨fun _=>h,fun _=>by omega⟩
 ·rename_i h;exact ⟨fun h2=>by omega,fun h2=>absurd h2 h⟩
theorem specIn_c (l:List UInt8)(hs:l.length≤1099511627776):Pure Tryz.prog 13 [sV l] (bl (decide (NtOk l))) []:=by
 have h:=l15Seed_c l hs
 have hg:=seed_ge l
 generalize (if NtOk l then ((ntO l).length:Int) else -1)=n at h hg
 refine pureV0 ok13 rfl rfl ?_;unfold c13
 refine RN ?_
 refine pureC1 (h) ?_
 refine RN ?_
 exact congrArg bl (decide_eq_decide.2 hg)
theorem implIn_c (l:List UInt8)(hs:l.length≤1099511627776):PureG Tryz.prog (LV tp tq p q) 12 [sV l] (bl (decide (NtOk l))) []:=by
 have h:=parse_c tp tq p q l hs
 refine pureGV ok12 rfl ?_;unfold c12
 refine RN ?_
 refine pureGEC1 (h) fun o ho=>?_
 obtain ⟨⟨a,b,c⟩,d⟩:=o
 obtain ⟨ho1,ho2⟩:=ho
 dsimp only at ho1
 subst ho1
 refine RN ?_
 exact Ref.gc1 []
noncomputable def ntK (l:List UInt8):Int:=if NtOk l then 0 else 6
theorem seed_kind {s : List UInt8} (h : SeedOk s) : ∃ n : Int, ((s.getD 0 0).toNat : Int) = n ∧ ((s.length = 1 ∧ ((n = 84 ∧ diaL s = [3, 3]) ∨ (n = 67 ∧ diaL s = [4, 3]) ∨ (n = 79 ∧ diaL s = [3, 4]) ∨ (n = 68 ∧ diaL s = [5, 3]) ∨ (n = 73 ∧ diaL s = [3, 5]))) ∨
    (2≤s.length∧((n=72∧diaL s=[2,numS s])∨(n=90∧diaL s=[numS s,2])))):=by
 refine ⟨_,rfl,?_⟩
 obtain ⟨b,hb⟩:∃ b,b=s.getD 0 0:=⟨_,rfl⟩
 have hd:∀ c:UInt8,((b.toNat:Int)=(c.toNat:Int))→b=c:=fun c h=>u8_eq h
 rcases (seedOk_n s).1 h with ⟨h1,h2⟩ | ⟨h1,h2,h3,h4⟩
 ·rw [← hb] at h2 ⊢
  refine .inl ⟨h1,?_⟩
  unfold diaL
  rw [← hb]
  rcases h2 with h2 | h2 | h2 | h2 | h2
  ·obtain rfl:=hd 84 h2;exact .inl ⟨rfl,rfl⟩
  ·obtain rfl:=hd 67 h2;exact .inr (.inl ⟨rfl,rfl⟩)
  ·obtain rfl:=hd 79 h2;exact .inr (.inr (.inl ⟨rfl,rfl⟩))
  ·obtain rfl:=hd 68 h2;exact .inr (.inr (.inr (.inl ⟨rfl,rfl⟩)))
  ·obtain rfl:=hd 73 h2;exact .inr (.inr (.inr (.inr ⟨rfl,rfl⟩)))
 ·have h5 : 2 ≤ s.length := by
    rcases Nat.lt_or_ge s.length 2 with h6 | h6
    ·have h8:s.drop 1=[]:=List.drop_eq_nil_iff.2 (by omega)
     unfold numS at h3
     rw [h8] at h3
     have:valS [] = -1:=rfl
     omega
    ·exact h6
  rw [← hb] at h2 ⊢
  refine .inr ⟨h5,?_⟩
  unfold diaL
  rw [← hb]
  rcases h2 with h2 | h2
  ·obtain rfl:=hd 72 h2;exact .inl ⟨rfl,rfl⟩
  ·obtain rfl:=hd 90 h2;exact .inr ⟨rfl,rfl⟩
theorem l15Diagram_p (s:List UInt8)(h:SeedOk s)(hs:s.length≤1099511627776):Pure Tryz.prog 77 [sV s] (.sl 0 1 0 (diaL s).length) [some (intsC (diaL s))]:=by
 obtain ⟨n,hn,hk⟩:=seed_kind h
 have hv:=l01Value_c (s.drop 1) (by rw [List.length_drop];omega)
 rw [show valS (s.drop 1)=numS s from rfl] at hv
 have hsd:(s.take s.length).drop 1=s.drop 1:=by rw [List.take_length]
 have hpos:0<s.length:=by rcases hk with h | h<;>omega
 rcases hk with ⟨_,hk⟩ | ⟨_,hk⟩
 ·rcases hk with ⟨rfl,e⟩ | ⟨rfl,e⟩ | ⟨rfl,e⟩ | ⟨rfl,e⟩ | ⟨rfl,e⟩
  all_goals
   rw [e]
   refine pureRV ok77 rfl ?_;unfold c77
   (refine RN ?_;try with_reducible exact trivial)
   try simp only [hn,go_sem,↓reduceIte,Nat.reduceEqDiff,Nat.reduceAdd,reduceCtorEq]
   (iterate 16 ((try (refine RN ?_;try with_reducible exact trivial));(try with_reducible refine fun _=>?_)))
   exact Ref.to rfl (by simp [sub,fget,intsC])
 ·rcases hk with ⟨rfl,e⟩ | ⟨rfl,e⟩
  all_goals
   rw [e]
   refine pureRV ok77 rfl ?_;unfold c77
   (refine RN ?_;try with_reducible exact trivial)
   try simp only [hn,go_sem,↓reduceIte,Nat.reduceEqDiff,Nat.reduceAdd,reduceCtorEq]
   (iterate 16 ((try (refine RN ?_;try with_reducible exact trivial));(try with_reducible refine fun _=>?_)))
   try simp only [hsd,go_sem,↓reduceIte,Nat.reduceEqDiff,Nat.reduceAdd,reduceCtorEq]
   refine pureC1 (hv) ?_
   (iterate 16 ((try (refine RN ?_;try with_reducible exact trivial));(try with_reducible refine fun _=>?_)))
   exact Ref.to rfl (by simp [sub,fget,intsC])
theorem diagram_p (s:List UInt8)(o:List UInt8)(h:SeedOk s)(hs:s.length≤1099511627776):Pure Tryz.prog 68 [.agg [sV o,sV s,i64 (if s.length=1 then 0 else numS s)]] (.sl 0 1 0 (diaL s).length) [some (intsC (diaL s))]:=by
 obtain ⟨n,hn,hk⟩:=seed_kind h
 have hpos:0<s.length:=by rcases hk with h | h<;>omega
 rcases hk with ⟨h1,hk⟩ | ⟨h1,hk⟩
 ·rw [if_pos h1]
  rcases hk with ⟨rfl,e⟩ | ⟨rfl,e⟩ | ⟨rfl,e⟩ | ⟨rfl,e⟩ | ⟨rfl,e⟩
  all_goals
   rw [e]
   refine pureRV ok68 rfl ?_;unfold c68
   (refine RN ?_;try with_reducible exact trivial)
   try simp only [hn,go_sem,↓reduceIte,Nat.reduceEqDiff,Nat.reduceAdd,reduceCtorEq]
   (iterate 16 ((try (refine RN ?_;try with_reducible exact trivial));(try with_reducible refine fun _=>?_)))
   exact Ref.gc [1] rfl (by simp only [go_sem,↓reduceIte,Nat.reduceEqDiff,Nat.reduceAdd,reduceCtorEq];rfl) (by simp [sub,fget,go_sem,↓reduceIte,Nat.reduceEqDiff,Nat.reduceAdd,reduceCtorEq])
 ·rw [if_neg (by omega)]
  rcases hk with ⟨rfl,e⟩ | ⟨rfl,e⟩
  all_goals
   rw [e]
   refine pureRV ok68 rfl ?_;unfold c68
   (refine RN ?_;try with_reducible exact trivial)
   try simp only [hn,go_sem,↓reduceIte,Nat.reduceEqDiff,Nat.reduceAdd,reduceCtorEq]
   (iterate 16 ((try (refine RN ?_;try with_reducible exact trivial));(try with_reducible refine fun _=>?_)))
   exact Ref.gc [1] rfl (by simp only [go_sem,↓reduceIte,Nat.reduceEqDiff,Nat.reduceAdd,reduceCtorEq];rfl) (by simp [sub,fget,go_sem,↓reduceIte,Nat.reduceEqDiff,Nat.reduceAdd,reduceCtorEq])
end
end Go.Proofs.YtfcbamfkfadabaaGreatDoor
