/- Texts that belong together. -/
import Derived.Test.YtfcbamfkfadabaaGreatDoorT4
set_option maxHeartbeats 16000000
set_option linter.unusedSimpArgs false
set_option linter.unusedVariables false
set_option maxRecDepth 100000
namespace Go.Proofs.YtfcbamfkfadabaaGreatDoor
section
open Go.Gov Go.Nt
open Classical
def basL (l:List UInt8):List UInt8:=l.flatMap fun b=>(wordOf b).reverse
theorem basL_len (l:List UInt8):(basL l).length≤3*l.length:=by
 induction l with
 | nil=>simp [basL]
 | cons b l ih=>
  have:=word_len b
  simp only [basL,List.flatMap_cons,List.length_append,List.length_reverse,List.length_cons] at *
  omega
theorem basL_succ {l:List UInt8}{i:Nat}(h:i<l.length):basL (l.take (i+1))=basL (l.take i)++(wordOf (l.getD i 0)).reverse:=by
 rw [take_one8 h]
 simp [basL]
theorem max_big:1099511627776000≤maxLen:=by decide
theorem rev_step8 {w:List UInt8}{j:Nat}(h0:0<j)(h:j≤w.length):(w.drop (j - 1)).reverse=(w.drop j).reverse++(w.take j).drop (j - 1):=by
 obtain ⟨i,rfl⟩:∃ i,j=i+1:=⟨j - 1,by omega⟩
 rw [Nat.add_sub_cancel,List.drop_eq_getElem_cons (by omega),List.reverse_cons]
 congr 1
 rw [List.take_succ_eq_append_getElem (by omega),List.drop_left' (by rw [List.length_take];omega)]
theorem l15Basic_c (l:List UInt8)(n:Nat)(hn:n≤l.length)(hs:l.length≤1099511627776):Pure Tryz.prog 55 [sV l,i64 (n:Int)] (sV (basL (l.take n)++l.drop n)) []:=by
 have hmx:=max_big
 have hdr:(l.take l.length).drop n=l.drop n:=by rw [List.take_length]
 refine pureV0 ok55 rfl rfl ?_;unfold c55
 refine RN ?_
 refine V_loop (α:=Nat) (S:=fun i=>([(0,sV l),(1,i64 (n:Int)),(5,sV (basL (l.take i))),(6,i64 (i:Int))],[])) (C:=fun i=>i≤n) (μ:=fun i=>n - i) 0 (Nat.zero_le _) (Ref.to rfl (by simp [sub,fget,basL])) ?_
 intro i hi
 have hbl:=basL_len (l.take i)
 rw [List.length_take] at hbl
 have hwo:=l14Word_c (l.getD i 0)
 have hwl:=word_len (l.getD i 0)
 refine RN ?_
 refine ⟨fun hc=>?_,fun hc=>?_⟩
 ·have hst:=basL_succ (l:=l) (i:=i) (by omega)
  obtain ⟨w,hw⟩:∃ w,w=wordOf (l.getD i 0):=⟨_,rfl⟩
  obtain ⟨B,hB⟩:∃ B,B=basL (l.take i):=⟨_,rfl⟩
  rw [← hw] at hwo hwl hst
  rw [← hB] at hst hbl ⊢
  refine RN ?_
  refine pureC1 (hwo) ?_
  refine RN ?_
  refine V_loop (α:=Nat) (S:=fun j=>([(0,sV l),(1,i64 (n:Int)),(5,sV (B++(w.drop j).reverse)),(6,i64 (i:Int)),(7,sV w),(8,i64 ((j:Int) - 1))],[])) (C:=fun j=>j≤w.length) (μ:=fun j=>j) w.length (Nat.le_refl _) (Ref.to1) ?_
  intro j hj
  refine RN ?_
  refine ⟨fun hd=>?_,fun hd=>?_⟩
  ·have hr:=rev_step8 (w:=w) (j:=j) (by omega) hj
   have e1:((j:Int) - 1).toNat=j - 1:=by omega
   have e2:((j:Int) - 1+1).toNat=j:=by omega
   have hl2:((w.take j).drop (j - 1)).length≤1:=by rw [List.length_drop,List.length_take];omega
   (refine RN ?_;try with_reducible exact trivial)
   try simp only [e1,e2,go_sem,↓reduceIte,Nat.reduceEqDiff,Nat.reduceAdd,reduceCtorEq]
   refine RN ?_
   refine ⟨j - 1,by omega,by omega,Ref.to rfl ?_⟩
   have e3:((j - 1:Nat):Int) - 1=(j:Int) - 1 - 1:=by omega
   rw [hr,e3]
   simp [sub,fget]
  ·obtain rfl:j=0:=by omega
   rw [List.drop_zero,← hst]
   refine RN ?_
   exact ⟨i+1,by omega,by omega,Ref.to1⟩
 ·obtain rfl:i=n:=by omega
  (refine RN ?_;try with_reducible exact trivial)
  try simp only [hdr,go_sem,↓reduceIte,Nat.reduceEqDiff,Nat.reduceAdd,reduceCtorEq]
  (repeat  first | simp only [go_sem,↓reduceIte,Nat.reduceEqDiff,Nat.reduceAdd,reduceCtorEq] | refine RX ?_ | decide)
end
section
open Go.Gov Go.Nt
open Classical
variable (tp tq:TypeId) (p q:Value)
theorem basic_core (n:Int)(h0:0≤n)(h1:n<256):Pure Tryz.prog 87 [.val (.int .u8 n)] (sV (wordOf (UInt8.ofNat n.toNat))) []:=by
 by_cases c1:n=100
 ·subst c1
  refine pureV0 ok87 rfl rfl ?_;unfold c87
  (iterate 16 ((try (refine RN ?_;try with_reducible exact trivial));(try with_reducible refine fun _=>?_)))
  try rfl
 by_cases c2:n=97
 ·subst c2
  refine pureV0 ok87 rfl rfl ?_;unfold c87
  (iterate 16 ((try (refine RN ?_;try with_reducible exact trivial));(try with_reducible refine fun _=>?_)))
  try rfl
 by_cases c3:n=116
 ·subst c3
  refine pureV0 ok87 rfl rfl ?_;unfold c87
  (iterate 16 ((try (refine RN ?_;try with_reducible exact trivial));(try with_reducible refine fun _=>?_)))
  try rfl
 by_cases c4:n=99
 ·subst c4
  refine pureV0 ok87 rfl rfl ?_;unfold c87
  (iterate 16 ((try (refine RN ?_;try with_reducible exact trivial));(try with_reducible refine fun _=>?_)))
  try rfl
 by_cases c5:n=98
 ·subst c5
  refine pureV0 ok87 rfl rfl ?_;unfold c87
  (iterate 16 ((try (refine RN ?_;try with_reducible exact trivial));(try with_reducible refine fun _=>?_)))
  try rfl
 by_cases c6:n=101
 ·subst c6
  refine pureV0 ok87 rfl rfl ?_;unfold c87
  (iterate 16 ((try (refine RN ?_;try with_reducible exact trivial));(try with_reducible refine fun _=>?_)))
  try rfl
 by_cases c7:n=106
 ·subst c7
  refine pureV0 ok87 rfl rfl ?_;unfold c87
  (iterate 16 ((try (refine RN ?_;try with_reducible exact trivial));(try with_reducible refine fun _=>?_)))
  try rfl
 by_cases c8:n=107
 ·subst c8
  refine pureV0 ok87 rfl rfl ?_;unfold c87
  (iterate 16 ((try (refine RN ?_;try with_reducible exact trivial));(try with_reducible refine fun _=>?_)))
  try rfl
 by_cases c9:n=109
 ·subst c9
  refine pureV0 ok87 rfl rfl ?_;unfold c87
  (iterate 16 ((try (refine RN ?_;try with_reducible exact trivial));(try with_reducible refine fun _=>?_)))
  try rfl
 by_cases d1:n=110
 ·subst d1
  refine pureV0 ok87 rfl rfl ?_;unfold c87
  (iterate 16 ((try (refine RN ?_;try with_reducible exact trivial));(try with_reducible refine fun _=>?_)))
  try rfl
 by_cases d2:n=111
 ·subst d2
  refine pureV0 ok87 rfl rfl ?_;unfold c87
  (iterate 16 ((try (refine RN ?_;try with_reducible exact trivial));(try with_reducible refine fun _=>?_)))
  try rfl
 by_cases d3:n=122
 ·subst d3
  refine pureV0 ok87 rfl rfl ?_;unfold c87
  (iterate 16 ((try (refine RN ?_;try with_reducible exact trivial));(try with_reducible refine fun _=>?_)))
  try rfl
 have hw:wordOf (UInt8.ofNat n.toNat)=[]:=by
  have e1:=of_ne h0 h1 (m:=100) (by decide) c1
  have e2:=of_ne h0 h1 (m:=97) (by decide) c2
  have e3:=of_ne h0 h1 (m:=116) (by decide) c3
  have e4:=of_ne h0 h1 (m:=99) (by decide) c4
  have e5:=of_ne h0 h1 (m:=98) (by decide) c5
  have e6:=of_ne h0 h1 (m:=101) (by decide) c6
  have e7:=of_ne h0 h1 (m:=106) (by decide) c7
  have e8:=of_ne h0 h1 (m:=107) (by decide) c8
  have e9:=of_ne h0 h1 (m:=109) (by decide) c9
  have f1:=of_ne h0 h1 (m:=110) (by decide) d1
  have f2:=of_ne h0 h1 (m:=111) (by decide) d2
  have f3:=of_ne h0 h1 (m:=122) (by decide) d3
  generalize UInt8.ofNat n.toNat=b at *
  unfold wordOf
  rw [if_neg (by rintro (h | h | h | h);exact e1 h;exact e2 h;exact e3 h;exact e4 h),if_neg (show ¬ b=98 from e5),if_neg (show ¬ b=101 from e6),if_neg (show ¬ b=106 from e7),if_neg (show ¬ b=107 from e8),if_neg (show ¬ b=109 from e9),if_neg (show ¬ b=110 from f1),if_neg (show ¬ b=111 from f2),if_neg (show ¬ b=122 from f3)]
 rw [hw]
 refine pureV0 ok87 rfl rfl ?_;unfold c87
 (iterate 16 ((try (refine RN ?_;try with_reducible exact trivial));(try with_reducible refine fun _=>?_)))
 try rfl
theorem basicOf_c (b:UInt8):Pure Tryz.prog 87 [u8 b] (sV (wordOf b)) []:=by
 have h:=basic_core b.toNat (by omega) (by have:=u8_lt b;omega)
 rwa [Int.toNat_natCast,UInt8.ofNat_toNat] at h
theorem rev8_c (l:List UInt8)(h:l.length≤3):Wri Tryz.prog 88 [.sl 0 1 0 l.length] [some (l.map fun b=>u8 b)] (.tup []) [some (l.reverse.map fun b=>u8 b)]:=by
 match l,h with
 | [],_=>
  refine wriV ok88 rfl ?_;unfold c88
  refine RN ?_
  refine V_loop (α:=Unit) (S:=fun _=>([(0,.sl 0 1 0 0),(2,i64 0),(3,i64 (-1))],[some []])) (C:=fun _=>True) (μ:=fun _=>0) () trivial (Ref.to1) ?_
  intro _ _
  (iterate 16 ((try (refine RN ?_;try with_reducible exact trivial));(try with_reducible refine fun _=>?_)))
  all_goals (try rfl)
 | [a],_=>
  refine wriV ok88 rfl ?_;unfold c88
  refine RN ?_
  refine V_loop (α:=Unit) (S:=fun _=>([(0,.sl 0 1 0 1),(2,i64 0),(3,i64 0)],[some [u8 a]])) (C:=fun _=>True) (μ:=fun _=>0) () trivial (Ref.to1) ?_
  intro _ _
  (iterate 16 ((try (refine RN ?_;try with_reducible exact trivial));(try with_reducible refine fun _=>?_)))
  all_goals (try rfl)
 | [a,b],_=>
  refine wriV ok88 rfl ?_;unfold c88
  refine RN ?_
  refine V_loop (α:=Bool) (S:=fun i=>match i with
   | false=>([(0,.sl 0 1 0 2),(2,i64 0),(3,i64 1)],[some [u8 a,u8 b]])
   | true=>([(0,.sl 0 1 0 2),(2,i64 1),(3,i64 0)],[some [u8 b,u8 a]])) (C:=fun _=>True) (μ:=fun i=>if i then 0 else 1) false trivial (Ref.to1) ?_
  intro i _
  cases i with
  | false=>
   refine RN ?_
   refine ⟨fun _=>?_,fun h=>absurd h (by decide)⟩
   refine RN ?_
   refine V_altsB [(0,.sl 0 1 0 2),(2,i64 0),(3,i64 1)] [some [u8 b,u8 a]] ?_ ?_
   ·(repeat' first | simp only [go_sem,↓reduceIte,Nat.reduceEqDiff,Nat.reduceAdd,reduceCtorEq] | with_reducible refine LT_reg ?_ | with_reducible refine LT_regz1 ?_ | with_reducible refine LT_fin ?_ | with_reducible exact LT_tt | with_reducible refine LT_alt ?_ ?_ | (with_reducible refine And.intro ?_ ?_;focus first | assumption | omega | grind))
    all_goals (try simp only [go_sem,↓reduceIte,Nat.reduceEqDiff,Nat.reduceAdd,reduceCtorEq]);exact Ref.frame (by simp [sub,fget])
   ·(refine RN ?_;try with_reducible exact trivial)
    exact ⟨true,by decide,Ref.to1⟩
  | true=>
   (iterate 16 ((try (refine RN ?_;try with_reducible exact trivial));(try with_reducible refine fun _=>?_)))
   all_goals (try rfl)
 | [a,b,c],_=>
  refine wriV ok88 rfl ?_;unfold c88
  refine RN ?_
  refine V_loop (α:=Bool) (S:=fun i=>match i with
   | false=>([(0,.sl 0 1 0 3),(2,i64 0),(3,i64 2)],[some [u8 a,u8 b,u8 c]])
   | true=>([(0,.sl 0 1 0 3),(2,i64 1),(3,i64 1)],[some [u8 c,u8 b,u8 a]])) (C:=fun _=>True) (μ:=fun i=>if i then 0 else 1) false trivial (Ref.to1) ?_
  intro i _
  cases i with
  | false=>
   refine RN ?_
   refine ⟨fun _=>?_,fun h=>absurd h (by decide)⟩
   refine RN ?_
   refine V_altsB [(0,.sl 0 1 0 3),(2,i64 0),(3,i64 2)] [some [u8 c,u8 b,u8 a]] ?_ ?_
   ·(repeat' first | simp only [go_sem,↓reduceIte,Nat.reduceEqDiff,Nat.reduceAdd,reduceCtorEq] | with_reducible refine LT_reg ?_ | with_reducible refine LT_regz1 ?_ | with_reducible refine LT_fin ?_ | with_reducible exact LT_tt | with_reducible refine LT_alt ?_ ?_ | (with_reducible refine And.intro ?_ ?_;focus first | assumption | omega | grind))
    all_goals (try simp only [go_sem,↓reduceIte,Nat.reduceEqDiff,Nat.reduceAdd,reduceCtorEq]);exact Ref.frame (by simp [sub,fget])
   ·(refine RN ?_;try with_reducible exact trivial)
    exact ⟨true,by decide,Ref.to1⟩
  | true=>
   (iterate 16 ((try (refine RN ?_;try with_reducible exact trivial));(try with_reducible refine fun _=>?_)))
   all_goals (try rfl)
theorem basic_c (o s:List UInt8)(z:Int)(ho:o.length≤12):Pure Tryz.prog 41 [.agg [sV o,sV s,i64 z]] (sV (basL o)) []:=by
 have hmx:=max_big
 refine pureV0 ok41 rfl rfl ?_;unfold c41
 refine RN ?_
 refine V_loop (α:=Nat) (S:=fun i=>([(1,.ref 0 0),(3,.sl 1 1 0 (basL (o.take i)).length),(8,i64 (o.length:Int)),(9,i64 (i:Int))],[some [sV o,sV s,i64 z],some ((basL (o.take i)).map fun b=>u8 b)])) (C:=fun i=>i≤o.length) (μ:=fun i=>o.length - i) 0 (Nat.zero_le _) ((Ref.nil 3 1 rfl).trans (Ref.to (by simp [basL]) (by simp [sub,fget,basL]))) ?_
 intro i hi
 have hbl:=basL_len (o.take i)
 rw [List.length_take] at hbl
 have hwo:=basicOf_c (o.getD i 0)
 have hwl:=word_len (o.getD i 0)
 refine RN ?_
 refine ⟨fun hc=>?_,fun hc=>?_⟩
 ·have hst:=basL_succ (l:=o) (i:=i) (by omega)
  obtain ⟨w,hw⟩:∃ w,w=wordOf (o.getD i 0):=⟨_,rfl⟩
  obtain ⟨B,hB⟩:∃ B,B=basL (o.take i):=⟨_,rfl⟩
  rw [← hw] at hwo hwl hst
  rw [← hB] at hst hbl ⊢
  have hrv:=rev8_c w hwl
  have hwr:w.reverse.length=w.length:=List.length_reverse
  have htk:(w.reverse.map fun b=>u8 b).take w.length=w.reverse.map fun b=>u8 b:=List.take_of_length_le (by simp)
  refine RN ?_
  refine pureC1 (hwo) ?_
  refine RN ?_
  refine wriC1 (hrv) [2] ?_
  (refine RN ?_;try with_reducible exact trivial)
  try simp only [htk,go_sem,↓reduceIte,Nat.reduceEqDiff,Nat.reduceAdd,reduceCtorEq]
  refine ⟨one_u8 _,AppK_pl (plain_u8 _) ?_⟩
  refine RN ?_
  refine ⟨i+1,by omega,by omega,Ref.gc [0,3] rfl ?_ ?_⟩
  ·simp only [go_sem,↓reduceIte,Nat.reduceEqDiff,Nat.reduceAdd,reduceCtorEq]
   rw [hst]
   simp
  ·rw [hst]
   simp [sub,fget,go_sem,↓reduceIte,Nat.reduceEqDiff,Nat.reduceAdd,reduceCtorEq]
 ·obtain rfl:i=o.length:=by omega
  rw [List.take_length]
  have hpl:=plain_u8 (basL o)
  have hsu:=strA_u8 (basL o)
  refine RN ?_
  simp only [hsu,go_sem,↓reduceIte,Nat.reduceEqDiff,Nat.reduceAdd,reduceCtorEq]
  (refine RN ?_;try with_reducible exact trivial)
noncomputable def bnA (l:List UInt8):List UInt8:=if NtOk l then basL (ntO l)++ntS l else []
theorem implBn_c (l:List UInt8)(hs:l.length≤1048576):PureG Tryz.prog (LV tp tq p q) 15 [sV l] (.tup [sV (bnA l),i64 (ntK l)]) []:=by
 have h:=parse_c tp tq p q l (by omega)
 have hsl:=nt_slen l
 have hmx:=max_big
 refine pureGV ok15 rfl ?_;unfold c15
 refine RN ?_
 refine pureGEC1 (h) fun o ho=>?_
 obtain ⟨⟨a,b,c⟩,d⟩:=o
 obtain ⟨ho1,ho2⟩:=ho
 dsimp only at ho1 ho2
 subst ho1
 by_cases hk:NtOk l
 ·obtain ⟨rfl,rfl,rfl⟩:a=ntO l∧b=ntS l∧c=(if (ntS l).length=1 then 0 else numS (ntS l)):=by have:=ho2 hk;simpa using this
  have e1:bnA l=basL (ntO l)++ntS l:=if_pos hk
  have e2:ntK l=0:=if_pos hk
  have hbl:=basL_len (ntO l)
  have hd:=basic_c (ntO l) (ntS l) (if (ntS l).length=1 then 0 else numS (ntS l)) hk.1
  rw [decide_eq_true hk,e1,e2]
  clear ho2
  generalize (if (ntS l).length=1 then 0 else numS (ntS l))=z at hd ⊢
  refine RN ?_
  refine pureC1 (hd) ?_
  refine RN ?_
  exact Ref.gc1 []
 ·have e1:bnA l=[]:=if_neg hk
  have e2:ntK l=6:=if_neg hk
  rw [decide_eq_false hk,e1,e2]
  refine RN ?_
  exact Ref.gc1 []
end
end Go.Proofs.YtfcbamfkfadabaaGreatDoor
namespace Go.Nt
abbrev C3:=Int×Int×Int
def cstep (b:UInt8)(c:C3):C3:=if b=100 then (c.2.2,c.2.1,c.1) else if b=97 then (c.2.1,2*c.2.1,c.1+c.2.2) else if b=116 then (2*c.2.1,3*c.2.1,c.1+c.2.2) else (c.1+2*c.2.1,4*c.2.1,c.2.2+c.2.1)
def fac (b:UInt8):Nat:=if b=100 then 1 else if b=97 then 2 else if b=116 then 3 else 4
def facL (l:List UInt8):Nat:=l.foldr (fun b a=>fac b*a) 1
def Good (c:C3):Prop:=0≤c.1∧0≤c.2.2∧c.1+c.2.2≤c.2.1+2
def cnt (l:List UInt8)(c:C3):C3:=l.foldr cstep c
theorem cstep_ok (b:UInt8)(c:C3)(h:Good c)(he:0≤c.2.1):Good (cstep b c)∧(cstep b c).2.1=(fac b:Int)*c.2.1:=by
 obtain ⟨v,e,f⟩:=c
 unfold Good at h ⊢
 unfold cstep fac
 dsimp only at h he ⊢
 by_cases h1:b=100
 ·rw [if_pos h1,if_pos h1];dsimp only;omega
 rw [if_neg h1,if_neg h1]
 by_cases h2:b=97
 ·rw [if_pos h2,if_pos h2];dsimp only;omega
 rw [if_neg h2,if_neg h2]
 by_cases h3:b=116
 ·rw [if_pos h3,if_pos h3];dsimp only;omega
 ·rw [if_neg h3,if_neg h3];dsimp only;omega
theorem cnt_ok (l:List UInt8)(c:C3)(h:Good c)(he:0≤c.2.1):Good (cnt l c)∧(cnt l c).2.1=(facL l:Int)*c.2.1∧0≤(cnt l c).2.1:=by
 induction l with
 | nil=>exact ⟨h,by simp [cnt,facL],he⟩
 | cons b l ih=>
  obtain ⟨h1,h2,h3⟩:=ih
  obtain ⟨h4,h5⟩:=cstep_ok b (cnt l c) h1 h3
  have e1:cnt (b :: l) c=cstep b (cnt l c):=rfl
  have e2:facL (b :: l)=fac b*facL l:=rfl
  rw [e1,e2]
  refine ⟨h4,?_,?_⟩
  ·rw [h5,h2];push_cast;rw [Int.mul_assoc]
  ·rw [h5];exact Int.mul_nonneg (Int.natCast_nonneg _) h3
theorem fac_pos (b:UInt8):1≤fac b:=by
 unfold fac
 repeat' split
 all_goals omega
theorem facL_pos (l:List UInt8):1≤facL l:=by
 induction l with
 | nil=>exact Nat.le_refl _
 | cons b l ih=>exact Nat.mul_pos (fac_pos b) ih
theorem facL_app (a b:List UInt8):facL (a++b)=facL a*facL b:=by
 induction a with
 | nil=>simp [facL]
 | cons x a ih=>
  show fac x*facL (a++b)=fac x*facL a*facL b
  rw [ih,Nat.mul_assoc]
theorem facL_drop (l:List UInt8)(i:Nat):facL (l.drop i)≤facL l:=by
 conv=>rhs;rw [← List.take_append_drop i l,facL_app]
 exact Nat.le_mul_of_pos_left _ (facL_pos _)
theorem facL_word (b:UInt8):facL (wordOf b).reverse≤6:=by
 unfold wordOf
 split
 ·rename_i h
  rcases h with rfl | rfl | rfl | rfl<;>decide
 repeat' split
 all_goals decide
theorem facL_bas (o:List UInt8):facL (o.flatMap fun b=>(wordOf b).reverse)≤6^o.length:=by
 induction o with
 | nil=>exact Nat.le_refl _
 | cons b o ih=>
  rw [List.flatMap_cons,facL_app,List.length_cons,Nat.pow_succ,Nat.mul_comm]
  exact Nat.mul_le_mul ih (facL_word b)
def seedC (s:List UInt8):C3:=let b:=s.getD 0 0
 if b=84 then (4,6,4) else if b=67 then (8,12,6) else if b=79 then (6,12,8) else if b=68 then (20,30,12) else if b=73 then (12,30,20) else if b=72 then (2,numS s,numS s) else (numS s,numS s,2)
theorem word_mem {b x:UInt8}(h:x∈wordOf b):x=100∨x=97∨x=116∨x=99:=by
 unfold wordOf at h
 split at h
 ·rename_i hb
  rw [List.mem_singleton.1 h]
  exact hb
 repeat' split at h
 all_goals (simp only [List.mem_cons,List.not_mem_nil,or_false] at h)
 all_goals (first | (rcases h with rfl | rfl | rfl<;>decide) | (rcases h with rfl | rfl<;>decide) | exact h.elim)
end Go.Nt
namespace Go.Proofs.YtfcbamfkfadabaaGreatDoor
section
open Go.Gov Go.Nt
open Classical
variable (tp tq:TypeId) (p q:Value)
theorem bas_mem {o:List UInt8}{x:UInt8}(h:x∈basL o):x=100∨x=97∨x=116∨x=99:=by
 obtain ⟨b,_,h2⟩:=List.mem_flatMap.1 h
 exact word_mem (List.mem_reverse.1 h2)
theorem bas_op {o:List UInt8}{x:UInt8}(h:x∈basL o):opB x=true:=by
 rcases bas_mem h with rfl | rfl | rfl | rfl<;>decide
theorem seed_kindC {s : List UInt8} (h : SeedOk s) : ∃ n : Int, ((s.getD 0 0).toNat : Int) = n ∧ opB (s.getD 0 0) = false ∧ ((s.length = 1 ∧ ((n = 84 ∧ seedC s = (4, 6, 4)) ∨ (n = 67 ∧ seedC s = (8, 12, 6)) ∨ (n = 79 ∧ seedC s = (6, 12, 8)) ∨ (n = 68 ∧ seedC s = (20, 30, 12)) ∨ (n = 73 ∧ seedC s = (12, 30, 20)))) ∨
    (2≤s.length∧2≤numS s∧numS s≤30∧((n=72∧seedC s=(2,numS s,numS s))∨(n=90∧seedC s=(numS s,numS s,2))))):=by
 obtain ⟨n,hn,hk⟩:=seed_kind h
 obtain ⟨b,hb⟩:∃ b,b=s.getD 0 0:=⟨_,rfl⟩
 have hd:∀ c:UInt8,((b.toNat:Int)=(c.toNat:Int))→b=c:=fun c h=>u8_eq h
 have hC:seedC s=if b=84 then (4,6,4) else if b=67 then (8,12,6) else if b=79 then (6,12,8) else if b=68 then (20,30,12) else if b=73 then (12,30,20) else if b=72 then (2,numS s,numS s) else (numS s,numS s,2):=by
  rw [hb];rfl
 rw [← hb] at hn ⊢
 refine ⟨n,hn,?_⟩
 rcases hk with ⟨h1,hk⟩ | ⟨h1,hk⟩
 ·rcases hk with ⟨rfl,_⟩ | ⟨rfl,_⟩ | ⟨rfl,_⟩ | ⟨rfl,_⟩ | ⟨rfl,_⟩
  ·obtain rfl:=hd 84 hn;exact ⟨by decide,.inl ⟨h1,.inl ⟨rfl,hC⟩⟩⟩
  ·obtain rfl:=hd 67 hn;exact ⟨by decide,.inl ⟨h1,.inr (.inl ⟨rfl,hC⟩)⟩⟩
  ·obtain rfl:=hd 79 hn;exact ⟨by decide,.inl ⟨h1,.inr (.inr (.inl ⟨rfl,hC⟩))⟩⟩
  ·obtain rfl:=hd 68 hn;exact ⟨by decide,.inl ⟨h1,.inr (.inr (.inr (.inl ⟨rfl,hC⟩)))⟩⟩
  ·obtain rfl:=hd 73 hn;exact ⟨by decide,.inl ⟨h1,.inr (.inr (.inr (.inr ⟨rfl,hC⟩)))⟩⟩
 ·have hr : 2 ≤ numS s ∧ numS s ≤ 30 := by
    rcases (seedOk_n s).1 h with h2 | h2
    ·omega
    ·exact h2.2.2
  rcases hk with ⟨rfl,_⟩ | ⟨rfl,_⟩
  ·obtain rfl:=hd 72 hn;exact ⟨by decide,.inr ⟨h1,hr.1,hr.2,.inl ⟨rfl,hC⟩⟩⟩
  ·obtain rfl:=hd 90 hn;exact ⟨by decide,.inr ⟨h1,hr.1,hr.2,.inr ⟨rfl,hC⟩⟩⟩
theorem seedC_good {s:List UInt8}(h:SeedOk s):Go.Nt.Good (seedC s)∧0≤(seedC s).2.1∧(seedC s).2.1≤30:=by
 obtain ⟨n,_,_,hk⟩:=seed_kindC h
 unfold Go.Nt.Good
 rcases hk with ⟨_,hk⟩ | ⟨_,h1,h2,hk⟩
 ·rcases hk with ⟨_,e⟩ | ⟨_,e⟩ | ⟨_,e⟩ | ⟨_,e⟩ | ⟨_,e⟩<;>rw [e]<;>decide
 ·rcases hk with ⟨_,e⟩ | ⟨_,e⟩<;>rw [e]<;>dsimp only<;>omega
theorem nt_bas (o s:List UInt8)(h:SeedOk s):ntO (basL o++s)=basL o∧ntS (basL o++s)=s:=by
 obtain ⟨n,_,hop,hk⟩:=seed_kindC h
 have hpos:0<s.length:=by rcases hk with h | h<;>omega
 cases s with
 | nil=>simp at hpos
 | cons b r=>
  have hb:opB b=false:=by simpa using hop
  constructor
  ·unfold ntO
   rw [List.takeWhile_append_of_pos fun x hx=>bas_op hx,List.takeWhile_cons_of_neg (by simp [hb]),List.append_nil]
  ·unfold ntS
   rw [List.dropWhile_append_of_pos fun x hx=>bas_op hx,List.dropWhile_cons_of_neg (by simp [hb])]
theorem cnt_b (o s:List UInt8)(ho:o.length≤12)(h:SeedOk s)(j:Nat):Go.Nt.Good (cnt ((basL o).drop j) (seedC s))∧0≤(cnt ((basL o).drop j) (seedC s)).2.1∧(cnt ((basL o).drop j) (seedC s)).2.1≤65303470080:=by
 obtain ⟨h1,h2,h3⟩:=seedC_good h
 obtain ⟨h4,h5,h6⟩:=cnt_ok ((basL o).drop j) (seedC s) h1 h2
 refine ⟨h4,h6,?_⟩
 have e12:(6:Nat)^12=2176782336:=by decide
 have h7:facL ((basL o).drop j)≤6^12:=Nat.le_trans (facL_drop _ _) (Nat.le_trans (facL_bas o) (Nat.pow_le_pow_right (by decide) ho))
 rw [e12] at h7
 have h8:(facL ((basL o).drop j):Int)≤2176782336:=by omega
 rw [h5]
 have h9:=Int.mul_le_mul h8 h3 h2 (by decide)
 omega
theorem cnt_step (l:List UInt8)(c:C3){j:Nat}(h0:0<j)(h:j≤l.length):cnt (l.drop (j - 1)) c=cstep (l.getD (j - 1) 0) (cnt (l.drop j) c):=by
 obtain ⟨i,rfl⟩:∃ i,j=i+1:=⟨j - 1,by omega⟩
 rw [Nat.add_sub_cancel,List.drop_eq_getElem_cons (by omega)]
 show cstep l[i] _=_
 congr 1
 simp [List.getD_eq_getElem?_getD,show i<l.length by omega]
theorem seedCounts_p (o s:List UInt8)(h:SeedOk s):Pure Tryz.prog 86 [.agg [sV o,sV s,i64 (if s.length=1 then 0 else numS s)]] (.sl 0 1 0 3) [some [i64 (seedC s).1,i64 (seedC s).2.1,i64 (seedC s).2.2]]:=by
 obtain ⟨n,hn,_,hk⟩:=seed_kindC h
 have hpos:0<s.length:=by rcases hk with h | h<;>omega
 rcases hk with ⟨h1,hk⟩ | ⟨h1,h2,h3,hk⟩
 ·rw [if_pos h1]
  rcases hk with ⟨rfl,e⟩ | ⟨rfl,e⟩ | ⟨rfl,e⟩ | ⟨rfl,e⟩ | ⟨rfl,e⟩
  all_goals
   rw [e]
   refine pureRV ok86 rfl ?_;unfold c86
   (refine RN ?_;try with_reducible exact trivial)
   try simp only [hn,go_sem,↓reduceIte,Nat.reduceEqDiff,Nat.reduceAdd,reduceCtorEq]
   (iterate 16 ((try (refine RN ?_;try with_reducible exact trivial));(try with_reducible refine fun _=>?_)))
   exact Ref.gc [1] rfl (by simp only [go_sem,↓reduceIte,Nat.reduceEqDiff,Nat.reduceAdd,reduceCtorEq];try rfl) (by simp [sub,fget,go_sem,↓reduceIte,Nat.reduceEqDiff,Nat.reduceAdd,reduceCtorEq])
 ·rw [if_neg (by omega)]
  rcases hk with ⟨rfl,e⟩ | ⟨rfl,e⟩
  all_goals
   rw [e]
   refine pureRV ok86 rfl ?_;unfold c86
   (refine RN ?_;try with_reducible exact trivial)
   try simp only [hn,go_sem,↓reduceIte,Nat.reduceEqDiff,Nat.reduceAdd,reduceCtorEq]
   (iterate 16 ((try (refine RN ?_;try with_reducible exact trivial));(try with_reducible refine fun _=>?_)))
   exact Ref.gc [1] rfl (by simp only [go_sem,↓reduceIte,Nat.reduceEqDiff,Nat.reduceAdd,reduceCtorEq];try rfl) (by simp [sub,fget,go_sem,↓reduceIte,Nat.reduceEqDiff,Nat.reduceAdd,reduceCtorEq])
theorem lets (o:List UInt8){j:Nat}(h0:0<j)(h:j≤(basL o).length):∃ n:Int,(((basL o).getD (j - 1) 0).toNat:Int)=n∧∀ c:C3,((n=100∧cstep ((basL o).getD (j - 1) 0) c=(c.2.2,c.2.1,c.1))∨(n=97∧cstep ((basL o).getD (j - 1) 0) c=(c.2.1,2*c.2.1,c.1+c.2.2))∨(n=116∧cstep ((basL o).getD (j - 1) 0) c=(2*c.2.1,3*c.2.1,c.1+c.2.2))∨(n=99∧cstep ((basL o).getD (j - 1) 0) c=(c.1+2*c.2.1,4*c.2.1,c.2.2+c.2.1))):=by
 have hm:=bas_mem (getD_mem8 (s:=basL o) (i:=j - 1) (by omega))
 generalize (basL o).getD (j - 1) 0=b at hm ⊢
 refine ⟨_,rfl,fun c=>?_⟩
 rcases hm with rfl | rfl | rfl | rfl
 ·exact .inl ⟨rfl,rfl⟩
 ·exact .inr (.inl ⟨rfl,rfl⟩)
 ·exact .inr (.inr (.inl ⟨rfl,rfl⟩))
 ·exact .inr (.inr (.inr ⟨rfl,rfl⟩))
theorem counts_p (o s:List UInt8)(ho:o.length≤12)(h:SeedOk s):Pure Tryz.prog 40 [.agg [sV o,sV s,i64 (if s.length=1 then 0 else numS s)]] (.sl 0 1 0 3) [some [i64 (cnt (basL o) (seedC s)).1,i64 (cnt (basL o) (seedC s)).2.1,i64 (cnt (basL o) (seedC s)).2.2]]:=by
 have hsc:=seedCounts_p o s h
 have hbc:=basic_c o s (if s.length=1 then 0 else numS s) ho
 have hbl:=basL_len o
 have hcb:=cnt_b o s ho h
 have hlet:=fun j=>lets o (j:=j)
 have hcs:=fun j=>cnt_step (basL o) (seedC s) (j:=j)
 obtain ⟨z,hz⟩:∃ z,z=(if s.length=1 then 0 else numS s):=⟨_,rfl⟩
 rw [← hz] at hsc hbc ⊢
 obtain ⟨B,hB⟩:∃ B,B=basL o:=⟨_,rfl⟩
 rw [← hB] at hbc hbl hcb hlet hcs ⊢
 have hd0:cnt (B.drop B.length) (seedC s)=seedC s:=by rw [List.drop_length];rfl
 refine pureRV ok40 rfl ?_;unfold c40
 refine RN ?_
 refine pureC1 (hsc) ?_
 refine RN ?_
 refine pureC1 (hbc) ?_
 refine RN ?_
 refine V_loop (α:=Nat) (S:=fun j=>([(3,.sl 0 1 0 3),(4,sV B),(5,i64 ((j:Int) - 1))],[some [i64 (cnt (B.drop j) (seedC s)).1,i64 (cnt (B.drop j) (seedC s)).2.1,i64 (cnt (B.drop j) (seedC s)).2.2]])) (C:=fun j=>j≤B.length) (μ:=fun j=>j) B.length (Nat.le_refl _) ?_ ?_
 ·rw [hd0]
  exact Ref.gc1 [1]
 intro j hj
 refine RN ?_
 refine ⟨fun hc=>?_,fun hc=>?_⟩
 ·obtain ⟨n,hn,hl⟩:=hlet j (by omega) hj
  have hst:=hcs j (by omega) hj
  obtain ⟨hb1,hb2,hb3⟩:=hcb j
  have hl2:=hl (cnt (B.drop j) (seedC s))
  unfold Go.Nt.Good at hb1
  obtain ⟨c,hc2⟩:∃ c,c=cnt (B.drop j) (seedC s):=⟨_,rfl⟩
  rw [← hc2] at hst hb1 hb2 hb3 hl2 ⊢
  obtain ⟨v,e,f⟩:=c
  dsimp only at hst hb1 hb2 hb3 hl2 ⊢
  have e1:((j:Int) - 1).toNat=j - 1:=by omega
  have e3:((j - 1:Nat):Int) - 1=(j:Int) - 1 - 1:=by omega
  clear hlet hcs hcb hl hc2
  (refine RN ?_;try with_reducible exact trivial)
  try simp only [e1,hn,go_sem,↓reduceIte,Nat.reduceEqDiff,Nat.reduceAdd,reduceCtorEq]
  rcases hl2 with ⟨rfl,e2⟩ | ⟨rfl,e2⟩ | ⟨rfl,e2⟩ | ⟨rfl,e2⟩
  all_goals
   (iterate 16 ((try (refine RN ?_;try with_reducible exact trivial));(try with_reducible refine fun _=>?_)))
   refine ⟨j - 1,by omega,by omega,?_⟩
   rw [hst,e2,e3]
   exact Ref.gc1 [1]
 ·obtain rfl:j=0:=by omega
  rw [List.drop_zero]
  refine RN ?_
  exact Ref.to1
end
section
open Go.Gov Go.Nt
open Classical
variable (tp tq:TypeId) (p q:Value)
theorem getD_app1 {a b:List UInt8}{i:Nat}(h:i<a.length):(a++b).getD i 0=a.getD i 0:=by
 rw [List.getD_eq_getElem?_getD,List.getElem?_append_left h,← List.getD_eq_getElem?_getD]
theorem getD_app2 {a b:List UInt8}:(a++b).getD a.length 0=b.getD 0 0:=by
 rw [List.getD_eq_getElem?_getD,List.getElem?_append_right (Nat.le_refl _),Nat.sub_self,← List.getD_eq_getElem?_getD]
theorem l15Counts_p (o s:List UInt8)(ho:o.length≤12)(h:SeedOk s)(hs:s.length≤1048576):Pure Tryz.prog 54 [sV (basL o++s)] (.sl 0 1 0 3) [some [i64 (cnt (basL o) (seedC s)).1,i64 (cnt (basL o) (seedC s)).2.1,i64 (cnt (basL o) (seedC s)).2.2]]:=by
 obtain ⟨n,hn,hop,hk⟩:=seed_kindC h
 have hpos:0<s.length:=by rcases hk with h | h<;>omega
 have hv:=l01Value_c (s.drop 1) (by rw [List.length_drop];omega)
 rw [show valS (s.drop 1)=numS s from rfl] at hv
 have hbl:=basL_len o
 have hcb:=cnt_b o s ho h
 have hlet:=fun j=>lets o (j:=j)
 have hcs:=fun j=>cnt_step (basL o) (seedC s) (j:=j)
 obtain ⟨hnO,hnS⟩:=nt_bas o s h
 have hT1:=fun i=>getD_app1 (a:=basL o) (b:=s) (i:=i)
 have hT2:=getD_app2 (a:=basL o) (b:=s)
 have hTl:(basL o++s).length=(basL o).length+s.length:=List.length_append
 have hTd:((basL o++s).take (basL o++s).length).drop ((basL o).length+1)=s.drop 1:=by
  rw [List.take_length,← List.drop_drop,List.drop_left']
  rfl
 obtain ⟨T,hT⟩:∃ T,T=basL o++s:=⟨_,rfl⟩
 rw [← hT] at hnO hnS hT2 hTl hTd ⊢
 simp only [← hT] at hT1
 obtain ⟨B,hB⟩:∃ B,B=basL o:=⟨_,rfl⟩
 rw [← hB] at hbl hcb hlet hcs hnO hT1 hT2 hTl hTd ⊢
 have hd0:cnt (B.drop B.length) (seedC s)=seedC s:=by rw [List.drop_length];rfl
 have hstep:=nt_step T
 rw [hnO] at hstep
 rw [← hT2] at hn hop
 refine pureRV ok54 rfl ?_;unfold c54
 refine RN ?_
 refine V_loop (α:=Nat) (S:=fun i=>([(0,sV T),(3,i64 (i:Int))],[])) (C:=fun i=>i≤B.length) (μ:=fun i=>B.length - i) 0 (Nat.zero_le _) (by exact Ref.frame (by simp [sub,fget])) ?_
 intro i hi
 have hst:=hstep i hi
 have hwo:=l14Word_c (T.getD i 0)
 have hwe:=word_op (T.getD i 0)
 refine RN ?_
 refine pureC1 (hwo) ?_
 simp only [hwe,Bool.not_not,go_sem,↓reduceIte,Nat.reduceEqDiff,Nat.reduceAdd,reduceCtorEq]
 refine RN ?_
 refine ⟨fun hc=>?_,fun hc=>?_⟩
 ·have:=hst.2 ⟨by omega,hc⟩
  refine RN ?_
  exact ⟨i+1,by omega,by omega,Ref.to1⟩
 ·obtain rfl : i = B.length := by
    rcases Nat.lt_or_ge i B.length with h5 | h5
    ·have h6:=(hst.1 h5).2
     rw [hc] at h6
     cases h6
    ·omega
  clear hst hwo hwe hstep hc hi
  have e0:((B.length:Int)+1).toNat=B.length+1:=by omega
  (refine RN ?_;try with_reducible exact trivial)
  try simp only [hn,go_sem,↓reduceIte,Nat.reduceEqDiff,Nat.reduceAdd,reduceCtorEq]
  rcases hk with ⟨_,hk⟩ | ⟨_,h2,h3,hk⟩
  ·rcases hk with ⟨rfl,e⟩ | ⟨rfl,e⟩ | ⟨rfl,e⟩ | ⟨rfl,e⟩ | ⟨rfl,e⟩
   all_goals
    (iterate 16 ((try (refine RN ?_;try with_reducible exact trivial));(try with_reducible refine fun _=>?_)))
    refine V_loop (α:=Nat) (S:=fun j=>([(0,sV T),(4,i64 (cnt (B.drop j) (seedC s)).1),(5,i64 (cnt (B.drop j) (seedC s)).2.1),(6,i64 (cnt (B.drop j) (seedC s)).2.2),(8,i64 ((j:Int) - 1))],[])) (C:=fun j=>j≤B.length) (μ:=fun j=>j) B.length (Nat.le_refl _) (Ref.to rfl (by rw [hd0,e];simp [sub,fget])) ?_
    intro j hj
    refine RN ?_
    refine ⟨fun hc=>?_,fun hc=>?_⟩
    ·obtain ⟨m,hm,hl⟩:=hlet j (by omega) hj
     have hst:=hcs j (by omega) hj
     obtain ⟨hb1,hb2,hb3⟩:=hcb j
     have hl2:=hl (cnt (B.drop j) (seedC s))
     have hTj:=hT1 (j - 1) (by omega)
     unfold Go.Nt.Good at hb1
     obtain ⟨c,hc2⟩:∃ c,c=cnt (B.drop j) (seedC s):=⟨_,rfl⟩
     rw [← hc2] at hst hb1 hb2 hb3 hl2 ⊢
     obtain ⟨v,e', f⟩:=c
     dsimp only at hst hb1 hb2 hb3 hl2 ⊢
     rw [← hTj] at hm
     have e1:((j:Int) - 1).toNat=j - 1:=by omega
     have e3:((j - 1:Nat):Int) - 1=(j:Int) - 1 - 1:=by omega
     clear hlet hcs hcb hl hc2 hT1
     (refine RN ?_;try with_reducible exact trivial)
     try simp only [e1,hm,go_sem,↓reduceIte,Nat.reduceEqDiff,Nat.reduceAdd,reduceCtorEq]
     rcases hl2 with ⟨rfl,e2⟩ | ⟨rfl,e2⟩ | ⟨rfl,e2⟩ | ⟨rfl,e2⟩
     all_goals
      (iterate 16 ((try (refine RN ?_;try with_reducible exact trivial));(try with_reducible refine fun _=>?_)))
      refine ⟨j - 1,by omega,by omega,?_⟩
      rw [hst,e2,e3]
      exact Ref.to1
    ·obtain rfl:j=0:=by omega
     rw [List.drop_zero]
     refine RN ?_
     exact Ref.to1
  ·rcases hk with ⟨rfl,e⟩ | ⟨rfl,e⟩
   all_goals
    (iterate 16 ((try (refine RN ?_;try with_reducible exact trivial));(try with_reducible refine fun _=>?_)))
    try simp only [e0,hTd,go_sem,↓reduceIte,Nat.reduceEqDiff,Nat.reduceAdd,reduceCtorEq]
    refine pureC1 (hv) ?_
    (iterate 16 ((try (refine RN ?_;try with_reducible exact trivial));(try with_reducible refine fun _=>?_)))
    try simp only [hn,go_sem,↓reduceIte,Nat.reduceEqDiff,Nat.reduceAdd,reduceCtorEq]
    (iterate 16 ((try (refine RN ?_;try with_reducible exact trivial));(try with_reducible refine fun _=>?_)))
    refine V_loop (α:=Nat) (S:=fun j=>([(0,sV T),(4,i64 (cnt (B.drop j) (seedC s)).1),(5,i64 (cnt (B.drop j) (seedC s)).2.1),(6,i64 (cnt (B.drop j) (seedC s)).2.2),(8,i64 ((j:Int) - 1))],[])) (C:=fun j=>j≤B.length) (μ:=fun j=>j) B.length (Nat.le_refl _) (Ref.to rfl (by rw [hd0,e];simp [sub,fget])) ?_
    intro j hj
    refine RN ?_
    refine ⟨fun hc=>?_,fun hc=>?_⟩
    ·obtain ⟨m,hm,hl⟩:=hlet j (by omega) hj
     have hst:=hcs j (by omega) hj
     obtain ⟨hb1,hb2,hb3⟩:=hcb j
     have hl2:=hl (cnt (B.drop j) (seedC s))
     have hTj:=hT1 (j - 1) (by omega)
     unfold Go.Nt.Good at hb1
     obtain ⟨c,hc2⟩:∃ c,c=cnt (B.drop j) (seedC s):=⟨_,rfl⟩
     rw [← hc2] at hst hb1 hb2 hb3 hl2 ⊢
     obtain ⟨v,e', f⟩:=c
     dsimp only at hst hb1 hb2 hb3 hl2 ⊢
     rw [← hTj] at hm
     have e1:((j:Int) - 1).toNat=j - 1:=by omega
     have e3:((j - 1:Nat):Int) - 1=(j:Int) - 1 - 1:=by omega
     clear hlet hcs hcb hl hc2 hT1
     (refine RN ?_;try with_reducible exact trivial)
     try simp only [e1,hm,go_sem,↓reduceIte,Nat.reduceEqDiff,Nat.reduceAdd,reduceCtorEq]
     rcases hl2 with ⟨rfl,e2⟩ | ⟨rfl,e2⟩ | ⟨rfl,e2⟩ | ⟨rfl,e2⟩
     all_goals
      (iterate 16 ((try (refine RN ?_;try with_reducible exact trivial));(try with_reducible refine fun _=>?_)))
      refine ⟨j - 1,by omega,by omega,?_⟩
      rw [hst,e2,e3]
      exact Ref.to1
    ·obtain rfl:j=0:=by omega
     rw [List.drop_zero]
     refine RN ?_
     exact Ref.to1
noncomputable def ctA (l:List UInt8):List Int:=if NtOk l then [(cnt (basL (ntO l)) (seedC (ntS l))).1,(cnt (basL (ntO l)) (seedC (ntS l))).2.1,(cnt (basL (ntO l)) (seedC (ntS l))).2.2] else []
theorem implCt_c (l:List UInt8)(hs:l.length≤1048576):PureG Tryz.prog (LV tp tq p q) 14 [sV l] (.tup [.sl 0 1 0 (ctA l).length,i64 (ntK l)]) [some (intsC (ctA l))]:=by
 have h:=parse_c tp tq p q l (by omega)
 have hsl:=nt_slen l
 by_cases hk:NtOk l
 ·have e1:ctA l=[(cnt (basL (ntO l)) (seedC (ntS l))).1,(cnt (basL (ntO l)) (seedC (ntS l))).2.1,(cnt (basL (ntO l)) (seedC (ntS l))).2.2]:=if_pos hk
  have e2:ntK l=0:=if_pos hk
  have hd:=counts_p (ntO l) (ntS l) hk.1 hk.2
  rw [e1,e2]
  refine pureGV ok14 rfl ?_;unfold c14
  refine RN ?_
  refine pureGEC1 (h) fun o ho=>?_
  obtain ⟨⟨a,b,c⟩,d⟩:=o
  obtain ⟨ho1,ho2⟩:=ho
  dsimp only at ho1 ho2
  subst ho1
  obtain ⟨rfl,rfl,rfl⟩:a=ntO l∧b=ntS l∧c=(if (ntS l).length=1 then 0 else numS (ntS l)):=by have:=ho2 hk;simpa using this
  rw [decide_eq_true hk]
  clear ho2 h
  generalize (if (ntS l).length=1 then 0 else numS (ntS l))=z at hd ⊢
  generalize cnt (basL (ntO l)) (seedC (ntS l))=c at hd ⊢
  refine RN ?_
  refine pureC1 (hd) ?_
  refine RN ?_
  exact Ref.gc [2] rfl (by simp only [go_sem,↓reduceIte,Nat.reduceEqDiff,Nat.reduceAdd,reduceCtorEq];rfl) (by simp [sub,fget,go_sem,↓reduceIte,Nat.reduceEqDiff,Nat.reduceAdd,reduceCtorEq])
 ·have e1:ctA l=[]:=if_neg hk
  have e2:ntK l=6:=if_neg hk
  rw [e1,e2]
  refine pureG_nil 1 ?_
  refine pureGV ok14 rfl ?_;unfold c14
  refine RN ?_
  refine pureGEC1 (h) fun o ho=>?_
  obtain ⟨⟨a,b,c⟩,d⟩:=o
  obtain ⟨ho1,ho2⟩:=ho
  dsimp only at ho1 ho2
  subst ho1
  rw [decide_eq_false hk]
  refine RN ?_
  exact Ref.gc1 []
end
end Go.Proofs.YtfcbamfkfadabaaGreatDoor
