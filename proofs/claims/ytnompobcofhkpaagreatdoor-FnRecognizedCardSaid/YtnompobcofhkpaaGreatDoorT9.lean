/- Texts that belong together. -/
import Derived.Test.YtnompobcofhkpaaGreatDoorT4
set_option maxHeartbeats 16000000
set_option linter.unusedSimpArgs false
set_option linter.unusedVariables false
set_option maxRecDepth 100000
namespace Go.Proofs.YtnompobcofhkpaaGreatDoor
section
open Go.Gov Go.Nt
open Classical
def Aq (l:List UInt8):List UInt8:=l.flatMap fun b=>(C8 b).reverse
theorem Qc (l:List UInt8):(Aq l).length≤3*l.length:=by
 induction l with
 | nil=>simp [Aq]
 | cons b l ih=>
  have:=Xq b
  simp only [Aq,List.flatMap_cons,List.length_append,List.length_reverse,List.length_cons] at *
  omega
theorem Yb {l:List UInt8}{i:Nat}(h:i<l.length):Aq (l.take (i+1))=Aq (l.take i)++(C8 (l.getD i 0)).reverse:=by
 rw [oE h]
 simp [Aq]
theorem jA:1099511627776000≤maxLen:=by decide
theorem Aiq {w:List UInt8}{j:Nat}(h0:0<j)(h:j≤w.length):(w.drop (j - 1)).reverse=(w.drop j).reverse++(w.take j).drop (j - 1):=by
 obtain ⟨i,rfl⟩:∃ i,j=i+1:=⟨j - 1,by omega⟩
 rw [Nat.add_sub_cancel,List.drop_eq_getElem_cons (by omega),List.reverse_cons]
 congr 1
 rw [List.take_succ_eq_append_getElem (by omega),List.drop_left' (by rw [List.length_take];omega)]
theorem gY (l:List UInt8)(n:Nat)(hn:n≤l.length)(hs:l.length≤1099511627776):Pure Tryz.prog 27 [sV l,i64 (n:Int)] (sV (Aq (l.take n)++l.drop n)) []:=by
 have hmx:=jA
 have hdr:(l.take l.length).drop n=l.drop n:=by rw [List.take_length]
 refine Ao Ado rfl rfl ?_;unfold Z4
 refine RN ?_
 refine Ah (α:=Nat) (S:=fun i=>([(0,sV l),(1,i64 (n:Int)),(5,sV (Aq (l.take i))),(6,i64 (i:Int))],[])) (C:=fun i=>i≤n) (μ:=fun i=>n - i) 0 (Nat.zero_le _) (Ref.to rfl (by simp [sub,Ab,Aq])) ?_
 intro i hi
 have hbl:=Qc (l.take i)
 rw [List.length_take] at hbl
 have hwo:=Rx (l.getD i 0)
 have hwl:=Xq (l.getD i 0)
 refine RN ?_
 refine ⟨fun hc=>?_,fun hc=>?_⟩
 ·have hst:=Yb (l:=l) (i:=i) (by omega)
  obtain ⟨w,hw⟩:∃ w,w=C8 (l.getD i 0):=⟨_,rfl⟩
  obtain ⟨B,hB⟩:∃ B,B=Aq (l.take i):=⟨_,rfl⟩
  rw [← hw] at hwo hwl hst
  rw [← hB] at hst hbl ⊢
  refine RN ?_
  refine Ag (hwo) ?_
  refine RN ?_
  refine Ah (α:=Nat) (S:=fun j=>([(0,sV l),(1,i64 (n:Int)),(5,sV (B++(w.drop j).reverse)),(6,i64 (i:Int)),(7,sV w),(8,i64 ((j:Int) - 1))],[])) (C:=fun j=>j≤w.length) (μ:=fun j=>j) w.length (Nat.le_refl _) (Ref.to1) ?_
  intro j hj
  refine RN ?_
  refine ⟨fun hd=>?_,fun hd=>?_⟩
  ·have hr:=Aiq (w:=w) (j:=j) (by omega) hj
   have e1:((j:Int) - 1).toNat=j - 1:=by omega
   have e2:((j:Int) - 1+1).toNat=j:=by omega
   have hl2:((w.take j).drop (j - 1)).length≤1:=by rw [List.length_drop,List.length_take];omega
   (refine RN ?_;try with_reducible exact trivial)
   try simp only [e1,e2,go_sem,↓reduceIte,Nat.reduceEqDiff,Nat.reduceAdd,reduceCtorEq]
   refine RN ?_
   refine ⟨j - 1,by omega,by omega,Ref.to rfl ?_⟩
   have e3:((j - 1:Nat):Int) - 1=(j:Int) - 1 - 1:=by omega
   rw [hr,e3]
   simp [sub,Ab]
  ·obtain rfl:j=0:=by omega
   rw [List.drop_zero,← hst]
   refine RN ?_
   exact ⟨i+1,by omega,by omega,Ref.to1⟩
 ·obtain rfl:i=n:=by omega
  (refine RN ?_;try with_reducible exact trivial)
  try simp only [hdr,go_sem,↓reduceIte,Nat.reduceEqDiff,Nat.reduceAdd,reduceCtorEq]
  (repeat  first | simp only [go_sem,↓reduceIte,Nat.reduceEqDiff,Nat.reduceAdd,reduceCtorEq] | refine RX ?_ | decide)
end
section
open Go.Gov Go.Nt
open Classical
variable (tp tq:TypeId) (p q:Value)
theorem rH (n:Int)(h0:0≤n)(h1:n<256):Pure Tryz.prog 102 [.val (.int .u8 n)] (sV (C8 (UInt8.ofNat n.toNat))) []:=by
 by_cases c1:n=100
 ·subst c1
  refine Ao F8 rfl rfl ?_;unfold Fe
  (iterate 16 ((try (refine RN ?_;try with_reducible exact trivial));(try with_reducible refine fun _=>?_)))
  try rfl
 by_cases c2:n=97
 ·subst c2
  refine Ao F8 rfl rfl ?_;unfold Fe
  (iterate 16 ((try (refine RN ?_;try with_reducible exact trivial));(try with_reducible refine fun _=>?_)))
  try rfl
 by_cases c3:n=116
 ·subst c3
  refine Ao F8 rfl rfl ?_;unfold Fe
  (iterate 16 ((try (refine RN ?_;try with_reducible exact trivial));(try with_reducible refine fun _=>?_)))
  try rfl
 by_cases c4:n=99
 ·subst c4
  refine Ao F8 rfl rfl ?_;unfold Fe
  (iterate 16 ((try (refine RN ?_;try with_reducible exact trivial));(try with_reducible refine fun _=>?_)))
  try rfl
 by_cases c5:n=98
 ·subst c5
  refine Ao F8 rfl rfl ?_;unfold Fe
  (iterate 16 ((try (refine RN ?_;try with_reducible exact trivial));(try with_reducible refine fun _=>?_)))
  try rfl
 by_cases c6:n=101
 ·subst c6
  refine Ao F8 rfl rfl ?_;unfold Fe
  (iterate 16 ((try (refine RN ?_;try with_reducible exact trivial));(try with_reducible refine fun _=>?_)))
  try rfl
 by_cases c7:n=106
 ·subst c7
  refine Ao F8 rfl rfl ?_;unfold Fe
  (iterate 16 ((try (refine RN ?_;try with_reducible exact trivial));(try with_reducible refine fun _=>?_)))
  try rfl
 by_cases c8:n=107
 ·subst c8
  refine Ao F8 rfl rfl ?_;unfold Fe
  (iterate 16 ((try (refine RN ?_;try with_reducible exact trivial));(try with_reducible refine fun _=>?_)))
  try rfl
 by_cases c9:n=109
 ·subst c9
  refine Ao F8 rfl rfl ?_;unfold Fe
  (iterate 16 ((try (refine RN ?_;try with_reducible exact trivial));(try with_reducible refine fun _=>?_)))
  try rfl
 by_cases d1:n=110
 ·subst d1
  refine Ao F8 rfl rfl ?_;unfold Fe
  (iterate 16 ((try (refine RN ?_;try with_reducible exact trivial));(try with_reducible refine fun _=>?_)))
  try rfl
 by_cases d2:n=111
 ·subst d2
  refine Ao F8 rfl rfl ?_;unfold Fe
  (iterate 16 ((try (refine RN ?_;try with_reducible exact trivial));(try with_reducible refine fun _=>?_)))
  try rfl
 by_cases d3:n=122
 ·subst d3
  refine Ao F8 rfl rfl ?_;unfold Fe
  (iterate 16 ((try (refine RN ?_;try with_reducible exact trivial));(try with_reducible refine fun _=>?_)))
  try rfl
 have hw:C8 (UInt8.ofNat n.toNat)=[]:=by
  have e1:=C5 h0 h1 (m:=100) (by decide) c1
  have e2:=C5 h0 h1 (m:=97) (by decide) c2
  have e3:=C5 h0 h1 (m:=116) (by decide) c3
  have e4:=C5 h0 h1 (m:=99) (by decide) c4
  have e5:=C5 h0 h1 (m:=98) (by decide) c5
  have e6:=C5 h0 h1 (m:=101) (by decide) c6
  have e7:=C5 h0 h1 (m:=106) (by decide) c7
  have e8:=C5 h0 h1 (m:=107) (by decide) c8
  have e9:=C5 h0 h1 (m:=109) (by decide) c9
  have f1:=C5 h0 h1 (m:=110) (by decide) d1
  have f2:=C5 h0 h1 (m:=111) (by decide) d2
  have f3:=C5 h0 h1 (m:=122) (by decide) d3
  generalize UInt8.ofNat n.toNat=b at *
  unfold C8
  rw [if_neg (by rintro (h | h | h | h);exact e1 h;exact e2 h;exact e3 h;exact e4 h),if_neg (show ¬ b=98 from e5),if_neg (show ¬ b=101 from e6),if_neg (show ¬ b=106 from e7),if_neg (show ¬ b=107 from e8),if_neg (show ¬ b=109 from e9),if_neg (show ¬ b=110 from f1),if_neg (show ¬ b=111 from f2),if_neg (show ¬ b=122 from f3)]
 rw [hw]
 refine Ao F8 rfl rfl ?_;unfold Fe
 (iterate 16 ((try (refine RN ?_;try with_reducible exact trivial));(try with_reducible refine fun _=>?_)))
 try rfl
theorem rF (b:UInt8):Pure Tryz.prog 102 [u8 b] (sV (C8 b)) []:=by
 have h:=rH b.toNat (by omega) (by have:=Xi b;omega)
 rwa [Int.toNat_natCast,UInt8.ofNat_toNat] at h
theorem Aip (l:List UInt8)(h:l.length≤3):Ec Tryz.prog 129 [.sl 0 1 0 l.length] [some (l.map fun b=>u8 b)] (.tup []) [some (l.reverse.map fun b=>u8 b)]:=by
 match l,h with
 | [],_=>
  refine Tr Sl rfl ?_;unfold N3
  refine RN ?_
  refine Ah (α:=Unit) (S:=fun _=>([(0,.sl 0 1 0 0),(2,i64 0),(3,i64 (-1))],[some []])) (C:=fun _=>True) (μ:=fun _=>0) () trivial (Ref.to1) ?_
  intro _ _
  (iterate 16 ((try (refine RN ?_;try with_reducible exact trivial));(try with_reducible refine fun _=>?_)))
  all_goals (try rfl)
 | [a],_=>
  refine Tr Sl rfl ?_;unfold N3
  refine RN ?_
  refine Ah (α:=Unit) (S:=fun _=>([(0,.sl 0 1 0 1),(2,i64 0),(3,i64 0)],[some [u8 a]])) (C:=fun _=>True) (μ:=fun _=>0) () trivial (Ref.to1) ?_
  intro _ _
  (iterate 16 ((try (refine RN ?_;try with_reducible exact trivial));(try with_reducible refine fun _=>?_)))
  all_goals (try rfl)
 | [a,b],_=>
  refine Tr Sl rfl ?_;unfold N3
  refine RN ?_
  refine Ah (α:=Bool) (S:=fun i=>match i with
   | false=>([(0,.sl 0 1 0 2),(2,i64 0),(3,i64 1)],[some [u8 a,u8 b]])
   | true=>([(0,.sl 0 1 0 2),(2,i64 1),(3,i64 0)],[some [u8 b,u8 a]])) (C:=fun _=>True) (μ:=fun i=>if i then 0 else 1) false trivial (Ref.to1) ?_
  intro i _
  cases i with
  | false=>
   refine RN ?_
   refine ⟨fun _=>?_,fun h=>absurd h (by decide)⟩
   refine RN ?_
   refine Xy [(0,.sl 0 1 0 2),(2,i64 0),(3,i64 1)] [some [u8 b,u8 a]] ?_ ?_
   ·(repeat' first | simp only [go_sem,↓reduceIte,Nat.reduceEqDiff,Nat.reduceAdd,reduceCtorEq] | with_reducible refine Ck ?_ | with_reducible refine Eo ?_ | with_reducible refine Cj ?_ | with_reducible exact Cm | with_reducible refine Ci ?_ ?_ | (with_reducible refine And.intro ?_ ?_;focus first | assumption | omega | grind))
    all_goals (try simp only [go_sem,↓reduceIte,Nat.reduceEqDiff,Nat.reduceAdd,reduceCtorEq]);exact Ref.frame (by simp [sub,Ab])
   ·(refine RN ?_;try with_reducible exact trivial)
    exact ⟨true,by decide,Ref.to1⟩
  | true=>
   (iterate 16 ((try (refine RN ?_;try with_reducible exact trivial));(try with_reducible refine fun _=>?_)))
   all_goals (try rfl)
 | [a,b,c],_=>
  refine Tr Sl rfl ?_;unfold N3
  refine RN ?_
  refine Ah (α:=Bool) (S:=fun i=>match i with
   | false=>([(0,.sl 0 1 0 3),(2,i64 0),(3,i64 2)],[some [u8 a,u8 b,u8 c]])
   | true=>([(0,.sl 0 1 0 3),(2,i64 1),(3,i64 1)],[some [u8 c,u8 b,u8 a]])) (C:=fun _=>True) (μ:=fun i=>if i then 0 else 1) false trivial (Ref.to1) ?_
  intro i _
  cases i with
  | false=>
   refine RN ?_
   refine ⟨fun _=>?_,fun h=>absurd h (by decide)⟩
   refine RN ?_
   refine Xy [(0,.sl 0 1 0 3),(2,i64 0),(3,i64 2)] [some [u8 c,u8 b,u8 a]] ?_ ?_
   ·(repeat' first | simp only [go_sem,↓reduceIte,Nat.reduceEqDiff,Nat.reduceAdd,reduceCtorEq] | with_reducible refine Ck ?_ | with_reducible refine Eo ?_ | with_reducible refine Cj ?_ | with_reducible exact Cm | with_reducible refine Ci ?_ ?_ | (with_reducible refine And.intro ?_ ?_;focus first | assumption | omega | grind))
    all_goals (try simp only [go_sem,↓reduceIte,Nat.reduceEqDiff,Nat.reduceAdd,reduceCtorEq]);exact Ref.frame (by simp [sub,Ab])
   ·(refine RN ?_;try with_reducible exact trivial)
    exact ⟨true,by decide,Ref.to1⟩
  | true=>
   (iterate 16 ((try (refine RN ?_;try with_reducible exact trivial));(try with_reducible refine fun _=>?_)))
   all_goals (try rfl)
theorem rG (o s:List UInt8)(z:Int)(ho:o.length≤12):Pure Tryz.prog 89 [.agg [sV o,sV s,i64 z]] (sV (Aq o)) []:=by
 have hmx:=jA
 refine Ao Ae1 rfl rfl ?_;unfold bP
 refine RN ?_
 refine Ah (α:=Nat) (S:=fun i=>([(1,.ref 0 0),(3,.sl 1 1 0 (Aq (o.take i)).length),(8,i64 (o.length:Int)),(9,i64 (i:Int))],[some [sV o,sV s,i64 z],some ((Aq (o.take i)).map fun b=>u8 b)])) (C:=fun i=>i≤o.length) (μ:=fun i=>o.length - i) 0 (Nat.zero_le _) ((Ref.nil 3 1 rfl).trans (Ref.to (by simp [Aq]) (by simp [sub,Ab,Aq]))) ?_
 intro i hi
 have hbl:=Qc (o.take i)
 rw [List.length_take] at hbl
 have hwo:=rF (o.getD i 0)
 have hwl:=Xq (o.getD i 0)
 refine RN ?_
 refine ⟨fun hc=>?_,fun hc=>?_⟩
 ·have hst:=Yb (l:=o) (i:=i) (by omega)
  obtain ⟨w,hw⟩:∃ w,w=C8 (o.getD i 0):=⟨_,rfl⟩
  obtain ⟨B,hB⟩:∃ B,B=Aq (o.take i):=⟨_,rfl⟩
  rw [← hw] at hwo hwl hst
  rw [← hB] at hst hbl ⊢
  have hrv:=Aip w hwl
  have hwr:w.reverse.length=w.length:=List.length_reverse
  have htk:(w.reverse.map fun b=>u8 b).take w.length=w.reverse.map fun b=>u8 b:=List.take_of_length_le (by simp)
  refine RN ?_
  refine Ag (hwo) ?_
  refine RN ?_
  refine Ft (hrv) [2] ?_
  (refine RN ?_;try with_reducible exact trivial)
  try simp only [htk,go_sem,↓reduceIte,Nat.reduceEqDiff,Nat.reduceAdd,reduceCtorEq]
  refine ⟨Afu _,Xu (lP _) ?_⟩
  refine RN ?_
  refine ⟨i+1,by omega,by omega,Ref.gc [0,3] rfl ?_ ?_⟩
  ·simp only [go_sem,↓reduceIte,Nat.reduceEqDiff,Nat.reduceAdd,reduceCtorEq]
   rw [hst]
   simp
  ·rw [hst]
   simp [sub,Ab,go_sem,↓reduceIte,Nat.reduceEqDiff,Nat.reduceAdd,reduceCtorEq]
 ·obtain rfl:i=o.length:=by omega
  rw [List.take_length]
  have hpl:=lP (Aq o)
  have hsu:=nV (Aq o)
  refine RN ?_
  simp only [hsu,go_sem,↓reduceIte,Nat.reduceEqDiff,Nat.reduceAdd,reduceCtorEq]
  (refine RN ?_;try with_reducible exact trivial)
end
end Go.Proofs.YtnompobcofhkpaaGreatDoor
namespace Go.Nt
abbrev C3:=Int×Int×Int
def Ht (b:UInt8)(c:C3):C3:=if b=100 then (c.2.2,c.2.1,c.1) else if b=97 then (c.2.1,2*c.2.1,c.1+c.2.2) else if b=116 then (2*c.2.1,3*c.2.1,c.1+c.2.2) else (c.1+2*c.2.1,4*c.2.1,c.2.2+c.2.1)
def J0 (b:UInt8):Nat:=if b=100 then 1 else if b=97 then 2 else if b=116 then 3 else 4
def Dk (l:List UInt8):Nat:=l.foldr (fun b a=>J0 b*a) 1
def Good (c:C3):Prop:=0≤c.1∧0≤c.2.2∧c.1+c.2.2≤c.2.1+2
def Be (l:List UInt8)(c:C3):C3:=l.foldr Ht c
theorem tW (b:UInt8)(c:C3)(h:Good c)(he:0≤c.2.1):Good (Ht b c)∧(Ht b c).2.1=(J0 b:Int)*c.2.1:=by
 obtain ⟨v,e,f⟩:=c
 unfold Good at h ⊢
 unfold Ht J0
 dsimp only at h he ⊢
 by_cases h1:b=100
 ·rw [if_pos h1,if_pos h1];dsimp only;omega
 rw [if_neg h1,if_neg h1]
 by_cases h2:b=97
 ·rw [if_pos h2,if_pos h2];dsimp only;omega
 rw [if_neg h2,if_neg h2]
 by_cases h3:b=116
 ·rw [if_pos h3,if_pos h3];dsimp only;omega
 ·rw [if_neg h3,if_neg h3];dsimp only;omega
theorem cQ (l:List UInt8)(c:C3)(h:Good c)(he:0≤c.2.1):Good (Be l c)∧(Be l c).2.1=(Dk l:Int)*c.2.1∧0≤(Be l c).2.1:=by
 induction l with
 | nil=>exact ⟨h,by simp [Be,Dk],he⟩
 | cons b l ih=>
  obtain ⟨h1,h2,h3⟩:=ih
  obtain ⟨h4,h5⟩:=tW b (Be l c) h1 h3
  have e1:Be (b :: l) c=Ht b (Be l c):=rfl
  have e2:Dk (b :: l)=J0 b*Dk l:=rfl
  rw [e1,e2]
  refine ⟨h4,?_,?_⟩
  ·rw [h5,h2];push_cast;rw [Int.mul_assoc]
  ·rw [h5];exact Int.mul_nonneg (Int.natCast_nonneg _) h3
theorem uO (b:UInt8):1≤J0 b:=by
 unfold J0
 repeat' split
 all_goals omega
theorem dP (l:List UInt8):1≤Dk l:=by
 induction l with
 | nil=>exact Nat.le_refl _
 | cons b l ih=>exact Nat.mul_pos (uO b) ih
theorem Q1 (a b:List UInt8):Dk (a++b)=Dk a*Dk b:=by
 induction a with
 | nil=>simp [Dk]
 | cons x a ih=>
  show J0 x*Dk (a++b)=J0 x*Dk a*Dk b
  rw [ih,Nat.mul_assoc]
theorem uM (l:List UInt8)(i:Nat):Dk (l.drop i)≤Dk l:=by
 conv=>rhs;rw [← List.take_append_drop i l,Q1]
 exact Nat.le_mul_of_pos_left _ (dP _)
theorem uN (b:UInt8):Dk (C8 b).reverse≤6:=by
 unfold C8
 split
 ·rename_i h
  rcases h with rfl | rfl | rfl | rfl<;>decide
 repeat' split
 all_goals decide
theorem uL (o:List UInt8):Dk (o.flatMap fun b=>(C8 b).reverse)≤6^o.length:=by
 induction o with
 | nil=>exact Nat.le_refl _
 | cons b o ih=>
  rw [List.flatMap_cons,Q1,List.length_cons,Nat.pow_succ,Nat.mul_comm]
  exact Nat.mul_le_mul ih (uN b)
def Aw (s:List UInt8):C3:=let b:=s.getD 0 0
 if b=84 then (4,6,4) else if b=67 then (8,12,6) else if b=79 then (6,12,8) else if b=68 then (20,30,12) else if b=73 then (12,30,20) else if b=72 then (2,Bb s,Bb s) else (Bb s,Bb s,2)
theorem Alw {b x:UInt8}(h:x∈C8 b):x=100∨x=97∨x=116∨x=99:=by
 unfold C8 at h
 split at h
 ·rename_i hb
  rw [List.mem_singleton.1 h]
  exact hb
 repeat' split at h
 all_goals (simp only [List.mem_cons,List.not_mem_nil,or_false] at h)
 all_goals (first | (rcases h with rfl | rfl | rfl<;>decide) | (rcases h with rfl | rfl<;>decide) | exact h.elim)
end Go.Nt
namespace Go.Proofs.YtnompobcofhkpaaGreatDoor
section
open Go.Gov Go.Nt
open Classical
variable (tp tq:TypeId) (p q:Value)
theorem Yc {o:List UInt8}{x:UInt8}(h:x∈Aq o):x=100∨x=97∨x=116∨x=99:=by
 obtain ⟨b,_,h2⟩:=List.mem_flatMap.1 h
 exact Alw (List.mem_reverse.1 h2)
theorem Yd {o:List UInt8}{x:UInt8}(h:x∈Aq o):C0 x=true:=by
 rcases Yc h with rfl | rfl | rfl | rfl<;>decide
theorem Td {s : List UInt8} (h : Dh s) : ∃ n : Int, ((s.getD 0 0).toNat : Int) = n ∧ C0 (s.getD 0 0) = false ∧ ((s.length = 1 ∧ ((n = 84 ∧ Aw s = (4, 6, 4)) ∨ (n = 67 ∧ Aw s = (8, 12, 6)) ∨ (n = 79 ∧ Aw s = (6, 12, 8)) ∨ (n = 68 ∧ Aw s = (20, 30, 12)) ∨ (n = 73 ∧ Aw s = (12, 30, 20)))) ∨
    (2≤s.length∧2≤Bb s∧Bb s≤30∧((n=72∧Aw s=(2,Bb s,Bb s))∨(n=90∧Aw s=(Bb s,Bb s,2))))):=by
 obtain ⟨n,hn,hk⟩:=W4 h
 obtain ⟨b,hb⟩:∃ b,b=s.getD 0 0:=⟨_,rfl⟩
 have hd:∀ c:UInt8,((b.toNat:Int)=(c.toNat:Int))→b=c:=fun c h=>I3 h
 have hC:Aw s=if b=84 then (4,6,4) else if b=67 then (8,12,6) else if b=79 then (6,12,8) else if b=68 then (20,30,12) else if b=73 then (12,30,20) else if b=72 then (2,Bb s,Bb s) else (Bb s,Bb s,2):=by
  rw [hb];rfl
 rw [← hb] at hn ⊢
 refine ⟨n,hn,?_⟩
 rcases hk with ⟨h1,hk⟩ | ⟨h1,hk⟩
 ·rcases hk with ⟨rfl,_⟩ | ⟨rfl,_⟩ | ⟨rfl,_⟩ | ⟨rfl,_⟩ | ⟨rfl,_⟩
  ·obtain rfl:=hd 84 hn;exact ⟨by decide,.inl ⟨h1,.inl ⟨rfl,hC⟩⟩⟩
  ·obtain rfl:=hd 67 hn;exact ⟨by decide,.inl ⟨h1,.inr (.inl ⟨rfl,hC⟩)⟩⟩
  ·obtain rfl:=hd 79 hn;exact ⟨by decide,.inl ⟨h1,.inr (.inr (.inl ⟨rfl,hC⟩))⟩⟩
  ·obtain rfl:=hd 68 hn;exact ⟨by decide,.inl ⟨h1,.inr (.inr (.inr (.inl ⟨rfl,hC⟩)))⟩⟩
  ·obtain rfl:=hd 73 hn;exact ⟨by decide,.inl ⟨h1,.inr (.inr (.inr (.inr ⟨rfl,hC⟩)))⟩⟩
 ·have hr : 2 ≤ Bb s ∧ Bb s ≤ 30 := by
    rcases (Tc s).1 h with h2 | h2
    ·omega
    ·exact h2.2.2
  rcases hk with ⟨rfl,_⟩ | ⟨rfl,_⟩
  ·obtain rfl:=hd 72 hn;exact ⟨by decide,.inr ⟨h1,hr.1,hr.2,.inl ⟨rfl,hC⟩⟩⟩
  ·obtain rfl:=hd 90 hn;exact ⟨by decide,.inr ⟨h1,hr.1,hr.2,.inr ⟨rfl,hC⟩⟩⟩
theorem nG {s:List UInt8}(h:Dh s):Go.Nt.Good (Aw s)∧0≤(Aw s).2.1∧(Aw s).2.1≤30:=by
 obtain ⟨n,_,_,hk⟩:=Td h
 unfold Go.Nt.Good
 rcases hk with ⟨_,hk⟩ | ⟨_,h1,h2,hk⟩
 ·rcases hk with ⟨_,e⟩ | ⟨_,e⟩ | ⟨_,e⟩ | ⟨_,e⟩ | ⟨_,e⟩<;>rw [e]<;>decide
 ·rcases hk with ⟨_,e⟩ | ⟨_,e⟩<;>rw [e]<;>dsimp only<;>omega
theorem Abo (o s:List UInt8)(h:Dh s):Al (Aq o++s)=Aq o∧Au (Aq o++s)=s:=by
 obtain ⟨n,_,hop,hk⟩:=Td h
 have hpos:0<s.length:=by rcases hk with h | h<;>omega
 cases s with
 | nil=>simp at hpos
 | cons b r=>
  have hb:C0 b=false:=by simpa using hop
  constructor
  ·unfold Al
   rw [List.takeWhile_append_of_pos fun x hx=>Yd hx,List.takeWhile_cons_of_neg (by simp [hb]),List.append_nil]
  ·unfold Au
   rw [List.dropWhile_append_of_pos fun x hx=>Yd hx,List.dropWhile_cons_of_neg (by simp [hb])]
theorem N4 (o s:List UInt8)(ho:o.length≤12)(h:Dh s)(j:Nat):Go.Nt.Good (Be ((Aq o).drop j) (Aw s))∧0≤(Be ((Aq o).drop j) (Aw s)).2.1∧(Be ((Aq o).drop j) (Aw s)).2.1≤65303470080:=by
 obtain ⟨h1,h2,h3⟩:=nG h
 obtain ⟨h4,h5,h6⟩:=cQ ((Aq o).drop j) (Aw s) h1 h2
 refine ⟨h4,h6,?_⟩
 have e12:(6:Nat)^12=2176782336:=by decide
 have h7:Dk ((Aq o).drop j)≤6^12:=Nat.le_trans (uM _ _) (Nat.le_trans (uL o) (Nat.pow_le_pow_right (by decide) ho))
 rw [e12] at h7
 have h8:(Dk ((Aq o).drop j):Int)≤2176782336:=by omega
 rw [h5]
 have h9:=Int.mul_le_mul h8 h3 h2 (by decide)
 omega
theorem cR (l:List UInt8)(c:C3){j:Nat}(h0:0<j)(h:j≤l.length):Be (l.drop (j - 1)) c=Ht (l.getD (j - 1) 0) (Be (l.drop j) c):=by
 obtain ⟨i,rfl⟩:∃ i,j=i+1:=⟨j - 1,by omega⟩
 rw [Nat.add_sub_cancel,List.drop_eq_getElem_cons (by omega)]
 show Ht l[i] _=_
 congr 1
 simp [List.getD_eq_getElem?_getD,show i<l.length by omega]
theorem Aji (o s:List UInt8)(h:Dh s):Pure Tryz.prog 88 [.agg [sV o,sV s,i64 (if s.length=1 then 0 else Bb s)]] (.sl 0 1 0 3) [some [i64 (Aw s).1,i64 (Aw s).2.1,i64 (Aw s).2.2]]:=by
 obtain ⟨n,hn,_,hk⟩:=Td h
 have hpos:0<s.length:=by rcases hk with h | h<;>omega
 rcases hk with ⟨h1,hk⟩ | ⟨h1,h2,h3,hk⟩
 ·rw [if_pos h1]
  rcases hk with ⟨rfl,e⟩ | ⟨rfl,e⟩ | ⟨rfl,e⟩ | ⟨rfl,e⟩ | ⟨rfl,e⟩
  all_goals
   rw [e]
   refine Bh lC rfl ?_;unfold Us
   (refine RN ?_;try with_reducible exact trivial)
   try simp only [hn,go_sem,↓reduceIte,Nat.reduceEqDiff,Nat.reduceAdd,reduceCtorEq]
   (iterate 16 ((try (refine RN ?_;try with_reducible exact trivial));(try with_reducible refine fun _=>?_)))
   exact Ref.gc [1] rfl (by simp only [go_sem,↓reduceIte,Nat.reduceEqDiff,Nat.reduceAdd,reduceCtorEq];try rfl) (by simp [sub,Ab,go_sem,↓reduceIte,Nat.reduceEqDiff,Nat.reduceAdd,reduceCtorEq])
 ·rw [if_neg (by omega)]
  rcases hk with ⟨rfl,e⟩ | ⟨rfl,e⟩
  all_goals
   rw [e]
   refine Bh lC rfl ?_;unfold Us
   (refine RN ?_;try with_reducible exact trivial)
   try simp only [hn,go_sem,↓reduceIte,Nat.reduceEqDiff,Nat.reduceAdd,reduceCtorEq]
   (iterate 16 ((try (refine RN ?_;try with_reducible exact trivial));(try with_reducible refine fun _=>?_)))
   exact Ref.gc [1] rfl (by simp only [go_sem,↓reduceIte,Nat.reduceEqDiff,Nat.reduceAdd,reduceCtorEq];try rfl) (by simp [sub,Ab,go_sem,↓reduceIte,Nat.reduceEqDiff,Nat.reduceAdd,reduceCtorEq])
theorem iO (o:List UInt8){j:Nat}(h0:0<j)(h:j≤(Aq o).length):∃ n:Int,(((Aq o).getD (j - 1) 0).toNat:Int)=n∧∀ c:C3,((n=100∧Ht ((Aq o).getD (j - 1) 0) c=(c.2.2,c.2.1,c.1))∨(n=97∧Ht ((Aq o).getD (j - 1) 0) c=(c.2.1,2*c.2.1,c.1+c.2.2))∨(n=116∧Ht ((Aq o).getD (j - 1) 0) c=(2*c.2.1,3*c.2.1,c.1+c.2.2))∨(n=99∧Ht ((Aq o).getD (j - 1) 0) c=(c.1+2*c.2.1,4*c.2.1,c.2.2+c.2.1))):=by
 have hm:=Yc (Rc (s:=Aq o) (i:=j - 1) (by omega))
 generalize (Aq o).getD (j - 1) 0=b at hm ⊢
 refine ⟨_,rfl,fun c=>?_⟩
 rcases hm with rfl | rfl | rfl | rfl
 ·exact .inl ⟨rfl,rfl⟩
 ·exact .inr (.inl ⟨rfl,rfl⟩)
 ·exact .inr (.inr (.inl ⟨rfl,rfl⟩))
 ·exact .inr (.inr (.inr ⟨rfl,rfl⟩))
theorem cV (o s:List UInt8)(ho:o.length≤12)(h:Dh s):Pure Tryz.prog 47 [.agg [sV o,sV s,i64 (if s.length=1 then 0 else Bb s)]] (.sl 0 1 0 3) [some [i64 (Be (Aq o) (Aw s)).1,i64 (Be (Aq o) (Aw s)).2.1,i64 (Be (Aq o) (Aw s)).2.2]]:=by
 have hsc:=Aji o s h
 have hbc:=rG o s (if s.length=1 then 0 else Bb s) ho
 have hbl:=Qc o
 have hcb:=N4 o s ho h
 have hlet:=fun j=>iO o (j:=j)
 have hcs:=fun j=>cR (Aq o) (Aw s) (j:=j)
 obtain ⟨z,hz⟩:∃ z,z=(if s.length=1 then 0 else Bb s):=⟨_,rfl⟩
 rw [← hz] at hsc hbc ⊢
 obtain ⟨B,hB⟩:∃ B,B=Aq o:=⟨_,rfl⟩
 rw [← hB] at hbc hbl hcb hlet hcs ⊢
 have hd0:Be (B.drop B.length) (Aw s)=Aw s:=by rw [List.drop_length];rfl
 refine Bh Ad3 rfl ?_;unfold aI
 refine RN ?_
 refine Ag (hsc) ?_
 refine RN ?_
 refine Ag (hbc) ?_
 refine RN ?_
 refine Ah (α:=Nat) (S:=fun j=>([(3,.sl 0 1 0 3),(4,sV B),(5,i64 ((j:Int) - 1))],[some [i64 (Be (B.drop j) (Aw s)).1,i64 (Be (B.drop j) (Aw s)).2.1,i64 (Be (B.drop j) (Aw s)).2.2]])) (C:=fun j=>j≤B.length) (μ:=fun j=>j) B.length (Nat.le_refl _) ?_ ?_
 ·rw [hd0]
  exact Ref.gc1 [1]
 intro j hj
 refine RN ?_
 refine ⟨fun hc=>?_,fun hc=>?_⟩
 ·obtain ⟨n,hn,hl⟩:=hlet j (by omega) hj
  have hst:=hcs j (by omega) hj
  obtain ⟨hb1,hb2,hb3⟩:=hcb j
  have hl2:=hl (Be (B.drop j) (Aw s))
  unfold Go.Nt.Good at hb1
  obtain ⟨c,hc2⟩:∃ c,c=Be (B.drop j) (Aw s):=⟨_,rfl⟩
  rw [← hc2] at hst hb1 hb2 hb3 hl2 ⊢
  obtain ⟨v,e,f⟩:=c
  dsimp only at hst hb1 hb2 hb3 hl2 ⊢
  have e1:((j:Int) - 1).toNat=j - 1:=by omega
  have e3:((j - 1:Nat):Int) - 1=(j:Int) - 1 - 1:=by omega
  clear hlet hcs hcb hl hc2
  (refine RN ?_;try with_reducible exact trivial)
  try simp only [e1,hn,go_sem,↓reduceIte,Nat.reduceEqDiff,Nat.reduceAdd,reduceCtorEq]
  rcases hl2 with ⟨rfl,e2⟩ | ⟨rfl,e2⟩ | ⟨rfl,e2⟩ | ⟨rfl,e2⟩
  all_goals
   (iterate 16 ((try (refine RN ?_;try with_reducible exact trivial));(try with_reducible refine fun _=>?_)))
   refine ⟨j - 1,by omega,by omega,?_⟩
   rw [hst,e2,e3]
   exact Ref.gc1 [1]
 ·obtain rfl:j=0:=by omega
  rw [List.drop_zero]
  refine RN ?_
  exact Ref.to1
end
section
open Go.Gov Go.Nt
open Classical
variable (tp tq:TypeId) (p q:Value)
theorem eR {a b:List UInt8}{i:Nat}(h:i<a.length):(a++b).getD i 0=a.getD i 0:=by
 rw [List.getD_eq_getElem?_getD,List.getElem?_append_left h,← List.getD_eq_getElem?_getD]
theorem vI {a b:List UInt8}:(a++b).getD a.length 0=b.getD 0 0:=by
 rw [List.getD_eq_getElem?_getD,List.getElem?_append_right (Nat.le_refl _),Nat.sub_self,← List.getD_eq_getElem?_getD]
theorem gZ (o s:List UInt8)(ho:o.length≤12)(h:Dh s)(hs:s.length≤1048576):Pure Tryz.prog 26 [sV (Aq o++s)] (.sl 0 1 0 3) [some [i64 (Be (Aq o) (Aw s)).1,i64 (Be (Aq o) (Aw s)).2.1,i64 (Be (Aq o) (Aw s)).2.2]]:=by
 obtain ⟨n,hn,hop,hk⟩:=Td h
 have hpos:0<s.length:=by rcases hk with h | h<;>omega
 have hv:=Vp (s.drop 1) (by rw [List.length_drop];omega)
 rw [show D2 (s.drop 1)=Bb s from rfl] at hv
 have hbl:=Qc o
 have hcb:=N4 o s ho h
 have hlet:=fun j=>iO o (j:=j)
 have hcs:=fun j=>cR (Aq o) (Aw s) (j:=j)
 obtain ⟨hnO,hnS⟩:=Abo o s h
 have hT1:=fun i=>eR (a:=Aq o) (b:=s) (i:=i)
 have hT2:=vI (a:=Aq o) (b:=s)
 have hTl:(Aq o++s).length=(Aq o).length+s.length:=List.length_append
 have hTd:((Aq o++s).take (Aq o++s).length).drop ((Aq o).length+1)=s.drop 1:=by
  rw [List.take_length,← List.drop_drop,List.drop_left']
  rfl
 obtain ⟨T,hT⟩:∃ T,T=Aq o++s:=⟨_,rfl⟩
 rw [← hT] at hnO hnS hT2 hTl hTd ⊢
 simp only [← hT] at hT1
 obtain ⟨B,hB⟩:∃ B,B=Aq o:=⟨_,rfl⟩
 rw [← hB] at hbl hcb hlet hcs hnO hT1 hT2 hTl hTd ⊢
 have hd0:Be (B.drop B.length) (Aw s)=Aw s:=by rw [List.drop_length];rfl
 have hstep:=Wf T
 rw [hnO] at hstep
 rw [← hT2] at hn hop
 refine Bh Adn rfl ?_;unfold Z3
 refine RN ?_
 refine Ah (α:=Nat) (S:=fun i=>([(0,sV T),(3,i64 (i:Int))],[])) (C:=fun i=>i≤B.length) (μ:=fun i=>B.length - i) 0 (Nat.zero_le _) (by exact Ref.frame (by simp [sub,Ab])) ?_
 intro i hi
 have hst:=hstep i hi
 have hwo:=Rx (T.getD i 0)
 have hwe:=Xr (T.getD i 0)
 refine RN ?_
 refine Ag (hwo) ?_
 simp only [hwe,Bool.not_not,go_sem,↓reduceIte,Nat.reduceEqDiff,Nat.reduceAdd,reduceCtorEq]
 refine RN ?_
 refine ⟨fun hc=>?_,fun hc=>?_⟩
 ·have:=hst.2 ⟨by omega,hc⟩
  refine RN ?_
  exact ⟨i+1,by omega,by omega,Ref.to1⟩
 ·obtain rfl : i = B.length := by
    rcases Nat.lt_or_ge i B.length with h5 | h5
    ·have h6:=(hst.1 h5).2
     rw [hc] at h6
     cases h6
    ·omega
  clear hst hwo hwe hstep hc hi
  have e0:((B.length:Int)+1).toNat=B.length+1:=by omega
  (refine RN ?_;try with_reducible exact trivial)
  try simp only [hn,go_sem,↓reduceIte,Nat.reduceEqDiff,Nat.reduceAdd,reduceCtorEq]
  rcases hk with ⟨_,hk⟩ | ⟨_,h2,h3,hk⟩
  ·rcases hk with ⟨rfl,e⟩ | ⟨rfl,e⟩ | ⟨rfl,e⟩ | ⟨rfl,e⟩ | ⟨rfl,e⟩
   all_goals
    (iterate 16 ((try (refine RN ?_;try with_reducible exact trivial));(try with_reducible refine fun _=>?_)))
    refine Ah (α:=Nat) (S:=fun j=>([(0,sV T),(4,i64 (Be (B.drop j) (Aw s)).1),(5,i64 (Be (B.drop j) (Aw s)).2.1),(6,i64 (Be (B.drop j) (Aw s)).2.2),(8,i64 ((j:Int) - 1))],[])) (C:=fun j=>j≤B.length) (μ:=fun j=>j) B.length (Nat.le_refl _) (Ref.to rfl (by rw [hd0,e];simp [sub,Ab])) ?_
    intro j hj
    refine RN ?_
    refine ⟨fun hc=>?_,fun hc=>?_⟩
    ·obtain ⟨m,hm,hl⟩:=hlet j (by omega) hj
     have hst:=hcs j (by omega) hj
     obtain ⟨hb1,hb2,hb3⟩:=hcb j
     have hl2:=hl (Be (B.drop j) (Aw s))
     have hTj:=hT1 (j - 1) (by omega)
     unfold Go.Nt.Good at hb1
     obtain ⟨c,hc2⟩:∃ c,c=Be (B.drop j) (Aw s):=⟨_,rfl⟩
     rw [← hc2] at hst hb1 hb2 hb3 hl2 ⊢
     obtain ⟨v,e', f⟩:=c
     dsimp only at hst hb1 hb2 hb3 hl2 ⊢
     rw [← hTj] at hm
     have e1:((j:Int) - 1).toNat=j - 1:=by omega
     have e3:((j - 1:Nat):Int) - 1=(j:Int) - 1 - 1:=by omega
     clear hlet hcs hcb hl hc2 hT1
     (refine RN ?_;try with_reducible exact trivial)
     try simp only [e1,hm,go_sem,↓reduceIte,Nat.reduceEqDiff,Nat.reduceAdd,reduceCtorEq]
     rcases hl2 with ⟨rfl,e2⟩ | ⟨rfl,e2⟩ | ⟨rfl,e2⟩ | ⟨rfl,e2⟩
     all_goals
      (iterate 16 ((try (refine RN ?_;try with_reducible exact trivial));(try with_reducible refine fun _=>?_)))
      refine ⟨j - 1,by omega,by omega,?_⟩
      rw [hst,e2,e3]
      exact Ref.to1
    ·obtain rfl:j=0:=by omega
     rw [List.drop_zero]
     refine RN ?_
     exact Ref.to1
  ·rcases hk with ⟨rfl,e⟩ | ⟨rfl,e⟩
   all_goals
    (iterate 16 ((try (refine RN ?_;try with_reducible exact trivial));(try with_reducible refine fun _=>?_)))
    try simp only [e0,hTd,go_sem,↓reduceIte,Nat.reduceEqDiff,Nat.reduceAdd,reduceCtorEq]
    refine Ag (hv) ?_
    (iterate 16 ((try (refine RN ?_;try with_reducible exact trivial));(try with_reducible refine fun _=>?_)))
    try simp only [hn,go_sem,↓reduceIte,Nat.reduceEqDiff,Nat.reduceAdd,reduceCtorEq]
    (iterate 16 ((try (refine RN ?_;try with_reducible exact trivial));(try with_reducible refine fun _=>?_)))
    refine Ah (α:=Nat) (S:=fun j=>([(0,sV T),(4,i64 (Be (B.drop j) (Aw s)).1),(5,i64 (Be (B.drop j) (Aw s)).2.1),(6,i64 (Be (B.drop j) (Aw s)).2.2),(8,i64 ((j:Int) - 1))],[])) (C:=fun j=>j≤B.length) (μ:=fun j=>j) B.length (Nat.le_refl _) (Ref.to rfl (by rw [hd0,e];simp [sub,Ab])) ?_
    intro j hj
    refine RN ?_
    refine ⟨fun hc=>?_,fun hc=>?_⟩
    ·obtain ⟨m,hm,hl⟩:=hlet j (by omega) hj
     have hst:=hcs j (by omega) hj
     obtain ⟨hb1,hb2,hb3⟩:=hcb j
     have hl2:=hl (Be (B.drop j) (Aw s))
     have hTj:=hT1 (j - 1) (by omega)
     unfold Go.Nt.Good at hb1
     obtain ⟨c,hc2⟩:∃ c,c=Be (B.drop j) (Aw s):=⟨_,rfl⟩
     rw [← hc2] at hst hb1 hb2 hb3 hl2 ⊢
     obtain ⟨v,e', f⟩:=c
     dsimp only at hst hb1 hb2 hb3 hl2 ⊢
     rw [← hTj] at hm
     have e1:((j:Int) - 1).toNat=j - 1:=by omega
     have e3:((j - 1:Nat):Int) - 1=(j:Int) - 1 - 1:=by omega
     clear hlet hcs hcb hl hc2 hT1
     (refine RN ?_;try with_reducible exact trivial)
     try simp only [e1,hm,go_sem,↓reduceIte,Nat.reduceEqDiff,Nat.reduceAdd,reduceCtorEq]
     rcases hl2 with ⟨rfl,e2⟩ | ⟨rfl,e2⟩ | ⟨rfl,e2⟩ | ⟨rfl,e2⟩
     all_goals
      (iterate 16 ((try (refine RN ?_;try with_reducible exact trivial));(try with_reducible refine fun _=>?_)))
      refine ⟨j - 1,by omega,by omega,?_⟩
      rw [hst,e2,e3]
      exact Ref.to1
    ·obtain rfl:j=0:=by omega
     rw [List.drop_zero]
     refine RN ?_
     exact Ref.to1
end
end Go.Proofs.YtnompobcofhkpaaGreatDoor
