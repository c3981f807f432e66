/- Texts that belong together. -/
import Derived.Test.YtnompobcofhkpaaGreatDoorZh
import Derived.Test.YtnompobcofhkpaaGreatDoorZj
set_option linter.unusedSimpArgs false
set_option linter.unusedVariables false
set_option maxRecDepth 100000
namespace Go.Proofs.YtnompobcofhkpaaGreatDoor
section
open Classical
def B6:List Int→List Int→Bool
 | [],[]=>false
 | [],_ :: _=>true
 | _ :: _,[]=>false
 | x :: xs,y :: ys=>if x<y then true else if y<x then false else B6 xs ys
theorem Rz:∀ a,B6 a a=false
 | []=>rfl
 | x :: xs=>by simp [B6,Rz xs]
theorem Vx:∀ {a b c:List Int},B6 a b=true→B6 b c=true→B6 a c=true
 | _,[],[],_,h=>by cases h
 | [],[],_ :: _,h,_=>by cases h
 | [],_ :: _,[],_,h=>by cases h
 | [],_ :: _,_ :: _,_,_=>rfl
 | _ :: _,[],_,h,_=>by cases h
 | _ :: _,_ :: _,[],_,h=>by cases h
 | x :: xs,y :: ys,z :: zs,h,k=>by
  unfold B6 at *
  have ih:=@Vx xs ys zs
  split at h<;>split at k<;>(try split at h)<;>(try split at k)<;>(try (cases h;done))<;>(try (cases k;done))<;>grind
theorem iP:∀ {a b:List Int},B6 a b=false→B6 b a=false→a=b
 | [],[],_,_=>rfl
 | [],_ :: _,h,_=>by cases h
 | _ :: _,[],_,h=>by cases h
 | x :: xs,y :: ys,h,k=>by
  unfold B6 at *
  have ih:=@iP xs ys
  split at h<;>split at k<;>(try split at h)<;>(try split at k)<;>(try (cases h;done))<;>(try (cases k;done))<;>grind
def Lst (S:List Int→Prop)(b:List Int):Prop:=S b∧∀ x,S x→B6 x b=false
theorem zX {x b c:List Int}(h:B6 x b=false)(hc:B6 c b=true):B6 x c=false:=by
 cases h2:B6 x c with
 | false=>rfl
 | true=>rw [Vx h2 hc] at h;cases h
theorem Lst.add {S:List Int→Prop}{b c:List Int}(h:Lst S b):Lst (fun x=>S x∨x=c) (if B6 c b=true then c else b):=by
 by_cases hc:B6 c b=true
 ·rw [if_pos hc]
  refine ⟨.inr rfl,fun x hx=>?_⟩
  rcases hx with hx | rfl
  ·exact zX (h.2 x hx) hc
  ·exact Rz _
 ·rw [if_neg hc]
  refine ⟨.inl h.1,fun x hx=>?_⟩
  rcases hx with hx | rfl
  ·exact h.2 x hx
  ·simpa using hc
theorem Lst.same {S T:List Int→Prop}{b:List Int}(h:Lst S b)(hs:∀ x,S x ↔ T x):Lst T b:=⟨(hs b).1 h.1,fun x hx=>h.2 x ((hs x).2 hx)⟩
end
section
open Go.Gov
open Classical
theorem sR (xs:List Int)(h0:0<xs.length)(hl:xs.length≤1099511627776):Pure Tryz.prog 138 [Ad xs] (.sl 0 1 0 xs.length) [some (Aa xs)]:=by
 obtain ⟨r,R,rfl⟩:∃ r R,xs=r :: R:=by cases xs with | nil=>simp at h0 | cons r R=>exact ⟨r,R,rfl⟩
 generalize hM:r :: R=M at *
 have hlen:M.length=R.length+1:=by rw [← hM];rfl
 refine Ga [1] Acl rfl ?_;unfold Y6
 rw [show Ad M = .slc 1 (R.length+1) (Aa M) by rw [Ad,hlen]]
 have hn:∀ H,Gr H (.slc 1 (R.length+1) (Aa M))=some false:=fun _=>rfl
 refine RN ?_
 simp only [hn,Option.isSome_some,Option.getD_some,true_and]
 (refine RN ?_;try with_reducible exact trivial)
 (try simp only [hlen,go_sem,↓reduceIte,Nat.reduceEqDiff,Nat.reduceAdd,reduceCtorEq])
theorem Vv {a b:List Int}{i:Nat}(ha:i<a.length)(hb:i<b.length)(he:a.getD i 0=b.getD i 0):B6 (a.drop i) (b.drop i)=B6 (a.drop (i+1)) (b.drop (i+1)):=by
 rw [List.drop_eq_getElem_cons ha,List.drop_eq_getElem_cons hb]
 have:a[i]=b[i]:=by simpa [ha,hb] using he
 rw [B6,if_neg (by omega),if_neg (by omega)]
theorem Vw {a b:List Int}{i:Nat}(ha:i<a.length)(hb:i<b.length)(he:a.getD i 0≠b.getD i 0):B6 (a.drop i) (b.drop i)=decide (a.getD i 0<b.getD i 0):=by
 rw [List.drop_eq_getElem_cons ha,List.drop_eq_getElem_cons hb]
 have e1:a.getD i 0=a[i]:=by simp [ha]
 have e2:b.getD i 0=b[i]:=by simp [hb]
 have he' : a[i]≠b[i]:=by rw [← e1,← e2];exact he
 rw [e1,e2,B6]
 by_cases h:a[i]<b[i]
 ·rw [if_pos h,decide_eq_true h]
 ·rw [if_neg h,if_pos (by omega),decide_eq_false h]
theorem Ou {a b:List Int}{i:Nat}(h:a.length≤i∨b.length≤i)(hi:i≤a.length)(hj:i≤b.length):B6 (a.drop i) (b.drop i)=decide ((a.length:Int)<b.length):=by
 rcases h with h | h
 ·have:i=a.length:=by omega
  subst this
  rw [List.drop_length]
  by_cases h2:a.length<b.length
  ·rw [List.drop_eq_getElem_cons h2,decide_eq_true (by omega)];rfl
  ·rw [show b.drop a.length=[] from List.drop_eq_nil_of_le (by omega),decide_eq_false (by omega)];rfl
 ·have:i=b.length:=by omega
  subst this
  rw [List.drop_length,decide_eq_false (by omega)]
  cases a.drop b.length<;>rfl
theorem zV (a b:List Int)(ha:a.length≤1099511627776)(hb:b.length≤1099511627776):Pure Tryz.prog 95 [Ad a,Ad b] (bl (B6 a b)) []:=by
 refine Cu Ae7 rfl ?_;unfold bX
 refine RN ?_
 refine Ah (α:=Nat) (S:=fun i=>([(0,Ad a),(1,Ad b),(5,i64 i)],[])) (C:=fun i=>i≤a.length∧i≤b.length∧B6 (a.drop i) (b.drop i)=B6 a b) (μ:=fun i=>a.length - i) 0 ⟨by omega,by omega,rfl⟩ (by exact Ref.frame (by simp [sub,Ab])) ?_
 rintro i ⟨h1,h2,h3⟩
 refine RN ?_
 refine ⟨fun hc=>?_,fun hc=>?_⟩
 ·(refine RN ?_;try with_reducible exact trivial)
  refine ⟨fun hc2=>?_,fun hc2=>?_⟩
  ·rw [← h3,Vw (by omega) (by omega) hc2]
   (refine RN ?_;try with_reducible exact trivial)
  ·rw [Vv (by omega) (by omega) (by omega)] at h3
   refine RN ?_
   exact ⟨i+1,⟨by omega,by omega,h3⟩,by omega,by exact Ref.frame (by simp [sub,Ab])⟩
 ·rw [← h3,Ou (by omega) h1 h2]
  (refine RN ?_;try with_reducible exact trivial)
theorem sY (x y:Int):Pure Tryz.prog 158 [i64 x,i64 y] (i64 (if x<y then -1 else if y<x then 1 else 0)) []:=by
 refine Cu Acz rfl ?_;unfold Zj
 refine RN ?_
 refine Ag (fM x) ?_
 refine RN ?_
 refine Ag (fM y) ?_
 refine RN ?_
 refine ⟨fun hc=>?_,fun hc=>?_⟩
 ·rw [if_pos hc]
  (refine RN ?_;try with_reducible exact trivial)
 ·rw [if_neg (by omega)]
  refine RN ?_
  refine ⟨fun hc2=>?_,fun hc2=>?_⟩
  ·rw [if_pos hc2]
   (refine RN ?_;try with_reducible exact trivial)
  ·rw [if_neg (by omega)]
   (refine RN ?_;try with_reducible exact trivial)
def F0 (a b:List Int):Int:=if B6 a b then -1 else if B6 b a then 1 else 0
theorem sZ (a b:List Int):(F0 a b<0) ↔ B6 a b=true:=by
 unfold F0
 split
 ·simp [*]
 ·split<;>simp [*]
theorem tG (a b:List Int)(ha:a.length≤1099511627776)(hb:b.length≤1099511627776):Pure Tryz.prog 127 [Ad a,Ad b] (i64 (F0 a b)) []:=by
 refine Cu Ace rfl ?_;unfold c127
 refine RN ?_
 refine Ah (α:=Nat) (S:=fun i=>([(0,Ad a),(1,Ad b),(9,Ad a),(10,i64 a.length),(11,i64 i)],[])) (C:=fun i=>i≤a.length∧i≤b.length∧B6 (a.drop i) (b.drop i)=B6 a b∧B6 (b.drop i) (a.drop i)=B6 b a) (μ:=fun i=>a.length - i) 0 ⟨by omega,by omega,rfl,rfl⟩ (by exact Ref.frame (by simp [sub,Ab])) ?_
 rintro i ⟨h1,h2,h3,h4⟩
 refine RN ?_
 refine ⟨fun hc=>?_,fun hc=>?_⟩
 ·(refine RN ?_;try with_reducible exact trivial)
  refine ⟨fun hc2=>?_,fun hc2=>?_⟩
  ·rw [Ou (by omega) h1 h2] at h3
   rw [Ou (by omega) h2 h1] at h4
   unfold F0
   rw [← h3,← h4,decide_eq_false (by omega),decide_eq_true (show (b.length:Int)<a.length by omega)]
   (refine RN ?_;try with_reducible exact trivial)
   try rfl
  ·(refine RN ?_;try with_reducible exact trivial)
   refine Ag (sY (a.getD i 0) (b.getD i 0)) ?_
   refine RN ?_
   refine ⟨fun hc3=>?_,fun hc3=>?_⟩
   ·have hne:a.getD i 0≠b.getD i 0:=fun e=>hc3 (by rw [e,if_neg (by omega),if_neg (by omega)])
    rw [Vw (by omega) (by omega) hne] at h3
    rw [Vw (by omega) (by omega) hne.symm] at h4
    unfold F0
    rw [← h3,← h4]
    simp only [decide_eq_true_eq]
    (refine RN ?_;try with_reducible exact trivial)
   ·have he : a.getD i 0 = b.getD i 0 := by
      rcases Int.lt_trichotomy (a.getD i 0) (b.getD i 0) with h | h | h
      ·rw [if_pos h] at hc3;omega
      ·exact h
      ·rw [if_neg (by omega),if_pos h] at hc3;omega
    rw [Vv (by omega) (by omega) he] at h3
    rw [Vv (by omega) (by omega) he.symm] at h4
    refine RN ?_
    exact ⟨i+1,⟨by omega,by omega,h3,h4⟩,by omega,by exact Ref.frame (by simp [sub,Ab])⟩
 ·rw [Ou (by omega) h1 h2] at h3
  rw [Ou (by omega) h2 h1] at h4
  unfold F0
  rw [← h3,← h4]
  simp only [decide_eq_true_eq]
  refine RN ?_
  refine ⟨fun hc2=>?_,fun hc2=>?_⟩
  ·rw [if_pos (by omega)]
   (refine RN ?_;try with_reducible exact trivial)
  ·rw [if_neg (by omega),if_neg (by omega)]
   (refine RN ?_;try with_reducible exact trivial)
theorem W3 (xs ys:List Int)(hx:xs.length≤1099511627776)(hy:ys.length≤1099511627776):Pure Tryz.prog 25 [Ad xs,Ad ys] (bl (decide (xs=ys))) []:=by
 refine Cu Adm rfl ?_;unfold Z2
 refine RN ?_
 refine ⟨fun hc=>?_,fun hc=>?_⟩
 ·(refine RN ?_;try with_reducible exact trivial)
  rw [decide_eq_false (fun h=>hc (by rw [h]))]
 ·have hl:xs.length=ys.length:=by omega
  refine RN ?_
  refine Ah (α:=Nat) (S:=fun i=>([(0,Ad xs),(1,Ad ys),(5,i64 i)],[])) (C:=fun i=>i≤xs.length∧∀ j,j<i→xs.getD j 0=ys.getD j 0) (μ:=fun i=>xs.length - i) 0 ⟨by omega,by omega⟩ (by exact Ref.frame (by simp [sub,Ab])) ?_
  rintro i ⟨hi,hall⟩
  refine RN ?_
  refine ⟨fun hc1=>?_,fun hc1=>?_⟩
  ·(refine RN ?_;try with_reducible exact trivial)
   refine ⟨fun hc2=>?_,fun hc2=>?_⟩
   ·(refine RN ?_;try with_reducible exact trivial)
    rw [decide_eq_false (fun h=>hc2 (by rw [h]))]
   ·(refine RN ?_;try with_reducible exact trivial)
    refine ⟨i+1,⟨by omega,fun j hj=>?_⟩,by omega,by exact Ref.frame (by simp [sub,Ab])⟩
    rcases Nat.lt_or_ge j i with h | h
    ·exact hall j h
    ·obtain rfl:j=i:=by omega
     simpa using hc2
  ·(refine RN ?_;try with_reducible exact trivial)
   rw [decide_eq_true]
   refine List.ext_getElem hl fun j h1 h2=>?_
   have:=hall j (by omega)
   simpa [h1,h2] using this
theorem dL (xs ys:List Int)(hx:xs.length≤1099511627776)(hy:ys.length≤1099511627776):Pure Tryz.prog 46 [Ad xs,Ad ys] (bl (decide (xs=ys))) []:=by
 refine Cu Ad2 rfl ?_;unfold c46
 refine RN ?_
 refine ⟨fun hc=>?_,fun hc=>?_⟩
 ·(refine RN ?_;try with_reducible exact trivial)
  rw [decide_eq_false (fun h=>hc (by rw [h]))]
 ·have hl:xs.length=ys.length:=by omega
  refine RN ?_
  refine Ah (α:=Nat) (S:=fun i=>([(0,Ad xs),(1,Ad ys),(12,i64 xs.length),(13,i64 i)],[])) (C:=fun i=>i≤xs.length∧∀ j,j<i→xs.getD j 0=ys.getD j 0) (μ:=fun i=>xs.length - i) 0 ⟨by omega,by omega⟩ (by exact Ref.frame (by simp [sub,Ab])) ?_
  rintro i ⟨hi,hall⟩
  refine RN ?_
  refine ⟨fun hc1=>?_,fun hc1=>?_⟩
  ·(refine RN ?_;try with_reducible exact trivial)
   refine ⟨fun hc2=>?_,fun hc2=>?_⟩
   ·(refine RN ?_;try with_reducible exact trivial)
    rw [decide_eq_false (fun h=>hc2 (by rw [h]))]
   ·(refine RN ?_;try with_reducible exact trivial)
    refine ⟨i+1,⟨by omega,fun j hj=>?_⟩,by omega,by exact Ref.frame (by simp [sub,Ab])⟩
    rcases Nat.lt_or_ge j i with h | h
    ·exact hall j h
    ·obtain rfl:j=i:=by omega
     simpa using hc2
  ·(refine RN ?_;try with_reducible exact trivial)
   rw [decide_eq_true]
   refine List.ext_getElem hl fun j h1 h2=>?_
   have:=hall j (by omega)
   simpa [h1,h2] using this
end
end Go.Proofs.YtnompobcofhkpaaGreatDoor
