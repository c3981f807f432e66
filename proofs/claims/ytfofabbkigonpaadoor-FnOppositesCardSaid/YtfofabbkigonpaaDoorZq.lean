/- Texts that belong together. -/
import Derived.Test.YtfofabbkigonpaaDoorZh
import Derived.Test.YtfofabbkigonpaaDoorZj
set_option linter.unusedSimpArgs false
set_option linter.unusedVariables false
set_option maxRecDepth 100000
namespace Go.Proofs.YtfofabbkigonpaaDoor
section
open Classical
def Dp:List Int→List Int→Bool
 | [],[]=>false
 | [],_ :: _=>true
 | _ :: _,[]=>false
 | x :: xs,y :: ys=>if x<y then true else if y<x then false else Dp xs ys
theorem Xz:∀ a,Dp a a=false
 | []=>rfl
 | x :: xs=>by simp [Dp,Xz xs]
theorem X1:∀ {a b c:List Int},Dp a b=true→Dp b c=true→Dp a c=true
 | _,[],[],_,h=>by cases h
 | [],[],_ :: _,h,_=>by cases h
 | [],_ :: _,[],_,h=>by cases h
 | [],_ :: _,_ :: _,_,_=>rfl
 | _ :: _,[],_,h,_=>by cases h
 | _ :: _,_ :: _,[],_,h=>by cases h
 | x :: xs,y :: ys,z :: zs,h,k=>by
  unfold Dp at *
  have ih:=@X1 xs ys zs
  split at h<;>split at k<;>(try split at h)<;>(try split at k)<;>(try (cases h;done))<;>(try (cases k;done))<;>grind
theorem X2:∀ {a b:List Int},Dp a b=false→Dp b a=false→a=b
 | [],[],_,_=>rfl
 | [],_ :: _,h,_=>by cases h
 | _ :: _,[],_,h=>by cases h
 | x :: xs,y :: ys,h,k=>by
  unfold Dp at *
  have ih:=@X2 xs ys
  split at h<;>split at k<;>(try split at h)<;>(try split at k)<;>(try (cases h;done))<;>(try (cases k;done))<;>grind
def Lst (S:List Int→Prop)(b:List Int):Prop:=S b∧∀ x,S x→Dp x b=false
theorem Lst.uniq {S:List Int→Prop}{a b:List Int}(h:Lst S a)(k:Lst S b):a=b:=X2 (k.2 a h.1) (h.2 b k.1)
theorem lU {x b c:List Int}(h:Dp x b=false)(hc:Dp c b=true):Dp x c=false:=by
 cases h2:Dp x c with
 | false=>rfl
 | true=>rw [X1 h2 hc] at h;cases h
theorem Lst.add {S:List Int→Prop}{b c:List Int}(h:Lst S b):Lst (fun x=>S x∨x=c) (if Dp c b=true then c else b):=by
 by_cases hc:Dp c b=true
 ·rw [if_pos hc]
  refine ⟨.inr rfl,fun x hx=>?_⟩
  rcases hx with hx | rfl
  ·exact lU (h.2 x hx) hc
  ·exact Xz _
 ·rw [if_neg hc]
  refine ⟨.inl h.1,fun x hx=>?_⟩
  rcases hx with hx | rfl
  ·exact h.2 x hx
  ·simpa using hc
theorem Lst.same {S T:List Int→Prop}{b:List Int}(h:Lst S b)(hs:∀ x,S x ↔ T x):Lst T b:=⟨(hs b).1 h.1,fun x hx=>h.2 x ((hs x).2 hx)⟩
end
section
open Go.Gov
open Classical
theorem M6 (xs:List Int)(h0:0<xs.length)(hl:xs.length≤1099511627776):Ao Tryd.prog 54 [Ad xs] (.sl 0 1 0 xs.length) [some (Aa xs)]:=by
 obtain ⟨r,R,rfl⟩:∃ r R,xs=r :: R:=by cases xs with | nil=>simp at h0 | cons r R=>exact ⟨r,R,rfl⟩
 generalize hM:r :: R=M at *
 have hlen:M.length=R.length+1:=by rw [← hM];rfl
 refine Rz [1] Yx rfl ?_;unfold Qd
 rw [show Ad M = .slc 1 (R.length+1) (Aa M) by rw [Ad,hlen]]
 have hn:∀ H,Eh H (.slc 1 (R.length+1) (Aa M))=some false:=fun _=>rfl
 refine RN ?_
 simp only [hn,Option.isSome_some,Option.getD_some,true_and]
 (refine RN ?_;try with_reducible exact trivial)
 (try simp only [hlen,go_sem,↓reduceIte,Nat.reduceEqDiff,Nat.reduceAdd,reduceCtorEq])
theorem gZ (xs ys:List Int)(hx:xs.length≤1099511627776)(hy:ys.length≤1099511627776):Ao Tryd.prog 111 [Ad xs,Ad ys] (bl (decide (xs=ys))) []:=by
 refine Cm oM rfl ?_;unfold T2
 refine RN ?_
 refine ⟨fun hc=>?_,fun hc=>?_⟩
 ·(refine RN ?_;try with_reducible exact trivial)
  rw [decide_eq_false (fun h=>hc (by rw [h]))]
 ·have hl:xs.length=ys.length:=by omega
  refine RN ?_
  refine Ak (α:=Nat) (S:=fun i=>([(0,Ad xs),(1,Ad ys),(12,i64 xs.length),(13,i64 i)],[])) (C:=fun i=>i≤xs.length∧∀ j,j<i→xs.getD j 0=ys.getD j 0) (μ:=fun i=>xs.length - i) 0 ⟨by omega,by omega⟩ (by exact Ref.frame (by simp [sub,Ac])) ?_
  rintro i ⟨hi,hall⟩
  refine RN ?_
  refine ⟨fun hc1=>?_,fun hc1=>?_⟩
  ·(refine RN ?_;try with_reducible exact trivial)
   refine ⟨fun hc2=>?_,fun hc2=>?_⟩
   ·(refine RN ?_;try with_reducible exact trivial)
    rw [decide_eq_false (fun h=>hc2 (by rw [h]))]
   ·(refine RN ?_;try with_reducible exact trivial)
    refine ⟨i+1,⟨by omega,fun j hj=>?_⟩,by omega,by exact Ref.frame (by simp [sub,Ac])⟩
    rcases Nat.lt_or_ge j i with h | h
    ·exact hall j h
    ·obtain rfl:j=i:=by omega
     simpa using hc2
  ·(refine RN ?_;try with_reducible exact trivial)
   rw [decide_eq_true]
   refine List.ext_getElem hl fun j h1 h2=>?_
   have:=hall j (by omega)
   simpa [h1,h2] using this
end
section
open Go.Gov
theorem xV (xs:List Int):(Aa xs).take xs.length=Aa xs:=List.take_of_length_le (by simp [Aa])
end
end Go.Proofs.YtfofabbkigonpaaDoor
