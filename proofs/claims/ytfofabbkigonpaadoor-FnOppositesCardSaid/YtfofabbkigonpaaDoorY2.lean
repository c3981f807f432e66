/- Texts that belong together. -/
import Derived.Test.YtfofabbkigonpaaDoorZv
import Derived.Test.YtfofabbkigonpaaDoorY1
set_option linter.unusedSimpArgs false
set_option linter.unusedVariables false
set_option maxRecDepth 100000
namespace Go.Proofs.YtfofabbkigonpaaDoor
section
open Go.Gov
open Classical
def D3 (R:List Int)(i:Int)(k:Nat):List Int:=((List.range k).filter fun e=>decide (R.getD e 0=i)).map fun e:Nat=>(e:Int)
def Ge (R:List Int)(i:Int):List Int:=D3 R i R.length
theorem sJ (R:List Int)(i:Int)(k:Nat):D3 R i (k+1)=if R.getD k 0=i then D3 R i k++[(k:Int)] else D3 R i k:=by
 unfold D3
 rw [List.range_succ,List.filter_append,List.map_append]
 by_cases h:R.getD k 0=i
 ·rw [if_pos h,List.filter_cons_of_pos (by simpa using h)];rfl
 ·rw [if_neg h,List.filter_cons_of_neg (by simpa using h)];simp
theorem Zi (R:List Int)(i:Int)(k:Nat):(D3 R i k).length≤k:=by
 unfold D3
 rw [List.length_map]
 have:=List.length_filter_le (fun e=>decide (R.getD e 0=i)) (List.range k)
 rwa [List.length_range] at this
theorem mem_plcN {R:List Int}{i:Int}{k:Nat}{e:Int}:e∈D3 R i k ↔ 0≤e∧e<k∧R.getD e.toNat 0=i:=by
 unfold D3
 simp only [List.mem_map,List.mem_filter,List.mem_range,decide_eq_true_eq]
 constructor
 ·rintro ⟨n,⟨h1,h2⟩,rfl⟩
  exact ⟨by omega,by omega,by simpa using h2⟩
 ·rintro ⟨h1,h2,h3⟩
  exact ⟨e.toNat,⟨by omega,h3⟩,by omega⟩
theorem rW (R:List Int)(i:Int)(h1:R.length≤1048576):Ao Tryd.prog 87 [Ad R,i64 i] (.sl 0 1 0 (Ge R i).length) [some (Aa (Ge R i))]:=by
 unfold Ge
 refine Rz [0] qM rfl ?_;unfold Vc
 refine RN ?_
 refine Ak (α:=Nat) (S:=fun k=>([(1,i64 i),(5,.sl 0 1 0 (D3 R i k).length),(8,Ad R),(9,i64 R.length),(10,i64 k)],[some (Aa (D3 R i k))])) (C:=fun k=>k≤R.length) (μ:=fun k=>R.length - k) 0 (by omega) ((Ref.nil 5 1 rfl).trans (Ref.to (by simp [Aa,D3]) (by simp [sub,Ac,D3]))) ?_
 intro k hk
 have hln:=Zi R i k
 have hst:=sJ R i k
 generalize hL:D3 R i k=L at hln hst ⊢
 refine RN ?_
 refine ⟨fun hc=>?_,fun hc=>?_⟩
 ·(refine RN ?_;try with_reducible exact trivial)
  refine ⟨fun hc2=>?_,fun hc2=>?_⟩
  ·rw [if_pos (by first | exact hc2 | exact hc2.symm)] at hst
   refine RN ?_
   refine ⟨k+1,by omega,by omega,?_⟩
   rw [hst]
   refine Ref.gc [2] rfl ?_ (by simp [sub,Ac,go_sem,↓reduceIte,Nat.reduceEqDiff,Nat.reduceAdd,reduceCtorEq])
   (try simp only [go_sem,↓reduceIte,Nat.reduceEqDiff,Nat.reduceAdd,reduceCtorEq,xV,Rr,La])
  ·rw [if_neg (by first | exact hc2 | exact fun h=>hc2 h.symm)] at hst
   refine RN ?_
   refine ⟨k+1,by omega,by omega,?_⟩
   rw [hst]
   exact Ref.frame (by simp [sub,Ac])
 ·obtain rfl:k=R.length:=by omega
  subst hL
  (refine RN ?_;try with_reducible exact trivial)
  (try simp only [go_sem,↓reduceIte,Nat.reduceEqDiff,Nat.reduceAdd,reduceCtorEq,and_self])
end
section
open Go.Gov
open Classical
abbrev Pr:=List Int×List Int
def P0:Pr:=([],[])
def Hc:List Pr→List (List Int)
 | []=>[]
 | p :: l=>p.1 :: p.2 :: Hc l
theorem Wd:∀ P:List Pr,(Hc P).length=P.length*2
 | []=>rfl
 | p :: l=>by rw [Hc,List.length_cons,List.length_cons,Wd l,List.length_cons];omega
theorem Wb:∀ (l:List Pr) (i:Nat),(Hc l).getD (i*2) []=(l.getD i P0).1
 | [],i=>by simp [Hc,P0]
 | p :: l,0=>rfl
 | p :: l,i+1=>by
  rw [show (i+1)*2=i*2+1+1 by omega,Hc,List.getD_cons_succ,List.getD_cons_succ,Wb l i,List.getD_cons_succ]
theorem Wc:∀ (l:List Pr) (i:Nat),(Hc l).getD (i*2+1) []=(l.getD i P0).2
 | [],i=>by simp [Hc,P0]
 | p :: l,0=>rfl
 | p :: l,i+1=>by
  rw [show (i+1)*2+1=(i*2+1)+1+1 by omega,Hc,List.getD_cons_succ,List.getD_cons_succ,Wc l i,List.getD_cons_succ]
attribute [go_sem] Wb Wc Wd
end
end Go.Proofs.YtfofabbkigonpaaDoor
