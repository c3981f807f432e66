/- Texts that belong together. -/
import Derived.Test.YtfofabbkigonpaaDoorZk
set_option linter.unusedSimpArgs false
set_option linter.unusedVariables false
set_option maxRecDepth 100000
namespace Go.Proofs.YtfofabbkigonpaaDoor
section
open Go.Gov
abbrev C2 (M:List (List Int)):AV:=.agg [Ae M]
end
section
open Go.Gov
def oth (M:List (List Int))(i k:Nat):List (List Int):=(M.take k).take i++(M.take k).drop (i+1)
theorem Zc {M:List (List Int)}{i k:Nat}(hk:k≤M.length):(oth M i k).length=if i<k then k - 1 else k:=by
 unfold oth
 simp only [List.length_append,List.length_take,List.length_drop]
 split<;>omega
theorem rS {M:List (List Int)}{i k:Nat}(hk:k<M.length):oth M i (k+1)=oth M i k++if k=i then [] else [M.getD k []]:=by
 have e:M.take (k+1)=M.take k++[M.getD k []]:=by rw [List.take_succ_eq_append_getElem hk];simp [hk]
 have hl:(M.take k).length=k:=by simp;omega
 unfold oth
 rw [e]
 rcases Nat.lt_trichotomy k i with h | h | h
 ·rw [if_neg (by omega),List.take_of_length_le (by simp;omega),List.drop_of_length_le (by simp;omega),List.take_of_length_le (l:=M.take k) (by simp;omega),List.drop_of_length_le (l:=M.take k) (by simp;omega)]
  simp
 ·subst h
  rw [if_pos rfl,List.take_append_of_le_length (by omega),List.drop_of_length_le (by simp;omega),List.drop_of_length_le (l:=M.take k) (by omega)]
  simp
 ·rw [if_neg (by omega),List.take_append_of_le_length (by omega),List.drop_append_of_le_length (by omega),List.append_assoc]
theorem Zd {M:List (List Int)}{i k:Nat}{p:List Int}(h:p∈oth M i k):p∈M:=by
 unfold oth at h
 rcases List.mem_append.1 h with h | h
 ·exact List.mem_of_mem_take (List.mem_of_mem_take h)
 ·exact List.mem_of_mem_take (List.mem_of_mem_drop h)
theorem MvOk.oth {n:Nat}{M:List (List Int)}(h:MvOk n M)(i k:Nat):MvOk n (oth M i k):=fun p hp=>h p (Zd hp)
theorem rC (r:List Int)(M:List (List Int)):M.map Ad++[Ad r]=(M++[r]).map Ad:=by simp
set_option maxHeartbeats 2000000 in
theorem kP (M:List (List Int))(i:Int)(hl:M.length≤1048576)(hi:0≤i):Ao Tryd.prog 100 [C2 M,Ad [i]] (.sl 0 1 0 (oth M i.toNat M.length).length) [some ((oth M i.toNat M.length).map Ad)]:=by
 refine Rz [1] nY rfl ?_;unfold Tp
 refine RN ?_
 refine Ak (α:=Nat) (S:=fun k=>([(1,Ad [i]),(2,.ref 0 0),(5,.sl 1 1 0 (oth M i.toNat k).length),(6,i64 k)],[some [Ae M],some ((oth M i.toNat k).map Ad)])) (C:=fun k=>k≤M.length) (μ:=fun k=>M.length - k) 0 (by omega) (Ref.to (by simp [oth]) (by simp [sub,Ac,oth])) ?_
 intro k hk
 have hol:=Zc (i:=i.toNat) hk
 have hol2:(oth M i.toNat k).length≤k:=by rw [hol];split<;>omega
 refine RN ?_
 refine ⟨fun hc=>?_,fun hc=>?_⟩
 ·have hk' : k<M.length:=by omega
  have hst:=rS (i:=i.toNat) hk'
  refine RN ?_
  refine An (Q8 [i] k (by simp)) ?_
  refine RN ?_
  refine ⟨fun hc1=>?_,fun hc1=>?_⟩
  ·have hne:¬ k=i.toNat:=by (try simp at hc1);omega
   rw [if_neg hne] at hst
   refine RN ?_
   refine ⟨k+1,by omega,by omega,?_⟩
   rw [hst]
   refine Ref.gc [0,3] rfl ?_ (by simp [sub,Ac,go_sem,↓reduceIte,Nat.reduceEqDiff,Nat.reduceAdd,reduceCtorEq])
   have e1:((oth M i.toNat k).map Ad).take (oth M i.toNat k).length=(oth M i.toNat k).map Ad:=List.take_of_length_le (by simp)
   (try simp only [go_sem,↓reduceIte,Nat.reduceEqDiff,Nat.reduceAdd,reduceCtorEq,e1,rC])
  ·have he:k=i.toNat:=by (try simp at hc1);omega
   rw [if_pos he,List.append_nil] at hst
   refine RN ?_
   refine ⟨k+1,by omega,by omega,?_⟩
   rw [hst]
   exact Ref.frame (by simp [sub,Ac])
 ·obtain rfl:k=M.length:=by omega
  (refine RN ?_;try with_reducible exact trivial)
  (try simp only [go_sem,↓reduceIte,Nat.reduceEqDiff,Nat.reduceAdd,reduceCtorEq,and_self])
end
section
open Go.Gov
theorem J9 (M:List (List Int))(h0:0<M.length)(hl:M.length≤1048576)(hr:(M.getD 0 []).length≤1048576):Ao Tryd.prog 74 [C2 M] (i64 (M.getD 0 []).length) []:=by
 refine Gf pZ rfl rfl ?_;unfold Uz
 (refine RN ?_;try with_reducible exact trivial)
 try rfl
end
section
open Go.Gov
theorem xY (L:List (List Int)):(L.map Ad).take (L.length*1)=L.map Ad:=List.take_of_length_le (by simp)
theorem xZ (L:List (List Int))(r:List Int):((L++[r]).map Ad).take (L.length*1)=L.map Ad:=by
 rw [← List.map_take,Nat.mul_one,List.take_left']
 rfl
end
end Go.Proofs.YtfofabbkigonpaaDoor
