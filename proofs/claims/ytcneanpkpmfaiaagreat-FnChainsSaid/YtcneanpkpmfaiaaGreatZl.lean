/- Texts that belong together. -/
import Derived.Test.YtcneanpkpmfaiaaGreatZk
set_option linter.unusedSimpArgs false
set_option linter.unusedVariables false
set_option maxRecDepth 100000
namespace Go.Proofs.YtcneanpkpmfaiaaGreat
section
open Go.Gov
abbrev Bw (M:List (List Int)):AV:=.agg [Ae M]
end
section
open Go.Gov
def oth (M:List (List Int))(i k:Nat):List (List Int):=(M.take k).take i++(M.take k).drop (i+1)
theorem cY {M:List (List Int)}{i k:Nat}(hk:k≤M.length):(oth M i k).length=if i<k then k - 1 else k:=by
 unfold oth
 simp only [List.length_append,List.length_take,List.length_drop]
 split<;>omega
theorem yQ {M:List (List Int)}{i k:Nat}(hk:k<M.length):oth M i (k+1)=oth M i k++if k=i then [] else [M.getD k []]:=by
 have e:M.take (k+1)=M.take k++[M.getD k []]:=by rw [List.take_succ_eq_append_getElem hk];simp [hk]
 have hl:(M.take k).length=k:=by simp;omega
 unfold oth
 rw [e]
 rcases Nat.lt_trichotomy k i with h | h | h
 ·rw [if_neg (by omega),List.take_of_length_le (by simp;omega),List.drop_of_length_le (by simp;omega),List.take_of_length_le (l:=M.take k) (by simp;omega),List.drop_of_length_le (l:=M.take k) (by simp;omega)]
  simp
 ·subst h
  rw [if_pos rfl,List.take_append_of_le_length (by omega),List.drop_of_length_le (by simp;omega),List.drop_of_length_le (l:=M.take k) (by omega)]
  simp
 ·rw [if_neg (by omega),List.take_append_of_le_length (by omega),List.drop_append_of_le_length (by omega),List.append_assoc]
theorem cZ {M:List (List Int)}{i k:Nat}{p:List Int}(h:p∈oth M i k):p∈M:=by
 unfold oth at h
 rcases List.mem_append.1 h with h | h
 ·exact List.mem_of_mem_take (List.mem_of_mem_take h)
 ·exact List.mem_of_mem_take (List.mem_of_mem_drop h)
theorem MvOk.oth {n:Nat}{M:List (List Int)}(h:MvOk n M)(i k:Nat):MvOk n (oth M i k):=fun p hp=>h p (cZ hp)
theorem yL (r:List Int)(M:List (List Int)):M.map Ac++[Ac r]=(M++[r]).map Ac:=by simp
set_option maxHeartbeats 2000000 in
theorem pE (M:List (List Int))(i:Int)(hl:M.length≤1048576)(hi:0≤i):Pure Tryz.prog 119 [Bw M,Ac [i]] (.sl 0 1 0 (oth M i.toNat M.length).length) [some ((oth M i.toNat M.length).map Ac)]:=by
 refine Gc [1] uY rfl ?_;unfold Vz
 refine RN ?_
 refine Aj (α:=Nat) (S:=fun k=>([(1,Ac [i]),(2,.ref 0 0),(5,.sl 1 1 0 (oth M i.toNat k).length),(6,i64 k)],[some [Ae M],some ((oth M i.toNat k).map Ac)])) (C:=fun k=>k≤M.length) (μ:=fun k=>M.length - k) 0 (by omega) (Ref.to (by simp [oth]) (by simp [sub,Ab,oth])) ?_
 intro k hk
 have hol:=cY (i:=i.toNat) hk
 have hol2:(oth M i.toNat k).length≤k:=by rw [hol];split<;>omega
 refine RN ?_
 refine ⟨fun hc=>?_,fun hc=>?_⟩
 ·have hk' : k<M.length:=by omega
  have hst:=yQ (i:=i.toNat) hk'
  refine RN ?_
  refine Am (Te [i] k (by simp)) ?_
  refine RN ?_
  refine ⟨fun hc1=>?_,fun hc1=>?_⟩
  ·have hne:¬ k=i.toNat:=by (try simp at hc1);omega
   rw [if_neg hne] at hst
   refine RN ?_
   refine ⟨k+1,by omega,by omega,?_⟩
   rw [hst]
   refine Ref.gc [0,3] rfl ?_ (by simp [sub,Ab,go_sem,↓reduceIte,Nat.reduceEqDiff,Nat.reduceAdd,reduceCtorEq])
   have e1:((oth M i.toNat k).map Ac).take (oth M i.toNat k).length=(oth M i.toNat k).map Ac:=List.take_of_length_le (by simp)
   (try simp only [go_sem,↓reduceIte,Nat.reduceEqDiff,Nat.reduceAdd,reduceCtorEq,e1,yL])
  ·have he:k=i.toNat:=by (try simp at hc1);omega
   rw [if_pos he,List.append_nil] at hst
   refine RN ?_
   refine ⟨k+1,by omega,by omega,?_⟩
   rw [hst]
   exact Ref.frame (by simp [sub,Ab])
 ·obtain rfl:k=M.length:=by omega
  (refine RN ?_;try with_reducible exact trivial)
  (try simp only [go_sem,↓reduceIte,Nat.reduceEqDiff,Nat.reduceAdd,reduceCtorEq,and_self])
end
section
open Go.Gov
theorem Jw (M:List (List Int))(h0:0<M.length)(hl:M.length≤1048576)(hr:(M.getD 0 []).length≤1048576):Pure Tryz.prog 88 [Bw M] (i64 (M.getD 0 []).length) []:=by
 refine Bj xT rfl rfl ?_;unfold Xv
 (refine RN ?_;try with_reducible exact trivial)
 try rfl
end
section
open Go.Gov
theorem Adk (L:List (List Int)):(L.map Ac).take (L.length*1)=L.map Ac:=List.take_of_length_le (by simp)
theorem Adl (L:List (List Int))(r:List Int):((L++[r]).map Ac).take (L.length*1)=L.map Ac:=by
 rw [← List.map_take,Nat.mul_one,List.take_left']
 rfl
end
end Go.Proofs.YtcneanpkpmfaiaaGreat
