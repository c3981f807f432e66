/- Texts that belong together. -/
import Derived.Test.YtaekhhaaphgndaaRb
set_option linter.unusedSimpArgs false
set_option linter.unusedVariables false
set_option maxRecDepth 100000
namespace Go.Proofs.Ytaekhhaaphgndaa
open Go.Gov
open Classical
set_option maxHeartbeats 4000000 in
theorem drawFacePoset_e (bs:List Int)(hb:Byt bs):PureE Try.prog 5 [bytA' bs] (fun M:List (List Int)=>Gd 401 M) (fun M=>maniA M) (fun _=>[]):=by
 have hf:=l01From_p bs hb
 unfold bytA' at *
 refine pureREV ok5 rfl ?_;unfold c5
 refine RN ?_
 refine pureEG hf (by first | rfl | simp only [go_sem,↓reduceIte,Nat.reduceEqDiff,Nat.reduceAdd,reduceCtorEq]) fun h0 _=>?_
 refine RN ?_
 refine wriEF (l01Pick_w2 bs hb 0 h0 (Nat.zero_le _) [40,40,100] (by simp) (by simp)) [1,2] (by first | rfl | simp) (by simp only [go_sem,↓reduceIte,Nat.reduceEqDiff,Nat.reduceAdd,reduceCtorEq]<;>rfl) (by simp only [go_sem,↓reduceIte,Nat.reduceEqDiff,Nat.reduceAdd,reduceCtorEq]<;>rfl) fun o ho=>?_
 obtain ⟨a2,b2,k⟩:=o
 obtain ⟨r1,r2⟩:=ho
 dsimp only at r1 r2
 simp only [List.length_cons,List.length_nil] at r2
 have hm:∃ most:Nat,16≤most∧most≤100∧[(40:Int),40,100].getD k 0=(most:Int):=by
  rcases (by omega:k=0∨k=1∨k=2) with rfl | rfl | rfl
  ·exact ⟨40,by omega,by omega,rfl⟩
  ·exact ⟨40,by omega,by omega,rfl⟩
  ·exact ⟨100,by omega,by omega,rfl⟩
 obtain ⟨most,m1,m2,m3⟩:=hm
 rw [m3]
 refine RN ?_
 refine wriEF (l02Spoil_w bs hb a2 b2 r1 most m1 (by omega)) [1] (by first | rfl | simp) (by simp only [go_sem,↓reduceIte,Nat.reduceEqDiff,Nat.reduceAdd,reduceCtorEq]<;>rfl) (by simp only [go_sem,↓reduceIte,Nat.reduceEqDiff,Nat.reduceAdd,reduceCtorEq]<;>rfl) fun o ho=>?_
 obtain ⟨a3,b3,M⟩:=o
 obtain ⟨s1,s2⟩:=ho
 dsimp only at s1 s2
 refine RN ?_
 exact ⟨M,s2.mono (by omega),Ref.gc2 []⟩
end Go.Proofs.Ytaekhhaaphgndaa
