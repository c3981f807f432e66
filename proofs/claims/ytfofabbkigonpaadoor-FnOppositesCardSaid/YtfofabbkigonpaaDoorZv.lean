/- Texts that belong together. -/
import Derived.Test.YtfofabbkigonpaaDoorZs
import Derived.Test.YtfofabbkigonpaaDoorZt
set_option linter.unusedSimpArgs false
set_option linter.unusedVariables false
set_option maxRecDepth 100000
namespace Go.Proofs.YtfofabbkigonpaaDoor
section
open Go.Gov
open Classical
theorem B6 (l:List Int)(i:Nat)(h:i<l.length):l.getD i 0=l[i]:=by simp [h]
theorem aE {xs:List Int}(h:Gz xs)(h0:∀ k,k<xs.length→0≤xs.getD k 0):∀ k:Nat,k<xs.length→(k:Int)≤xs.getD k 0
 | 0,hk=>h0 0 hk
 | k+1,hk=>by
  have h1:=aE h h0 k (by omega)
  have h2:=X6 h k hk
  omega
theorem Zw {r:Int}{R:List Int}{B:List (List Int)}(h:IsPos r R B)(x:Nat):(B.getD x []).length≤500:=by
 by_cases hx:x<B.length
 ·have h1:=h.rows.1 x hx
  have h2:=aE (h.rows.2 x) (fun k hk=>(h1 k hk).1)
  obtain ⟨_,_,a3,_⟩:=h.1
  rcases Nat.eq_zero_or_pos (B.getD x []).length with h0 | h0
  ·omega
  ·have h3:=h2 ((B.getD x []).length - 1) (by omega)
   have h4:=(h1 ((B.getD x []).length - 1) (by omega)).2
   omega
 ·simp [hx]
end
section
open Go.Gov
open Classical
def CntM (L:List Int)(m:List (Int×Int)):Prop:=(∀ d n,(d,n)∈m→n=L.count d∧d∈L)∧∀ d,d∈L→A7 d m=some (L.count d:Int)
theorem CntM.nil:CntM [] []:=⟨by simp,by simp⟩
theorem CntM.look {L:List Int}{m:List (Int×Int)}(h:CntM L m)(d:Int):A7 d m=if d∈L then some (L.count d:Int) else none:=by
 by_cases hd:d∈L
 ·rw [if_pos hd];exact h.2 d hd
 ·rw [if_neg hd]
  cases hl:A7 d m with
  | none=>rfl
  | some n=>exact absurd (h.1 d n (J8 hl)).2 hd
theorem iput_mem {m:List (Int×Int)}{d n:Int}{p:Int×Int}(hp:p∈Bg d n m):p=(d,n)∨p∈m:=by
 unfold Bg at hp
 split at hp
 ·exact (List.mem_or_eq_of_mem_set hp).symm
 ·rcases List.mem_append.1 hp with h | h
  ·exact .inr h
  ·exact .inl (by simpa using h)
def KeyN (m:List (Int×Int)):Prop:=(m.map (·.1)).Nodup
theorem jR {m:List (Int×Int)}(d n:Int):(Bg d n m).map (·.1)=if d∈m.map (·.1) then m.map (·.1) else m.map (·.1)++[d]:=by
 unfold Bg
 cases h:Ba d m with
 | none=>
  rw [if_neg (ifind_none.1 h)]
  simp
 | some q=>
  obtain ⟨i,y⟩:=q
  have h1:=Lu h
  have h2:d∈m.map (·.1):=List.mem_map.2 ⟨(d,y),List.mem_of_getElem? h1,rfl⟩
  rw [if_pos h2]
  simp only [List.map_set]
  obtain ⟨hi,he⟩:=List.getElem?_eq_some_iff.1 h1
  refine List.ext_getElem (by simp) fun j h3 h4=>?_
  rw [List.getElem_set]
  split
  ·rename_i e;subst e;simp [he]
  ·rfl
theorem KeyN.put {m:List (Int×Int)}(h:KeyN m)(d n:Int):KeyN (Bg d n m):=by
 unfold KeyN
 rw [jR]
 split
 ·exact h
 ·rename_i hd
  rw [List.nodup_append]
  exact ⟨h,by simp,fun a ha b hb e=>hd (by simp at hb;rw [← hb,← e];exact ha)⟩
theorem KeyN.uniq {m:List (Int×Int)}(h:KeyN m){d a b:Int}(ha:(d,a)∈m)(hb:(d,b)∈m):a=b:=by
 obtain ⟨i,hi,hie⟩:=List.mem_iff_getElem.1 ha
 obtain ⟨j,hj,hje⟩:=List.mem_iff_getElem.1 hb
 have h' : (m.map (·.1)).Nodup:=h
 have:i=j:=(List.getElem_inj (h₀:=by simpa using hi) (h₁:=by simpa using hj) h').1 (by simp [hie,hje])
 subst this
 rw [hie] at hje
 simpa using hje
theorem CntM.put {L:List Int}{m:List (Int×Int)}(h:CntM L m)(hk:KeyN m)(d:Int):CntM (L++[d]) (Bg d ((L.count d:Int)+1) m):=by
 refine ⟨fun e n he=>?_,fun e he=>?_⟩
 ·rcases iput_mem he with h1 | h1
  ·simp only [Prod.mk.injEq] at h1
   obtain ⟨rfl,rfl⟩:=h1
   exact ⟨by simp,by simp⟩
  ·obtain ⟨h2,h3⟩:=h.1 e n h1
   by_cases e1:e=d
   ·subst e1
    have h4:(e,(L.count e:Int)+1)∈Bg e ((L.count e:Int)+1) m:=by
     refine J8 ?_
     rw [Nw];simp
    have h5:=(hk.put e ((L.count e:Int)+1)).uniq he h4
    exact ⟨by rw [h5];simp,by simp⟩
   ·refine ⟨by rw [h2];simp [List.count_append,List.count_singleton,Ne.symm e1],by simp [h3]⟩
 ·rw [Nw]
  by_cases e1:e=d
  ·subst e1;simp
  ·rw [if_neg (by simpa using e1),h.look e,if_pos (by simpa [e1] using he)]
   simp [List.count_append,List.count_singleton,Ne.symm e1]
def iI (n:Int):AV:=i64 n
theorem jH (n:Int):iI n=i64 n:=rfl
theorem jM (l:List (Int×Int)):Cw (fun x=>i64 x) l=Cw iI l:=rfl
attribute [go_sem] jH jM
end
end Go.Proofs.YtfofabbkigonpaaDoor
