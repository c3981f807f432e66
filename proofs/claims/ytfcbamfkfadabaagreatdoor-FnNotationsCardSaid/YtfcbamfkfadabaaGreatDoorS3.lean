/- Texts that belong together. -/
import Derived.Test.YtfcbamfkfadabaaGreatDoorRc
set_option linter.unusedSimpArgs false
set_option linter.unusedVariables false
set_option maxRecDepth 100000
namespace Go.Proofs.YtfcbamfkfadabaaGreatDoor
open Go.Cl
def stC (b:UInt8)(c:Int×Int×Int):Int×Int×Int:=
 if b=100 then (c.2.2,c.2.1,c.1) else if b=97 then (c.2.1,2*c.2.1,c.1+c.2.2) else if b=116 then (2*c.2.1,3*c.2.1,c.1+c.2.2) else (c.1+2*c.2.1,4*c.2.1,c.2.2+c.2.1)
noncomputable def vef (M:List (List Int)):Int×Int×Int:=((vN (fl M) M:Int),(eN (fl M) M:Int),(fN (fl M) M:Int))
def vefL (c:Int×Int×Int):List Int:=[c.1,c.2.1,c.2.2]
theorem vefL_inj {c d:Int×Int×Int}(h:vefL c=vefL d):c=d:=by
 obtain ⟨a,b,e⟩:=c
 obtain ⟨a', b', e'⟩:=d
 simp only [vefL,List.cons.injEq,and_true] at h
 obtain ⟨rfl,rfl,rfl⟩:=h
 rfl
theorem fc_vef {M:List (List Int)}(hM:IsMap M):fcV (fl M) M M.length=vefL (vef M):=fcV_three hM.2
theorem vef_step {M:List (List Int)}(hM:IsMap M){b:UInt8}(hb:Ltr b)(hA:IsMap (apM M (bT b) 3)):vef (apM M (bT b) 3)=stC b (vef M):=by
 have key:∀ i,i<4→b=ltrs.getD i 0→vef (apM M (bT b) 3)=stC b (vef M):=fun i hi e=>by
  have h:=due_ok hM i hi
  rw [← e,fc_vef hA] at h
  refine vefL_inj (h.trans ?_)
  match i,hi with
  | 0,_=>subst e;rfl
  | 1,_=>subst e;rfl
  | 2,_=>subst e;rfl
  | 3,_=>subst e;rfl
 rcases hb with h | h | h | h
 ·exact key 0 (by omega) h
 ·exact key 1 (by omega) h
 ·exact key 2 (by omega) h
 ·exact key 3 (by omega) h
end Go.Proofs.YtfcbamfkfadabaaGreatDoor
