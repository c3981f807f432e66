/- Texts that belong together. -/
import Derived.Test.YtaekhhaaphgndaaGreatDoorZj
set_option linter.unusedSimpArgs false
set_option linter.unusedVariables false
set_option maxRecDepth 100000
namespace Go.Proofs.YtaekhhaaphgndaaGreatDoor
open Classical
theorem mem_sum {a b:List Int}(ha:sst a)(hb:sst b)(e:Int):e∈sumL a b ↔ ¬ (e∈a ↔ e∈b):=by
 rw [(sumL_ok a b ha hb).2 e,sst_count e ha,sst_count e hb]
 by_cases h1:e∈a<;>by_cases h2:e∈b<;>simp [h1,h2]
theorem sum_sst {a b:List Int}(ha:sst a)(hb:sst b):sst (sumL a b):=(sumL_ok a b ha hb).1
theorem sst_nil:sst []:=List.Pairwise.nil
theorem nil_sum (a:List Int):sumL [] a=a:=by simp [sumL]
theorem sum_comm {a b:List Int}(ha:sst a)(hb:sst b):sumL a b=sumL b a:=sst_ext (sum_sst ha hb) (sum_sst hb ha) fun e=>by
 rw [mem_sum ha hb,mem_sum hb ha]
 constructor<;>exact fun h h2=>h h2.symm
theorem sum_assoc {a b c:List Int}(ha:sst a)(hb:sst b)(hc:sst c):sumL (sumL a b) c=sumL a (sumL b c):=sst_ext (sum_sst (sum_sst ha hb) hc) (sum_sst ha (sum_sst hb hc)) fun e=>by
 rw [mem_sum (sum_sst ha hb) hc,mem_sum ha hb,mem_sum ha (sum_sst hb hc),mem_sum hb hc]
 by_cases h1:e∈a<;>by_cases h2:e∈b<;>by_cases h3:e∈c<;>simp [h1,h2,h3]
theorem sum_self {a:List Int}(ha:sst a):sumL a a=[]:=sst_ext (sum_sst ha ha) sst_nil fun e=>by
 rw [mem_sum ha ha];simp
theorem sum_cancel {a b:List Int}(ha:sst a)(hb:sst b):sumL a (sumL a b)=b:=by
 rw [← sum_assoc ha ha hb,sum_self ha,nil_sum]
inductive Sp (G:List Int→Prop):List Int→Prop
 | zero:Sp G []
 | add {g v:List Int}:G g→Sp G v→Sp G (sumL g v)
section
variable {G G' : List Int→Prop} {u v:List Int}
theorem Sp.sst (hG:∀ g,G g→sst g)(h:Sp G v):sst v:=by
 induction h with
 | zero=>exact sst_nil
 | add hg _ ih=>exact sum_sst (hG _ hg) ih
theorem Sp.one (h:G u):Sp G u:=by
 have:=Sp.add h Sp.zero
 rwa [sumL_nil] at this
theorem Sp.sum (hG:∀ g,G g→Proofs.YtaekhhaaphgndaaGreatDoor.sst g)(h:Sp G u)(k:Sp G v):Sp G (sumL u v):=by
 induction h with
 | zero=>rwa [nil_sum]
 | add hg h ih=>
  rw [sum_assoc (hG _ hg) (h.sst hG) (k.sst hG)]
  exact .add hg ih
theorem Sp.le (hG' : ∀ g,G' g→Proofs.YtaekhhaaphgndaaGreatDoor.sst g)(hs:∀ g,G g→Sp G' g)(h:Sp G v):Sp G' v:=by
 induction h with
 | zero=>exact .zero
 | add hg _ ih=>exact (hs _ hg).sum hG' ih
theorem Sp.ins {a:List Int}(ha:Proofs.YtaekhhaaphgndaaGreatDoor.sst a)(hG:∀ g,G g→Proofs.YtaekhhaaphgndaaGreatDoor.sst g):Sp (fun x=>x=a∨G x) v ↔ Sp G v∨∃ u,Sp G u∧v=sumL a u:=by
 constructor
 ·intro h
  induction h with
  | zero=>exact .inl .zero
  | add hg h ih=>
   rename_i g v
   rcases hg with rfl | hg
   ·rcases ih with ih | ⟨u,hu,rfl⟩
    ·exact .inr ⟨v,ih,rfl⟩
    ·left
     rw [sum_cancel ha (hu.sst hG)]
     exact hu
   ·rcases ih with ih | ⟨u,hu,rfl⟩
    ·exact .inl (.add hg ih)
    ·right
     refine ⟨sumL g u,.add hg hu,?_⟩
     have hu' := hu.sst hG
     rw [← sum_assoc (hG _ hg) ha hu', sum_comm (hG _ hg) ha,sum_assoc ha (hG _ hg) hu']
 ·have hG2:∀ g,(g=a∨G g)→Proofs.YtaekhhaaphgndaaGreatDoor.sst g:=fun g h=>h.elim (fun e=>e ▸ ha) (hG g)
  rintro (h | ⟨u,hu,rfl⟩)
  ·exact h.le hG2 fun g hg=>.one (.inr hg)
  ·exact .add (.inl rfl) (hu.le hG2 fun g hg=>.one (.inr hg))
end
def Lead (ld:List Int→Option Int):Prop:=(∀ a,ld a=none ↔ a=[])∧∀ a b,sst a→sst b→a≠[]→b≠[]→ld a≠ld b→ld (sumL a b)=ld a∨ld (sumL a b)=ld b
theorem Sp.congr {G G' : List Int→Prop}(h:∀ g,G g ↔ G' g){v:List Int}:Sp G v ↔ Sp G' v:=by
 rw [show G=G' from funext fun g=>propext (h g)]
theorem lead_sp {ld:List Int→Option Int}(hl:Lead ld):∀ (P:List (List Int)),(∀ p∈P,sst p∧p≠[])→P.Pairwise (fun p q=>ld p≠ld q)→∀ v,Sp (· ∈ P) v→v≠[]→∃ p∈P,ld p=ld v
 | [],_,_,v,h,hv=>by
  exfalso
  cases h with
  | zero=>exact hv rfl
  | add hg _=>cases hg
 | p :: P,hP,hd,v,h,hv=>by
  have hps:=hP p (by simp)
  have hPs:∀ g,g∈P→sst g:=fun g hg=>(hP g (by simp [hg])).1
  obtain ⟨hd1,hd2⟩:=List.pairwise_cons.1 hd
  have ih:=lead_sp hl P (fun q hq=>hP q (by simp [hq])) hd2
  have h' : Sp (fun x=>x=p∨x∈P) v:=(Sp.congr fun g=>List.mem_cons).1 h
  rcases (Sp.ins hps.1 hPs).1 h' with h1 | ⟨u,hu,rfl⟩
  ·obtain ⟨q,hq,he⟩:=ih v h1 hv
   exact ⟨q,by simp [hq],he⟩
  ·by_cases hun:u=[]
   ·subst hun;rw [sumL_nil];exact ⟨p,by simp,rfl⟩
   ·obtain ⟨q,hq,he⟩:=ih u hu hun
    rcases hl.2 p u hps.1 (hu.sst hPs) hps.2 hun (by rw [← he];exact hd1 q hq) with h2 | h2
    ·exact ⟨p,by simp,h2.symm⟩
    ·exact ⟨q,by simp [hq],he.trans h2.symm⟩
/-! ### Boundaries -/
section
variable {f:Int→List Int}
def bd (f:Int→List Int)(c:List Int):List Int:=(c.map f).foldl sumL []
theorem mem_bd (hf:∀ e,sst (f e))(c:List Int):sst (bd f c)∧∀ e,e∈bd f c ↔ c.countP (fun x=>decide (e∈f x))%2=1:=by
 obtain ⟨h1,h2⟩:=sums_ok (c.map f) [] sst_nil fun l hl=>by
  obtain ⟨x,_,rfl⟩:=List.mem_map.1 hl
  exact hf x
 refine ⟨h1,fun e=>?_⟩
 unfold bd
 rw [h2 e]
 have:∀ c:List Int,(c.map f).flatten.count e=c.countP (fun x=>decide (e∈f x)):=fun c=>by
  induction c with
  | nil=>rfl
  | cons x c ih=>
   rw [List.map_cons,List.flatten_cons,List.count_append,ih,List.countP_cons,sst_count e (hf x)]
   by_cases h:e∈f x
   ·simp [h];omega
   ·simp [h]
 rw [this]
 simp
theorem countP_sum (p:Int→Bool):∀ (a b:List Int),(sumL a b).countP p%2=(a.countP p+b.countP p)%2
 | [],b=>by simp [nil_sum]
 | x :: a,[]=>by simp [sumL_nil]
 | x :: a,y :: b=>by
  unfold sumL
  by_cases h1:x<y
  ·have:=countP_sum p a (y :: b)
   rw [if_pos h1,List.countP_cons,List.countP_cons]
   omega
  ·rw [if_neg h1]
   by_cases h2:y<x
   ·have:=countP_sum p (x :: a) b
    rw [if_pos h2,List.countP_cons,List.countP_cons (a:=y)]
    omega
   ·have:=countP_sum p a b
    rw [if_neg h2,List.countP_cons,List.countP_cons]
    have:x=y:=by omega
    subst this
    omega
theorem bd_sum (hf:∀ e,sst (f e))(a b:List Int):bd f (sumL a b)=sumL (bd f a) (bd f b):=sst_ext (mem_bd hf _).1 (sum_sst (mem_bd hf a).1 (mem_bd hf b).1) fun e=>by
 rw [mem_sum (mem_bd hf a).1 (mem_bd hf b).1,(mem_bd hf _).2,(mem_bd hf a).2,(mem_bd hf b).2,countP_sum]
 omega
noncomputable def NR (f:Int→List Int):List Int→List Int
 | []=>[]
 | e :: es=>if Sp (fun g=>∃ x∈es,g=f x) (f e) then NR f es else e :: NR f es
/-! ### Pivots -/
inductive Adds (P:List (List Int×List Int)):List Int×List Int→List Int×List Int→Prop
 | refl (x):Adds P x x
 | step {x y:List Int×List Int} {p:List Int×List Int}:Adds P x y→p∈P→Adds P x (sumL y.1 p.1,sumL y.2 p.2)
structure Piv (ld:List Int→Option Int) (f:Int→List Int) (es:List Int) (P:List (List Int×List Int)):Prop where
 ok:∀ p∈P,sst p.1∧sst p.2∧p.2≠[]∧bd f p.1=p.2
 dis:(P.map (·.2)).Pairwise (fun p q=>ld p≠ld q)
 sp:∀ v,Sp (· ∈ P.map (·.2)) v ↔ Sp (fun g=>∃ e∈es,g=f e) v
 nr:∀ p∈P,∀ e∈p.1,e∈NR f es
 len:P.length=(NR f es).length
def Done (ld:List Int→Option Int)(P:List (List Int×List Int))(y:List Int×List Int):Prop:=y.2=[]∨∀ p∈P,ld p.2≠ld y.2
variable {ld:List Int→Option Int} {es:List Int} {P:List (List Int×List Int)}
theorem Piv.nil:Piv ld f [] []:=⟨by simp,by simp,fun v=>Sp.congr fun g=>by simp,by simp,rfl⟩
theorem Adds.keep (hP : Piv ld f es P) {x y : List Int × List Int} (h : Adds P x y) (hf : ∀ e, sst (f e)) (h1 : sst x.1) (h2 : sst x.2) {K : List Int} (hK : sst K) (h3 : bd f x.1 = sumL x.2 K) :
    sst y.1∧sst y.2∧bd f y.1=sumL y.2 K∧(∀ e∈y.1,e∈x.1∨e∈NR f es)∧∃ s,Sp (fun g=>∃ e∈es,g=f e) s∧x.2=sumL y.2 s:=by
 have hG:∀ g,(∃ e∈es,g=f e)→sst g:=fun g ⟨e,_,h⟩=>h ▸ hf e
 induction h with
 | refl=>exact ⟨h1,h2,h3,fun e h=>.inl h,[],.zero,by rw [sumL_nil]⟩
 | step h hp ih=>
  rename_i y p
  obtain ⟨i1,i2,i3,i4,s,i5,i6⟩:=ih
  obtain ⟨p1,p2,p3,p4⟩:=hP.ok p hp
  refine ⟨sum_sst i1 p1,sum_sst i2 p2,?_,fun e he=>?_,sumL p.2 s,?_,?_⟩
  ·rw [bd_sum hf,i3,p4,sum_assoc i2 hK p2,sum_comm hK p2,← sum_assoc i2 p2 hK]
  ·have h5:=(mem_sum i1 p1 e).1 he
   by_cases h6:e∈y.1
   ·exact i4 e h6
   ·by_cases h7:e∈p.1
    ·exact .inr (hP.nr p hp e h7)
    ·exact absurd (iff_of_false h6 h7) h5
  ·exact ((hP.sp _).1 (.one (List.mem_map.2 ⟨p,hp,rfl⟩))).sum hG i5
  ·rw [i6,sum_assoc i2 p2 (sum_sst p2 (i5.sst hG)),sum_cancel p2 (i5.sst hG)]
theorem Adds.zero (hl : Lead ld) (hP : Piv ld f es P) {x y : List Int × List Int} (h : Adds P x y) (hf : ∀ e, sst (f e)) (h1 : sst x.1) (h2 : sst x.2) {K : List Int} (hK : sst K) (h3 : bd f x.1 = sumL x.2 K) (hd : Done ld P y) :
    y.2=[] ↔ Sp (fun g=>∃ e∈es,g=f e) x.2:=by
 have hG:∀ g,(∃ e∈es,g=f e)→sst g:=fun g ⟨e,_,h⟩=>h ▸ hf e
 obtain ⟨i1,i2,i3,i4,s,i5,i6⟩:=h.keep hP hf h1 h2 hK h3
 constructor
 ·intro h4
  rw [i6,h4,nil_sum];exact i5
 ·intro h4
  rcases Classical.em (y.2=[]) with h5 | h5
  ·exact h5
  ·exfalso
   have h6:Sp (fun g=>∃ e∈es,g=f e) y.2:=by
    have h7:=h4.sum hG i5
    rwa [i6,sum_assoc i2 (i5.sst hG) (i5.sst hG),sum_self (i5.sst hG),sumL_nil] at h7
   obtain ⟨q,hq,he⟩:=lead_sp hl (P.map (·.2)) (fun p hp=>by
    obtain ⟨q,hq,rfl⟩:=List.mem_map.1 hp
    exact ⟨(hP.ok q hq).2.1,(hP.ok q hq).2.2.1⟩) hP.dis y.2 ((hP.sp _).2 h6) h5
   obtain ⟨p,hp,rfl⟩:=List.mem_map.1 hq
   rcases hd with hd | hd
   ·exact h5 hd
   ·exact hd p hp he
end
end Go.Proofs.YtaekhhaaphgndaaGreatDoor
