/- Texts that belong together. -/
import Derived.Test.YtcneanpkpmfaiaaGreatZj
set_option linter.unusedSimpArgs false
set_option linter.unusedVariables false
set_option maxRecDepth 100000
namespace Go.Proofs.YtcneanpkpmfaiaaGreat
open Classical
theorem Dt {a b:List Int}(ha:sst a)(hb:sst b)(e:Int):e∈Ag a b ↔ ¬ (e∈a ↔ e∈b):=by
 rw [(Kj a b ha hb).2 e,Jb e ha,Jb e hb]
 by_cases h1:e∈a<;>by_cases h2:e∈b<;>simp [h1,h2]
theorem Bt {a b:List Int}(ha:sst a)(hb:sst b):sst (Ag a b):=(Kj a b ha hb).1
theorem Es:sst []:=List.Pairwise.nil
theorem Lo (e:Int):sst [e]:=List.pairwise_singleton _ _
theorem H4 (a:List Int):Ag [] a=a:=by simp [Ag]
theorem eU {a b:List Int}(ha:sst a)(hb:sst b):Ag a b=Ag b a:=Kh (Bt ha hb) (Bt hb ha) fun e=>by
 rw [Dt ha hb,Dt hb ha]
 constructor<;>exact fun h h2=>h h2.symm
theorem Gw {a b c:List Int}(ha:sst a)(hb:sst b)(hc:sst c):Ag (Ag a b) c=Ag a (Ag b c):=Kh (Bt (Bt ha hb) hc) (Bt ha (Bt hb hc)) fun e=>by
 rw [Dt (Bt ha hb) hc,Dt ha hb,Dt ha (Bt hb hc),Dt hb hc]
 by_cases h1:e∈a<;>by_cases h2:e∈b<;>by_cases h3:e∈c<;>simp [h1,h2,h3]
theorem Lr {a:List Int}(ha:sst a):Ag a a=[]:=Kh (Bt ha ha) Es fun e=>by
 rw [Dt ha ha];simp
theorem Qn {a b:List Int}(ha:sst a)(hb:sst b):Ag a (Ag a b)=b:=by
 rw [← Gw ha ha hb,Lr ha,H4]
theorem Ada {a b:List Int}(ha:sst a)(hb:sst b)(h:Ag a b=[]):a=b:=by
 have:=Qn ha hb
 rw [h,Gv] at this
 exact this
inductive Sp (G:List Int→Prop):List Int→Prop
 | zero:Sp G []
 | add {g v:List Int}:G g→Sp G v→Sp G (Ag g v)
section
variable {G G' : List Int→Prop} {u v:List Int}
theorem Sp.sst (hG:∀ g,G g→sst g)(h:Sp G v):sst v:=by
 induction h with
 | zero=>exact Es
 | add hg _ ih=>exact Bt (hG _ hg) ih
theorem Sp.one (h:G u):Sp G u:=by
 have:=Sp.add h Sp.zero
 rwa [Gv] at this
theorem Sp.sum (hG:∀ g,G g→Proofs.YtcneanpkpmfaiaaGreat.sst g)(h:Sp G u)(k:Sp G v):Sp G (Ag u v):=by
 induction h with
 | zero=>rwa [H4]
 | add hg h ih=>
  rw [Gw (hG _ hg) (h.sst hG) (k.sst hG)]
  exact .add hg ih
theorem Sp.le (hG' : ∀ g,G' g→Proofs.YtcneanpkpmfaiaaGreat.sst g)(hs:∀ g,G g→Sp G' g)(h:Sp G v):Sp G' v:=by
 induction h with
 | zero=>exact .zero
 | add hg _ ih=>exact (hs _ hg).sum hG' ih
theorem Sp.ins {a:List Int}(ha:Proofs.YtcneanpkpmfaiaaGreat.sst a)(hG:∀ g,G g→Proofs.YtcneanpkpmfaiaaGreat.sst g):Sp (fun x=>x=a∨G x) v ↔ Sp G v∨∃ u,Sp G u∧v=Ag a u:=by
 constructor
 ·intro h
  induction h with
  | zero=>exact .inl .zero
  | add hg h ih=>
   rename_i g v
   rcases hg with rfl | hg
   ·rcases ih with ih | ⟨u,hu,rfl⟩
    ·exact .inr ⟨v,ih,rfl⟩
    ·left
     rw [Qn ha (hu.sst hG)]
     exact hu
   ·rcases ih with ih | ⟨u,hu,rfl⟩
    ·exact .inl (.add hg ih)
    ·right
     refine ⟨Ag g u,.add hg hu,?_⟩
     have hu' := hu.sst hG
     rw [← Gw (hG _ hg) ha hu', eU (hG _ hg) ha,Gw ha (hG _ hg) hu']
 ·have hG2:∀ g,(g=a∨G g)→Proofs.YtcneanpkpmfaiaaGreat.sst g:=fun g h=>h.elim (fun e=>e ▸ ha) (hG g)
  rintro (h | ⟨u,hu,rfl⟩)
  ·exact h.le hG2 fun g hg=>.one (.inr hg)
  ·exact .add (.inl rfl) (hu.le hG2 fun g hg=>.one (.inr hg))
end
def Ik (ld:List Int→Option Int):Prop:=(∀ a,ld a=none ↔ a=[])∧∀ a b,sst a→sst b→a≠[]→b≠[]→ld a≠ld b→ld (Ag a b)=ld a∨ld (Ag a b)=ld b
theorem aO:Ik List.head?:=by
 refine ⟨fun a=>by simp,fun a b _ _ ha hb hne=>?_⟩
 cases a with
 | nil=>exact absurd rfl ha
 | cons x a=>
  cases b with
  | nil=>exact absurd rfl hb
  | cons y b=>
   have hxy:x≠y:=by simpa using hne
   unfold Ag
   by_cases h1:x<y
   ·simp [h1]
   ·have h2:y<x:=by omega
    simp [h1,h2]
theorem Jy {a:List Int}(ha:sst a){m:Int}:a.getLast? = some m ↔ m∈a∧∀ x∈a,x≤m:=by
 induction a with
 | nil=>simp
 | cons x a ih=>
  obtain ⟨h1,h2⟩:=List.pairwise_cons.1 ha
  have ih:=ih h2
  cases a with
  | nil=>
   simp only [List.getLast?_singleton,Option.some.injEq,List.mem_singleton]
   constructor
   ·rintro rfl;simp
   ·exact fun h=>h.1.symm
  | cons y a=>
   rw [List.getLast?_cons_cons,ih]
   constructor
   ·rintro ⟨h3,h4⟩
    refine ⟨List.mem_cons_of_mem _ h3,fun z hz=>?_⟩
    rcases List.mem_cons.1 hz with rfl | hz
    ·have:=h1 m h3;omega
    ·exact h4 z hz
   ·rintro ⟨h3,h4⟩
    refine ⟨?_,fun z hz=>h4 z (List.mem_cons_of_mem _ hz)⟩
    rcases List.mem_cons.1 h3 with rfl | h3
    ·have h5:=h1 y (by simp)
     have h6:=h4 y (by simp)
     omega
    ·exact h3
theorem Tp:Ik List.getLast?:=by
 refine ⟨fun a=>by simp,fun a b ha hb hna hnb hne=>?_⟩
 obtain ⟨m,hm⟩:=Option.isSome_iff_exists.1 (show a.getLast?.isSome=true by cases a<;>simp_all)
 obtain ⟨n,hn⟩:=Option.isSome_iff_exists.1 (show b.getLast?.isSome=true by cases b<;>simp_all)
 have hmn:m≠n:=by rintro rfl;exact hne (hm.trans hn.symm)
 obtain ⟨h1,h2⟩:=(Jy ha).1 hm
 obtain ⟨h3,h4⟩:=(Jy hb).1 hn
 have key:∀ z,z∈Ag a b→z∈a∨z∈b:=fun z hz=>by
  have:=(Dt ha hb z).1 hz
  by_cases h5:z∈a
  ·exact .inl h5
  ·right
   by_cases h6:z∈b
   ·exact h6
   ·exact absurd (iff_of_false h5 h6) this
 rcases Int.lt_or_gt_of_ne hmn with h | h
 ·right
  rw [hn,Jy (Bt ha hb)]
  refine ⟨(Dt ha hb n).2 fun h5=>?_,fun z hz=>?_⟩
  ·have:=h2 n (h5.2 h3);omega
  ·rcases key z hz with h5 | h5
   ·have:=h2 z h5;omega
   ·exact h4 z h5
 ·left
  rw [hm,Jy (Bt ha hb)]
  refine ⟨(Dt ha hb m).2 fun h5=>?_,fun z hz=>?_⟩
  ·have:=h4 m (h5.1 h1);omega
  ·rcases key z hz with h5 | h5
   ·exact h2 z h5
   ·have:=h4 z h5;omega
theorem Sp.congr {G G' : List Int→Prop}(h:∀ g,G g ↔ G' g){v:List Int}:Sp G v ↔ Sp G' v:=by
 rw [show G=G' from funext fun g=>propext (h g)]
theorem aP {ld:List Int→Option Int}(hl:Ik ld):∀ (P:List (List Int)),(∀ p∈P,sst p∧p≠[])→P.Pairwise (fun p q=>ld p≠ld q)→∀ v,Sp (· ∈ P) v→v≠[]→∃ p∈P,ld p=ld v
 | [],_,_,v,h,hv=>by
  exfalso
  cases h with
  | zero=>exact hv rfl
  | add hg _=>cases hg
 | p :: P,hP,hd,v,h,hv=>by
  have hps:=hP p (by simp)
  have hPs:∀ g,g∈P→sst g:=fun g hg=>(hP g (by simp [hg])).1
  obtain ⟨hd1,hd2⟩:=List.pairwise_cons.1 hd
  have ih:=aP hl P (fun q hq=>hP q (by simp [hq])) hd2
  have h' : Sp (fun x=>x=p∨x∈P) v:=(Sp.congr fun g=>List.mem_cons).1 h
  rcases (Sp.ins hps.1 hPs).1 h' with h1 | ⟨u,hu,rfl⟩
  ·obtain ⟨q,hq,he⟩:=ih v h1 hv
   exact ⟨q,by simp [hq],he⟩
  ·by_cases hun:u=[]
   ·subst hun;rw [Gv];exact ⟨p,by simp,rfl⟩
   ·obtain ⟨q,hq,he⟩:=ih u hu hun
    rcases hl.2 p u hps.1 (hu.sst hPs) hps.2 hun (by rw [← he];exact hd1 q hq) with h2 | h2
    ·exact ⟨p,by simp,h2.symm⟩
    ·exact ⟨q,by simp [hq],he.trans h2.symm⟩
/-! ### Boundaries -/
section
variable {f:Int→List Int}
def bd (f:Int→List Int)(c:List Int):List Int:=(c.map f).foldl Ag []
theorem Gq (hf:∀ e,sst (f e))(c:List Int):sst (bd f c)∧∀ e,e∈bd f c ↔ c.countP (fun x=>decide (e∈f x))%2=1:=by
 obtain ⟨h1,h2⟩:=Qo (c.map f) [] Es fun l hl=>by
  obtain ⟨x,_,rfl⟩:=List.mem_map.1 hl
  exact hf x
 refine ⟨h1,fun e=>?_⟩
 unfold bd
 rw [h2 e]
 have:∀ c:List Int,(c.map f).flatten.count e=c.countP (fun x=>decide (e∈f x)):=fun c=>by
  induction c with
  | nil=>rfl
  | cons x c ih=>
   rw [List.map_cons,List.flatten_cons,List.count_append,ih,List.countP_cons,Jb e (hf x)]
   by_cases h:e∈f x
   ·simp [h];omega
   ·simp [h]
 rw [this]
 simp
theorem O1 (p:Int→Bool):∀ (a b:List Int),(Ag a b).countP p%2=(a.countP p+b.countP p)%2
 | [],b=>by simp [H4]
 | x :: a,[]=>by simp [Gv]
 | x :: a,y :: b=>by
  unfold Ag
  by_cases h1:x<y
  ·have:=O1 p a (y :: b)
   rw [if_pos h1,List.countP_cons,List.countP_cons]
   omega
  ·rw [if_neg h1]
   by_cases h2:y<x
   ·have:=O1 p (x :: a) b
    rw [if_pos h2,List.countP_cons,List.countP_cons (a:=y)]
    omega
   ·have:=O1 p a b
    rw [if_neg h2,List.countP_cons,List.countP_cons]
    have:x=y:=by omega
    subst this
    omega
theorem Ob (hf:∀ e,sst (f e))(a b:List Int):bd f (Ag a b)=Ag (bd f a) (bd f b):=Kh (Gq hf _).1 (Bt (Gq hf a).1 (Gq hf b).1) fun e=>by
 rw [Dt (Gq hf a).1 (Gq hf b).1,(Gq hf _).2,(Gq hf a).2,(Gq hf b).2,O1]
 omega
theorem Rn:bd f []=[]:=rfl
theorem Vl (e:Int):bd f [e]=f e:=by simp [bd,H4]
theorem Vm (hf:∀ e,sst (f e))(c:List Int):Sp (fun g=>∃ e∈c,g=f e) (bd f c):=by
 have hG:∀ (l:List Int) g,(∃ e∈l,g=f e)→sst g:=fun l g ⟨e,_,h⟩=>h ▸ hf e
 have:∀ (l:List Int) (acc:List Int),(∀ e∈l,e∈c)→Sp (fun g=>∃ e∈c,g=f e) acc→Sp (fun g=>∃ e∈c,g=f e) ((l.map f).foldl Ag acc):=fun l=>by
  induction l with
  | nil=>exact fun acc _ h=>h
  | cons x l ih=>
   intro acc hl h
   exact ih _ (fun e he=>hl e (by simp [he])) (h.sum (hG c) (.one ⟨x,hl x (by simp),rfl⟩))
 exact this c [] (fun _ h=>h) .zero
noncomputable def NR (f:Int→List Int):List Int→List Int
 | []=>[]
 | e :: es=>if Sp (fun g=>∃ x∈es,g=f x) (f e) then NR f es else e :: NR f es
theorem N3:∀ {es:List Int} {e:Int},e∈NR f es→e∈es
 | [],e,h=>by simp [NR] at h
 | x :: es,e,h=>by
  unfold NR at h
  split at h
  ·exact List.mem_cons_of_mem _ (N3 h)
  ·rcases List.mem_cons.1 h with rfl | h
   ·simp
   ·exact List.mem_cons_of_mem _ (N3 h)
theorem U5 (hf:∀ e,sst (f e)):∀ (es:List Int),es.Nodup→∀ d,sst d→(∀ e∈d,e∈NR f es)→bd f d=[]→d=[]
 | [],_,d,_,h,_=>List.eq_nil_iff_forall_not_mem.2 fun e he=>by simpa [NR] using h e he
 | x :: es,hn,d,hd,h,hb=>by
  obtain ⟨hn1,hn2⟩:=List.nodup_cons.1 hn
  have ih:=U5 hf es hn2
  unfold NR at h
  split at h
  ·exact ih d hd h hb
  ·rename_i hx
   by_cases hxd:x∈d
   ·exfalso
    refine hx ?_
    have hd' := Bt hd (Lo x)
    have hb' : bd f (Ag d [x])=f x:=by rw [Ob hf,hb,Vl,H4]
    rw [← hb']
    refine (Vm hf _).le (fun g ⟨e,_,h⟩=>h ▸ hf e) fun g hg=>?_
    obtain ⟨e,he,rfl⟩:=hg
    refine .one ⟨e,?_,rfl⟩
    have h1:=(Dt hd (Lo x) e).1 he
    by_cases hex:e=x
    ·subst hex;exact absurd (iff_of_true hxd (by simp)) h1
    ·have h2 : e ∈ d := by
       by_cases h3:e∈d
       ·exact h3
       ·exact absurd (iff_of_false h3 (by simpa using hex)) h1
     rcases List.mem_cons.1 (h e h2) with h3 | h3
     ·exact absurd h3 hex
     ·exact N3 h3
   ·exact ih d hd (fun e he => by
      rcases List.mem_cons.1 (h e he) with rfl | h3
      ·exact absurd he hxd
      ·exact h3) hb
theorem gU (hf:∀ e,sst (f e)){es:List Int}(hn:es.Nodup){a b:List Int}(ha:sst a)(hb:sst b)(ma:∀ e∈a,e∈NR f es)(mb:∀ e∈b,e∈NR f es)(h:bd f a=bd f b):a=b:=by
 refine Ada ha hb (U5 hf es hn _ (Bt ha hb) (fun e he=>?_) ?_)
 ·have h1:=(Dt ha hb e).1 he
  by_cases h2:e∈a
  ·exact ma e h2
  ·by_cases h3:e∈b
   ·exact mb e h3
   ·exact absurd (iff_of_false h2 h3) h1
 ·rw [Ob hf,h,Lr (Gq hf b).1]
/-! ### Pivots -/
inductive Adds (P:List (List Int×List Int)):List Int×List Int→List Int×List Int→Prop
 | refl (x):Adds P x x
 | step {x y:List Int×List Int} {p:List Int×List Int}:Adds P x y→p∈P→Adds P x (Ag y.1 p.1,Ag y.2 p.2)
structure Piv (ld:List Int→Option Int) (f:Int→List Int) (es:List Int) (P:List (List Int×List Int)):Prop where
 ok:∀ p∈P,sst p.1∧sst p.2∧p.2≠[]∧bd f p.1=p.2
 dis:(P.map (·.2)).Pairwise (fun p q=>ld p≠ld q)
 sp:∀ v,Sp (· ∈ P.map (·.2)) v ↔ Sp (fun g=>∃ e∈es,g=f e) v
 nr:∀ p∈P,∀ e∈p.1,e∈NR f es
 len:P.length=(NR f es).length
def Ii (ld:List Int→Option Int)(P:List (List Int×List Int))(y:List Int×List Int):Prop:=y.2=[]∨∀ p∈P,ld p.2≠ld y.2
variable {ld:List Int→Option Int} {es:List Int} {P:List (List Int×List Int)}
theorem Piv.nil:Piv ld f [] []:=⟨by simp,by simp,fun v=>Sp.congr fun g=>by simp,by simp,rfl⟩
theorem Adds.keep (hP : Piv ld f es P) {x y : List Int × List Int} (h : Adds P x y) (hf : ∀ e, sst (f e)) (h1 : sst x.1) (h2 : sst x.2) {K : List Int} (hK : sst K) (h3 : bd f x.1 = Ag x.2 K) :
    sst y.1∧sst y.2∧bd f y.1=Ag y.2 K∧(∀ e∈y.1,e∈x.1∨e∈NR f es)∧∃ s,Sp (fun g=>∃ e∈es,g=f e) s∧x.2=Ag y.2 s:=by
 have hG:∀ g,(∃ e∈es,g=f e)→sst g:=fun g ⟨e,_,h⟩=>h ▸ hf e
 induction h with
 | refl=>exact ⟨h1,h2,h3,fun e h=>.inl h,[],.zero,by rw [Gv]⟩
 | step h hp ih=>
  rename_i y p
  obtain ⟨i1,i2,i3,i4,s,i5,i6⟩:=ih
  obtain ⟨p1,p2,p3,p4⟩:=hP.ok p hp
  refine ⟨Bt i1 p1,Bt i2 p2,?_,fun e he=>?_,Ag p.2 s,?_,?_⟩
  ·rw [Ob hf,i3,p4,Gw i2 hK p2,eU hK p2,← Gw i2 p2 hK]
  ·have h5:=(Dt i1 p1 e).1 he
   by_cases h6:e∈y.1
   ·exact i4 e h6
   ·by_cases h7:e∈p.1
    ·exact .inr (hP.nr p hp e h7)
    ·exact absurd (iff_of_false h6 h7) h5
  ·exact ((hP.sp _).1 (.one (List.mem_map.2 ⟨p,hp,rfl⟩))).sum hG i5
  ·rw [i6,Gw i2 p2 (Bt p2 (i5.sst hG)),Qn p2 (i5.sst hG)]
theorem Adds.zero (hl : Ik ld) (hP : Piv ld f es P) {x y : List Int × List Int} (h : Adds P x y) (hf : ∀ e, sst (f e)) (h1 : sst x.1) (h2 : sst x.2) {K : List Int} (hK : sst K) (h3 : bd f x.1 = Ag x.2 K) (hd : Ii ld P y) :
    y.2=[] ↔ Sp (fun g=>∃ e∈es,g=f e) x.2:=by
 have hG:∀ g,(∃ e∈es,g=f e)→sst g:=fun g ⟨e,_,h⟩=>h ▸ hf e
 obtain ⟨i1,i2,i3,i4,s,i5,i6⟩:=h.keep hP hf h1 h2 hK h3
 constructor
 ·intro h4
  rw [i6,h4,H4];exact i5
 ·intro h4
  rcases Classical.em (y.2=[]) with h5 | h5
  ·exact h5
  ·exfalso
   have h6:Sp (fun g=>∃ e∈es,g=f e) y.2:=by
    have h7:=h4.sum hG i5
    rwa [i6,Gw i2 (i5.sst hG) (i5.sst hG),Lr (i5.sst hG),Gv] at h7
   obtain ⟨q,hq,he⟩:=aP hl (P.map (·.2)) (fun p hp=>by
    obtain ⟨q,hq,rfl⟩:=List.mem_map.1 hp
    exact ⟨(hP.ok q hq).2.1,(hP.ok q hq).2.2.1⟩) hP.dis y.2 ((hP.sp _).2 h6) h5
   obtain ⟨p,hp,rfl⟩:=List.mem_map.1 hq
   rcases hd with hd | hd
   ·exact h5 hd
   ·exact hd p hp he
theorem Piv.next (hl : Ik ld) (hP : Piv ld f es P) {e : Int} {y : List Int × List Int} (h : Adds P ([e], f e) y) (hf : ∀ e, sst (f e)) (hd : Ii ld P y) :
    (y.2=[]→Piv ld f (e :: es) P)∧(y.2≠[]→Piv ld f (e :: es) (P++[y])):=by
 have hG:∀ g,(∃ x∈es,g=f x)→sst g:=fun g ⟨x,_,h⟩=>h ▸ hf x
 have h3:bd f [e]=Ag (f e) []:=by rw [Vl,Gv]
 obtain ⟨i1,i2,i3,i4,s,i5,i6⟩:=h.keep hP hf (Lo e) (hf e) Es h3
 have hz:=h.zero hl hP hf (Lo e) (hf e) Es h3 hd
 rw [Gv] at i3
 have i7:f e=Ag y.2 s:=i6
 have hcons:∀ v,Sp (fun g=>∃ x∈e :: es,g=f x) v ↔ Sp (fun g=>∃ x∈es,g=f x) v∨∃ u,Sp (fun g=>∃ x∈es,g=f x) u∧v=Ag (f e) u:=fun v=>by
  rw [← Sp.ins (hf e) hG]
  exact Sp.congr fun g=>by simp
 constructor
 ·intro hy
  have hsp:=hz.1 hy
  refine ⟨hP.ok,hP.dis,fun v=>?_,fun p hp x hx=>?_,?_⟩
  ·rw [hP.sp,hcons]
   constructor
   ·exact .inl
   ·rintro (h | ⟨u,hu,rfl⟩)
    ·exact h
    ·exact hsp.sum hG hu
  ·unfold NR;rw [if_pos hsp];exact hP.nr p hp x hx
  ·unfold NR;rw [if_pos hsp];exact hP.len
 ·intro hy
  have hsp:¬ Sp (fun g=>∃ x∈es,g=f x) (f e):=fun h=>hy (hz.2 h)
  have hmem:∀ x,x∈e :: NR f es ↔ x∈NR f (e :: es):=fun x=>by
   conv=>rhs;unfold NR
   rw [if_neg hsp]
  refine ⟨fun p hp=>?_,?_,fun v=>?_,fun p hp x hx=>?_,?_⟩
  ·rcases List.mem_append.1 hp with hp | hp
   ·exact hP.ok p hp
   ·obtain rfl:p=y:=by simpa using hp
    exact ⟨i1,i2,hy,i3⟩
  ·rw [List.map_append,List.pairwise_append]
   refine ⟨hP.dis,by simp,fun a ha b hb=>?_⟩
   obtain ⟨p,hp,rfl⟩:=List.mem_map.1 ha
   obtain rfl:b=y.2:=by simpa using hb
   exact (hd.resolve_left hy) p hp
  ·rw [hcons]
   have h4:Sp (· ∈ (P++[y]).map (·.2)) v ↔ Sp (fun x=>x=y.2∨x∈P.map (·.2)) v:=Sp.congr fun g=>by simp [or_comm]
   rw [h4,Sp.ins i2 (fun g hg=>by
    obtain ⟨p,hp,rfl⟩:=List.mem_map.1 hg
    exact (hP.ok p hp).2.1),hP.sp]
   refine or_congr Iff.rfl ⟨?_,?_⟩
   ·rintro ⟨u,hu,rfl⟩
    have hu' := (hP.sp _).1 hu
    have hs:=i5.sst hG
    refine ⟨Ag s u,i5.sum hG hu', ?_⟩
    rw [i7,Gw i2 hs (Bt hs (hu'.sst hG)),Qn hs (hu'.sst hG)]
   ·rintro ⟨u,hu,rfl⟩
    have hs:=i5.sst hG
    refine ⟨Ag s u,(hP.sp _).2 (i5.sum hG hu),?_⟩
    rw [i7,Gw i2 hs (hu.sst hG)]
  ·rcases List.mem_append.1 hp with hp | hp
   ·exact (hmem x).1 (List.mem_cons_of_mem _ (hP.nr p hp x hx))
   ·obtain rfl:p=y:=by simpa using hp
    refine (hmem x).1 ?_
    rcases i4 x hx with h | h
    ·simp at h;simp [h]
    ·exact List.mem_cons_of_mem _ h
  ·rw [List.length_append,hP.len]
   conv=>rhs;unfold NR
   rw [if_neg hsp]
   simp
theorem Sk {ld' : List Int → Option Int} {P' : List (List Int × List Int)} (hl : Ik ld) (hl' : Ik ld') (hP : Piv ld f es P) (hP' : Piv ld' f es P') (hf : ∀ e, sst (f e)) (hn : es.Nodup) {c : List Int} (hc : sst c)
    {y y' : List Int×List Int} (h:Adds P ([],c) y) (h' : Adds P' ([],c) y') (hd:Ii ld P y) (hd' : Ii ld' P' y'):(y.2=[] ↔ y'.2=[])∧(y.2=[]→y.1=y'.1):=by
 have h3:bd f []=Ag c c:=by rw [Rn,Lr hc]
 have hz:=h.zero hl hP hf Es hc hc h3 hd
 have hz' := h'.zero hl' hP' hf Es hc hc h3 hd'
 refine ⟨hz.trans hz'.symm,fun hy=>?_⟩
 obtain ⟨i1,i2,i3,i4,_⟩:=h.keep hP hf Es hc hc h3
 obtain ⟨j1,j2,j3,j4,_⟩:=h'.keep hP' hf Es hc hc h3
 have hy' := hz'.2 (hz.1 hy)
 rw [hy] at i3
 rw [hy'] at j3
 exact gU hf hn i1 j1 (fun e he=>(i4 e he).resolve_left (by simp)) (fun e he=>(j4 e he).resolve_left (by simp)) (i3.trans j3.symm)
end
end Go.Proofs.YtcneanpkpmfaiaaGreat
