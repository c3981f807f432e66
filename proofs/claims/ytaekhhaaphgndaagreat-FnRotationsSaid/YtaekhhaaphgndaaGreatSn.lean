/- Texts that belong together. -/
import Derived.Test.YtaekhhaaphgndaaGreatRj
import Derived.Test.YtaekhhaaphgndaaGreatS7
set_option linter.unusedSimpArgs false
set_option linter.unusedVariables false
set_option maxRecDepth 100000
namespace Go.Proofs.YtaekhhaaphgndaaGreat
section
open Classical
noncomputable def cnt (n:Nat)(R:Nat→Nat→Prop):Nat:=(List.range n).countP fun x=>decide (∀ y,y<x→¬ R y x)
structure Eqv (n:Nat) (R:Nat→Nat→Prop):Prop where
 rfl:∀ x,x<n→R x x
 sym:∀ x y,x<n→y<n→R x y→R y x
 tr:∀ x y z,x<n→y<n→z<n→R x y→R y z→R x z
theorem cnt_congr {n:Nat}{R S:Nat→Nat→Prop}(h:∀ x y,x<n→y<n→(R x y ↔ S x y)):cnt n R=cnt n S:=by
 unfold cnt
 refine List.countP_congr fun x hx=>?_
 have hx:=List.mem_range.1 hx
 simp only [decide_eq_true_eq]
 exact ⟨fun k y hy hs=>k y hy ((h y x (by omega) hx).2 hs),fun k y hy hs=>k y hy ((h y x (by omega) hx).1 hs)⟩
theorem countP_one:∀ (n m:Nat) (p q:Nat→Bool),m<n→(∀ x,x<n→x≠m→p x=q x)→p m=true→q m=false→(List.range n).countP p=(List.range n).countP q+1
 | 0,m,_,_,h,_,_,_=>by omega
 | n+1,m,p,q,h,he,hp,hq=>by
  rw [List.range_succ,List.countP_append,List.countP_append]
  by_cases e:m=n
  ·subst e
   have:(List.range m).countP p=(List.range m).countP q:=List.countP_congr fun x hx=>by
    have hx:=List.mem_range.1 hx
    rw [he x (by omega) (by omega)]
   simp [this,hp,hq]
  ·have ih:=countP_one n m p q (by omega) (fun x hx hne=>he x (by omega) hne) hp hq
   have h1:=he n (by omega) (fun h=>e h.symm)
   simp only [List.countP_cons,List.countP_nil,h1]
   omega
theorem least {n:Nat}{R:Nat→Nat→Prop}(h:Eqv n R){x:Nat}(hx:x<n):∃ m,m<n∧R m x∧∀ y,y<m→¬ R y m:=by
 induction x using Nat.strongRecOn with
 | _ x ih=>
  by_cases h1:∃ y,y<x∧R y x
  ·obtain ⟨y,hy,hr⟩:=h1
   obtain ⟨m,a1,a2,a3⟩:=ih y hy (by omega)
   exact ⟨m,a1,h.tr _ _ _ a1 (by omega) hx a2 hr,a3⟩
  ·exact ⟨x,hx,h.rfl x hx,fun y hy hr=>h1 ⟨y,hy,hr⟩⟩
def Mrg (R:Nat→Nat→Prop)(a b x y:Nat):Prop:=R x y∨(R x a∧R b y)∨(R x b∧R a y)
theorem mrg_same {n:Nat}{R:Nat→Nat→Prop}(h:Eqv n R){a b:Nat}(ha:a<n)(hb:b<n)(hr:R a b):cnt n (Mrg R a b)=cnt n R:=cnt_congr fun x y hx hy=>by
 constructor
 ·rintro (h1 | ⟨h1,h2⟩ | ⟨h1,h2⟩)
  ·exact h1
  ·exact h.tr _ _ _ hx hb hy (h.tr _ _ _ hx ha hb h1 hr) h2
  ·exact h.tr _ _ _ hx ha hy (h.tr _ _ _ hx hb ha h1 (h.sym _ _ ha hb hr)) h2
 ·exact .inl
theorem mrg_one {n:Nat}{R:Nat→Nat→Prop}(h:Eqv n R){a b:Nat}(ha:a<n)(hb:b<n)(hr:¬ R a b):cnt n R=cnt n (Mrg R a b)+1:=by
 obtain ⟨p,p1,p2,p3⟩:=least h ha
 obtain ⟨q,q1,q2,q3⟩:=least h hb
 have hpq:¬ R p q:=fun k=>hr (h.tr _ _ _ ha q1 hb (h.tr _ _ _ ha p1 q1 (h.sym _ _ p1 ha p2) k) q2)
 have hqp:¬ R q p:=fun k=>hpq (h.sym _ _ q1 p1 k)
 have key:∀ p q a b:Nat,p<q→p<n→q<n→a<n→b<n→R p a→R q b→¬ R p q→(∀ y,y<p→¬ R y p)→(∀ y,y<q→¬ R y q)→cnt n R=cnt n (Mrg R a b)+1:=fun p q a b hlt hp hq ha hb pa qb hn lp lq=>by
  refine countP_one n q _ _ hq (fun x hx hne=>?_) ?_ ?_
  ·rw [decide_eq_decide]
   constructor
   ·intro k y hy hm
    rcases hm with h1 | ⟨h1,h2⟩ | ⟨h1,h2⟩
    ·exact k y hy h1
    ·-- x in the class of b: its least is q
     have hqx:R q x:=h.tr _ _ _ hq hb hx qb h2
     rcases Nat.lt_trichotomy x q with h3 | h3 | h3
     ·exact lq x h3 (h.sym _ _ hq hx hqx)
     ·exact hne h3
     ·exact k q h3 hqx
    ·have hpx:R p x:=h.tr _ _ _ hp ha hx pa h2
     have hqy:R q y:=h.tr _ _ _ hq hb (by omega) qb (h.sym _ _ (by omega) hb h1)
     rcases Nat.lt_trichotomy x p with h3 | h3 | h3
     ·exact lp x h3 (h.sym _ _ hp hx hpx)
     ·have:y<q:=by omega
      exact lq y this (h.sym _ _ hq (by omega) hqy)
     ·exact k p h3 hpx
   ·intro k y hy hm
    exact k y hy (.inl hm)
  ·exact decide_eq_true lq
  ·refine decide_eq_false fun k=>k p hlt ?_
   exact .inr (.inl ⟨pa,h.sym _ _ hq hb qb⟩)
 rcases Nat.lt_trichotomy p q with h1 | h1 | h1
 ·exact key p q a b h1 p1 q1 ha hb p2 q2 hpq p3 q3
 ·exact absurd (h1 ▸ h.rfl p p1) hpq
 ·rw [key q p b a h1 q1 p1 hb ha q2 p2 hqp q3 p3]
  congr 1
  refine cnt_congr fun x y hx hy=>?_
  unfold Mrg
  constructor
  ·rintro (h1 | h1 | h1)
   ·exact .inl h1
   ·exact .inr (.inr h1)
   ·exact .inr (.inl h1)
  ·rintro (h1 | h1 | h1)
   ·exact .inl h1
   ·exact .inr (.inr h1)
   ·exact .inr (.inl h1)
theorem Eqv.mrg {n:Nat}{R:Nat→Nat→Prop}(h:Eqv n R){a b:Nat}(ha:a<n)(hb:b<n):Eqv n (Mrg R a b) where
 rfl:=fun x hx=>.inl (h.rfl x hx)
 sym:=fun x y hx hy k=>by
  rcases k with h1 | ⟨h1,h2⟩ | ⟨h1,h2⟩
  ·exact .inl (h.sym _ _ hx hy h1)
  ·exact .inr (.inr ⟨h.sym _ _ hb hy h2,h.sym _ _ hx ha h1⟩)
  ·exact .inr (.inl ⟨h.sym _ _ ha hy h2,h.sym _ _ hx hb h1⟩)
 tr:=fun x y z hx hy hz k l=>by
  have T:=fun u v w (hu:u<n) (hv:v<n) (hw:w<n)=>h.tr u v w hu hv hw
  have S:=fun u v (hu:u<n) (hv:v<n)=>h.sym u v hu hv
  rcases k with h1 | ⟨h1,h2⟩ | ⟨h1,h2⟩<;>rcases l with k1 | ⟨k1,k2⟩ | ⟨k1,k2⟩
  ·exact .inl (T _ _ _ hx hy hz h1 k1)
  ·exact .inr (.inl ⟨T _ _ _ hx hy ha h1 k1,k2⟩)
  ·exact .inr (.inr ⟨T _ _ _ hx hy hb h1 k1,k2⟩)
  ·exact .inr (.inl ⟨h1,T _ _ _ hb hy hz h2 k1⟩)
  ·exact .inl (T _ _ _ hx hb hz (T _ _ _ hx ha hb h1 (S _ _ hb ha (T _ _ _ hb hy ha h2 k1))) k2)
  ·exact .inl (T _ _ _ hx ha hz h1 k2)
  ·exact .inr (.inr ⟨h1,T _ _ _ ha hy hz h2 k1⟩)
  ·exact .inl (T _ _ _ hx hb hz h1 k2)
  ·exact .inl (T _ _ _ hx ha hz (T _ _ _ hx hb ha h1 (S _ _ ha hb (T _ _ _ ha hy hb h2 k1))) k2)
structure Pm (n:Nat) (p:Nat→Nat):Prop where
 lt:∀ x,x<n→p x<n
 inj:∀ x y,x<n→y<n→p x=p y→x=y
def PmRe (p:Nat→Nat)(x y:Nat):Prop:=∃ k,y=itr p x k
theorem Pm.eqv {n:Nat}{p:Nat→Nat}(h:Pm n p):Eqv n (PmRe p) where
 rfl:=fun x _=>⟨0,rfl⟩
 sym:=fun x y hx hy ⟨k,e⟩=>by
  obtain ⟨m,m1,m2,m3⟩:=itr_back h.lt h.inj hx
  have hm:∀ q,itr p x (m*q)=x:=fun q=>by
   induction q with
   | zero=>rfl
   | succ q ih=>rw [Nat.mul_succ,itr_add,ih,m3]
  refine ⟨m*(k+1) - k,?_⟩
  have hk:k≤m*(k+1):=Nat.le_trans (Nat.le_succ k) (Nat.le_mul_of_pos_left _ m1)
  rw [e,← itr_add,show k+(m*(k+1) - k)=m*(k+1) by omega,hm]
 tr:=fun x y z _ _ _ ⟨k,e⟩ ⟨l,e2⟩=>⟨k+l,by rw [e2,e,itr_add]⟩
def swp (p:Nat→Nat)(a b x:Nat):Nat:=if x=a then p b else if x=b then p a else p x
theorem Pm.swp {n:Nat}{p:Nat→Nat}(h:Pm n p){a b:Nat}(ha:a<n)(hb:b<n):Pm n (swp p a b) where
 lt:=fun x hx=>by
  unfold Go.Proofs.YtaekhhaaphgndaaGreat.swp
  split
  ·exact h.lt b hb
  ·split
   ·exact h.lt a ha
   ·exact h.lt x hx
 inj:=fun x y hx hy e=>by
  unfold Go.Proofs.YtaekhhaaphgndaaGreat.swp at e
  split at e
  ·split at e
   ·omega
   ·split at e
    ·have:=h.inj _ _ hb ha e;omega
    ·have:=h.inj _ _ hb hy e;omega
  ·split at e
   ·split at e
    ·have:=h.inj _ _ ha hb e;omega
    ·split at e
     ·omega
     ·have:=h.inj _ _ ha hy e;omega
   ·split at e
    ·have:=h.inj _ _ hx hb e;omega
    ·split at e
     ·have:=h.inj _ _ hx ha e;omega
     ·exact h.inj _ _ hx hy e
theorem swp_swp (p:Nat→Nat)(a b x:Nat):swp (swp p a b) a b x=p x:=by
 unfold swp
 by_cases h1:x=a
 ·subst h1
  by_cases h2:b=x
  ·subst h2;simp
  ·simp [h2]
 ·by_cases h2:x=b
  ·subst h2;simp [h1]
  ·simp [h1,h2]
theorem swp_run {n:Nat}{p:Nat→Nat}{a b c:Nat}:∀ k,(∀ j,j<k→itr p c j≠a∧itr p c j≠b)→itr (swp p a b) c k=itr p c k
 | 0,_=>rfl
 | k+1,h=>by
  have ih:=swp_run (n:=n) k fun j hj=>h j (by omega)
  obtain ⟨h1,h2⟩:=h k (by omega)
  show swp p a b (itr (swp p a b) c k)=p (itr p c k)
  rw [ih]
  unfold swp
  rw [if_neg h1,if_neg h2]
theorem swp_join {n:Nat}{p:Nat→Nat}(h:Pm n p){a b:Nat}(ha:a<n)(hb:b<n)(hr:¬ PmRe p a b):PmRe (swp p a b) a b:=by
 obtain ⟨m1,_,m3,m4⟩:=per_spec h.lt h.inj hb
 obtain ⟨m,hm⟩:∃ m,per p n b=m+1:=⟨per p n b - 1,by omega⟩
 rw [hm] at m3 m4
 have hc:∀ j,itr p (p b) j=itr p b (j+1):=fun j=>by
  have:=itr_add p b 1 j
  rw [Nat.add_comm 1 j] at this
  exact this.symm
 have hrun:=swp_run (n:=n) (p:=p) (a:=a) (b:=b) (c:=p b) m fun j hj=>⟨fun e=>hr (h.eqv.sym _ _ hb ha ⟨j+1,by rw [← hc,e]⟩),fun e=>m4 (j+1) (by omega) (by omega) (by rw [← hc,e])⟩
 refine ⟨m+1,?_⟩
 have e1:itr (swp p a b) a (m+1)=itr (swp p a b) (p b) m:=by
  have:=itr_add (swp p a b) a 1 m
  rw [Nat.add_comm 1 m] at this
  rw [this]
  congr 1
  show swp p a b a=p b
  simp [swp]
 rw [e1,hrun,hc,m3]
theorem swp_part {n:Nat}{p:Nat→Nat}(h:Pm n p){a b:Nat}(ha:a<n)(hb:b<n)(hne:a≠b)(hr:PmRe p a b):¬ PmRe (swp p a b) a b:=by
 obtain ⟨l0,e0⟩:=h.eqv.sym _ _ ha hb hr
 obtain ⟨l,hl,hmin⟩:∃ l,a=itr p b l∧∀ j,j<l→a≠itr p b j:=by
  have:∀ l0,a=itr p b l0→∃ l,a=itr p b l∧∀ j,j<l→a≠itr p b j:=fun l0=>by
   induction l0 using Nat.strongRecOn with
   | _ l0 ih=>
    intro e0
    by_cases h1:∃ j,j<l0∧a=itr p b j
    ·obtain ⟨j,hj,e⟩:=h1
     exact ih j hj e
    ·exact ⟨l0,e0,fun j hj e=>h1 ⟨j,hj,e⟩⟩
  exact this l0 e0
 have hl0:0<l:=by
  rcases Nat.eq_zero_or_pos l with h1 | h1
  ·subst h1;exact absurd hl hne
  ·exact h1
 have nb:∀ j,0<j→j≤l→itr p b j≠b:=fun j hj hjl e=>by
  have e2:itr p b l=itr p (itr p b j) (l - j):=by rw [← itr_add];congr 1;omega
  rw [e] at e2
  exact hmin (l - j) (by omega) (by rw [← e2];exact hl)
 have hin:∀ k,∃ j,0<j∧j≤l∧itr (swp p a b) a k=itr p b j:=fun k=>by
  induction k with
  | zero=>exact ⟨l,hl0,Nat.le_refl _,hl⟩
  | succ k ih=>
   obtain ⟨j,h1,h2,h3⟩:=ih
   show ∃ j,0<j∧j≤l∧swp p a b (itr (swp p a b) a k)=_
   rw [h3]
   by_cases hjl:j=l
   ·rw [hjl,← hl]
    exact ⟨1,by omega,by omega,by simp [swp];rfl⟩
   ·refine ⟨j+1,by omega,by omega,?_⟩
    unfold swp
    rw [if_neg (fun e=>hmin j (by omega) e.symm),if_neg (nb j h1 h2)]
    rfl
 rintro ⟨k,e⟩
 obtain ⟨j,h1,h2,h3⟩:=hin k
 exact nb j h1 h2 (by rw [← h3,← e])
theorem swp_rd {n:Nat}{p:Nat→Nat}(h:Pm n p){a b:Nat}(ha:a<n)(hb:b<n)(hr:¬ PmRe p a b){x y:Nat}(hx:x<n)(hy:y<n):PmRe (swp p a b) x y ↔ Mrg (PmRe p) a b x y:=by
 have hE:=h.eqv
 have hM:=hE.mrg ha hb
 have hS:=(h.swp ha hb).eqv
 constructor
 ·rintro ⟨k,rfl⟩
  clear hy
  induction k with
  | zero=>exact .inl ⟨0,rfl⟩
  | succ k ih=>
   have hz:=itr_lt (h.swp ha hb).lt hx k
   refine hM.tr _ _ _ hx hz ((h.swp ha hb).lt _ hz) ih ?_
   show Mrg (PmRe p) a b (itr (swp p a b) x k) (swp p a b (itr (swp p a b) x k))
   generalize itr (swp p a b) x k=z at hz
   unfold swp
   split
   ·rename_i e
    subst e
    exact .inr (.inl ⟨⟨0,rfl⟩,⟨1,rfl⟩⟩)
   ·split
    ·rename_i e
     subst e
     exact .inr (.inr ⟨⟨0,rfl⟩,⟨1,rfl⟩⟩)
    ·exact .inl ⟨1,rfl⟩
 ·have hj:=swp_join h ha hb hr
  have one:∀ z,z<n→PmRe (swp p a b) z (p z):=fun z hz=>by
   by_cases h1:z=a
   ·subst h1
    refine hS.tr _ _ _ hz hb (h.lt z hz) hj ⟨1,?_⟩
    show p z=swp p z b b
    unfold swp
    by_cases h2:b=z
    ·subst h2;simp
    ·simp [h2]
   ·by_cases h2:z=b
    ·subst h2
     refine hS.tr _ _ _ hz ha (h.lt z hz) (hS.sym _ _ ha hz hj) ⟨1,?_⟩
     show p z=swp p a z a
     simp [swp]
    ·exact ⟨1,by show p z=swp p a b z;unfold swp;rw [if_neg h1,if_neg h2]⟩
  have all:∀ u v,u<n→PmRe p u v→PmRe (swp p a b) u v:=fun u v hu hk=>by
   obtain ⟨k,rfl⟩:=hk
   induction k with
   | zero=>exact ⟨0,rfl⟩
   | succ k ih=>
    have hz:=itr_lt h.lt hu k
    exact hS.tr _ _ _ hu hz (h.lt _ hz) ih (one _ hz)
  rintro (h1 | ⟨h1,h2⟩ | ⟨h1,h2⟩)
  ·exact all _ _ hx h1
  ·exact hS.tr _ _ _ hx ha hy (all _ _ hx h1) (hS.tr _ _ _ ha hb hy hj (all _ _ hb h2))
  ·exact hS.tr _ _ _ hx hb hy (all _ _ hx h1) (hS.tr _ _ _ hb ha hy (hS.sym _ _ ha hb hj) (all _ _ ha h2))
theorem rd_congr {p q:Nat→Nat}(h:∀ x,p x=q x):PmRe p=PmRe q:=by
 rw [show p=q from funext h]
theorem cnt_join {n:Nat}{p:Nat→Nat}(h:Pm n p){a b:Nat}(ha:a<n)(hb:b<n)(hr:¬ PmRe p a b):cnt n (PmRe p)=cnt n (PmRe (swp p a b))+1:=by
 rw [mrg_one h.eqv ha hb hr]
 congr 1
 exact (cnt_congr fun x y hx hy=>swp_rd h ha hb hr hx hy).symm
theorem cnt_part {n:Nat}{p:Nat→Nat}(h:Pm n p){a b:Nat}(ha:a<n)(hb:b<n)(hne:a≠b)(hr:PmRe p a b):cnt n (PmRe (swp p a b))=cnt n (PmRe p)+1:=by
 have h1:=cnt_join (h.swp ha hb) ha hb (swp_part h ha hb hne hr)
 rwa [rd_congr (swp_swp p a b)] at h1
def sws (p:Nat→Nat):List (Nat×Nat)→Nat→Nat
 | []=>p
 | t :: ts=>swp (sws p ts) t.1 t.2
def Led (R:Nat→Nat→Prop):List (Nat×Nat)→Nat→Nat→Prop
 | []=>R
 | t :: ts=>Mrg (Led R ts) t.1 t.2
theorem sws_pm {n:Nat}{p:Nat→Nat}(h:Pm n p):∀ ts:List (Nat×Nat),(∀ t∈ts,t.1<n∧t.2<n)→Pm n (sws p ts)
 | [],_=>h
 | t :: ts,k=>(sws_pm h ts fun u hu=>k u (List.mem_cons_of_mem _ hu)).swp (k t (by simp)).1 (k t (by simp)).2
theorem led_eqv {n:Nat}{R:Nat→Nat→Prop}(h:Eqv n R):∀ ts:List (Nat×Nat),(∀ t∈ts,t.1<n∧t.2<n)→Eqv n (Led R ts)
 | [],_=>h
 | t :: ts,k=>(led_eqv h ts fun u hu=>k u (List.mem_cons_of_mem _ hu)).mrg (k t (by simp)).1 (k t (by simp)).2
theorem sws_led {n:Nat}{p:Nat→Nat}(h:Pm n p):∀ ts:List (Nat×Nat),(∀ t∈ts,t.1<n∧t.2<n)→∀ x,x<n→Led (PmRe p) ts x (sws p ts x)
 | [],_,x,_=>⟨1,rfl⟩
 | t :: ts,k,x,hx=>by
  have k2:∀ u∈ts,u.1<n∧u.2<n:=fun u hu=>k u (List.mem_cons_of_mem _ hu)
  obtain ⟨h1,h2⟩:=k t (by simp)
  have ih:=sws_led h ts k2
  have hE:=led_eqv h.eqv ts k2
  show Mrg (Led (PmRe p) ts) t.1 t.2 x (swp (sws p ts) t.1 t.2 x)
  unfold swp
  split
  ·rename_i e
   subst e
   exact .inr (.inl ⟨hE.rfl _ h1,ih _ h2⟩)
  ·split
   ·rename_i e
    subst e
    exact .inr (.inr ⟨hE.rfl _ h2,ih _ h1⟩)
   ·exact .inl (ih x hx)
theorem sws_in {n:Nat}{p:Nat→Nat}(h:Pm n p)(ts:List (Nat×Nat))(k:∀ t∈ts,t.1<n∧t.2<n){x y:Nat}(hx:x<n)(hr:PmRe (sws p ts) x y):Led (PmRe p) ts x y:=by
 obtain ⟨m,rfl⟩:=hr
 have hE:=led_eqv h.eqv ts k
 have hP:=sws_pm h ts k
 induction m with
 | zero=>exact hE.rfl x hx
 | succ m ih=>
  have hz:=itr_lt hP.lt hx m
  exact hE.tr _ _ _ hx hz (hP.lt _ hz) ih (sws_led h ts k _ hz)
theorem sws_cnt {n:Nat}{p:Nat→Nat}(h:Pm n p):∀ ts:List (Nat×Nat),(∀ t∈ts,t.1<n∧t.2<n∧t.1≠t.2)→∃ J,cnt n (PmRe (sws p ts))+2*J=cnt n (PmRe p)+ts.length∧cnt n (PmRe p)≤cnt n (Led (PmRe p) ts)+J
 | [],_=>⟨0,rfl,Nat.le_refl _⟩
 | t :: ts,k=>by
  have k1:∀ u∈ts,u.1<n∧u.2<n∧u.1≠u.2:=fun u hu=>k u (List.mem_cons_of_mem _ hu)
  have k2:∀ u∈ts,u.1<n∧u.2<n:=fun u hu=>⟨(k1 u hu).1,(k1 u hu).2.1⟩
  obtain ⟨h1,h2,h3⟩:=k t (by simp)
  obtain ⟨J,j1,j2⟩:=sws_cnt h ts k1
  have hP:=sws_pm h ts k2
  have hE:=led_eqv h.eqv ts k2
  by_cases hr:PmRe (sws p ts) t.1 t.2
  ·have e1:=cnt_part hP h1 h2 h3 hr
   have e2:=mrg_same hE h1 h2 (sws_in h ts k2 h1 hr)
   refine ⟨J,?_,?_⟩
   ·show cnt n (PmRe (swp (sws p ts) t.1 t.2))+2*J=cnt n (PmRe p)+(ts.length+1)
    omega
   ·show cnt n (PmRe p)≤cnt n (Mrg (Led (PmRe p) ts) t.1 t.2)+J
    omega
  ·have e1:=cnt_join hP h1 h2 hr
   have e2:cnt n (Led (PmRe p) ts)≤cnt n (Mrg (Led (PmRe p) ts) t.1 t.2)+1:=by
    by_cases hl:Led (PmRe p) ts t.1 t.2
    ·rw [mrg_same hE h1 h2 hl];omega
    ·rw [mrg_one hE h1 h2 hl];omega
   refine ⟨J+1,?_,?_⟩
   ·show cnt n (PmRe (swp (sws p ts) t.1 t.2))+2*(J+1)=cnt n (PmRe p)+(ts.length+1)
    omega
   ·show cnt n (PmRe p)≤cnt n (Mrg (Led (PmRe p) ts) t.1 t.2)+(J+1)
    omega
theorem cnt_all {n:Nat}{R:Nat→Nat→Prop}(h:∀ x y,x<n→y<n→R x y):cnt n R≤1:=by
 unfold cnt
 match n with
 | 0=>simp
 | n+1=>
  rw [List.range_succ_eq_map,List.countP_cons,List.countP_map]
  have:(List.range n).countP ((fun x=>decide (∀ y,y<x→¬ R y x)) ∘ Nat.succ)=0:=by
   rw [List.countP_eq_zero]
   intro x hx
   have hx:=List.mem_range.1 hx
   simp only [Function.comp,decide_eq_true_eq]
   intro k
   exact k 0 (by omega) (h 0 _ (by omega) (by omega))
  rw [this]
  split<;>omega
end
section
open Classical
theorem nd_le:∀ {A B:List Nat},A.Nodup→(∀ x∈A,x∈B)→A.length≤B.length
 | [],_,_,_=>Nat.zero_le _
 | a :: A,B,hA,h=>by
  obtain ⟨h1,h2⟩:=List.nodup_cons.1 hA
  have hm:=h a (by simp)
  have h3:=nd_le (B:=B.erase a) h2 fun x hx=>(List.mem_erase_of_ne (fun e=>h1 (by rw [← e];exact hx))).2 (h x (List.mem_cons_of_mem _ hx))
  have h4:=List.length_erase_of_mem hm
  have h5:=List.length_pos_of_mem hm
  rw [List.length_cons]
  omega
noncomputable def lsts (n:Nat)(R:Nat→Nat→Prop):List Nat:=(List.range n).filter fun x=>decide (∀ y,y<x→¬ R y x)
theorem lsts_len (n:Nat)(R:Nat→Nat→Prop):(lsts n R).length=cnt n R:=by
 unfold lsts cnt
 rw [List.countP_eq_length_filter]
theorem lsts_mem {n:Nat}{R:Nat→Nat→Prop}{x:Nat}:x∈lsts n R ↔ x<n∧∀ y,y<x→¬ R y x:=by
 unfold lsts
 rw [List.mem_filter,List.mem_range,decide_eq_true_eq]
theorem lsts_nd (n:Nat)(R:Nat→Nat→Prop):(lsts n R).Nodup:=List.nodup_range.filter _
theorem two_least {n:Nat}{R:Nat→Nat→Prop}(h:Eqv n R){x y:Nat}(hx:x∈lsts n R)(hy:y∈lsts n R)(hr:R x y):x=y:=by
 obtain ⟨a1,a2⟩:=lsts_mem.1 hx
 obtain ⟨b1,b2⟩:=lsts_mem.1 hy
 rcases Nat.lt_trichotomy x y with h1 | h1 | h1
 ·exact absurd hr (b2 x h1)
 ·exact h1
 ·exact absurd (h.sym _ _ a1 b1 hr) (a2 y h1)
theorem tv_len {n:Nat}{R:Nat→Nat→Prop}(h:Eqv n R){W:List Nat}(hW:W.Nodup)(h1:∀ w∈W,w<n)(h2:∀ u∈W,∀ v∈W,R u v→u=v)(h3:∀ x,x<n→∃ w∈W,R w x):W.length=cnt n R:=by
 rw [← lsts_len]
 refine Nat.le_antisymm ?_ ?_
 ·have hg : ∀ w, w < n → ∃ m, m ∈ lsts n R ∧ R m w := fun w hw => by
    obtain ⟨m,m1,m2,m3⟩:=least h hw
    exact ⟨m,lsts_mem.2 ⟨m1,m3⟩,m2⟩
  obtain ⟨g,hg⟩:∃ g:Nat→Nat,∀ w,w<n→g w∈lsts n R∧R (g w) w:=⟨fun w=>if hw:w<n then Classical.choose (hg w hw) else 0,fun w hw=>by
   dsimp only
   rw [dif_pos hw]
   exact Classical.choose_spec (hg w hw)⟩
  have hn:(W.map g).Nodup:=nodup_map hW fun u hu v hv e=>by
   have hu' := hg u (h1 u hu)
   have hv' := hg v (h1 v hv)
   have hl:=(lsts_mem.1 hu'.1).1
   exact h2 u hu v hv (h.tr _ _ _ (h1 u hu) hl (h1 v hv) (h.sym _ _ hl (h1 u hu) hu'.2) (by rw [e];exact hv'.2))
  have:=nd_le (B:=lsts n R) hn fun x hx=>by
   obtain ⟨w,hw,rfl⟩:=List.mem_map.1 hx
   exact (hg w (h1 w hw)).1
  simpa using this
 ·obtain ⟨g, hg⟩ : ∃ g : Nat → Nat, ∀ x, x < n → g x ∈ W ∧ R (g x) x := ⟨fun x => if hx : x < n then Classical.choose (h3 x hx) else 0, fun x hx => by
    dsimp only
    rw [dif_pos hx]
    exact Classical.choose_spec (h3 x hx)⟩
  have hn:((lsts n R).map g).Nodup:=nodup_map (lsts_nd n R) fun u hu v hv e=>by
   have ul:=(lsts_mem.1 hu).1
   have vl:=(lsts_mem.1 hv).1
   obtain ⟨a1,a2⟩:=hg u ul
   obtain ⟨b1,b2⟩:=hg v vl
   have hl:=h1 _ a1
   exact two_least h hu hv (h.tr _ _ _ ul hl vl (h.sym _ _ hl ul a2) (by rw [e];exact b2))
  have:=nd_le (B:=W) hn fun x hx=>by
   obtain ⟨w,hw,rfl⟩:=List.mem_map.1 hx
   exact (hg w (lsts_mem.1 hw).1).1
  simpa using this
theorem cnt_map {n D:Nat}{R:Nat→Nat→Prop}(h:Eqv n R)(f:Nat→Nat)(h1:∀ d,d<D→f d<n)(h3:∀ x,x<n→∃ d,d<D∧R (f d) x):cnt n R=cnt D fun d e=>R (f d) (f e):=by
 have hE:Eqv D fun d e=>R (f d) (f e):=⟨fun d hd=>h.rfl _ (h1 d hd),fun d e hd he=>h.sym _ _ (h1 d hd) (h1 e he),fun d e g hd he hg=>h.tr _ _ _ (h1 d hd) (h1 e he) (h1 g hg)⟩
 rw [← lsts_len D,← List.length_map (f:=f)]
 refine (tv_len h (nodup_map (lsts_nd D _) fun u hu v hv e=>?_) (fun w hw=>?_) (fun u hu v hv hr=>?_) fun x hx=>?_).symm
 ·refine two_least hE hu hv ?_
  have:=(lsts_mem.1 hu).1
  show R (f u) (f v)
  rw [← e]
  exact h.rfl _ (h1 u this)
 ·obtain ⟨d,hd,rfl⟩:=List.mem_map.1 hw
  exact h1 d (lsts_mem.1 hd).1
 ·obtain ⟨d,hd,rfl⟩:=List.mem_map.1 hu
  obtain ⟨e,he,rfl⟩:=List.mem_map.1 hv
  rw [two_least hE hd he hr]
 ·obtain ⟨d,hd,hr⟩:=h3 x hx
  obtain ⟨m,m1,m2,m3⟩:=least hE hd
  exact ⟨f m,List.mem_map.2 ⟨m,lsts_mem.2 ⟨m1,m3⟩,rfl⟩,h.tr _ _ _ (h1 m m1) (h1 d hd) hx m2 hr⟩
theorem ncnt_cnt (L:List (List Int))(n:Nat):ncnt L n=cnt n (Rch L):=by
 unfold ncnt cnt
 refine List.countP_congr fun x hx=>?_
 simp only [decide_eq_true_eq]
 obtain ⟨a1,a2,a3⟩:=fst_spec L x
 constructor
 ·intro h y hy
  rw [h] at a3
  exact a3 y hy
 ·intro h
  rcases Nat.lt_or_ge (fst L x) x with h1 | h1
  ·exact absurd a2 (h _ h1)
  ·omega
theorem rch_eqv {n:Nat}{L:List (List Int)}(hL:MvOk n L):Eqv n (Rch L):=⟨fun _ _=>.refl,fun x y hx _ h=>h.symm hL hx,fun x y z _ _ _ h k=>h.trans k⟩
def alt (d:Nat):Nat:=d+1 - 2*(d%2)
theorem alt_alt (d:Nat):alt (alt d)=d:=by unfold alt;omega
theorem alt_lt {D d:Nat}(hD:D%2=0)(hd:d<D):alt d<D:=by unfold alt;omega
structure RotM (D:Nat) (ρ:Nat→Nat) (M:List (List Int)):Prop where
 pm:Pm D ρ
 ev:D%2=0
 len:M.length=3
 rl:∀ p∈M,p.length=2*D
 m0:∀ d,d<D→(M.getD 0 []).getD (2*d) 0=2*(alt d:Nat)+1∧(M.getD 0 []).getD (2*d+1) 0=2*(alt d:Nat)
 m1:∀ d,d<D→(M.getD 1 []).getD (2*d) 0=2*(ρ d:Nat)+1∧(M.getD 1 []).getD (2*ρ d+1) 0=2*(d:Nat)
 m2:∀ d,d<D→(M.getD 2 []).getD (2*d) 0=2*(d:Nat)+1∧(M.getD 2 []).getD (2*d+1) 0=2*(d:Nat)
theorem Pm.onto {n:Nat}{p:Nat→Nat}(h:Pm n p){y:Nat}(hy:y<n):∃ x,x<n∧p x=y:=by
 obtain ⟨m,m1,_,m3⟩:=itr_back h.lt h.inj hy
 refine ⟨itr p y (m - 1),itr_lt h.lt hy _,?_⟩
 have:itr p y (m - 1+1)=y:=by rw [show m - 1+1=m by omega];exact m3
 exact this
namespace RotM
variable {D:Nat} {ρ:Nat→Nat} {M:List (List Int)} (h:RotM D ρ M)
include h
theorem abc:∃ a b c,M=[a,b,c]:=by
 match M,h.len with
 | [a,b,c],_=>exact ⟨a,b,c,rfl⟩
theorem mvok:MvOk (2*D) M:=by
 obtain ⟨a,b,c,rfl⟩:=h.abc
 have half:∀ x,x<2*D→∃ d,d<D∧(x=2*d∨x=2*d+1):=fun x hx=>⟨x / 2,by omega,by omega⟩
 intro p hp
 refine ⟨h.rl p hp,fun x hx=>?_⟩
 obtain ⟨d,hd,hx⟩:=half x hx
 have ha:=alt_lt h.ev hd
 have h0:=h.m0 d hd
 have h0' := h.m0 _ ha
 rw [alt_alt] at h0'
 have h2:=h.m2 d hd
 simp only [List.getD_cons_zero,List.getD_cons_succ] at h0 h0' h2
 rcases List.mem_cons.1 hp with rfl | hp
 ·rcases hx with rfl | rfl
  ·rw [h0.1,show ((2*(alt d:Nat)+1:Int)).toNat=2*alt d+1 by omega,h0'.2]
   omega
  ·rw [h0.2,show ((2*(alt d:Nat):Int)).toNat=2*alt d by omega,h0'.1]
   omega
 ·rcases List.mem_cons.1 hp with rfl | hp
  ·rcases hx with rfl | rfl
   ·have h1:=h.m1 d hd
    have:=h.pm.lt d hd
    simp only [List.getD_cons_zero,List.getD_cons_succ] at h1
    rw [h1.1,show ((2*(ρ d:Nat)+1:Int)).toNat=2*ρ d+1 by omega,h1.2]
    omega
   ·obtain ⟨e,he,rfl⟩:=h.pm.onto hd
    have h1:=h.m1 e he
    have:=h.pm.lt e he
    simp only [List.getD_cons_zero,List.getD_cons_succ] at h1
    rw [h1.2,show ((2*(e:Nat):Int)).toNat=2*e by omega,h1.1]
    omega
  ·obtain rfl:=List.mem_singleton.1 hp
   rcases hx with rfl | rfl
   ·rw [h2.1,show ((2*(d:Nat)+1:Int)).toNat=2*d+1 by omega,h2.2]
    omega
   ·rw [h2.2,show ((2*(d:Nat):Int)).toNat=2*d by omega,h2.1]
    omega
theorem verts:ncnt (M.drop 1) (2*D)=cnt D (PmRe ρ):=by
 have hM:=h.mvok
 obtain ⟨a,b,c,rfl⟩:=h.abc
 have hL:MvOk (2*D) [b,c]:=fun p hp=>hM p (List.mem_cons_of_mem _ hp)
 have hE:=h.pm.eqv
 show ncnt [b,c] (2*D)=_
 have st1:∀ d,d<D→(b.getD (2*d) 0).toNat=2*ρ d+1∧(b.getD (2*ρ d+1) 0).toNat=2*d:=fun d hd=>by
  have:=h.m1 d hd
  simp only [List.getD_cons_zero,List.getD_cons_succ] at this
  omega
 have st2:∀ d,d<D→(c.getD (2*d) 0).toNat=2*d+1∧(c.getD (2*d+1) 0).toNat=2*d:=fun d hd=>by
  have:=h.m2 d hd
  simp only [List.getD_cons_zero,List.getD_cons_succ] at this
  omega
 rw [ncnt_cnt,cnt_map (rch_eqv hL) (fun d=>2*d) (D:=D) (fun d hd=>by omega) fun x hx=>?_]
 ·refine cnt_congr fun d e hd he=>?_
  constructor
  ·intro hr
   have key:∀ x,Rch [b,c] (2*d) x→∃ e,e<D∧(x=2*e∨x=2*e+1)∧PmRe ρ d e:=fun x hr=>by
    induction hr with
    | refl=>exact ⟨d,hd,.inl rfl,⟨0,rfl⟩⟩
    | step _ hp ih=>
     obtain ⟨e,he,hx,k⟩:=ih
     rcases List.mem_cons.1 hp with rfl | hp
     ·rcases hx with rfl | rfl
      ·exact ⟨ρ e,h.pm.lt e he,.inr (st1 e he).1,hE.tr _ _ _ hd he (h.pm.lt e he) k ⟨1,rfl⟩⟩
      ·obtain ⟨g,hg,rfl⟩:=h.pm.onto he
       exact ⟨g,hg,.inl (st1 g hg).2,hE.tr _ _ _ hd he hg k (hE.sym _ _ hg he ⟨1,rfl⟩)⟩
     ·obtain rfl:=List.mem_singleton.1 hp
      rcases hx with rfl | rfl
      ·exact ⟨e,he,.inr (st2 e he).1,k⟩
      ·exact ⟨e,he,.inl (st2 e he).2,k⟩
   obtain ⟨g,hg,e1,k⟩:=key _ hr
   obtain rfl:e=g:=by omega
   exact k
  ·rintro ⟨k,rfl⟩
   clear he
   induction k with
   | zero=>exact .refl
   | succ k ih=>
    have hz:=itr_lt h.pm.lt hd k
    have h1:=(ih.step (p:=b) (by simp)).step (p:=c) (by simp)
    rw [(st1 _ hz).1,(st2 _ (h.pm.lt _ hz)).2] at h1
    exact h1
 ·refine ⟨x / 2,by omega,?_⟩
  rcases (by omega:x=2*(x / 2)∨x=2*(x / 2)+1) with e | e
  ·rw [← e];exact .refl
  ·have h1:=(Rch.refl (L:=[b,c]) (x:=2*(x / 2))).step (p:=c) (by simp)
   rw [(st2 _ (by omega)).1,← e] at h1
   exact h1
theorem faces:ncnt (M.take 2) (2*D)=cnt D (PmRe fun d=>ρ (alt d)):=by
 have hM:=h.mvok
 obtain ⟨a,b,c,rfl⟩:=h.abc
 have hL:MvOk (2*D) [a,b]:=fun p hp=>hM p (by simp at hp ⊢;rcases hp with h | h<;>simp [h])
 have hP:Pm D fun d=>ρ (alt d):=⟨fun d hd=>h.pm.lt _ (alt_lt h.ev hd),fun d e hd he k=>by
  have:=h.pm.inj _ _ (alt_lt h.ev hd) (alt_lt h.ev he) k
  have e1:=congrArg alt this
  rwa [alt_alt,alt_alt] at e1⟩
 have hE:=hP.eqv
 show ncnt [a,b] (2*D)=_
 have st1:∀ d,d<D→(b.getD (2*d) 0).toNat=2*ρ d+1∧(b.getD (2*ρ d+1) 0).toNat=2*d:=fun d hd=>by
  have:=h.m1 d hd
  simp only [List.getD_cons_zero,List.getD_cons_succ] at this
  omega
 have st0:∀ d,d<D→(a.getD (2*d) 0).toNat=2*alt d+1∧(a.getD (2*d+1) 0).toNat=2*alt d:=fun d hd=>by
  have:=h.m0 d hd
  simp only [List.getD_cons_zero,List.getD_cons_succ] at this
  omega
 rw [ncnt_cnt,cnt_map (rch_eqv hL) (fun d=>2*d+1) (D:=D) (fun d hd=>by omega) fun x hx=>?_]
 ·refine cnt_congr fun d e hd he=>?_
  constructor
  ·intro hr
   have key:∀ x,Rch [a,b] (2*d+1) x→∃ e,e<D∧(x=2*e+1∨x=2*alt e)∧PmRe (fun d=>ρ (alt d)) d e:=fun x hr=>by
    induction hr with
    | refl=>exact ⟨d,hd,.inl rfl,⟨0,rfl⟩⟩
    | step _ hp ih=>
     obtain ⟨e,he,hx,k⟩:=ih
     have hae:=alt_lt h.ev he
     rcases List.mem_cons.1 hp with rfl | hp
     ·rcases hx with rfl | rfl
      ·exact ⟨e,he,.inr (st0 e he).2,k⟩
      ·refine ⟨e,he,.inl ?_,k⟩
       rw [(st0 _ hae).1,alt_alt]
     ·obtain rfl:=List.mem_singleton.1 hp
      rcases hx with rfl | rfl
      ·obtain ⟨g,hg,rfl⟩:=h.pm.onto he
       have hag:=alt_lt h.ev hg
       refine ⟨alt g,hag,.inr ?_,hE.tr _ _ _ hd he hag k (hE.sym _ _ hag he ⟨1,?_⟩)⟩
       ·rw [(st1 g hg).2,alt_alt]
       ·show ρ g=ρ (alt (alt g))
        rw [alt_alt]
      ·exact ⟨ρ (alt e),h.pm.lt _ hae,.inl (st1 _ hae).1,hE.tr _ _ _ hd he (h.pm.lt _ hae) k ⟨1,rfl⟩⟩
   obtain ⟨g,hg,e1,k⟩:=key _ hr
   rcases e1 with e1 | e1
   ·obtain rfl:e=g:=by omega
    exact k
   ·omega
  ·rintro ⟨k,rfl⟩
   clear he
   induction k with
   | zero=>exact .refl
   | succ k ih=>
    have hz:=itr_lt hP.lt hd k
    have h1:=(ih.step (p:=a) (by simp)).step (p:=b) (by simp)
    rw [(st0 _ hz).2,(st1 _ (alt_lt h.ev hz)).1] at h1
    exact h1
 ·refine ⟨if x%2=1 then x / 2 else alt (x / 2),by split;omega;exact alt_lt h.ev (by omega),?_⟩
  split
  ·rename_i e
   rw [show 2*(x / 2)+1=x by omega]
   exact .refl
  ·rename_i e
   have hz:x / 2<D:=by omega
   have h1:=(Rch.refl (L:=[a,b]) (x:=2*alt (x / 2)+1)).step (p:=a) (by simp)
   rw [(st0 _ (alt_lt h.ev hz)).2,alt_alt,show 2*(x / 2)=x by omega] at h1
   exact h1
end RotM
def tks:Nat→List (Nat×Nat)
 | 0=>[]
 | k+1=>(2*k,2*k+1) :: tks k
theorem tks_len:∀ k,(tks k).length=k
 | 0=>rfl
 | k+1=>by rw [tks,List.length_cons,tks_len k]
theorem tks_ok:∀ k,∀ t∈tks k,t.1<2*k∧t.2<2*k∧t.1≠t.2
 | 0,t,h=>by simp [tks] at h
 | k+1,t,h=>by
  rcases List.mem_cons.1 h with rfl | h
  ·dsimp only;omega
  ·have:=tks_ok k t h;omega
theorem sws_tks (ρ:Nat→Nat):∀ k x,sws ρ (tks k) x=if x<2*k then ρ (alt x) else ρ x
 | 0,x=>by simp [tks,sws]
 | k+1,x=>by
  have ih:=sws_tks ρ k
  show swp (sws ρ (tks k)) (2*k) (2*k+1) x=_
  unfold swp
  split
  ·rename_i e
   subst e
   rw [ih,if_neg (by omega),if_pos (by omega)]
   congr 1
   unfold alt;omega
  ·split
   ·rename_i e
    subst e
    rw [ih,if_neg (by omega),if_pos (by omega)]
    congr 1
    unfold alt;omega
   ·rw [ih]
    by_cases h:x<2*k
    ·rw [if_pos h,if_pos (by omega)]
    ·rw [if_neg h,if_neg (by omega)]
theorem led_sub {R:Nat→Nat→Prop}{x y:Nat}(h:R x y):∀ ts,Led R ts x y
 | []=>h
 | _ :: ts=>.inl (led_sub h ts)
theorem led_mem {n:Nat}{R:Nat→Nat→Prop}(hR:Eqv n R):∀ (ts:List (Nat×Nat)),(∀ t∈ts,t.1<n∧t.2<n)→∀ t∈ts,Led R ts t.1 t.2
 | [],_,t,h=>by simp at h
 | u :: ts,k,t,h=>by
  have k2:∀ u∈ts,u.1<n∧u.2<n:=fun u hu=>k u (List.mem_cons_of_mem _ hu)
  have hE:=led_eqv hR ts k2
  rcases List.mem_cons.1 h with rfl | h
  ·exact .inr (.inl ⟨hE.rfl _ (k t (by simp)).1,hE.rfl _ (k t (by simp)).2⟩)
  ·exact .inl (led_mem hR ts k2 t h)
theorem tks_mem:∀ {k i:Nat},i<k→(2*i,2*i+1)∈tks k
 | 0,i,h=>by omega
 | k+1,i,h=>by
  by_cases e:i=k
  ·subst e;simp [tks]
  ·exact List.mem_cons_of_mem _ (tks_mem (by omega))
theorem RotM.euler {D:Nat}{ρ:Nat→Nat}{M:List (List Int)}(h:RotM D ρ M)(h0:0<D)(hc:∀ x,x<2*D→Rch M 0 x):∃ J,ncnt (M.take 2) (2*D)+2*J=ncnt (M.drop 1) (2*D)+D / 2∧ncnt (M.drop 1) (2*D)≤1+J:=by
 have hev:=h.ev
 have hto:∀ t∈tks (D / 2),t.1<D∧t.2<D∧t.1≠t.2:=fun t ht=>by have:=tks_ok _ t ht;omega
 have hto2:∀ t∈tks (D / 2),t.1<D∧t.2<D:=fun t ht=>⟨(hto t ht).1,(hto t ht).2.1⟩
 obtain ⟨J,j1,j2⟩:=sws_cnt h.pm (tks (D / 2)) hto
 have hE:=led_eqv h.pm.eqv (tks (D / 2)) hto2
 have e1:cnt D (PmRe (sws ρ (tks (D / 2))))=cnt D (PmRe fun d=>ρ (alt d)):=by
  refine cnt_congr fun x y hx hy=>?_
  have key:∀ k,itr (sws ρ (tks (D / 2))) x k=itr (fun d=>ρ (alt d)) x k:=fun k=>by
   induction k with
   | zero=>rfl
   | succ k ih=>
    have hz:itr (fun d=>ρ (alt d)) x k<D:=itr_lt (fun y hy=>h.pm.lt _ (alt_lt hev hy)) hx k
    show sws ρ (tks (D / 2)) (itr (sws ρ (tks (D / 2))) x k)=ρ (alt (itr (fun d=>ρ (alt d)) x k))
    rw [ih,sws_tks,if_pos (by omega)]
  exact ⟨fun ⟨k,e⟩=>⟨k,by rw [e,key]⟩,fun ⟨k,e⟩=>⟨k,by rw [e,key]⟩⟩
 have hla:∀ d,d<D→Led (PmRe ρ) (tks (D / 2)) d (alt d):=fun d hd=>by
  have h1:=led_mem h.pm.eqv (tks (D / 2)) hto2 _ (tks_mem (i:=d / 2) (by omega))
  dsimp only at h1
  rcases (by omega:d%2=0∨d%2=1) with e | e
  ·rwa [show 2*(d / 2)=d by omega,show d+1=alt d by unfold alt;omega] at h1
  ·rw [show 2*(d / 2)+1=d by omega,show 2*(d / 2)=alt d by unfold alt;omega] at h1
   exact hE.sym _ _ (alt_lt hev hd) hd h1
 have hall:∀ x,Rch M 0 x→x<2*D∧Led (PmRe ρ) (tks (D / 2)) 0 (x / 2):=fun x hr=>by
  have hM:=h.mvok
  obtain ⟨a,b,c,rfl⟩:=h.abc
  induction hr with
  | refl=>exact ⟨by omega,hE.rfl 0 h0⟩
  | step hr hp ih=>
   rename_i y p
   obtain ⟨hy,ih⟩:=ih
   have hlt:=(hr.step hp).lt hM (by omega)
   refine ⟨hlt,hE.tr _ _ _ h0 (by omega) (by omega) ih ?_⟩
   obtain ⟨d,hd,hx⟩:∃ d,d<D∧(y=2*d∨y=2*d+1):=⟨y / 2,by omega,by omega⟩
   have hy2:y / 2=d:=by omega
   rw [hy2]
   rcases List.mem_cons.1 hp with rfl | hp
   ·have st:=h.m0 d hd
    simp only [List.getD_cons_zero] at st
    have e:(p.getD y 0).toNat / 2=alt d:=by rcases hx with rfl | rfl<;>omega
    rw [e]
    exact hla d hd
   ·rcases List.mem_cons.1 hp with rfl | hp
    ·rcases hx with rfl | rfl
     ·have st:=h.m1 d hd
      simp only [List.getD_cons_zero,List.getD_cons_succ] at st
      rw [show (p.getD (2*d) 0).toNat / 2=ρ d by omega]
      exact led_sub ⟨1,rfl⟩ _
     ·obtain ⟨g,hg,rfl⟩:=h.pm.onto hd
      have st:=h.m1 g hg
      simp only [List.getD_cons_zero,List.getD_cons_succ] at st
      rw [show (p.getD (2*ρ g+1) 0).toNat / 2=g by omega]
      exact hE.sym _ _ hg hd (led_sub ⟨1,rfl⟩ _)
    ·obtain rfl:=List.mem_singleton.1 hp
     have st:=h.m2 d hd
     simp only [List.getD_cons_zero,List.getD_cons_succ] at st
     have e:(p.getD y 0).toNat / 2=d:=by rcases hx with rfl | rfl<;>omega
     rw [e]
     exact hE.rfl d hd
 have hone:cnt D (Led (PmRe ρ) (tks (D / 2)))≤1:=cnt_all fun x y hx hy=>by
  have h1:=(hall (2*x) (hc _ (by omega))).2
  have h2:=(hall (2*y) (hc _ (by omega))).2
  rw [show 2*x / 2=x by omega] at h1
  rw [show 2*y / 2=y by omega] at h2
  exact hE.tr _ _ _ hx h0 hy (hE.sym _ _ h0 hx h1) h2
 rw [h.verts,h.faces,← e1]
 rw [tks_len] at j1
 exact ⟨J,j1,by omega⟩
end
section
open Go.Gov Go.Ce
open Classical
theorem half {D x:Nat}(h:x<2*D):∃ d,d<D∧(x=2*d∨x=2*d+1):=⟨x / 2,by omega,by omega⟩
theorem row_prm {n:Nat}{p:List Int}(hn:n≤400)(hl:p.length=n)(h:∀ x,x<n→0≤p.getD x 0∧p.getD x 0<n∧p.getD (p.getD x 0).toNat 0=x):IsPrm p:=by
 refine ⟨by omega,fun j hj=>⟨?_,fun i hi e=>?_⟩⟩
 ·have:=h j (by omega);omega
 ·have h1:=(h j (by omega)).2.2
  have h2:=(h i (by omega)).2.2
  rw [e,h1] at h2
  omega
namespace RotM
variable {D:Nat} {ρ:Nat→Nat} {M:List (List Int)}
theorem uniq (h:RotM D ρ M){N:List (List Int)}(k:RotM D ρ N):M=N:=by
 obtain ⟨a,b,c,rfl⟩:=h.abc
 obtain ⟨a', b', c', rfl⟩:=k.abc
 have ext:∀ p q:List Int,p.length=2*D→q.length=2*D→(∀ x,x<2*D→p.getD x 0=q.getD x 0)→p=q:=fun p q hp hq hx=>List.ext_getElem (by omega) fun x h1 h2=>by
  have:=hx x (by omega)
  simpa [h1,h2] using this
 have e0:a=a' := ext _ _ (h.rl _ (by simp)) (k.rl _ (by simp)) fun x hx=>by
  obtain ⟨d,hd,hx⟩:=half hx
  have h1:=h.m0 d hd
  have k1:=k.m0 d hd
  simp only [List.getD_cons_zero] at h1 k1
  rcases hx with rfl | rfl
  ·rw [h1.1,k1.1]
  ·rw [h1.2,k1.2]
 have e2:c=c' := ext _ _ (h.rl _ (by simp)) (k.rl _ (by simp)) fun x hx=>by
  obtain ⟨d,hd,hx⟩:=half hx
  have h1:=h.m2 d hd
  have k1:=k.m2 d hd
  simp only [List.getD_cons_zero,List.getD_cons_succ] at h1 k1
  rcases hx with rfl | rfl
  ·rw [h1.1,k1.1]
  ·rw [h1.2,k1.2]
 have e1:b=b' := ext _ _ (h.rl _ (by simp)) (k.rl _ (by simp)) fun x hx=>by
  obtain ⟨d,hd,hx⟩:=half hx
  rcases hx with rfl | rfl
  ·have h1:=h.m1 d hd
   have k1:=k.m1 d hd
   simp only [List.getD_cons_zero,List.getD_cons_succ] at h1 k1
   rw [h1.1,k1.1]
  ·obtain ⟨g,hg,rfl⟩:=h.pm.onto hd
   have h1:=h.m1 g hg
   have k1:=k.m1 g hg
   simp only [List.getD_cons_zero,List.getD_cons_succ] at h1 k1
   rw [h1.2,k1.2]
 rw [e0,e1,e2]
theorem flen (h:RotM D ρ M):fl M=2*D:=by
 obtain ⟨a,b,c,rfl⟩:=h.abc
 exact h.rl a (by simp)
theorem isMap (h:RotM D ρ M)(h2:2≤D)(h4:D≤200)(hc:∀ x,x<2*D→Rch M 0 x):IsMap M:=by
 have hf:=h.flen
 have hM:=h.mvok
 have hl:=h.len
 refine ⟨⟨by omega,by omega,by omega,by omega,fun k hk=>?_,fun i k f h1 hk hx=>?_,fun x hx=>hc x (by omega)⟩,hl⟩
 ·have hp:=hM _ (row_mem (L:=M) (k:=k) hk)
  rw [hf]
  refine ⟨hp.1,row_prm (by omega) hp.1 hp.2,fun x hx=>?_⟩
  have hx:x<2*D:=by omega
  have hh:=hp.2 x hx
  have hne:(M.getD k []).getD x 0≠x:=by
   obtain ⟨d,hd,hxd⟩:=half hx
   clear hh hp
   rcases (by omega:k=0∨k=1∨k=2) with rfl | rfl | rfl
   ·have:=h.m0 d hd
    rcases hxd with e | e<;>rw [e]<;>omega
   ·rcases hxd with e | e
    ·have:=h.m1 d hd;rw [e];omega
    ·obtain ⟨g,hg,rfl⟩:=h.pm.onto hd
     have:=h.m1 g hg;rw [e];omega
   ·have:=h.m2 d hd
    rcases hxd with e | e<;>rw [e]<;>omega
  exact ⟨hne,hh.2.2⟩
 ·obtain rfl:i=0:=by omega
  obtain rfl:k=2:=by omega
  obtain ⟨d,hd,hx⟩:=half (show f<2*D by omega)
  have ha:=alt_lt h.ev hd
  have a0:=h.m0 d hd
  have a2:=h.m2 d hd
  have b2:=h.m2 _ ha
  have hal:alt d≠d:=by unfold alt;omega
  unfold Com
  rcases hx with rfl | rfl
  ·rw [a0.1,a2.1,show ((2*(alt d:Nat)+1:Int)).toNat=2*alt d+1 by omega,show ((2*(d:Nat)+1:Int)).toNat=2*d+1 by omega,b2.2,a0.2]
   omega
  ·rw [a0.2,a2.2,show ((2*(alt d:Nat):Int)).toNat=2*alt d by omega,show ((2*(d:Nat):Int)).toNat=2*d by omega,b2.1,a0.1]
   omega
theorem bip (h:RotM D ρ M)(h0:0<D):BipE (fl M) M:=by
 refine ⟨fun x=>((x%2:Nat):Int),?_⟩
 rw [h.flen]
 obtain ⟨a,b,c,rfl⟩:=h.abc
 refine ⟨rfl,fun x hx=>by dsimp only;omega,fun x hx p hp=>?_⟩
 show (((p.getD x 0).toNat%2:Nat):Int)≠((x%2:Nat):Int)
 obtain ⟨d,hd,hx⟩:=half hx
 rcases List.mem_cons.1 hp with rfl | hp
 ·have h1:=h.m0 d hd
  simp only [List.getD_cons_zero] at h1
  rcases hx with rfl | rfl<;>omega
 ·rcases List.mem_cons.1 hp with rfl | hp
  ·rcases hx with rfl | rfl
   ·have h1:=h.m1 d hd
    simp only [List.getD_cons_zero,List.getD_cons_succ] at h1
    omega
   ·obtain ⟨g,hg,rfl⟩:=h.pm.onto hd
    have h1:=h.m1 g hg
    simp only [List.getD_cons_zero,List.getD_cons_succ] at h1
    omega
  ·obtain rfl:=List.mem_singleton.1 hp
   have h1:=h.m2 d hd
   simp only [List.getD_cons_zero,List.getD_cons_succ] at h1
   rcases hx with rfl | rfl<;>omega
theorem surface (h:RotM D ρ M)(h0:0<D)(hm:IsMap M):sfB M=true∧altN (fcV (fl M) M M.length) M.length=2 - 2*sfG M∧0≤sfG M:=by
 have hE:=h.bip h0
 have hf:=h.flen
 have hfour:=(rt_of hm hE).four
 obtain ⟨J,j1,j2⟩:=h.euler h0 fun x hx=>hm.1.con x (by omega)
 have he:altN (fcV (fl M) M M.length) M.length=ncnt (M.drop 1) (2*D) - ncnt (othE M) (2*D)+ncnt (M.take 2) (2*D):=by
  rw [hf]
  obtain ⟨a,b,c,rfl⟩:=h.abc
  simp [altN,fcV,oth,othE,List.range_succ]
 rw [hf] at hfour
 refine ⟨decide_eq_true ⟨hm,hE⟩,?_⟩
 unfold sfG
 rw [if_pos hm,if_pos hE,he]
 have h2:(2 - ((ncnt (M.drop 1) (2*D):Nat) - (ncnt (othE M) (2*D):Nat)+(ncnt (M.take 2) (2*D):Nat):Int))=2*(1+(J:Int) - (ncnt (M.drop 1) (2*D):Nat)):=by omega
 rw [h2,Int.mul_tdiv_cancel_left _ (by omega)]
 omega
end RotM
noncomputable def roN (M:List (List Int))(d:Nat):Nat:=dN (othE M) (mvN M 0) (mvN M 2) (mvN M 2 (mvN M 1 (invD M d)))
section
variable {M:List (List Int)} (h:IsMap M) (hE:BipE (fl M) M)
include h hE
theorem mv_flip {i x:Nat}(hi:i<3)(hx:x<fl M):mvN M i x<fl M∧mvN M i (mvN M i x)=x∧(colN M x=0→colN M (mvN M i x)=1)∧(colN M x=1→colN M (mvN M i x)=0):=by
 have h3:=h.2
 obtain ⟨_,_,_,a1,a2⟩:=h.1.mv1 (i:=i) (by omega) hx
 have hf:=h.1.f2
 obtain ⟨c1,c2,c3,c4⟩:=colV_spec hE (by omega)
 have hne:colN M (mvN M i x)≠colN M x:=c4 x hx _ (row_mem (by omega)) a1
 have v1:=c3 x hx
 have v2:=c3 _ a1
 refine ⟨a1,a2,fun e=>?_,fun e=>?_⟩<;>(unfold colN at *;omega)
theorem roN_lt {d:Nat}(hd:d<2*ncnt (othE M) (fl M)):roN M d<2*ncnt (othE M) (fl M):=by
 obtain ⟨a1,a2,a3⟩:=inv_spec h hE hd
 have b1:=mv_flip h hE (i:=1) (by omega) a1
 have b2:=mv_flip h hE (i:=2) (by omega) b1.1
 exact (rt_of h hE).d_lt b2.1
theorem roN_pm:Pm (2*ncnt (othE M) (fl M)) (roN M) where
 lt:=fun d hd=>roN_lt h hE hd
 inj:=fun d e hd he k=>by
  obtain ⟨a1,a2,a3⟩:=inv_spec h hE hd
  obtain ⟨b1,b2,b3⟩:=inv_spec h hE he
  have a4:=mv_flip h hE (i:=1) (by omega) a1
  have a5:=mv_flip h hE (i:=2) (by omega) a4.1
  have b4:=mv_flip h hE (i:=1) (by omega) b1
  have b5:=mv_flip h hE (i:=2) (by omega) b4.1
  have e1:=(rt_of h hE).d_inj a5.1 b5.1 (a5.2.2.2 (a4.2.2.1 a2)) (b5.2.2.2 (b4.2.2.1 b2)) k
  have e2:=congrArg (mvN M 2) e1
  rw [a5.2.1,b5.2.1] at e2
  have e3:=congrArg (mvN M 1) e2
  rw [a4.2.1,b4.2.1] at e3
  rw [← a3,← b3,e3]
theorem roL_at {k d:Nat}(hk:k≤2*ncnt (othE M) (fl M))(hd:d<k):(roL M k).getD d 0=((roN M d:Nat):Int):=by
 obtain ⟨a1,a2,a3⟩:=inv_spec h hE (show d<2*ncnt (othE M) (fl M) by omega)
 have a4:=mv_flip h hE (i:=1) (by omega) a1
 have a5:=mv_flip h hE (i:=2) (by omega) a4.1
 unfold roL
 rw [rmap_at hd]
 unfold roD dV roN
 rw [if_pos (a5.2.2.2 (a4.2.2.1 a2))]
noncomputable def plF (M:List (List Int))(x:Nat):Nat:=if colN M x=0 then 2*dN (othE M) (mvN M 0) (mvN M 2) x else 2*dN (othE M) (mvN M 0) (mvN M 2) (mvN M 2 x)+1
theorem rot_iso {ρ:Nat→Nat}{N:List (List Int)}(hr:RotM (2*ncnt (othE M) (fl M)) ρ N)(hρ:∀ d,d<2*ncnt (othE M) (fl M)→ρ d=roN M d):IsoM M N (plF M):=by
 have hR:=rt_of h hE
 have hfour:=hR.four
 have hfN:=hr.flen
 have hf2:=h.1.f2
 have vals:∀ x,x<fl M→colN M x=0∨colN M x=1:=hR.vals
 have p0:∀ x,x<fl M→colN M x=0→plF M x=2*dN (othE M) (mvN M 0) (mvN M 2) x:=fun x _ hc=>if_pos hc
 have p1:∀ x,x<fl M→colN M x=1→plF M x=2*dN (othE M) (mvN M 0) (mvN M 2) (mvN M 2 x)+1:=fun x _ hc=>if_neg (by omega)
 have hal:∀ x,x<fl M→colN M x=0→dN (othE M) (mvN M 0) (mvN M 2) (mvN M 2 (mvN M 0 x))=alt (dN (othE M) (mvN M 0) (mvN M 2) x):=fun x hx hc=>by
  have g1:=hR.labg hx
  have g2:=hR.gg hx
  have g3:=hR.gne hx
  unfold dN alt
  rw [g1,g2]
  by_cases e:mvN M 2 (mvN M 0 x)<x
  ·rw [if_pos e,if_neg (by omega)];omega
  ·rw [if_neg e,if_pos (by omega)];omega
 have st:∀ k x,k<3→mv N k x=((N.getD k []).getD x 0).toNat:=fun k x _=>rfl
 have sM:∀ k x,k<3→mv M k x=mvN M k x:=fun k x _=>rfl
 refine ⟨by omega,fun x hx=>?_,fun x y hx hy e=>?_,fun k x hk hx=>?_⟩
 ·rcases vals x hx with c | c
  ·rw [p0 x hx c]
   have:=hR.d_lt hx;omega
  ·rw [p1 x hx c]
   have:=hR.d_lt (mv_flip h hE (i:=2) (by omega) hx).1;omega
 ·rcases vals x hx with c | c<;>rcases vals y hy with c' | c'
  ·rw [p0 x hx c,p0 y hy c'] at e
   exact hR.d_inj hx hy c c' (by omega)
  ·rw [p0 x hx c,p1 y hy c'] at e
   omega
  ·rw [p1 x hx c,p0 y hy c'] at e
   omega
  ·rw [p1 x hx c,p1 y hy c'] at e
   have a1:=mv_flip h hE (i:=2) (by omega) hx
   have b1:=mv_flip h hE (i:=2) (by omega) hy
   have e1:=hR.d_inj a1.1 b1.1 (a1.2.2.2 c) (b1.2.2.2 c') (by omega)
   have e2:=congrArg (mvN M 2) e1
   rwa [a1.2.1,b1.2.1] at e2
 ·rw [st k _ hk,sM k _ hk]
  rcases (by omega:k=0∨k=1∨k=2) with rfl | rfl | rfl
  ·have a1:=mv_flip h hE (i:=0) (by omega) hx
   have a2:=mv_flip h hE (i:=2) (by omega) hx
   rcases vals x hx with c | c
   ·have hm:=hr.m0 _ (hR.d_lt hx)
    rw [p0 x hx c,hm.1,p1 _ a1.1 (a1.2.2.1 c),hal x hx c]
    omega
   ·have hm:=hr.m0 _ (hR.d_lt a2.1)
    have e:=hal _ a2.1 (a2.2.2.2 c)
    rw [hR.com _ a2.1,a2.2.1] at e
    rw [p1 x hx c,hm.2,p0 _ a1.1 (a1.2.2.2 c),e]
    omega
  ·have a1:=mv_flip h hE (i:=1) (by omega) hx
   have key:∀ y,y<fl M→colN M y=0→ρ (dN (othE M) (mvN M 0) (mvN M 2) y)=dN (othE M) (mvN M 0) (mvN M 2) (mvN M 2 (mvN M 1 y)):=fun y hy c=>by
    rw [hρ _ (hR.d_lt hy)]
    unfold roN
    rw [inv_of h hE hy c]
   rcases vals x hx with c | c
   ·have hm:=hr.m1 _ (hR.d_lt hx)
    rw [p0 x hx c,hm.1,p1 _ a1.1 (a1.2.2.1 c),key x hx c]
    omega
   ·have hm:=hr.m1 _ (hR.d_lt a1.1)
    rw [key _ a1.1 (a1.2.2.2 c),a1.2.1] at hm
    rw [p1 x hx c,hm.2,p0 _ a1.1 (a1.2.2.2 c)]
    omega
  ·have a1:=mv_flip h hE (i:=2) (by omega) hx
   rcases vals x hx with c | c
   ·have hm:=hr.m2 _ (hR.d_lt hx)
    rw [p0 x hx c,hm.1,p1 _ a1.1 (a1.2.2.1 c),a1.2.1]
    omega
   ·have hm:=hr.m2 _ (hR.d_lt a1.1)
    rw [p1 x hx c,hm.2,p0 _ a1.1 (a1.2.2.2 c)]
    omega
end
theorem iso_rch {M N:List (List Int)}{φ:Nat→Nat}(hM:IsMap M)(hN:N.length=3)(h:IsoM M N φ){x y:Nat}(hx:x<fl M)(hr:Rch M x y):Rch N (φ x) (φ y):=by
 induction hr with
 | refl=>exact .refl
 | step hr hp ih=>
  rename_i z p
  have hz:=hr.lt hM.1.mv hx
  obtain ⟨k,hk,rfl⟩:=List.mem_iff_getElem.1 hp
  have h3:=hM.2
  have e:=h.mv k z (by omega) hz
  have h1:=ih.step (p:=N.getD k []) (row_mem (by omega))
  have e2:mv M k z=((M[k]).getD z 0).toNat:=by unfold mv;simp [hk]
  rw [e2] at e
  rw [← e]
  exact h1
theorem rot_con {M N:List (List Int)}{φ:Nat→Nat}(hM:IsMap M)(hN:N.length=3)(hv:MvOk (fl N) N)(h:IsoM M N φ):∀ x,x<fl N→Rch N 0 x:=fun x hx=>by
 have hn:=h.n
 have hf:=hM.1.f2
 obtain ⟨u,hu,e1⟩:=onto_of (fl M) h.lt h.inj x (by omega)
 obtain ⟨w,hw,e2⟩:=onto_of (fl M) h.lt h.inj 0 (by omega)
 have h1:=iso_rch hM hN h (by omega) (hM.1.con u hu)
 have h2:=iso_rch hM hN h (by omega) (hM.1.con w hw)
 rw [e1] at h1
 rw [e2] at h2
 exact (h2.symm hv (by have:=h.lt 0 (by omega);omega)).trans h1
end
end Go.Proofs.YtaekhhaaphgndaaGreat
