/- Texts that belong together. -/
import Derived.Test.YtcneanpkpmfaiaaGreatZs
import Derived.Test.YtcneanpkpmfaiaaGreatZt
set_option linter.unusedSimpArgs false
set_option linter.unusedVariables false
set_option maxRecDepth 100000
namespace Go.Proofs.YtcneanpkpmfaiaaGreat
section
open Go.Gov
open Classical
def U0 (R:List Int)(B:List (List Int))(x:Nat):Prop:=
 (R.getD x 0=1→(At R B x).length%2≠1)∧(1<R.getD x 0→B9 R B (At R B x)=[])
def Gf (R:List Int)(B:List (List Int)):Prop:=∀ x,x<R.length→U0 R B x
theorem Dj (l:List Int)(i:Nat)(h:i<l.length):l.getD i 0=l[i]:=by simp [h]
theorem jO {r:Int}{R:List Int}{B:List (List Int)}(h:IsPos r R B)(e:Int)(k:Nat)(hk:k<(At R B e).length)(he:e.toNat<B.length):0≤(At R B e).getD k 0∧(At R B e).getD k 0≤(R.length:Int) - 1:=by
 have hm:(At R B e)[k]∈B.getD e.toNat []:=(List.mem_filter.1 (List.getElem_mem hk)).1
 obtain ⟨j,hj,hje⟩:=List.mem_iff_getElem.1 hm
 have:=h.rows.1 e.toNat he j hj
 rw [Dj _ j hj,hje] at this
 rwa [Dj _ k hk]
theorem Us {xs:List Int}(h:sst xs)(h0:∀ k,k<xs.length→0≤xs.getD k 0):∀ k:Nat,k<xs.length→(k:Int)≤xs.getD k 0
 | 0,hk=>h0 0 hk
 | k+1,hk=>by
  have h1:=Us h h0 k (by omega)
  have h2:=sP h k hk
  omega
theorem dX {r:Int}{R:List Int}{B:List (List Int)}(h:IsPos r R B)(x:Nat):(B.getD x []).length≤500:=by
 by_cases hx:x<B.length
 ·have h1:=h.rows.1 x hx
  have h2:=Us (h.rows.2 x) (fun k hk=>(h1 k hk).1)
  obtain ⟨_,_,a3,_⟩:=h.1
  rcases Nat.eq_zero_or_pos (B.getD x []).length with h0 | h0
  ·omega
  ·have h3:=h2 ((B.getD x []).length - 1) (by omega)
   have h4:=(h1 ((B.getD x []).length - 1) (by omega)).2
   omega
 ·simp [hx]
theorem dY {r:Int}{R:List Int}{B:List (List Int)}(h:IsPos r R B)(e:Int):(At R B e).length≤500:=Nat.le_trans (List.length_filter_le _ _) (dX h _)
theorem Qr (n:Nat):((n:Int).tmod 2=1) ↔ n%2=1:=by
 rw [Int.tmod_eq_emod_of_nonneg (by omega)];omega
end
section
open Go.Gov
open Classical
def CntM (L:List Int)(m:List (Int×Int)):Prop:=(∀ d n,(d,n)∈m→n=L.count d∧d∈L)∧∀ d,d∈L→Bv d m=some (L.count d:Int)
theorem CntM.nil:CntM [] []:=⟨by simp,by simp⟩
theorem CntM.look {L:List Int}{m:List (Int×Int)}(h:CntM L m)(d:Int):Bv d m=if d∈L then some (L.count d:Int) else none:=by
 by_cases hd:d∈L
 ·rw [if_pos hd];exact h.2 d hd
 ·rw [if_neg hd]
  cases hl:Bv d m with
  | none=>rfl
  | some n=>exact absurd (h.1 d n (Hu hl)).2 hd
theorem oD {m:List (Int×Int)}{d n:Int}{p:Int×Int}(hp:p∈Ex d n m):p=(d,n)∨p∈m:=by
 unfold Ex at hp
 split at hp
 ·exact (List.mem_or_eq_of_mem_set hp).symm
 ·rcases List.mem_append.1 hp with h | h
  ·exact .inr h
  ·exact .inl (by simpa using h)
def KeyN (m:List (Int×Int)):Prop:=(m.map (·.1)).Nodup
theorem oC {m:List (Int×Int)}(d n:Int):(Ex d n m).map (·.1)=if d∈m.map (·.1) then m.map (·.1) else m.map (·.1)++[d]:=by
 unfold Ex
 cases h:Co d m with
 | none=>
  rw [if_neg (ifind_none.1 h)]
  simp
 | some q=>
  obtain ⟨i,y⟩:=q
  have h1:=S6 h
  have h2:d∈m.map (·.1):=List.mem_map.2 ⟨(d,y),List.mem_of_getElem? h1,rfl⟩
  rw [if_pos h2]
  simp only [List.map_set]
  obtain ⟨hi,he⟩:=List.getElem?_eq_some_iff.1 h1
  refine List.ext_getElem (by simp) fun j h3 h4=>?_
  rw [List.getElem_set]
  split
  ·rename_i e;subst e;simp [he]
  ·rfl
theorem KeyN.put {m:List (Int×Int)}(h:KeyN m)(d n:Int):KeyN (Ex d n m):=by
 unfold KeyN
 rw [oC]
 split
 ·exact h
 ·rename_i hd
  rw [List.nodup_append]
  exact ⟨h,by simp,fun a ha b hb e=>hd (by simp at hb;rw [← hb,← e];exact ha)⟩
theorem KeyN.uniq {m:List (Int×Int)}(h:KeyN m){d a b:Int}(ha:(d,a)∈m)(hb:(d,b)∈m):a=b:=by
 obtain ⟨i,hi,hie⟩:=List.mem_iff_getElem.1 ha
 obtain ⟨j,hj,hje⟩:=List.mem_iff_getElem.1 hb
 have h' : (m.map (·.1)).Nodup:=h
 have:i=j:=(List.getElem_inj (h₀:=by simpa using hi) (h₁:=by simpa using hj) h').1 (by simp [hie,hje])
 subst this
 rw [hie] at hje
 simpa using hje
theorem CntM.put {L:List Int}{m:List (Int×Int)}(h:CntM L m)(hk:KeyN m)(d:Int):CntM (L++[d]) (Ex d ((L.count d:Int)+1) m):=by
 refine ⟨fun e n he=>?_,fun e he=>?_⟩
 ·rcases oD he with h1 | h1
  ·simp only [Prod.mk.injEq] at h1
   obtain ⟨rfl,rfl⟩:=h1
   exact ⟨by simp,by simp⟩
  ·obtain ⟨h2,h3⟩:=h.1 e n h1
   by_cases e1:e=d
   ·subst e1
    have h4:(e,(L.count e:Int)+1)∈Ex e ((L.count e:Int)+1) m:=by
     refine Hu ?_
     rw [Zd];simp
    have h5:=(hk.put e ((L.count e:Int)+1)).uniq he h4
    exact ⟨by rw [h5];simp,by simp⟩
   ·refine ⟨by rw [h2];simp [List.count_append,List.count_singleton,Ne.symm e1],by simp [h3]⟩
 ·rw [Zd]
  by_cases e1:e=d
  ·subst e1;simp
  ·rw [if_neg (by simpa using e1),h.look e,if_pos (by simpa [e1] using he)]
   simp [List.count_append,List.count_singleton,Ne.symm e1]
theorem CntM.keys {L:List Int}{m:List (Int×Int)}(h:CntM L m)(hk:KeyN m):m.length≤L.length:=by
 have h1:(m.map (·.1)).length≤L.length:=by
  have:∀ (ks l:List Int),ks.Nodup→(∀ k∈ks,k∈l)→ks.length≤l.length:=fun ks=>by
   induction ks with
   | nil=>simp
   | cons k ks ih=>
    intro l hn hm
    have h2:=ih (l.erase k) (List.nodup_cons.1 hn).2 fun x hx=>(List.mem_erase_of_ne (fun e=>(List.nodup_cons.1 hn).1 (by rw [← e];exact hx))).2 (hm x (by simp [hx]))
    have h3:=hm k (by simp)
    rw [List.length_erase_of_mem h3] at h2
    have:=List.length_pos_of_mem h3
    simp only [List.length_cons]
    omega
  refine this _ _ hk fun k hk' => ?_
  obtain ⟨p,hp,rfl⟩:=List.mem_map.1 hk'
  exact (h.1 p.1 p.2 hp).2
 simpa using h1
def Jr (R:List Int)(B:List (List Int))(x:Nat):List Int:=((At R B x).map (At R B)).flatten
theorem Yh {R:List Int}{B:List (List Int)}(hs:∀ x,sst (B.getD x []))(x:Nat):B9 R B (At R B x)=[] ↔ ∀ d,(Jr R B x).count d%2=0:=by
 have h1:=(Qo ((At R B x).map (At R B)) [] List.Pairwise.nil (fun l hl=>by
  obtain ⟨e,_,rfl⟩:=List.mem_map.1 hl
  exact Gj hs e)).2
 unfold B9 Jr
 constructor
 ·intro h d
  have:=h1 d
  rw [h] at this
  simp only [List.not_mem_nil,List.count_nil,Nat.zero_add,false_iff] at this
  omega
 ·intro h
  refine List.eq_nil_iff_forall_not_mem.2 fun d hd=>?_
  have:=(h1 d).1 hd
  have:=h d
  simp only [List.count_nil,Nat.zero_add] at *
  omega
theorem T4:∀ {n:Nat} {V:List Nat},V.Nodup→(∀ x∈V,x<n)→V.length≤n
 | 0,V,_,hV=>by
  cases V with
  | nil=>simp
  | cons x V=>have:=hV x (by simp);omega
 | n+1,V,hn,hV=>by
  have h1:=T4 (n:=n) (V:=V.erase n) (hn.erase n) fun x hx=>by
   have:=(hn.mem_erase_iff).1 hx
   have:=hV x this.2
   omega
  rw [List.length_erase] at h1
  split at h1<;>omega
theorem bI {b:Nat}{k:Value}{x:AV}:∀ {n:Nat} {l:List (Value×AV)},.ent b k x∈Bg n l→n≤b∧l[b - n]? = some (k,x)
 | n,[],h=>by simp [Bg] at h
 | n,p :: l,h=>by
  simp only [Bg,List.mem_cons,AV.ent.injEq] at h
  rcases h with ⟨rfl,rfl,rfl⟩ | h
  ·exact ⟨Nat.le_refl _,by simp⟩
  ·obtain ⟨h1,h2⟩:=bI h
   refine ⟨by omega,?_⟩
   rw [show b - n=(b - (n+1))+1 by omega]
   simpa using h2
theorem Yb:∀ {n b:Nat} {l:List (Value×AV)} {p:Value×AV},l[b]? = some p → .ent (n+b) p.1 p.2∈Bg n l
 | n,b,[],p,h=>by simp at h
 | n,0,q :: l,p,h=>by
  simp only [List.getElem?_cons_zero,Option.some.injEq] at h
  subst h;simp [Bg]
 | n,b+1,q :: l,p,h=>by
  have:=Yb (n:=n+1) (b:=b) (l:=l) (p:=p) (by simpa using h)
  rw [show n+1+b=n+(b+1) by omega] at this
  simp [Bg,this]
theorem bJ:∀ {n b:Nat} {l:List (Value×AV)} {p:Value×AV},l[b]? = some p→I3 ((n+b:Nat):Int) (Bg n l)=some p
 | n,b,[],p,h=>by simp at h
 | n,0,q :: l,p,h=>by
  simp only [List.getElem?_cons_zero,Option.some.injEq] at h
  subst h;simp [Bg,I3]
 | n,b+1,q :: l,p,h=>by
  have ih:=bJ (n:=n+1) (b:=b) (l:=l) (p:=p) (by simpa using h)
  rw [show n+1+b=n+(b+1) by omega] at ih
  simp only [Bg,I3]
  rw [if_neg (by simp;omega),ih]
theorem Vo:∀ (n:Nat) (l:List (Value×AV)) (c:Int),(n+l.length:Int)≤c→(∀ p∈l,Bs p.2=true)→Oe c (Bg n l)=true
 | n,[],c,_,_=>rfl
 | n,p :: l,c,h,hp=>by
  simp only [List.length_cons] at h
  have:=Vo (n+1) l c (by omega) fun q hq=>hp q (by simp [hq])
  unfold Oe at *
  simp only [Bg,List.all_cons,this,Bool.and_true,hp p (by simp)]
  simpa using (by omega:(n:Int)<c)
theorem Ys {f:Int→List Int}{n:Nat}(h:∀ x,(f x).length≤n):∀ xs:List Int,(xs.flatMap f).length≤xs.length*n
 | []=>by simp
 | x :: xs=>by
  have h1:=Ys h xs
  have h2:=h x
  rw [List.flatMap_cons,List.length_append,List.length_cons,Nat.add_mul]
  omega
theorem Adg {f:Int→List Int}{xs:List Int}{k:Nat}(h:k<xs.length):(xs.take (k+1)).flatMap f=(xs.take k).flatMap f++f (xs.getD k 0):=by
 rw [List.take_succ_eq_append_getElem h,List.flatMap_append]
 simp [h]
def G6 (R:List Int)(B:List (List Int))(x:Nat)(y:Int):List Int:=(B.getD y.toNat []).filter fun d=>R.getD y.toNat 0 == R.getD x 0 - 1&&R.getD d.toNat 0 == R.getD x 0 - 2
theorem mA (R:List Int)(B:List (List Int))(x:Nat):(B.getD x []).flatMap (G6 R B x)=Jr R B x:=by
 unfold Jr At
 rw [← List.flatMap_def]
 simp only [Int.toNat_natCast]
 generalize B.getD x []=xs
 induction xs with
 | nil=>rfl
 | cons y ys ih=>
  rw [List.flatMap_cons,ih,List.filter_cons]
  by_cases h:B6 R x y=true
  ·rw [if_pos h,List.flatMap_cons]
   congr 1
   unfold B6 at h
   have h' : R.getD y.toNat 0=R.getD x 0 - 1:=by simpa using h
   unfold G6 B6
   refine List.filter_congr fun d _=>?_
   rw [h']
   have:R.getD x 0 - 1 - 1=R.getD x 0 - 2:=by omega
   simp only [this,beq_self_eq_true,Bool.true_and]
  ·rw [if_neg h]
   have h' : ¬ R.getD y.toNat 0=R.getD x 0 - 1:=by
    unfold B6 at h
    simpa using h
   have:G6 R B x y=[]:=by
    unfold G6
    rw [List.filter_eq_nil_iff]
    intro d _
    simp only [Bool.and_eq_true,beq_iff_eq,not_and]
    exact fun h2=>absurd h2 h'
   rw [this];rfl
def iI (n:Int):AV:=i64 n
theorem nN (n:Int):iI n=i64 n:=rfl
theorem nS (l:List (Int×Int)):A4 (fun x=>i64 x) l=A4 iI l:=rfl
theorem tS (l:List (Int×Int))(n x:Int):J5 (.int .i64 n) (i64 x) (A4 iI l)=A4 iI (Ex n x l):=bL iI l n x
attribute [go_sem] nN nS tS
theorem nT (m:List (Int×Int)):A4 iI m=i64 m.length :: Bg 0 (m.map fun p=>(.int .i64 p.1,i64 p.2)):=by simp [A4,B8,iI]
set_option maxHeartbeats 4000000 in
theorem oE (r:Int)(R:List Int)(B:List (List Int))(hp:IsPos r R B):Pure Tryz.prog 31 [.pto [i64 r,Ac R,Ae B] 0] (bl (decide (Gf R B))) []:=by
 obtain ⟨a1,a2,a3,a4,a5⟩:=hp.rank
 obtain ⟨hok,hs⟩:=hp.rows
 have hrow:=dX hp
 refine Bj wI rfl rfl ?_;unfold Wx
 refine RN ?_
 refine Aj (α:=Nat) (S:=fun x=>([(0,.pto [i64 r,Ac R,Ae B] 0),(15,Ae B),(16,i64 B.length),(17,i64 x)],[])) (C:=fun x=>x≤R.length∧∀ j,j<x→U0 R B j) (μ:=fun x=>R.length - x) 0 ⟨by omega,by omega⟩ (by exact Ref.frame (by simp [sub,Ab])) ?_
 rintro x ⟨hx,hall⟩
 refine RN ?_
 refine ⟨fun hc=>?_,fun hc=>?_⟩
 ·have hlen:=hrow x
  have hbx:R.getD x 0=1→At R B x=B.getD x []:=fun h=>by
   unfold At
   rw [Int.toNat_natCast,List.filter_eq_self]
   intro d hd
   obtain ⟨k,hk,hke⟩:=List.mem_iff_getElem.1 hd
   obtain ⟨⟨_,_⟩,hall2⟩:=hp.2 x (by omega)
   obtain ⟨⟨b1,b2,b3,b4⟩,_⟩:=hall2 k hk
   rw [Dj _ k hk,hke] at b1 b2 b3
   have:=a5 d.toNat (by omega)
   unfold B6
   simp only [Int.toNat_natCast,beq_iff_eq]
   omega
  refine RN ?_
  refine ⟨fun hc1=>?_,fun hc1=>?_⟩
  ·(refine RN ?_;try with_reducible exact trivial)
   rw [decide_eq_false (fun h=>?_)]
   try simp only [go_sem,↓reduceIte,Nat.reduceEqDiff,Nat.reduceAdd,reduceCtorEq] at hc1
   have h1:=(h x (by omega)).1 hc1.1
   rw [hbx hc1.1] at h1
   exact h1 ((Qr _).1 hc1.2)
  ·try simp only [go_sem,↓reduceIte,Nat.reduceEqDiff,Nat.reduceAdd,reduceCtorEq] at hc1
   refine RN ?_
   refine ⟨fun hc2=>?_,fun hc2=>?_⟩
   ·(refine RN ?_;try with_reducible exact trivial)
    refine ⟨x+1,⟨by omega,fun j hj=>?_⟩,by omega,by exact Ref.frame (by simp [sub,Ab])⟩
    rcases Nat.lt_or_ge j x with h | h
    ·exact hall j h
    ·obtain rfl:j=x:=by omega
     refine ⟨fun h1 h2=>?_,fun h1=>by omega⟩
     rw [hbx h1] at h2
     have h3:=(Qr _).2 h2
     rcases hc1 with hc1 | hc1
     ·exact hc1 h1
     ·exact hc1 h3
   ·(refine RN ?_;try with_reducible exact trivial)
    refine Aj (α:=Nat×List (Int×Int)) (S:=fun q=>([(0,.pto [i64 r,Ac R,Ae B] 0),(15,Ae B),(16,i64 B.length),(17,i64 x),(3,i64 x),(5,.mp 0),(45,Ac (B.getD x [])),(46,i64 (B.getD x []).length),(47,i64 q.1)],[some [.mpc (A4 iI q.2)]])) (C:=fun q=>q.1≤(B.getD x []).length∧CntM (((B.getD x []).take q.1).flatMap (G6 R B x)) q.2∧KeyN q.2) (μ:=fun q=>(B.getD x []).length - q.1) (0,[]) ⟨by omega,by simpa using CntM.nil,List.nodup_nil⟩ (Ref.to (by simp [A4,B8,Bg]) (by simp [sub,Ab])) ?_
    rintro ⟨k,m⟩ ⟨hk,hm,hkn⟩
    simp only at hk hm hkn ⊢
    refine RN ?_
    refine ⟨fun hc3=>?_,fun hc3=>?_⟩
    ·have hk' : k<(B.getD x []).length:=by omega
     have hy:=hok x (by omega) k hk'
     have hry:=a5 ((B.getD x []).getD k 0).toNat (by omega)
     have hlen2:=hrow ((B.getD x []).getD k 0).toNat
     have hfl:=Adg (f:=G6 R B x) hk'
     refine RN ?_
     generalize hyy:(B.getD x []).getD k 0=y at *
     have hL0b:(((B.getD x []).take k).flatMap (G6 R B x)).length≤250000:=by
      have h1:=Ys (f:=G6 R B x) (n:=500) (fun y=>Nat.le_trans (List.length_filter_le _ _) (hrow _)) ((B.getD x []).take k)
      rw [List.length_take] at h1
      have h2:min k (B.getD x []).length*500≤500*500:=Nat.mul_le_mul_right _ (by omega)
      omega
     generalize hL0:((B.getD x []).take k).flatMap (G6 R B x)=L0 at *
     let cnd:Int→Bool:=fun d=>R.getD y.toNat 0 == R.getD x 0 - 1&&R.getD d.toNat 0 == R.getD x 0 - 2
     have hcnd:G6 R B x y=(B.getD y.toNat []).filter cnd:=rfl
     refine Aj (α:=Nat×List (Int×Int)) (S:=fun q=>([(0,.pto [i64 r,Ac R,Ae B] 0),(15,Ae B),(16,i64 B.length),(17,i64 x),(3,i64 x),(5,.mp 0),(45,Ac (B.getD x [])),(46,i64 (B.getD x []).length),(47,i64 k),(7,i64 y),(57,Ac (B.getD y.toNat [])),(58,i64 (B.getD y.toNat []).length),(59,i64 q.1)],[some [.mpc (A4 iI q.2)]])) (C:=fun q=>q.1≤(B.getD y.toNat []).length∧CntM (L0++((B.getD y.toNat []).take q.1).filter cnd) q.2∧KeyN q.2) (μ:=fun q=>(B.getD y.toNat []).length - q.1) (0,m) ⟨by omega,by simpa using hm,hkn⟩ (by exact Ref.frame (by simp [sub,Ab])) ?_
     rintro ⟨j,m2⟩ ⟨hj,hm2,hkn2⟩
     simp only at hj hm2 hkn2 ⊢
     refine RN ?_
     refine ⟨fun hc4=>?_,fun hc4=>?_⟩
     ·have hj' : j<(B.getD y.toNat []).length:=by omega
      have hd:=hok y.toNat (by omega) j hj'
      have hrd:=a5 ((B.getD y.toNat []).getD j 0).toNat (by omega)
      have hft:=Sm (p:=cnd) hj'
      refine RN ?_
      have hLb:(L0++((B.getD y.toNat []).take j).filter cnd).length≤260000:=by
       have h1:=Sl (p:=cnd) (B.getD y.toNat []) j
       rw [List.length_append];omega
      generalize hdd:(B.getD y.toNat []).getD j 0=d at *
      generalize hL:L0++((B.getD y.toNat []).take j).filter cnd=L at *
      refine ⟨fun hc5=>?_,fun hc5=>?_⟩
      ·have hcd : cnd d = true := by
         try simp only [go_sem,↓reduceIte,Nat.reduceEqDiff,Nat.reduceAdd,reduceCtorEq] at hc5
         simp only [cnd,Bool.and_eq_true,beq_iff_eq]
         exact hc5
       rw [hcd,if_pos rfl] at hft
       have hlk:=hm2.look d
       have hput:=hm2.put hkn2 d
       have hkp:=hkn2.put d ((L.count d:Int)+1)
       by_cases hdL:d∈L
       ·rw [if_pos hdL] at hlk
        have hcl:L.count d≤L.length:=List.count_le_length
        refine RN ?_
        simp only [hlk,go_sem,↓reduceIte,Nat.reduceEqDiff,Nat.reduceAdd,reduceCtorEq]
        refine RN ?_
        refine ⟨(j+1,Ex d ((L.count d:Int)+1) m2),⟨by simp only;omega,?_,hkp⟩,by simp only;omega,?_⟩
        ·simp only
         rw [hft,← List.append_assoc,hL];exact hput
        ·exact Ref.gc1 [0]
       ·rw [if_neg hdL] at hlk
        have hc0:L.count d=0:=List.count_eq_zero.2 hdL
        rw [hc0,show ((0:Nat):Int)=0 from rfl] at hput hkp
        refine RN ?_
        simp only [hlk,go_sem,↓reduceIte,Nat.reduceEqDiff,Nat.reduceAdd,reduceCtorEq]
        refine RN ?_
        refine ⟨(j+1,Ex d (0+1) m2),⟨by simp only;omega,?_,hkp⟩,by simp only;omega,?_⟩
        ·simp only
         rw [hft,← List.append_assoc,hL];exact hput
        ·exact Ref.gc1 [0]
      ·have hcd : cnd d = false := by
         try simp only [go_sem,↓reduceIte,Nat.reduceEqDiff,Nat.reduceAdd,reduceCtorEq] at hc5
         simp only [cnd,Bool.and_eq_false_iff,beq_eq_false_iff_ne]
         exact hc5
       rw [hcd,if_neg (by simp)] at hft
       refine RN ?_
       refine ⟨(j+1,m2),⟨by simp only;omega,?_,hkn2⟩,by simp only;omega,by exact Ref.frame (by simp [sub,Ab])⟩
       simp only
       rw [hft,hL];exact hm2
     ·(refine RN ?_;try with_reducible exact trivial)
      refine ⟨(k+1,m2),⟨by simp only;omega,?_,hkn2⟩,by simp only;omega,by exact Ref.frame (by simp [sub,Ab])⟩
      simp only
      rw [hfl,hcnd]
      rwa [List.take_of_length_le (by omega)] at hm2
    ·rw [List.take_of_length_le (by omega),mA] at hm
     have hml:=hm.keys hkn
     have hei:=nT m
     refine Ft ((Ref.dead (F' := [(0,.pto [i64 r,Ac R,Ae B] 0),(15,Ae B),(16,i64 B.length),(17,i64 x),(3,i64 x),(5,.mpz (A4 iI m))]) (by simp [sub,Ab,G8,go_sem,↓reduceIte,Nat.reduceEqDiff,Nat.reduceAdd,reduceCtorEq])).trans (Ref.gc (F' := [(0,.pto [i64 r,Ac R,Ae B] 0),(15,Ae B),(16,i64 B.length),(17,i64 x),(3,i64 x),(5,.mpz (A4 iI m))]) [] rfl rfl (by simp [sub,Ab,go_sem,↓reduceIte,Nat.reduceEqDiff,Nat.reduceAdd,reduceCtorEq]))) ?_
     rw [hei]
     have hmem:∀ (b:Nat) (k:Value) (y:AV),.ent b k y∈Bg 0 (m.map fun p=>((.int .i64 p.1,i64 p.2):Value×AV))→∃ p:Int×Int,m[b]? = some p∧k = .int .i64 p.1∧y=i64 p.2:=fun b k y h=>by
      obtain ⟨_,h1⟩:=bI h
      rw [Nat.sub_zero,List.getElem?_map,Option.map_eq_some_iff] at h1
      obtain ⟨p,hp1,hp2⟩:=h1
      simp only [Prod.mk.injEq] at hp2
      exact ⟨p,hp1,hp2.1.symm,hp2.2.symm⟩
     have hat:∀ (b:Nat) (p:Int×Int),m[b]? = some p → .ent b (.int .i64 p.1) (i64 p.2)∈Bg 0 (m.map fun p=>((.int .i64 p.1,i64 p.2):Value×AV)):=fun b p h=>by
      have:=Yb (n:=0) (b:=b) (l:=m.map fun p=>((.int .i64 p.1,i64 p.2):Value×AV)) (p:=(.int .i64 p.1,i64 p.2)) (by simp [h])
      rwa [Nat.zero_add] at this
     have hfe:∀ (b:Nat) (p:Int×Int),m[b]? = some p→I3 (b:Int) (Bg 0 (m.map fun p=>((.int .i64 p.1,i64 p.2):Value×AV)))=some (.int .i64 p.1,i64 p.2):=fun b p h=>by
      have:=bJ (n:=0) (b:=b) (l:=m.map fun p=>((.int .i64 p.1,i64 p.2):Value×AV)) (p:=(.int .i64 p.1,i64 p.2)) (by simp [h])
      rwa [Nat.zero_add] at this
     have hborn:Oe (m.length:Int) (Bg 0 (m.map fun p=>((.int .i64 p.1,i64 p.2):Value×AV)))=true:=Vo 0 _ _ (by simp) fun p hp=>by
      obtain ⟨q,_,rfl⟩:=List.mem_map.1 hp
      rfl
     generalize Bg 0 (m.map fun p=>((.int .i64 p.1,i64 p.2):Value×AV))=es at *
     refine RN ?_
     refine Aj (α:=List Nat) (S:=fun seen=>([(0,.pto [i64 r,Ac R,Ae B] 0),(15,Ae B),(16,i64 B.length),(17,i64 x),(104,.it 0)],[some [.mpc (.mpz (i64 m.length :: es) :: i64 m.length :: i64 m.length :: seen.map fun (b:Nat)=>i64 b)]])) (C:=fun seen=>seen.Nodup∧∀ b∈seen,∃ p:Int×Int,m[b]? = some p∧p.2.tmod 2≠1) (μ:=fun seen=>m.length - seen.length) [] ⟨List.nodup_nil,by simp⟩ (by exact Ref.frame (by simp [sub,Ab])) ?_
     rintro seen ⟨hnd,hsn⟩
     have hsl:seen.length≤m.length:=T4 hnd fun b hb=>by
      obtain ⟨p,h1,_⟩:=hsn b hb
      exact (List.getElem?_eq_some_iff.1 h1).1
     have hsi:(seen.map fun (b:Nat)=>i64 b).all S9=true:=by simp [S9]
     have hsm:∀ b:Nat,i64 b∈(seen.map fun (b:Nat)=>i64 b) ↔ b∈seen:=fun b=>by
      simp only [List.mem_map,AV.val.injEq,Value.int.injEq,true_and]
      constructor
      ·rintro ⟨c,hc,he⟩
       obtain rfl:c=b:=by omega
       exact hc
      ·exact fun h=>⟨b,h,rfl⟩
     simp only [go_sem,↓reduceIte,Nat.reduceEqDiff,Nat.reduceAdd,reduceCtorEq]
     refine ⟨hborn,hsi,fun b kv y hm1 hns=>?_,fun hall2=>?_⟩
     ·obtain ⟨p,hp1,rfl,rfl⟩:=hmem b kv y hm1
      rw [hsm] at hns
      have hfe1:=hfe b p hp1
      have hpm:(p.1,p.2)∈m:=List.mem_of_getElem? hp1
      obtain ⟨hcn,hcl⟩:=hm.1 p.1 p.2 hpm
      refine RN ?_
      simp only [List.getLast?_concat,hfe1,go_sem,↓reduceIte,Nat.reduceEqDiff,Nat.reduceAdd,reduceCtorEq]
      refine RN ?_
      refine ⟨fun hc4=>?_,fun hc4=>?_⟩
      ·(refine RN ?_;try with_reducible exact trivial)
       rw [decide_eq_false (fun h=>?_)]
       have h1:=(Yh hs x).1 ((h x (by omega)).2 (by omega)) p.1
       rw [hcn] at hc4
       have:=(Qr _).1 hc4
       omega
      ·(refine RN ?_;try with_reducible exact trivial)
       refine ⟨seen++[b],⟨?_,fun b' hb' => ?_⟩,?_,Ref.to (by simp) (by simp [sub,Ab,go_sem,↓reduceIte,Nat.reduceEqDiff,Nat.reduceAdd,reduceCtorEq])⟩
       ·rw [List.nodup_append]
        exact ⟨hnd,by simp,fun u hu v hv e=>hns (by simp at hv;rw [← hv,← e];exact hu)⟩
       ·rcases List.mem_append.1 hb' with h | h
        ·exact hsn b' h
        ·obtain rfl:b' = b:=by simpa using h
         exact ⟨p,hp1,hc4⟩
       ·have h1 : (seen ++ [b]).length ≤ m.length := T4 (by
          rw [List.nodup_append]
          exact ⟨hnd,by simp,fun u hu v hv e=>hns (by simp at hv;rw [← hv,← e];exact hu)⟩) fun b' hb' => by
          rcases List.mem_append.1 hb' with h | h
          ·obtain ⟨q,h1,_⟩:=hsn b' h
           exact (List.getElem?_eq_some_iff.1 h1).1
          ·obtain rfl:b' = b:=by simpa using h
           exact (List.getElem?_eq_some_iff.1 hp1).1
        simp only [List.length_append,List.length_cons,List.length_nil] at h1 ⊢
        omega
     ·have hev : B9 R B (At R B x) = [] := (Yh hs x).2 fun d => by
        by_cases hd:d∈Jr R B x
        ·have h1:=Hu (hm.2 d hd)
         obtain ⟨b,hb,hbe⟩:=List.mem_iff_getElem.1 h1
         have h2:m[b]? = some (d,((Jr R B x).count d:Int)):=by rw [List.getElem?_eq_getElem hb,hbe]
         obtain ⟨p,h3,h4⟩:=hsn b ((hsm b).1 (hall2 b _ _ (hat b _ h2)))
         rw [h2] at h3
         obtain rfl:=Option.some.inj h3
         rcases Nat.mod_two_eq_zero_or_one ((Jr R B x).count d) with h6 | h6
         ·exact h6
         ·exact absurd ((Qr _).2 h6) h4
        ·rw [List.count_eq_zero.2 hd]
      refine RN ?_
      refine ⟨x+1,⟨by omega,fun j hj=>?_⟩,by omega,Ref.gc [] rfl rfl (by simp [sub,Ab,go_sem,↓reduceIte,Nat.reduceEqDiff,Nat.reduceAdd,reduceCtorEq])⟩
      rcases Nat.lt_or_ge j x with h | h
      ·exact hall j h
      ·obtain rfl:j=x:=by omega
       exact ⟨fun h1=>by omega,fun _=>hev⟩
 ·(refine RN ?_;try with_reducible exact trivial)
  rw [decide_eq_true (p:=Gf R B) (fun j hj=>hall j (by omega))]
end
section
open Go.Gov
open Classical
theorem nZ (r:Int)(R:List Int)(B:List (List Int))(h1:R.length≤1048576)(hl:B.length≤1048576)(hr:∀ xs∈B,xs.length≤1048576):Pure Tryz.prog 13 [A6 r R B] (.tup [bl (if IsPos r R B then decide (Gf R B) else false),i64 (if IsPos r R B then 0 else 1)]) []:=by
 refine Bj vE rfl rfl ?_;unfold V5
 refine RN ?_
 refine Am (Ta r R B (by omega) (by omega) (fun xs hx=>Nat.le_trans (hr xs hx) (by omega))) ?_
 refine RN ?_
 refine ⟨fun hc=>?_,fun hc=>?_⟩
 ·have hn:¬ IsPos r R B:=by simpa using hc
  simp only [if_neg hn]
  (refine RN ?_;try with_reducible exact trivial)
 ·have hp:IsPos r R B:=by simpa using hc
  simp only [if_pos hp]
  refine RN ?_
  refine Am (oE r R B hp) ?_
  (refine RN ?_;try with_reducible exact trivial)
end
end Go.Proofs.YtcneanpkpmfaiaaGreat
