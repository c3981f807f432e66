/- Texts that belong together. -/
import Derived.Test.YtfcbamfkfadabaaGreatDoorZn
import Derived.Test.YtfcbamfkfadabaaGreatDoorZw
set_option linter.unusedSimpArgs false
set_option linter.unusedVariables false
set_option maxRecDepth 100000
namespace Go.Cl
open Classical
theorem inj_len {α β:Type}[DecidableEq β]:∀ {A:List α} {B:List β} (g:α→β),A.Nodup→(∀ a∈A,g a∈B)→(∀ a∈A,∀ b∈A,g a=g b→a=b)→A.length≤B.length
 | [],_,_,_,_,_=>Nat.zero_le _
 | a :: A,B,g,hn,hm,hi=>by
  have hn' := List.nodup_cons.1 hn
  have h1:=hm a (by simp)
  have h2:=inj_len (A:=A) (B:=B.erase (g a)) g hn'.2 (fun b hb=>(List.mem_erase_of_ne (fun e=>by
   have:=hi b (by simp [hb]) a (by simp) e
   exact hn'.1 (this ▸ hb))).2 (hm b (by simp [hb]))) (fun b hb c hc=>hi b (by simp [hb]) c (by simp [hc]))
  have h3:=List.length_erase_of_mem h1
  have h4:0<B.length:=List.length_pos_of_mem h1
  simp only [List.length_cons]
  omega
structure Eqv (n:Nat) (R:Nat→Nat→Prop):Prop where
 refl:∀ x,x<n→R x x
 symm:∀ x y,x<n→y<n→R x y→R y x
 trans:∀ x y z,x<n→y<n→z<n→R x y→R y z→R x z
structure Sys (n:Nat) (R:Nat→Nat→Prop) (V:List Nat):Prop where
 nd:V.Nodup
 lt:∀ v∈V,v<n
 ne:∀ v∈V,∀ u∈V,R v u→v=u
 all:∀ x,x<n→∃ v∈V,R v x
theorem sys_le {n m:Nat}{R Q:Nat→Nat→Prop}{V W:List Nat}(hR:Eqv n R)(hQ:Eqv m Q)(hV:Sys n R V)(hW:Sys m Q W)(φ:Nat→Nat)(h1:∀ x,x<n→φ x<m)(h2:∀ x y,x<n→y<n→Q (φ x) (φ y)→R x y):V.length≤W.length:=by
 have hex:∀ v,v∈V→∃ w,w∈W∧Q w (φ v):=fun v hv=>hW.all _ (h1 v (hV.lt v hv))
 have hg:∀ v,v∈V→(fun v=>if h:v∈V then Classical.choose (hex v h) else 0) v∈W∧Q ((fun v=>if h:v∈V then Classical.choose (hex v h) else 0) v) (φ v):=fun v hv=>by
  dsimp only
  rw [dif_pos hv]
  exact Classical.choose_spec (hex v hv)
 refine inj_len (fun v=>if h:v∈V then Classical.choose (hex v h) else 0) hV.nd (fun v hv=>(hg v hv).1) fun a ha b hb e=>?_
 obtain ⟨a1,a2⟩:=hg a ha
 obtain ⟨b1,b2⟩:=hg b hb
 have e' : (fun v=>if h:v∈V then Classical.choose (hex v h) else 0) a=(fun v=>if h:v∈V then Classical.choose (hex v h) else 0) b:=e
 rw [← e'] at b2
 have hla:=h1 a (hV.lt a ha)
 have hlb:=h1 b (hV.lt b hb)
 have hlw:=hW.lt _ a1
 exact hV.ne a ha b hb (h2 a b (hV.lt a ha) (hV.lt b hb) (hQ.trans _ _ _ hla hlw hlb (hQ.symm _ _ hlw hla a2) b2))
theorem sys_len {n:Nat}{R:Nat→Nat→Prop}{V W:List Nat}(hR:Eqv n R)(hV:Sys n R V)(hW:Sys n R W):V.length=W.length:=
 Nat.le_antisymm (sys_le hR hR hV hW id (fun _ h=>h) fun _ _ _ _ h=>h) (sys_le hR hR hW hV id (fun _ h=>h) fun _ _ _ _ h=>h)
noncomputable def lst (n:Nat)(R:Nat→Nat→Prop):List Nat:=(List.range n).filter fun x=>decide (∀ y,y<x→¬ R y x)
theorem lst_sys {n:Nat}{R:Nat→Nat→Prop}(hR:Eqv n R):Sys n R (lst n R):=by
 have hm:∀ x,x∈lst n R ↔ x<n∧∀ y,y<x→¬ R y x:=fun x=>by simp [lst]
 refine ⟨List.nodup_range.filter _,fun v hv=>((hm v).1 hv).1,fun v hv u hu h=>?_,fun x hx=>?_⟩
 ·obtain ⟨a1,a2⟩:=(hm v).1 hv
  obtain ⟨b1,b2⟩:=(hm u).1 hu
  rcases Nat.lt_trichotomy v u with h3 | h3 | h3
  ·exact absurd h (b2 v h3)
  ·exact h3
  ·exact absurd (hR.symm _ _ a1 b1 h) (a2 u h3)
 ·have : ∀ k x, x ≤ k → x < n → ∃ v ∈ lst n R, R v x := by
    intro k
    induction k with
    | zero=>
     intro x h1 h2
     obtain rfl:x=0:=by omega
     exact ⟨0,(hm 0).2 ⟨h2,fun y hy=>by omega⟩,hR.refl 0 h2⟩
    | succ k ih=>
     intro x h1 h2
     by_cases h3:∀ y,y<x→¬ R y x
     ·exact ⟨x,(hm x).2 ⟨h2,h3⟩,hR.refl x h2⟩
     ·obtain ⟨y,h4⟩:=Classical.not_forall.1 h3
      obtain ⟨h4,h5⟩:=Classical.not_imp.1 h4
      obtain ⟨v,h6,h7⟩:=ih y (by omega) (by omega)
      exact ⟨v,h6,hR.trans _ _ _ ((hm v).1 h6).1 (by omega) h2 h7 (Classical.not_not.1 h5)⟩
  exact this x x (Nat.le_refl _) hx
noncomputable def num (n:Nat)(R:Nat→Nat→Prop):Nat:=(lst n R).length
theorem num_eq {n:Nat}{R:Nat→Nat→Prop}(hR:Eqv n R){V:List Nat}(hV:Sys n R V):num n R=V.length:=sys_len hR (lst_sys hR) hV
theorem num_congr {n:Nat}{R Q:Nat→Nat→Prop}(h:∀ x y,x<n→y<n→(R x y ↔ Q x y)):num n R=num n Q:=by
 unfold num lst
 congr 1
 refine List.filter_congr fun x hx=>?_
 have hx:=List.mem_range.1 hx
 have:(∀ y,y<x→¬ R y x) ↔ ∀ y,y<x→¬ Q y x:=⟨fun h1 y hy hq=>h1 y hy ((h y x (by omega) hx).2 hq),fun h1 y hy hq=>h1 y hy ((h y x (by omega) hx).1 hq)⟩
 simp only [this]
theorem sum_one {R:Nat→Nat→Prop}{x:Nat}:∀ {V:List Nat},V.Nodup→(∃ v∈V,R v x)→(∀ v∈V,∀ u∈V,R v x→R u x→v=u)→(V.map fun v=>if R v x then 1 else 0).sum=1
 | [],_,⟨_,h,_⟩,_=>by cases h
 | v :: V,hn,hx,hu=>by
  have hn' := List.nodup_cons.1 hn
  have hz:R v x→∀ u∈V,¬ R u x:=fun h1 u h2 h3=>by
   have:=hu v (by simp) u (by simp [h2]) h1 h3
   exact hn'.1 (this ▸ h2)
  rw [List.map_cons,List.sum_cons]
  by_cases h1:R v x
  ·rw [if_pos h1]
   have:∀ W:List Nat,(∀ u∈W,¬ R u x)→(W.map fun v=>if R v x then 1 else 0).sum=0:=by
    intro W
    induction W with
    | nil=>intro _;rfl
    | cons w W ih=>intro h;rw [List.map_cons,List.sum_cons,if_neg (h w (by simp)),ih fun u hu=>h u (by simp [hu])]
   rw [this V (hz h1)]
  ·rw [if_neg h1, sum_one hn'.2 (by
     obtain ⟨u,h2,h3⟩:=hx
     rcases List.mem_cons.1 h2 with rfl | h2
     ·exact absurd h3 h1
     ·exact ⟨u,h2,h3⟩) fun a ha b hb=>hu a (by simp [ha]) b (by simp [hb])]
theorem sum_add {α:Type}(f g:α→Nat):∀ V:List α,(V.map fun v=>f v+g v).sum=(V.map f).sum+(V.map g).sum
 | []=>rfl
 | v :: V=>by
  simp only [List.map_cons,List.sum_cons,sum_add f g V]
  omega
theorem sum_cls {n:Nat}{R:Nat→Nat→Prop}(hR:Eqv n R){V:List Nat}(hV:Sys n R V):∀ k,k≤n→(V.map fun v=>(List.range k).countP fun x=>decide (R v x)).sum=k
 | 0,_=>by
  have:∀ W:List Nat,(W.map fun v=>(List.range 0).countP fun x=>decide (R v x)).sum=0:=by
   intro W
   induction W with
   | nil=>rfl
   | cons w W ih=>rw [List.map_cons,List.sum_cons,ih];rfl
  exact this V
 | k+1,hk=>by
  have ih:=sum_cls hR hV k (by omega)
  have h1:=sum_one (R:=R) (x:=k) hV.nd (hV.all k (by omega)) fun v hv u hu h1 h2=>hV.ne v hv u hu (hR.trans _ _ _ (hV.lt v hv) (by omega) (hV.lt u hu) h1 (hR.symm _ _ (hV.lt u hu) (by omega) h2))
  have h2:(V.map fun v=>(List.range (k+1)).countP fun x=>decide (R v x))=V.map fun v=>((List.range k).countP fun x=>decide (R v x))+if R v k then 1 else 0:=List.map_congr_left fun v _=>by
   rw [List.range_succ,List.countP_append]
   by_cases h:R v k<;>simp [h]
  rw [h2,sum_add,ih,h1]
theorem countP_mem {n:Nat}{p:Nat→Bool}{W:List Nat}(hn:W.Nodup)(hp:∀ x,x<n→(p x=true ↔ x∈W))(hl:∀ x∈W,x<n):(List.range n).countP p=W.length:=by
 rw [List.countP_eq_length_filter]
 refine Nat.le_antisymm (inj_len id (List.nodup_range.filter _) (fun a ha=>?_) fun _ _ _ _ h=>h) (inj_len id hn (fun a ha=>?_) fun _ _ _ _ h=>h)
 ·obtain ⟨h1,h2⟩:=List.mem_filter.1 ha
  exact (hp a (List.mem_range.1 h1)).1 h2
 ·exact List.mem_filter.2 ⟨List.mem_range.2 (hl a ha),(hp a (hl a ha)).2 ha⟩
theorem num_mul {n k:Nat}{R:Nat→Nat→Prop}(hR:Eqv n R)(h:∀ x,x<n→∃ W:List Nat,W.Nodup∧W.length=k∧∀ y,y∈W ↔ y<n∧R x y):num n R*k=n:=by
 have h1:=sum_cls hR (lst_sys hR) n (Nat.le_refl _)
 have h2:(lst n R).map (fun v=>(List.range n).countP fun x=>decide (R v x))=(lst n R).map fun _=>k:=List.map_congr_left fun v hv=>by
  obtain ⟨W,w1,w2,w3⟩:=h v ((lst_sys hR).lt v hv)
  rw [← w2]
  exact countP_mem w1 (fun x hx=>by rw [w3];simp [hx]) fun x hx=>((w3 x).1 hx).1
 rw [h2] at h1
 have h3:∀ W:List Nat,(W.map fun _=>k).sum=W.length*k:=by
  intro W
  induction W with
  | nil=>simp
  | cons w W ih=>rw [List.map_cons,List.sum_cons,ih,List.length_cons,Nat.add_mul];omega
 rw [h3] at h1
 exact h1
theorem nodup_flat {α β:Type}(g:α→List β):∀ J:List α,J.Nodup→(∀ j∈J,(g j).Nodup)→(∀ j∈J,∀ k∈J,∀ x,x∈g j→x∈g k→j=k)→(J.flatMap g).Nodup
 | [],_,_,_=>List.nodup_nil
 | j :: J,hn,h1,h2=>by
  have hn' := List.nodup_cons.1 hn
  rw [List.flatMap_cons]
  refine List.nodup_append.2 ⟨h1 j (by simp),nodup_flat g J hn'.2 (fun k hk=>h1 k (by simp [hk])) fun a ha b hb=>h2 a (by simp [ha]) b (by simp [hb]),fun a ha b hb e=>?_⟩
  subst e
  obtain ⟨k,hk,hb⟩:=List.mem_flatMap.1 hb
  have:=h2 j (by simp) k (by simp [hk]) a ha hb
  exact hn'.1 (this ▸ hk)
theorem num_parts {n p : Nat} (hp : 0 < p) {R : Nat → Nat → Prop} {C : Nat → Nat} {Q : Nat → Nat → Nat → Prop} (hR : Eqv (n * p) R) (hQ : ∀ j, j < p → C j = j → Eqv n (Q j)) (hC : ∀ j, j < p → C j < p ∧ C (C j) = C j)
    (h:∀ f g j k,f<n→g<n→j<p→k<p→(R (f*p+j) (g*p+k) ↔ C j=C k∧Q (C j) f g)):
    num (n*p) R=(((List.range p).filter fun j=>decide (C j=j)).map fun j=>num n (Q j)).sum:=by
 have hdiv:∀ x,x<n*p→x / p<n∧x%p<p∧x=x / p*p+x%p:=fun x hx=>⟨(Nat.div_lt_iff_lt_mul hp).2 hx,Nat.mod_lt _ hp,by have:=Nat.div_add_mod x p;rw [Nat.mul_comm] at this;exact this.symm⟩
 have hlt:∀ f j,f<n→j<p→f*p+j<n*p:=fun f j hf hj=>by
  have:(f+1)*p≤n*p:=Nat.mul_le_mul_right p hf
  rw [Nat.add_mul] at this
  omega
 have hmem:∀ j,j∈(List.range p).filter (fun j=>decide (C j=j)) ↔ j<p∧C j=j:=fun j=>by simp
 have inv:∀ f g j k,j<p→k<p→f*p+j=g*p+k→f=g∧j=k:=fun f g j k hj hk e=>by
  have h1:(f*p+j)%p=(g*p+k)%p:=by rw [e]
  rw [Nat.mul_comm f p,Nat.mul_comm g p,Nat.mul_add_mod,Nat.mul_add_mod,Nat.mod_eq_of_lt hj,Nat.mod_eq_of_lt hk] at h1
  subst h1
  exact ⟨Nat.eq_of_mul_eq_mul_right hp (by omega),rfl⟩
 have hin:∀ x,x∈(((List.range p).filter fun j=>decide (C j=j)).flatMap fun j=>(lst n (Q j)).map fun f=>f*p+j) ↔ ∃ j f,j<p∧C j=j∧f∈lst n (Q j)∧x=f*p+j:=fun x=>by
  simp only [List.mem_flatMap,hmem,List.mem_map]
  exact ⟨fun ⟨j,⟨h1,h2⟩,f,h3,h4⟩=>⟨j,f,h1,h2,h3,h4.symm⟩,fun ⟨j,f,h1,h2,h3,h4⟩=>⟨j,⟨h1,h2⟩,f,h3,h4.symm⟩⟩
 have hV:Sys (n*p) R (((List.range p).filter fun j=>decide (C j=j)).flatMap fun j=>(lst n (Q j)).map fun f=>f*p+j):=by
  refine ⟨?_,fun v hv=>?_,fun v hv u hu hr=>?_,fun x hx=>?_⟩
  ·refine nodup_flat _ _ (List.nodup_range.filter _) (fun j hj=>?_) fun j hj k hk x h1 h2=>?_
   ·obtain ⟨j1,j2⟩:=(hmem j).1 hj
    refine List.pairwise_map.2 (List.Pairwise.imp (fun {a b} hne e=>hne (inv a b j j j1 j1 e).1) (lst_sys (hQ j j1 j2)).nd)
   ·obtain ⟨j1,j2⟩:=(hmem j).1 hj
    obtain ⟨k1,k2⟩:=(hmem k).1 hk
    obtain ⟨f,_,rfl⟩:=List.mem_map.1 h1
    obtain ⟨g,_,e⟩:=List.mem_map.1 h2
    exact (inv g f k j k1 j1 e).2.symm
  ·obtain ⟨j,f,j1,j2,hf,rfl⟩:=(hin v).1 hv
   exact hlt f j ((lst_sys (hQ j j1 j2)).lt f hf) j1
  ·obtain ⟨j,f,j1,j2,hf,rfl⟩:=(hin v).1 hv
   obtain ⟨k,g,k1,k2,hg,rfl⟩:=(hin u).1 hu
   have hf1:=(lst_sys (hQ j j1 j2)).lt f hf
   have hg1:=(lst_sys (hQ k k1 k2)).lt g hg
   obtain ⟨e1,e2⟩:=(h f g j k hf1 hg1 j1 k1).1 hr
   rw [j2,k2] at e1
   subst e1
   rw [j2] at e2
   rw [(lst_sys (hQ j j1 j2)).ne f hf g hg e2]
  ·obtain ⟨h1,h2,h3⟩:=hdiv x hx
   obtain ⟨c1,c2⟩:=hC (x%p) h2
   obtain ⟨f,f1,f2⟩:=(lst_sys (hQ (C (x%p)) c1 c2)).all (x / p) h1
   refine ⟨f*p+C (x%p),(hin _).2 ⟨C (x%p),f,c1,c2,f1,rfl⟩,?_⟩
   have h4:=(h f (x / p) (C (x%p)) (x%p) ((lst_sys (hQ (C (x%p)) c1 c2)).lt f f1) h1 c1 h2).2 ⟨c2,by rw [c2];exact f2⟩
   rw [← h3] at h4
   exact h4
 rw [num_eq hR hV,List.length_flatMap]
 congr 1
 exact List.map_congr_left fun j _=>by rw [List.length_map];rfl
end Go.Cl
namespace Go.Proofs.YtfcbamfkfadabaaGreatDoor
section
open Go.Cl
open Classical
def mv (M:List (List Int))(i x:Nat):Nat:=((M.getD i []).getD x 0).toNat
structure MvI (n:Nat) (M:List (List Int)):Prop where
 len:M.length=3
 row:∀ i,i<3→(M.getD i []).length=n
 val:∀ i x,i<3→x<n→(M.getD i []).getD x 0=(mv M i x:Nat)
 lt:∀ i x,i<3→x<n→mv M i x<n
 inv:∀ i x,i<3→x<n→mv M i (mv M i x)=x
 fre:∀ i x,i<3→x<n→mv M i x≠x
 com:∀ x,x<n→mv M 2 (mv M 0 x)=mv M 0 (mv M 2 x)
 dif:∀ x,x<n→mv M 0 x≠mv M 2 x
theorem IsMap.mvi {M:List (List Int)}(h:IsMap M):MvI (fl M) M:=by
 obtain ⟨h1,h2⟩:=h
 have hr:∀ i,i<3→RowOk (fl M) (M.getD i []):=fun i hi=>h1.rows i (by omega)
 have hv:∀ i x,i<3→x<fl M→(M.getD i []).getD x 0=(mv M i x:Nat)∧mv M i x<fl M:=fun i x hi hx=>by
  obtain ⟨a,b,c⟩:=hr i hi
  have:=b.at (k:=x) (by omega)
  unfold mv
  omega
 refine ⟨h2,fun i hi=>(hr i hi).1,fun i x hi hx=>(hv i x hi hx).1,fun i x hi hx=>(hv i x hi hx).2,fun i x hi hx=>?_,fun i x hi hx=>?_,fun x hx=>?_,fun x hx=>?_⟩
 ·obtain ⟨a,b,c⟩:=hr i hi
  have:=(c x (by omega)).2
  have h3:mv M i (mv M i x)=((M.getD i []).getD ((M.getD i []).getD x 0).toNat 0).toNat:=rfl
  rw [h3,this]
  omega
 ·obtain ⟨a,b,c⟩:=hr i hi
  have:=(c x (by omega)).1
  rw [(hv i x hi hx).1] at this
  omega
 ·have:=(h1.com 0 2 x (by omega) (by omega) hx).2
  unfold mv
  rw [this]
 ·have:=(h1.com 0 2 x (by omega) (by omega) hx).1
  rw [(hv 0 x (by omega) hx).1,(hv 2 x (by omega) hx).1] at this
  omega
theorem IsMap.of {n:Nat}{M:List (List Int)}(h:MvI n M)(h2:2≤n)(h4:n≤400)(hc:∀ x,x<n→Rch M 0 x):IsMap M:=by
 have hn:fl M=n:=h.row 0 (by omega)
 have hl:=h.len
 refine ⟨⟨by omega,by omega,by omega,by omega,fun i hi=>?_,fun i k f hik hk hf=>?_,fun x hx=>hc x (by omega)⟩,h.len⟩
 ·have hi3:i<3:=by omega
  have hr:=h.row i hi3
  have hinj:∀ x y,x<n→y<n→mv M i x=mv M i y→x=y:=fun x y hx hy e=>by
   rw [← h.inv i x hi3 hx,e,h.inv i y hi3 hy]
  refine ⟨by rw [hr,hn],⟨by omega,fun j hj=>⟨?_,fun k hk e=>?_⟩⟩,fun k hk=>⟨?_,?_⟩⟩
  ·have:=h.lt i j hi3 (by omega)
   rw [h.val i j hi3 (by omega)]
   omega
  ·rw [h.val i j hi3 (by omega),h.val i k hi3 (by omega)] at e
   have:=hinj k j (by omega) (by omega) (by omega)
   omega
  ·rw [h.val i k hi3 (by omega)]
   have:=h.fre i k hi3 (by omega)
   omega
  ·have h1:=h.lt i k hi3 (by omega)
   rw [h.val i k hi3 (by omega),Int.toNat_natCast,h.val i _ hi3 (by omega),h.inv i k hi3 (by omega)]
 ·obtain ⟨rfl,rfl⟩:i=0∧k=2:=by omega
  have a0:=h.lt 0 f (by omega) (by omega)
  have a2:=h.lt 2 f (by omega) (by omega)
  have:=h.dif f (by omega)
  refine ⟨?_,?_⟩
  ·rw [h.val 0 f (by omega) (by omega),h.val 2 f (by omega) (by omega)]
   omega
  ·rw [h.val 0 f (by omega) (by omega),h.val 2 f (by omega) (by omega),Int.toNat_natCast,Int.toNat_natCast,h.val 2 _ (by omega) a0,h.val 0 _ (by omega) a2,h.com f (by omega)]
theorem pt_div {p f j:Nat}(hj:j<p):(f*p+j) / p=f∧(f*p+j)%p=j:=by
 rw [Nat.mul_comm f p]
 exact ⟨by rw [Nat.mul_add_div (by omega),Nat.div_eq_of_lt hj];omega,by rw [Nat.mul_add_mod,Nat.mod_eq_of_lt hj]⟩
theorem pt_of {n p x:Nat}(hp:0<p)(hx:x<n*p):∃ f j,f<n∧j<p∧x=f*p+j:=
 ⟨x / p,x%p,(Nat.div_lt_iff_lt_mul hp).2 hx,Nat.mod_lt _ hp,by have:=Nat.div_add_mod x p;rw [Nat.mul_comm] at this;exact this.symm⟩
theorem pt_lt {n p f j:Nat}(hf:f<n)(hj:j<p):f*p+j<n*p:=by
 have:(f+1)*p≤n*p:=Nat.mul_le_mul_right p hf
 rw [Nat.add_mul] at this
 omega
theorem pt_inj {p f g j k:Nat}(hj:j<p)(hk:k<p)(e:f*p+j=g*p+k):f=g∧j=k:=by
 have h1:=pt_div (f:=f) hj
 have h2:=pt_div (f:=g) hk
 rw [e] at h1
 exact ⟨h1.1.symm.trans h2.1,h1.2.symm.trans h2.2⟩
theorem apF_at (M:List (List Int))(T:List (List Tg))(i:Nat):∀ (k f j:Nat),f<k→j<T.length→(apF M T i k).getD (f*T.length+j) 0=apV M T i f j
 | 0,f,j,hf,_=>by omega
 | k+1,f,j,hf,hj=>by
  rw [apF_succ,List.getD_eq_getElem?_getD]
  by_cases e:f<k
  ·rw [List.getElem?_append_left (by rw [apF_len];exact pt_lt e hj),← List.getD_eq_getElem?_getD]
   exact apF_at M T i k f j e hj
  ·obtain rfl:f=k:=by omega
   rw [List.getElem?_append_right (by rw [apF_len];omega),apF_len,show f*T.length+j - f*T.length=j by omega]
   simp [apR,hj]
def tpF (M:List (List Int))(T:List (List Tg))(i f j:Nat):Nat:=if 0≤(tg T j i).2 then mv M (tg T j i).2.toNat f else f
def tpP (T:List (List Tg))(i j:Nat):Nat:=(tg T j i).1.toNat
theorem apM_mv {n:Nat}{M:List (List Int)}{T:List (List Tg)}(hn:fl M=n){i:Nat}(hi:i<3):(apM M T 3).getD i []=apF M T i n:=by
 subst hn
 simp [apM,hi]
theorem ap_val {n : Nat} {M : List (List Int)} {T : List (List Tg)} (hM : MvI n M) (hT : IsTpl T) {i f j : Nat} (hi : i < 3) (hf : f < n) (hj : j < T.length) :
    ((apM M T 3).getD i []).getD (f*T.length+j) 0=(tpF M T i f j*T.length+tpP T i j:Nat)∧tpF M T i f j<n∧tpP T i j<T.length:=by
 obtain ⟨o1,o2,o3,o4,_⟩:=hT.ok j i hj hi
 rw [apM_mv (hM.row 0 (by omega)) hi,apF_at M T i n f j hf hj]
 unfold apV tpF tpP
 split
 ·rename_i h
  rw [hM.val _ f (by omega) hf]
  have:=hM.lt (tg T j i).2.toNat f (by omega) hf
  refine ⟨?_,this,by omega⟩
  rw [show (tg T j i).1=((tg T j i).1.toNat:Nat) by omega]
  simp
 ·refine ⟨?_,hf,by omega⟩
  rw [show (tg T j i).1=((tg T j i).1.toNat:Nat) by omega]
  simp
theorem ap_mv {n:Nat}{M:List (List Int)}{T:List (List Tg)}(hM:MvI n M)(hT:IsTpl T){i f j:Nat}(hi:i<3)(hf:f<n)(hj:j<T.length):mv (apM M T 3) i (f*T.length+j)=tpF M T i f j*T.length+tpP T i j:=by
 unfold mv
 rw [(ap_val hM hT hi hf hj).1,Int.toNat_natCast]
theorem tp_inv {n:Nat}{M:List (List Int)}{T:List (List Tg)}(hM:MvI n M)(hT:IsTpl T){i f j:Nat}(hi:i<3)(hf:f<n)(hj:j<T.length):tpP T i (tpP T i j)=j∧tpF M T i (tpF M T i f j) (tpP T i j)=f:=by
 have h:=hT.inv j i hj hi
 obtain ⟨o1,o2,o3,o4,_⟩:=hT.ok j i hj hi
 unfold TgInv at h
 unfold tpF tpP
 rw [h]
 refine ⟨Int.toNat_natCast _,?_⟩
 dsimp only
 split
 ·exact hM.inv _ f (by omega) hf
 ·rfl
theorem ap_mvi {n:Nat}{M:List (List Int)}{T:List (List Tg)}(hM:MvI n M)(hT:IsTpl T):MvI (n*T.length) (apM M T 3):=by
 have hp:=hT.p1
 have hlt:∀ i f j,i<3→f<n→j<T.length→mv (apM M T 3) i (f*T.length+j)<n*T.length:=fun i f j hi hf hj=>by
  rw [ap_mv hM hT hi hf hj]
  obtain ⟨_,h2,h3⟩:=ap_val hM hT hi hf hj
  exact pt_lt h2 h3
 refine ⟨by simp [apM],fun i hi=>by rw [apM_mv (hM.row 0 (by omega)) hi,apF_len],fun i x hi hx=>?_,fun i x hi hx=>?_,fun i x hi hx=>?_,fun i x hi hx=>?_,fun x hx=>?_,fun x hx=>?_⟩
 ·obtain ⟨f,j,hf,hj,rfl⟩:=pt_of (by omega) hx
  rw [ap_mv hM hT hi hf hj]
  exact (ap_val hM hT hi hf hj).1
 ·obtain ⟨f,j,hf,hj,rfl⟩:=pt_of (by omega) hx
  exact hlt i f j hi hf hj
 ·obtain ⟨f,j,hf,hj,rfl⟩:=pt_of (by omega) hx
  obtain ⟨_,h2,h3⟩:=ap_val hM hT hi hf hj
  obtain ⟨h4,h5⟩:=tp_inv hM hT hi hf hj
  rw [ap_mv hM hT hi hf hj,ap_mv hM hT hi h2 h3,h4,h5]
 ·obtain ⟨f,j,hf,hj,rfl⟩:=pt_of (by omega) hx
  obtain ⟨_,h2,h3⟩:=ap_val hM hT hi hf hj
  obtain ⟨o1,o2,o3,o4,o5⟩:=hT.ok j i hj hi
  rw [ap_mv hM hT hi hf hj]
  intro e
  obtain ⟨e1,e2⟩:=pt_inj h3 hj e
  unfold tpF at e1
  unfold tpP at e2
  split at e1
  ·exact hM.fre _ f (by omega) hf e1
  ·exact o5 ⟨by omega,by omega⟩
 ·obtain ⟨f,j,hf,hj,rfl⟩:=pt_of (by omega) hx
  obtain ⟨_,a2,a3⟩:=ap_val hM hT (i:=0) (by omega) hf hj
  obtain ⟨_,b2,b3⟩:=ap_val hM hT (i:=2) (by omega) hf hj
  obtain ⟨c1,c2,c3,c4,_⟩:=hT.com j hj
  obtain ⟨o1,o2,o3,o4,o5⟩:=hT.ok j 0 hj (by omega)
  obtain ⟨q1,q2,q3,q4,q5⟩:=hT.ok j 2 hj (by omega)
  rw [ap_mv hM hT (by omega) hf hj,ap_mv hM hT (by omega) a2 a3,ap_mv hM hT (by omega) hf hj,ap_mv hM hT (by omega) b2 b3]
  have e1:tpP T 2 (tpP T 0 j)=tpP T 0 (tpP T 2 j):=by unfold tpP;rw [c1]
  have e2:tpF M T 2 (tpF M T 0 f j) (tpP T 0 j)=tpF M T 0 (tpF M T 2 f j) (tpP T 2 j):=by
   unfold tpF tpP
   rw [c2,c3]
   unfold Cmt at c4
   by_cases g0:0≤(tg T j 0).2<;>by_cases g2:0≤(tg T j 2).2<;>simp only [g0,g2,if_true,if_false]
   rcases c4 with c4 | c4 | c4 | c4
   ·rw [c4]
   ·omega
   ·omega
   ·have:((tg T j 0).2.toNat=0∧(tg T j 2).2.toNat=2)∨((tg T j 0).2.toNat=2∧(tg T j 2).2.toNat=0):=by omega
    rcases this with ⟨z1,z2⟩ | ⟨z1,z2⟩
    ·rw [z1,z2];exact hM.com f hf
    ·rw [z1,z2];exact (hM.com f hf).symm
  rw [e1,e2]
 ·obtain ⟨f,j,hf,hj,rfl⟩:=pt_of (by omega) hx
  obtain ⟨_,a2,a3⟩:=ap_val hM hT (i:=0) (by omega) hf hj
  obtain ⟨_,b2,b3⟩:=ap_val hM hT (i:=2) (by omega) hf hj
  obtain ⟨c1,c2,c3,c4,c5⟩:=hT.com j hj
  obtain ⟨o1,o2,o3,o4,o5⟩:=hT.ok j 0 hj (by omega)
  obtain ⟨q1,q2,q3,q4,q5⟩:=hT.ok j 2 hj (by omega)
  have hi2:=hT.inv j 2 hj (by omega)
  rw [ap_mv hM hT (by omega) hf hj,ap_mv hM hT (by omega) hf hj]
  intro e
  obtain ⟨e1,e2⟩:=pt_inj a3 b3 e
  have e3:(tg T (tg T j 0).1.toNat 2).1=j:=by
   unfold tpP at e2
   unfold TgInv at hi2
   rw [e2,hi2]
  refine c5 ⟨?_,e3⟩
  unfold tpF at e1
  by_cases g0:0≤(tg T j 0).2<;>by_cases g2:0≤(tg T j 2).2
  ·rw [if_pos g0,if_pos g2] at e1
   unfold Cmt at c4
   rcases c4 with c4 | c4 | c4 | c4
   ·exact c4
   ·omega
   ·omega
   ·have:((tg T j 0).2.toNat=0∧(tg T j 2).2.toNat=2)∨((tg T j 0).2.toNat=2∧(tg T j 2).2.toNat=0):=by omega
    rcases this with ⟨z1,z2⟩ | ⟨z1,z2⟩
    ·rw [z1,z2] at e1;exact absurd e1 (hM.dif f hf)
    ·rw [z1,z2] at e1;exact absurd e1.symm (hM.dif f hf)
  ·rw [if_pos g0,if_neg g2] at e1
   exact absurd e1 (hM.fre _ f (by omega) hf)
  ·rw [if_neg g0,if_pos g2] at e1
   exact absurd e1.symm (hM.fre _ f (by omega) hf)
  ·omega
end
section
open Go.Cl
open Classical
inductive Lk (M:List (List Int)) (S:List Nat) (x:Nat):Nat→Prop
 | refl:Lk M S x x
 | step {y i:Nat}:Lk M S x y→i∈S→Lk M S x (mv M i y)
variable {n:Nat} {M:List (List Int)} {T:List (List Tg)} {S:List Nat}
theorem rch_lk {L:List (List Int)}(hL:L=S.map fun i=>M.getD i []){x y:Nat}:Rch L x y ↔ Lk M S x y:=by
 subst hL
 constructor
 ·intro h
  induction h with
  | refl=>exact .refl
  | step _ hp ih=>
   obtain ⟨i,hi,rfl⟩:=List.mem_map.1 hp
   exact ih.step hi
 ·intro h
  induction h with
  | refl=>exact .refl
  | step _ hi ih=>exact ih.step (List.mem_map.2 ⟨_,hi,rfl⟩)
theorem Lk.trans {x y z:Nat}(h:Lk M S x y)(k:Lk M S y z):Lk M S x z:=by
 induction k with
 | refl=>exact h
 | step _ hi ih=>exact ih.step hi
theorem Lk.lt (hM:MvI n M)(hS:∀ i∈S,i<3){x y:Nat}(h:Lk M S x y)(hx:x<n):y<n:=by
 induction h with
 | refl=>exact hx
 | step _ hi ih=>exact hM.lt _ _ (hS _ hi) ih
theorem Lk.symm (hM:MvI n M)(hS:∀ i∈S,i<3){x y:Nat}(h:Lk M S x y)(hx:x<n):Lk M S y x:=by
 induction h with
 | refl=>exact .refl
 | step h1 hi ih=>
  rename_i y i
  have hy:=h1.lt hM hS hx
  have hb:Lk M S (mv M i y) (mv M i (mv M i y)):=Lk.refl.step hi
  rw [hM.inv i y (hS i hi) hy] at hb
  exact hb.trans ih
theorem lk_eqv (hM:MvI n M)(hS:∀ i∈S,i<3):Eqv n (Lk M S):=⟨fun _ _=>.refl,fun _ _ hx _ h=>h.symm hM hS hx,fun _ _ _ _ _ _ h k=>h.trans k⟩
theorem ncnt_num (L:List (List Int))(n:Nat):ncnt L n=num n (Rch L):=by
 unfold ncnt num lst
 rw [List.countP_eq_length_filter]
 congr 1
 refine List.filter_congr fun x _=>?_
 obtain ⟨h1,h2,h3⟩:=fst_spec L x
 have:fst L x=x ↔ ∀ y,y<x→¬ Rch L y x:=⟨fun e y hy=>h3 y (by omega),fun h=>by
  rcases Nat.lt_or_ge (fst L x) x with h4 | h4
  ·exact absurd h2 (h _ h4)
  ·omega⟩
 simp only [this]
theorem ncnt_lk {L:List (List Int)}(hL:L=S.map fun i=>M.getD i []):ncnt L n=num n (Lk M S):=by
 rw [ncnt_num]
 exact num_congr fun x y _ _=>rch_lk hL
def two (i:Nat):List Nat:=if i=0 then [1,2] else if i=1 then [0,2] else [0,1]
theorem oth_two (h:M.length=3){i:Nat}(hi:i<3):oth M i M.length=(two i).map fun k=>M.getD k []:=by
 match M,h with
 | [a,b,c],_=>
  have:i=0∨i=1∨i=2:=by omega
  rcases this with rfl | rfl | rfl<;>rfl
theorem all_three (h:M.length=3):M=[0,1,2].map fun k=>M.getD k []:=by
 match M,h with
 | [a,b,c],_=>rfl
noncomputable def vN (n:Nat)(M:List (List Int)):Nat:=num n (Lk M [1,2])
noncomputable def eN (n:Nat)(M:List (List Int)):Nat:=num n (Lk M [0,2])
noncomputable def fN (n:Nat)(M:List (List Int)):Nat:=num n (Lk M [0,1])
theorem fcV_three (h:M.length=3):fcV n M M.length=[(vN n M:Int),(eN n M:Int),(fN n M:Int)]:=by
 have h0:=ncnt_lk (n:=n) (oth_two h (i:=0) (by omega))
 have h1:=ncnt_lk (n:=n) (oth_two h (i:=1) (by omega))
 have h2:=ncnt_lk (n:=n) (oth_two h (i:=2) (by omega))
 unfold fcV
 rw [h]
 rw [h] at h0 h1 h2
 simp only [List.range,List.range.loop,List.map_cons,List.map_nil,h0,h1,h2]
 rfl
theorem num_one (hM:MvI n M){m:Nat}(hm:m<3):num n (Lk M [m])*2=n:=by
 have hS:∀ i∈[m],i<3:=fun i hi=>by simp at hi;omega
 refine num_mul (lk_eqv hM hS) fun x hx=>⟨[x,mv M m x],by simp [Ne.symm (hM.fre m x hm hx)],rfl,fun y=>?_⟩
 have h1:=hM.lt m x hm hx
 constructor
 ·intro h
  simp only [List.mem_cons,List.not_mem_nil,or_false] at h
  rcases h with rfl | rfl
  ·exact ⟨hx,.refl⟩
  ·exact ⟨h1,Lk.refl.step (by simp)⟩
 ·rintro ⟨_,h⟩
  induction h with
  | refl=>simp
  | step h2 hi ih=>
   obtain rfl:=List.mem_singleton.1 hi
   have ih:=ih (h2.lt hM hS hx)
   simp only [List.mem_cons,List.not_mem_nil,or_false] at ih ⊢
   rcases ih with rfl | rfl
   ·exact .inr rfl
   ·exact .inl (hM.inv _ _ hm hx)
theorem num_edge (hM:MvI n M):eN n M*4=n:=by
 have hS:∀ i∈[0,2],i<3:=fun i hi=>by simp at hi;omega
 refine num_mul (lk_eqv hM hS) fun x hx=>⟨[x,mv M 0 x,mv M 2 x,mv M 0 (mv M 2 x)],?_,rfl,fun y=>?_⟩
 ·have h0:=hM.lt 0 x (by omega) hx
  have h2:=hM.lt 2 x (by omega) hx
  have a1:=hM.fre 0 x (by omega) hx
  have a2:=hM.fre 2 x (by omega) hx
  have a3:=hM.dif x hx
  have a4:=hM.fre 0 _ (by omega) h2
  have a5:mv M 0 (mv M 2 x)≠x:=fun e=>by
   have:=hM.inv 0 _ (by omega) h2
   rw [e] at this
   exact a3 this
  have a6:mv M 0 (mv M 2 x)≠mv M 0 x:=fun e=>by
   have h3:=hM.inv 0 _ (by omega) h2
   rw [e,hM.inv 0 x (by omega) hx] at h3
   exact a2 h3.symm
  simp only [List.nodup_cons,List.mem_cons,List.not_mem_nil,or_false,not_or,List.nodup_nil,and_true,not_false_eq_true]
  exact ⟨⟨a1.symm,a2.symm,a5.symm⟩,⟨a3,a6.symm⟩,a4.symm⟩
 ·have h0:=hM.lt 0 x (by omega) hx
  have h2:=hM.lt 2 x (by omega) hx
  have hc:=hM.com x hx
  constructor
  ·intro h
   simp only [List.mem_cons,List.not_mem_nil,or_false] at h
   rcases h with rfl | rfl | rfl | rfl
   ·exact ⟨hx,.refl⟩
   ·exact ⟨h0,Lk.refl.step (by simp)⟩
   ·exact ⟨h2,Lk.refl.step (by simp)⟩
   ·exact ⟨hM.lt 0 _ (by omega) h2,(Lk.refl.step (i:=2) (by simp)).step (by simp)⟩
  ·rintro ⟨_,h⟩
   induction h with
   | refl=>simp
   | step h3 hi ih=>
    have ih:=ih (h3.lt hM hS hx)
    simp only [List.mem_cons,List.not_mem_nil,or_false] at ih hi ⊢
    rcases hi with rfl | rfl
    ·rcases ih with rfl | rfl | rfl | rfl
     ·exact .inr (.inl rfl)
     ·exact .inl (hM.inv 0 _ (by omega) hx)
     ·exact .inr (.inr (.inr rfl))
     ·exact .inr (.inr (.inl (hM.inv 0 _ (by omega) h2)))
    ·rcases ih with rfl | rfl | rfl | rfl
     ·exact .inr (.inr (.inl rfl))
     ·exact .inr (.inr (.inr hc))
     ·exact .inl (hM.inv 2 _ (by omega) hx)
     ·refine .inr (.inl ?_)
      rw [hM.com _ h2,hM.inv 2 _ (by omega) hx]
inductive Pl (T:List (List Tg)) (S:List Nat) (j:Nat):Nat→Prop
 | refl:Pl T S j j
 | step {k i:Nat}:Pl T S j k→i∈S→(tg T k i).2<0→Pl T S j (tpP T i k)
def rcP (T:List (List Tg))(S:List Nat):Nat→List Nat→List Nat
 | 0,V=>V
 | k+1,V=>rcP T S k (V++V.flatMap fun j=>(S.filter fun i=>decide ((tg T j i).2<0)).map fun i=>tpP T i j)
theorem rcP_pl {j:Nat}:∀ (k:Nat) (V:List Nat),(∀ v∈V,Pl T S j v)→∀ v∈rcP T S k V,Pl T S j v
 | 0,_,h=>h
 | k+1,V,h=>rcP_pl k _ fun v hv=>by
  rcases List.mem_append.1 hv with hv | hv
  ·exact h v hv
  ·obtain ⟨u,hu,hv⟩:=List.mem_flatMap.1 hv
   obtain ⟨i,hi,rfl⟩:=List.mem_map.1 hv
   obtain ⟨hi,h2⟩:=List.mem_filter.1 hi
   exact (h u hu).step hi (by simpa using h2)
structure Kd (T:List (List Tg)) (S:List Nat) (C:Nat→Nat) (Q:Nat→List Nat):Prop where
 c:∀ j,j<T.length→C j<T.length∧C (C j)=C j
 to:∀ j,j<T.length→∀ i∈S,if (tg T j i).2<0 then C (tpP T i j)=C j else tpP T i j=j∧(tg T j i).2.toNat∈Q (C j)
 pl:∀ j,j<T.length→Pl T S j (C j)
 re:∀ j,j<T.length→∀ m∈Q (C j),∃ k,k<T.length∧C k=C j∧∃ i∈S,tg T k i=((k:Int),(m:Int))
def kdB (T:List (List Tg))(S:List Nat)(C:Nat→Nat)(Q:Nat→List Nat):Bool:=
 (List.range T.length).all fun j=>decide (C j<T.length)&&decide (C (C j)=C j)&&(S.all fun i=>if (tg T j i).2<0 then decide (C (tpP T i j)=C j) else decide (tpP T i j=j)&&(Q (C j)).contains (tg T j i).2.toNat) &&
  (rcP T S 3 [j]).contains (C j)&&(Q (C j)).all fun m=>(List.range T.length).any fun k=>decide (C k=C j)&&S.any fun i=>decide (tg T k i=((k:Int),(m:Int)))
theorem kd_of {C:Nat→Nat}{Q:Nat→List Nat}(h:kdB T S C Q=true):Kd T S C Q:=by
 unfold kdB at h
 rw [List.all_eq_true] at h
 have h1:∀ j,j<T.length→_:=fun j hj=>h j (List.mem_range.2 hj)
 simp only [Bool.and_eq_true,decide_eq_true_eq] at h1
 refine ⟨fun j hj=>⟨(h1 j hj).1.1.1.1,(h1 j hj).1.1.1.2⟩,fun j hj i hi=>?_,fun j hj=>?_,fun j hj m hm=>?_⟩
 ·have:=List.all_eq_true.1 (h1 j hj).1.1.2 i hi
  split at this
  ·rename_i h2;rw [if_pos h2];simpa using this
  ·rename_i h2;rw [if_neg h2];simpa using this
 ·exact rcP_pl 3 [j] (fun v hv=>by obtain rfl:=List.mem_singleton.1 hv;exact .refl) _ (by simpa using (h1 j hj).1.2)
 ·have:=List.all_eq_true.1 (h1 j hj).2 m hm
  obtain ⟨k,hk,h2⟩:=List.any_eq_true.1 this
  simp only [Bool.and_eq_true,decide_eq_true_eq,List.any_eq_true] at h2
  obtain ⟨h3,i,hi,h4⟩:=h2
  exact ⟨k,List.mem_range.1 hk,h3,i,hi,h4⟩
theorem Pl.lt (hT:IsTpl T)(hS:∀ i∈S,i<3){j k:Nat}(h:Pl T S j k)(hj:j<T.length):k<T.length:=by
 induction h with
 | refl=>exact hj
 | step _ hi _ ih=>
  obtain ⟨o1,o2,_⟩:=hT.ok _ _ ih (hS _ hi)
  unfold tpP
  omega
theorem pl_lk (hM:MvI n M)(hT:IsTpl T)(hS:∀ i∈S,i<3){j k f:Nat}(hf:f<n)(hj:j<T.length)(h:Pl T S j k):Lk (apM M T 3) S (f*T.length+j) (f*T.length+k):=by
 induction h with
 | refl=>exact .refl
 | step h1 hi hn ih=>
  rename_i k i
  have:=ih.step hi
  rw [ap_mv hM hT (hS i hi) hf (h1.lt hT hS hj)] at this
  have e:tpF M T i f k=f:=by unfold tpF;rw [if_neg (by omega)]
  rwa [e] at this
theorem kd_lk {C : Nat → Nat} {Q : Nat → List Nat} (hM : MvI n M) (hT : IsTpl T) (hS : ∀ i ∈ S, i < 3) (hK : Kd T S C Q) {f g j k : Nat} (hf : f < n) (hg : g < n) (hj : j < T.length) (hk : k < T.length) :
    Lk (apM M T 3) S (f*T.length+j) (g*T.length+k) ↔ C j=C k∧Lk M (Q (C j)) f g:=by
 have hA:=ap_mvi hM hT
 constructor
 ·intro h
  have:∀ y,Lk (apM M T 3) S (f*T.length+j) y→∃ g k,g<n∧k<T.length∧y=g*T.length+k∧C j=C k∧Lk M (Q (C j)) f g:=by
   intro y h
   induction h with
   | refl=>exact ⟨f,j,hf,hj,rfl,rfl,.refl⟩
   | step h1 hi ih=>
    rename_i y i
    obtain ⟨g,k,hg,hk,rfl,e1,e2⟩:=ih
    have hi3:=hS i hi
    obtain ⟨_,b2,b3⟩:=ap_val hM hT hi3 hg hk
    have ht:=hK.to k hk i hi
    refine ⟨_,_,b2,b3,ap_mv hM hT hi3 hg hk,?_,?_⟩
    ·split at ht
     ·rw [ht,e1]
     ·rw [ht.1,e1]
    ·unfold tpF
     split at ht
     ·rename_i hn
      rw [if_neg (by omega)]
      exact e2
     ·rename_i hn
      rw [if_pos (by omega)]
      exact e2.step (e1 ▸ ht.2)
  obtain ⟨g', k', _,hk', e,e1,e2⟩:=this _ h
  obtain ⟨rfl,rfl⟩:=pt_inj hk hk' e
  exact ⟨e1,e2⟩
 ·rintro ⟨e1,e2⟩
  have base:∀ g k,g<n→k<T.length→Lk (apM M T 3) S (g*T.length+k) (g*T.length+C k):=fun g k hg hk=>pl_lk hM hT hS hg hk (hK.pl k hk)
  have main:∀ g,Lk M (Q (C j)) f g→g<n∧Lk (apM M T 3) S (f*T.length+j) (g*T.length+C j):=by
   intro g h
   induction h with
   | refl=>exact ⟨hf,base f j hf hj⟩
   | step h1 hm ih=>
    rename_i g m
    obtain ⟨i1,i2⟩:=ih
    obtain ⟨k,hk,hc,i,hi,ht⟩:=hK.re j hj m hm
    have hi3:=hS i hi
    have hm3:m<3:=by
     obtain ⟨_,_,_,o4,_⟩:=hT.ok k i hk hi3
     rw [ht] at o4
     dsimp only at o4
     omega
    have h2:=(base g k i1 hk).symm hA hS (pt_lt i1 hk)
    rw [hc] at h2
    have h3:=(i2.trans h2).step hi
    rw [ap_mv hM hT hi3 i1 hk] at h3
    have e3:tpF M T i g k=mv M m g:=by unfold tpF;rw [ht];simp
    have e4:tpP T i k=k:=by unfold tpP;rw [ht];simp
    rw [e3,e4] at h3
    have hlt:=hM.lt m g hm3 i1
    have h4:=base (mv M m g) k hlt hk
    rw [hc] at h4
    exact ⟨hlt,h3.trans h4⟩
  have h5:=(main g e2).2
  have h6:=(base g k hg hk).symm hA hS (pt_lt hg hk)
  rw [← e1] at h6
  exact h5.trans h6
theorem kd_num {C : Nat → Nat} {Q : Nat → List Nat} (hM : MvI n M) (hT : IsTpl T) (hS : ∀ i ∈ S, i < 3) (hQ : ∀ j, j < T.length → ∀ m ∈ Q j, m < 3) (hK : Kd T S C Q) :
    num (n*T.length) (Lk (apM M T 3) S)=(((List.range T.length).filter fun j=>decide (C j=j)).map fun j=>num n (Lk M (Q j))).sum:=
 num_parts (by have:=hT.p1;omega) (lk_eqv (ap_mvi hM hT) hS) (fun j hj _=>lk_eqv hM (hQ j hj)) hK.c fun _ _ _ _ hf hg hj hk=>kd_lk hM hT hS hK hf hg hj hk
end
section
open Go.Cl
open Classical
variable {n:Nat} {M:List (List Int)} {T U:List (List Tg)} {S:List Nat}
def tD:List (List Tg):=[[(0,2),(0,1),(0,0)]]
def tA:List (List Tg):=[[(0,1),(0,0),(1, -1)],[(1,1),(1,2),(0, -1)]]
def tT:List (List Tg):=[[(0,0),(1, -1),(0,2)],[(1,1),(0, -1),(2, -1)],[(2,1),(2,2),(1, -1)]]
def tC:List (List Tg):=[[(1, -1),(0,2),(0,1)],[(0, -1),(2, -1),(1,1)],[(2,0),(1, -1),(3, -1)],[(3,0),(3,1),(2, -1)]]
def tplB (T:List (List Tg)):Bool:=decide (1≤T.length)&&decide (T.length≤12)&&(List.range T.length).all fun j=>decide ((T.getD j []).length=3) &&
 ((List.range 3).all fun i=>decide (0≤(tg T j i).1)&&decide ((tg T j i).1≤(T.length:Int) - 1)&&decide (-1≤(tg T j i).2)&&decide ((tg T j i).2≤2) && !(decide ((tg T j i).1=j)&&decide ((tg T j i).2<0))&&decide (tg T (tg T j i).1.toNat i=((j:Int),(tg T j i).2))) &&
 (decide ((tg T (tg T j 0).1.toNat 2).1=(tg T (tg T j 2).1.toNat 0).1)&&decide ((tg T (tg T j 0).1.toNat 2).2=(tg T j 2).2)&&decide ((tg T (tg T j 2).1.toNat 0).2=(tg T j 0).2) &&
  (decide ((tg T j 0).2=(tg T j 2).2) || decide ((tg T j 0).2<0) || decide ((tg T j 2).2<0) || (decide ((tg T j 0).2+(tg T j 2).2=2) && !decide ((tg T j 0).2=1))) &&
  !(decide ((tg T j 0).2=(tg T j 2).2)&&decide ((tg T (tg T j 0).1.toNat 2).1=j)))
theorem tpl_of (h:tplB T=true):IsTpl T:=by
 unfold tplB at h
 simp only [Bool.and_eq_true,decide_eq_true_eq,List.all_eq_true,List.mem_range,Bool.not_eq_true', Bool.and_eq_false_iff,decide_eq_false_iff_not,Bool.or_eq_true] at h
 obtain ⟨⟨h1,h2⟩,h3⟩:=h
 refine ⟨h1,h2,fun j hj=>(h3 j hj).1.1,fun j i hj hi=>?_,fun j i hj hi=>((h3 j hj).1.2 i hi).2,fun j hj=>?_⟩
 ·obtain ⟨⟨⟨⟨⟨a1,a2⟩,a3⟩,a4⟩,a5⟩,_⟩:=(h3 j hj).1.2 i hi
  exact ⟨a1,a2,a3,a4,fun ⟨b1,b2⟩=>by rcases a5 with a5 | a5<;>contradiction⟩
 ·obtain ⟨⟨⟨⟨a1,a2⟩,a3⟩,a4⟩,a5⟩:=(h3 j hj).2
  refine ⟨a1,a2,a3,?_,fun ⟨b1,b2⟩=>by rcases a5 with a5 | a5<;>contradiction⟩
  unfold Cmt
  rcases a4 with ((a4 | a4) | a4) | a4
  ·exact .inl a4
  ·exact .inr (.inl a4)
  ·exact .inr (.inr (.inl a4))
  ·exact .inr (.inr (.inr ⟨a4.1,a4.2⟩))
theorem tD_ok:IsTpl tD:=tpl_of (by decide)
theorem tA_ok:IsTpl tA:=tpl_of (by decide)
theorem tT_ok:IsTpl tT:=tpl_of (by decide)
theorem tC_ok:IsTpl tC:=tpl_of (by decide)
structure Nice (T:List (List Tg)) (d:Nat→Nat):Prop where
 ok:IsTpl T
 all:Kd T [0,1,2] (fun _=>0) fun _=>[0,1,2]
 d0:d 0=0
 d1:∀ j,j<T.length→d j<2
 par:∀ j i,j<T.length→i<3→(tg T j i).2<0→d (tpP T i j)≠d j
theorem par_of {d:Nat→Nat}(h:((List.range T.length).all fun j=>(List.range 3).all fun i=>!decide ((tg T j i).2<0) || decide (d (tpP T i j)≠d j))=true):∀ j i,j<T.length→i<3→(tg T j i).2<0→d (tpP T i j)≠d j:=fun j i hj hi hn=>by
 have:=List.all_eq_true.1 (List.all_eq_true.1 h j (List.mem_range.2 hj)) i (List.mem_range.2 hi)
 simpa [hn] using this
theorem tD_n:Nice tD fun _=>0:=⟨tD_ok,kd_of (by decide),rfl,fun _ _=>by decide,par_of (T:=tD) (d:=fun _=>0) (by decide)⟩
theorem tA_n:Nice tA fun j=>j%2:=⟨tA_ok,kd_of (by decide),rfl,fun _ _=>Nat.mod_lt _ (by omega),par_of (T:=tA) (d:=fun j=>j%2) (by decide)⟩
theorem tT_n:Nice tT fun j=>j%2:=⟨tT_ok,kd_of (by decide),rfl,fun _ _=>Nat.mod_lt _ (by omega),par_of (T:=tT) (d:=fun j=>j%2) (by decide)⟩
theorem tC_n:Nice tC fun j=>j%2:=⟨tC_ok,kd_of (by decide),rfl,fun _ _=>Nat.mod_lt _ (by omega),par_of (T:=tC) (d:=fun j=>j%2) (by decide)⟩
theorem three_lt:∀ i∈[0,1,2],i<3:=by decide
theorem ap_map {d:Nat→Nat}(hM:IsMap M)(hT:Nice T d)(h4:fl M*T.length≤400):IsMap (apM M T 3)∧fl (apM M T 3)=fl M*T.length:=by
 have hA:=ap_mvi hM.mvi hT.ok
 have h1:=hM.1.f2
 have hp:=hT.ok.p1
 have h2:2≤fl M*T.length:=Nat.le_trans h1 (Nat.le_mul_of_pos_right _ (by omega))
 refine ⟨IsMap.of hA h2 h4 fun x hx=>?_,hA.row 0 (by omega)⟩
 rw [rch_lk (all_three hA.len)]
 obtain ⟨f,j,hf,hj,rfl⟩:=pt_of (by omega) hx
 have h3:=(kd_lk hM.mvi hT.ok three_lt hT.all (f:=0) (g:=f) (j:=0) (k:=j) (by omega) hf (by omega) hj).2 ⟨rfl,(rch_lk (all_three hM.2)).1 (hM.1.con f hf)⟩
 simpa using h3
theorem cnt_D (hM:MvI n M):vN (n*1) (apM M tD 3)=fN n M∧eN (n*1) (apM M tD 3)=eN n M∧fN (n*1) (apM M tD 3)=vN n M:=by
 refine ⟨?_,?_,?_⟩
 ·exact (kd_num hM tD_ok (S:=[1,2]) (C:=fun _=>0) (Q:=fun _=>[0,1]) (by decide) (by decide) (kd_of (by decide))).trans rfl
 ·exact (kd_num hM tD_ok (S:=[0,2]) (C:=fun _=>0) (Q:=fun _=>[0,2]) (by decide) (by decide) (kd_of (by decide))).trans rfl
 ·exact (kd_num hM tD_ok (S:=[0,1]) (C:=fun _=>0) (Q:=fun _=>[1,2]) (by decide) (by decide) (kd_of (by decide))).trans rfl
theorem cnt_A (hM:MvI n M):vN (n*2) (apM M tA 3)=eN n M∧eN (n*2) (apM M tA 3)=2*eN n M∧fN (n*2) (apM M tA 3)=vN n M+fN n M:=by
 have e0:=num_edge hM
 have e1:=num_one hM (m:=1) (by omega)
 refine ⟨?_,?_,?_⟩
 ·exact (kd_num hM tA_ok (S:=[1,2]) (C:=fun _=>0) (Q:=fun _=>[0,2]) (by decide) (by decide) (kd_of (by decide))).trans rfl
 ·have:eN (n*2) (apM M tA 3)=num n (Lk M [1]):=(kd_num hM tA_ok (S:=[0,2]) (C:=fun _=>0) (Q:=fun _=>[1]) (by decide) (by decide) (kd_of (by decide))).trans rfl
  omega
 ·have:fN (n*2) (apM M tA 3)=num n (Lk M [0,1])+num n (Lk M [1,2]):=(kd_num hM tA_ok (S:=[0,1]) (C:=fun j=>j) (Q:=fun j=>if j=0 then [0,1] else [1,2]) (by decide) (by decide) (kd_of (by decide))).trans rfl
  rw [this,Nat.add_comm]
  rfl
theorem cnt_T (hM:MvI n M):vN (n*3) (apM M tT 3)=2*eN n M∧eN (n*3) (apM M tT 3)=3*eN n M∧fN (n*3) (apM M tT 3)=vN n M+fN n M:=by
 have e0:=num_edge hM
 have e1:=num_one hM (m:=1) (by omega)
 have e2:=num_one hM (m:=2) (by omega)
 refine ⟨?_,?_,?_⟩
 ·have:vN (n*3) (apM M tT 3)=num n (Lk M [2]):=(kd_num hM tT_ok (S:=[1,2]) (C:=fun _=>0) (Q:=fun _=>[2]) (by decide) (by decide) (kd_of (by decide))).trans rfl
  omega
 ·have:eN (n*3) (apM M tT 3)=num n (Lk M [0,2])+num n (Lk M [1]):=(kd_num hM tT_ok (S:=[0,2]) (C:=fun j=>if j=0 then 0 else 1) (Q:=fun j=>if j=0 then [0,2] else [1]) (by decide) (by decide) (kd_of (by decide))).trans rfl
  have h:num n (Lk M [0,2])=eN n M:=rfl
  omega
 ·have:fN (n*3) (apM M tT 3)=num n (Lk M [0,1])+num n (Lk M [1,2]):=(kd_num hM tT_ok (S:=[0,1]) (C:=fun j=>if j=2 then 2 else 0) (Q:=fun j=>if j=0 then [0,1] else [1,2]) (by decide) (by decide) (kd_of (by decide))).trans rfl
  rw [this,Nat.add_comm]
  rfl
theorem cnt_C (hM:MvI n M):vN (n*4) (apM M tC 3)=vN n M+2*eN n M∧eN (n*4) (apM M tC 3)=4*eN n M∧fN (n*4) (apM M tC 3)=fN n M+eN n M:=by
 have e0:=num_edge hM
 have e1:=num_one hM (m:=1) (by omega)
 have e2:=num_one hM (m:=0) (by omega)
 refine ⟨?_,?_,?_⟩
 ·have:vN (n*4) (apM M tC 3)=num n (Lk M [1,2])+num n (Lk M [1]):=(kd_num hM tC_ok (S:=[1,2]) (C:=fun j=>if j=0 then 0 else 1) (Q:=fun j=>if j=0 then [1,2] else [1]) (by decide) (by decide) (kd_of (by decide))).trans rfl
  have h:num n (Lk M [1,2])=vN n M:=rfl
  omega
 ·have:eN (n*4) (apM M tC 3)=num n (Lk M [1])+num n (Lk M [0]):=(kd_num hM tC_ok (S:=[0,2]) (C:=fun j=>if j<2 then 0 else 2) (Q:=fun j=>if j=0 then [1] else [0]) (by decide) (by decide) (kd_of (by decide))).trans rfl
  omega
 ·have:fN (n*4) (apM M tC 3)=num n (Lk M [0,2])+num n (Lk M [0,1]):=(kd_num hM tC_ok (S:=[0,1]) (C:=fun j=>if j<3 then 0 else 3) (Q:=fun j=>if j=0 then [0,2] else [0,1]) (by decide) (by decide) (kd_of (by decide))).trans rfl
  rw [this,Nat.add_comm]
  rfl
end
section
open Go.Cl
open Classical
variable {n:Nat} {M:List (List Int)} {T U:List (List Tg)}
def cmE (T U:List (List Tg))(j k i:Nat):Tg:=((if 0≤(tg U k i).2 then (tg T j (tg U k i).2.toNat).1 else (j:Int))*U.length+(tg U k i).1,if 0≤(tg U k i).2 then (tg T j (tg U k i).2.toNat).2 else -1)
def cmR (T U:List (List Tg))(j k i:Nat):List Tg:=(List.range i).map fun i=>cmE T U j k i
def cmJ (T U:List (List Tg))(j k:Nat):List (List Tg):=(List.range k).map fun k=>cmR T U j k 3
def cmK (T U:List (List Tg))(j:Nat):List (List Tg):=(List.range j).flatMap fun j=>cmJ T U j U.length
def cmT (T U:List (List Tg)):List (List Tg):=cmK T U T.length
theorem cmR_succ (T U:List (List Tg))(j k i:Nat):cmR T U j k (i+1)=cmR T U j k i++[cmE T U j k i]:=by simp [cmR,List.range_succ]
theorem cmJ_succ (T U:List (List Tg))(j k:Nat):cmJ T U j (k+1)=cmJ T U j k++[cmR T U j k 3]:=by simp [cmJ,List.range_succ]
theorem cmK_succ (T U:List (List Tg))(j:Nat):cmK T U (j+1)=cmK T U j++cmJ T U j U.length:=by simp [cmK,List.range_succ]
theorem cmK_len (T U:List (List Tg)):∀ j:Nat,(cmK T U j).length=j*U.length
 | 0=>by simp [cmK]
 | j+1=>by rw [cmK_succ,List.length_append,cmK_len T U j,Nat.add_mul];simp [cmJ]
theorem cmT_len (T U:List (List Tg)):(cmT T U).length=T.length*U.length:=cmK_len T U _
theorem cmK_at (T U:List (List Tg)):∀ (m j k:Nat),j<m→k<U.length→(cmK T U m).getD (j*U.length+k) []=cmR T U j k 3
 | 0,j,k,hj,_=>by omega
 | m+1,j,k,hj,hk=>by
  rw [cmK_succ,List.getD_eq_getElem?_getD]
  by_cases e:j<m
  ·rw [List.getElem?_append_left (by rw [cmK_len];exact pt_lt e hk),← List.getD_eq_getElem?_getD]
   exact cmK_at T U m j k e hk
  ·obtain rfl:j=m:=by omega
   rw [List.getElem?_append_right (by rw [cmK_len];omega),cmK_len,show j*U.length+k - j*U.length=k by omega]
   simp [cmJ,hk]
theorem cm_tg {j k i:Nat}(hj:j<T.length)(hk:k<U.length)(hi:i<3):tg (cmT T U) (j*U.length+k) i=cmE T U j k i:=by
 unfold tg cmT
 rw [cmK_at T U _ j k hj hk]
 simp [cmR,hi]
theorem cm_ok (hT : IsTpl T) (hU : IsTpl U) {j k i : Nat} (hj : j < T.length) (hk : k < U.length) (hi : i < 3) :
    (cmE T U j k i).1=((if 0≤(tg U k i).2 then tpP T (tg U k i).2.toNat j else j)*U.length+tpP U i k:Nat)∧(if 0≤(tg U k i).2 then tpP T (tg U k i).2.toNat j else j)<T.length∧tpP U i k<U.length ∧ -1≤(cmE T U j k i).2∧(cmE T U j k i).2≤2:=by
 obtain ⟨o1,o2,o3,o4,_⟩:=hU.ok k i hk hi
 unfold cmE
 dsimp only
 split
 ·rename_i h
  obtain ⟨q1,q2,q3,q4,_⟩:=hT.ok j (tg U k i).2.toNat hj (by omega)
  unfold tpP
  refine ⟨?_,by omega,by omega,q3,q4⟩
  rw [show (tg U k i).1=((tg U k i).1.toNat:Nat) by omega,show (tg T j (tg U k i).2.toNat).1=((tg T j (tg U k i).2.toNat).1.toNat:Nat) by omega]
  simp
 ·unfold tpP
  refine ⟨?_,by omega,by omega,by omega,by omega⟩
  rw [show (tg U k i).1=((tg U k i).1.toNat:Nat) by omega]
  simp
theorem ap_comp (hM:MvI n M)(hT:IsTpl T)(hU:IsTpl U):apM (apM M T 3) U 3=apM M (cmT T U) 3:=by
 have hA:=ap_mvi hM hT
 have hn:=hM.row 0 (by omega)
 have hfa:fl (apM M T 3)=n*T.length:=hA.row 0 (by omega)
 have hn' : fl M=n:=hn
 show (List.range 3).map (fun i=>apF (apM M T 3) U i (fl (apM M T 3)))=(List.range 3).map fun i=>apF M (cmT T U) i (fl M)
 refine List.map_congr_left fun i hi=>?_
 have hi:=List.mem_range.1 hi
 rw [hfa,hn']
 refine List.ext_getElem (by rw [apF_len,apF_len,cmT_len,Nat.mul_assoc]) fun x x1 x2=>?_
 have hq:=hU.p1
 have hp:=hT.p1
 have hx:x<n*T.length*U.length:=by rwa [apF_len] at x1
 obtain ⟨y,k,hy,hk,rfl⟩:=pt_of (by omega) hx
 obtain ⟨f,j,hf,hj,rfl⟩:=pt_of (by omega) hy
 have d1:=apF_at (apM M T 3) U i (n*T.length) (f*T.length+j) k hy hk
 have hjk:j*U.length+k<(cmT T U).length:=by rw [cmT_len];exact pt_lt hj hk
 have d2:=apF_at M (cmT T U) i n f (j*U.length+k) hf hjk
 have hix:f*(cmT T U).length+(j*U.length+k)=(f*T.length+j)*U.length+k:=by rw [cmT_len,← Nat.mul_assoc,Nat.add_mul];omega
 rw [hix] at d2
 have g1:∀ (l:List Int) (m:Nat) (h:m<l.length),l[m]=l.getD m 0:=fun l m h=>by simp [h]
 rw [g1,g1,d1,d2]
 unfold apV
 rw [cm_tg hj hk hi,cmT_len]
 obtain ⟨o1,o2,o3,o4,_⟩:=hU.ok k i hk hi
 unfold cmE
 dsimp only
 by_cases h:0≤(tg U k i).2
 ·simp only [h,if_true]
  have h3:(tg U k i).2.toNat<3:=by omega
  rw [apM_mv hn h3,apF_at M T _ n f j hf hj]
  unfold apV
  rw [Int.add_mul,Int.mul_assoc,Int.add_assoc,Int.natCast_mul]
 ·simp only [h,if_false,show ¬ (0:Int) ≤ -1 by omega]
  rw [Int.natCast_add,Int.natCast_mul,Int.natCast_mul,Int.add_mul,Int.mul_assoc,Int.add_assoc]
theorem ipt_inj {q j k:Nat}{A u:Int}(hA:0≤A)(hu:0≤u)(hu2:u≤(q:Int) - 1)(hk:k<q)(h:A*q+u=(j*q+k:Nat)):A=j∧u=k:=by
 obtain ⟨a,rfl⟩:=Int.eq_ofNat_of_zero_le hA
 obtain ⟨b,rfl⟩:=Int.eq_ofNat_of_zero_le hu
 have h' : a*q+b=j*q+k:=by exact_mod_cast h
 obtain ⟨rfl,rfl⟩:=pt_inj (by omega) hk h'
 exact ⟨rfl,rfl⟩
theorem cm_com (hT:IsTpl T)(hU:IsTpl U){j k:Nat}(hj:j<T.length)(hk:k<U.length):TgCom (cmT T U) (j*U.length+k):=by
 have c0:=cm_ok hT hU hj hk (i:=0) (by omega)
 have c2:=cm_ok hT hU hj hk (i:=2) (by omega)
 have u0:=hU.ok k 0 hk (by omega)
 have u2:=hU.ok k 2 hk (by omega)
 obtain ⟨m1,m2,m3,m4,m5⟩:=hU.com k hk
 have hi2:=hU.inv k 2 hk (by omega)
 unfold TgInv at hi2
 unfold TgCom
 rw [cm_tg hj hk (by omega),cm_tg hj hk (by omega),c0.1,c2.1,Int.toNat_natCast,Int.toNat_natCast,cm_tg c0.2.1 c0.2.2.1 (by omega),cm_tg c2.2.1 c2.2.2.1 (by omega)]
 have k0:tg U (tpP U 0 k) 2=((tg U (tpP U 2 k) 0).1,(tg U k 2).2):=Prod.ext m1 m2
 have k2:(tg U (tpP U 2 k) 0).2=(tg U k 0).2:=m3
 unfold Cmt at m4
 have tcom:=hT.com j hj
 obtain ⟨t1,t2,t3,t4,t5⟩:=tcom
 have tinv:∀ i,i<3→tg T (tpP T i j) i=((j:Int),(tg T j i).2):=fun i hi=>hT.inv j i hj hi
 have tok:∀ i,i<3→TgOk T j i:=fun i hi=>hT.ok j i hj hi
 unfold cmE
 rw [k0,k2]
 dsimp only
 have hut:0≤(tg U (tpP U 2 k) 0).1:=(hU.ok _ 0 c2.2.2.1 (by omega)).1
 have hut2:(tg U (tpP U 2 k) 0).1≤(U.length:Int) - 1:=(hU.ok _ 0 c2.2.2.1 (by omega)).2.1
 by_cases g0:0≤(tg U k 0).2<;>by_cases g2:0≤(tg U k 2).2<;>simp only [g0,g2,if_true,if_false]
 ·-- both move
  have hcase:(tg U k 0).2=(tg U k 2).2∨((tg U k 0).2.toNat=0∧(tg U k 2).2.toNat=2)∨((tg U k 0).2.toNat=2∧(tg U k 2).2.toNat=0):=by omega
  rcases hcase with e | ⟨e0,e2⟩ | ⟨e0,e2⟩
  ·rw [e]
   have hm:=tinv (tg U k 2).2.toNat (by have:=u2.2.2.2.1;omega)
   rw [hm]
   exact ⟨rfl,rfl,rfl,.inl rfl,fun ⟨_,h⟩=>m5 ⟨e,by rw [m1];exact (ipt_inj (by omega) hut hut2 hk h).2⟩⟩
  ·rw [e0,e2]
   refine ⟨by unfold tpP;rw [t1],t2,t3,t4,fun ⟨h7,h⟩=>t5 ⟨h7,?_⟩⟩
   have o:=hT.ok (tpP T 0 j) 2 (by have:=(tok 0 (by omega));unfold TgOk at this;unfold tpP;omega) (by omega)
   exact (ipt_inj o.1 hut hut2 hk h).1
  ·rw [e0,e2]
   refine ⟨by unfold tpP;rw [t1],t3,t2,?_,fun ⟨h7,h⟩=>t5 ⟨h7.symm,?_⟩⟩
   ·unfold Cmt at t4 ⊢
    omega
   ·have o:=hT.ok (tpP T 2 j) 0 (by have:=(tok 2 (by omega));unfold TgOk at this;unfold tpP;omega) (by omega)
    have:=(ipt_inj o.1 hut hut2 hk h).1
    unfold tpP at this
    rw [t1]
    exact this
 ·have o:=tok (tg U k 0).2.toNat (by have:=u0.2.2.2.1;omega)
  refine ⟨?_,trivial,trivial,.inr (.inr (.inl (by omega))),fun ⟨h7,h⟩=>o.2.2.2.2 ⟨?_,by omega⟩⟩
  ·have:=o.1
   unfold tpP
   rw [Int.toNat_of_nonneg this]
  ·have:=(ipt_inj (by omega) hut hut2 hk h).1
   have h1:=o.1
   unfold tpP at this
   omega
 ·have o:=tok (tg U k 2).2.toNat (by have:=u2.2.2.2.1;omega)
  refine ⟨?_,trivial,trivial,.inr (.inl (by omega)),fun ⟨h7,h⟩=>o.2.2.2.2 ⟨?_,by omega⟩⟩
  ·have:=o.1
   unfold tpP
   rw [Int.toNat_of_nonneg this]
  ·exact (ipt_inj o.1 hut hut2 hk h).1
 ·refine ⟨trivial,trivial,trivial,.inl rfl,fun ⟨_,h⟩=>m5 ⟨?_,by rw [m1];exact (ipt_inj (by omega) hut hut2 hk h).2⟩⟩
  have:=u0.2.2.1
  have:=u2.2.2.1
  omega
theorem cm_tpl (hT:IsTpl T)(hU:IsTpl U)(h12:T.length*U.length≤12):IsTpl (cmT T U):=by
 have hp:=hT.p1
 have hq:=hU.p1
 refine ⟨by rw [cmT_len];exact Nat.mul_pos hp hq,by rw [cmT_len];exact h12,fun x hx=>?_,fun x i hx hi=>?_,fun x i hx hi=>?_,fun x hx=>?_⟩<;>(rw [cmT_len] at hx;obtain ⟨j,k,hj,hk,rfl⟩:=pt_of (by omega) hx)
 ·unfold cmT
  rw [cmK_at T U _ j k hj hk]
  simp [cmR]
 ·obtain ⟨c1,c2,c3,c4,c5⟩:=cm_ok hT hU hj hk hi
  unfold TgOk
  rw [cm_tg hj hk hi,c1,cmT_len]
  have:=pt_lt c2 c3
  refine ⟨by omega,by omega,c4,c5,fun ⟨h1,h2⟩=>?_⟩
  obtain ⟨e1,e2⟩:=pt_inj (f:=if 0≤(tg U k i).2 then tpP T (tg U k i).2.toNat j else j) (g:=j) c3 hk (by omega)
  obtain ⟨o1,o2,o3,o4,o5⟩:=hU.ok k i hk hi
  unfold cmE at h2
  dsimp only at h2
  split at e1
  ·rename_i h
   rw [if_pos h] at h2
   obtain ⟨q1,q2,q3,q4,q5⟩:=hT.ok j (tg U k i).2.toNat hj (by omega)
   exact q5 ⟨by unfold tpP at e1;omega,h2⟩
  ·exact o5 ⟨by unfold tpP at e2;omega,by omega⟩
 ·obtain ⟨c1,c2,c3,c4,c5⟩:=cm_ok hT hU hj hk hi
  unfold TgInv
  rw [cm_tg hj hk hi,c1,Int.toNat_natCast,cm_tg c2 c3 hi]
  have h1:=hU.inv k i hk hi
  unfold TgInv at h1
  have h1' : tg U (tpP U i k) i=((k:Int),(tg U k i).2):=h1
  unfold cmE
  rw [h1']
  dsimp only
  by_cases h:0≤(tg U k i).2
  ·simp only [h,if_true]
   obtain ⟨o1,o2,o3,o4,o5⟩:=hU.ok k i hk hi
   have h2:=hT.inv j (tg U k i).2.toNat hj (by omega)
   have h2' : tg T (tpP T (tg U k i).2.toNat j) (tg U k i).2.toNat=((j:Int),(tg T j (tg U k i).2.toNat).2):=h2
   rw [h2']
   simp
  ·simp only [h,if_false]
   simp
 ·exact cm_com hT hU hj hk
end
end Go.Proofs.YtfcbamfkfadabaaGreatDoor
