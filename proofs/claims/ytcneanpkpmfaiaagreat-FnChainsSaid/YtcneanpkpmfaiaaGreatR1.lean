/- Texts that belong together. -/
import Derived.KernelRfl
set_option linter.unusedSimpArgs false
set_option linter.unusedVariables false
set_option maxRecDepth 100000
namespace Go.Ce
section
open Classical
def Jt:Nat→List Int→Nat→Nat
 | 0,_,c=>c
 | k+1,l,c=>if l.getD c 0=(c:Int) then c else Jt k l (l.getD c 0).toNat
def Bh (l:List Int)(c:Nat):Nat:=Jt (c+1) l c
def Il (l:List Int):Prop:=∀ c,c<l.length→0≤l.getD c 0∧l.getD c 0≤c
theorem Yu {l:List Int}(h:Il l):∀ (k m c:Nat),c<l.length→c<k→c<m→Jt k l c=Jt m l c
 | 0,_,_,_,hk,_=>by omega
 | _,0,_,_,_,hm=>by omega
 | k+1,m+1,c,hc,hk,hm=>by
  unfold Jt
  by_cases e:l.getD c 0=(c:Int)
  ·rw [if_pos e,if_pos e]
  ·rw [if_neg e,if_neg e]
   have:=h c hc
   exact Yu h k m _ (by omega) (by omega) (by omega)
theorem Yn {l:List Int}{c:Nat}(h:l.getD c 0=(c:Int)):Bh l c=c:=by
 unfold Bh Jt
 rw [if_pos h]
theorem Yo {l:List Int}(h:Il l){c:Nat}(hc:c<l.length)(hn:l.getD c 0≠(c:Int)):Bh l c=Bh l (l.getD c 0).toNat:=by
 have:=h c hc
 unfold Bh
 rw [Jt,if_neg hn]
 exact Yu h _ _ _ (by omega) (by omega) (by omega)
theorem K2 {l:List Int}(h:Il l):∀ (c:Nat),c<l.length→Bh l c≤c∧l.getD (Bh l c) 0=(Bh l c:Nat):=by
 intro c
 induction c using Nat.strongRecOn with
 | _ c ih=>
  intro hc
  by_cases e:l.getD c 0=(c:Int)
  ·rw [Yn e]
   exact ⟨Nat.le_refl _,e⟩
  ·have h1:=h c hc
   rw [Yo h hc e]
   have:=ih (l.getD c 0).toNat (by omega) (by omega)
   exact ⟨by omega,this.2⟩
theorem Ym {l:List Int}(h:Il l){c:Nat}(hc:c<l.length):Bh l c<l.length:=by
 have:=(K2 h c hc).1
 omega
structure St where
 im:List (List Int)
 le:List Int
 bad:Bool
def Bo (I:List (List Int))(c g:Nat):Int:=(I.getD c []).getD g 0
def Cq (I:List (List Int))(c g:Nat)(v:Int):List (List Int):=I.set c ((I.getD c []).set g v)
def img (I:List (List Int))(l:List Int)(c g:Nat):Int:=if Bo I c g<0 then -1 else (Bh l (Bo I c g).toNat:Nat)
theorem H8 (I:List (List Int))(c g:Nat)(v:Int):(Cq I c g v).length=I.length:=by simp [Cq]
theorem zR {I:List (List Int)}{c g:Nat}{v:Int}(d:Nat):((Cq I c g v).getD d []).length=(I.getD d []).length:=by
 unfold Cq
 by_cases hc:c<I.length
 ·by_cases e:d=c
  ·subst e
   simp [hc]
  ·rw [List.getD_eq_getElem?_getD,List.getElem?_set_ne (fun h=>e h.symm),← List.getD_eq_getElem?_getD]
 ·rw [List.set_eq_of_length_le (by omega)]
theorem Rm {I:List (List Int)}{c g:Nat}{v:Int}(hc:c<I.length)(hg:g<(I.getD c []).length)(d k:Nat):Bo (Cq I c g v) d k=if d=c∧k=g then v else Bo I d k:=by
 unfold Bo Cq
 by_cases e:d=c
 ·subst e
  have e1:(I.set d ((I.getD d []).set g v)).getD d []=(I.getD d []).set g v:=by simp [hc]
  rw [e1]
  by_cases e2:k=g
  ·subst e2
   rw [if_pos ⟨rfl,rfl⟩,List.getD_eq_getElem?_getD,List.getElem?_set_self hg]
   rfl
  ·rw [if_neg (fun h=>e2 h.2),List.getD_eq_getElem?_getD,List.getElem?_set_ne (fun h=>e2 h.symm),← List.getD_eq_getElem?_getD]
 ·rw [if_neg (fun h=>e h.1),List.getD_eq_getElem?_getD (l:=I.set _ _),List.getElem?_set_ne (fun h=>e h.symm),← List.getD_eq_getElem?_getD]
structure Ok (G:Nat) (I:List (List Int)) (l:List Int):Prop where
 len:I.length=l.length
 low:Il l
 row:∀ c,c<I.length→(I.getD c []).length=G
 ent:∀ c g,c<I.length→g<G → -1≤Bo I c g∧Bo I c g<(l.length:Int)
theorem Ok.put {G:Nat}{I:List (List Int)}{l:List Int}(h:Ok G I l){c g:Nat}{v:Int}(hc:c<I.length)(hg:g<G)(hv : -1≤v∧v<(l.length:Int)):Ok G (Cq I c g v) l:=
 ⟨by rw [H8,h.len],h.low,fun d hd=>by rw [zR];exact h.row d (by rwa [H8] at hd),fun d k hd hk=>by
  rw [H8] at hd
  rw [Rm hc (by rw [h.row c hc];exact hg)]
  split
  ·exact hv
  ·exact h.ent d k hd hk⟩
theorem Ok.img {G:Nat}{I:List (List Int)}{l:List Int}(h:Ok G I l){c g:Nat}(hc:c<I.length)(hg:g<G) : -1≤img I l c g∧img I l c g<(l.length:Int):=by
 have h1:=h.ent c g hc hg
 unfold Go.Ce.img
 split
 ·omega
 ·have:=Ym h.low (show (Bo I c g).toNat<l.length by omega)
  omega
def mI (I:List (List Int))(lo hi:Nat):Nat→List (List Int)
 | 0=>I
 | k+1=>if Bo (mI I lo hi k) hi k<0∨0≤Bo (mI I lo hi k) lo k then mI I lo hi k else Cq (mI I lo hi k) lo k (Bo (mI I lo hi k) hi k)
def mQ (I:List (List Int))(lo hi:Nat):Nat→List (Nat×Nat)
 | 0=>[]
 | k+1=>if 0≤Bo (mI I lo hi k) hi k∧0≤Bo (mI I lo hi k) lo k then mQ I lo hi k++[((Bo (mI I lo hi k) hi k).toNat,(Bo (mI I lo hi k) lo k).toNat)] else mQ I lo hi k
theorem Tu (I:List (List Int))(lo hi:Nat):∀ k:Nat,(mQ I lo hi k).length≤k
 | 0=>Nat.le_refl _
 | k+1=>by
  have:=Tu I lo hi k
  unfold mQ
  split
  ·simp;omega
  ·omega
structure Mo (G:Nat) (I:List (List Int)) (l:List Int) (I' : List (List Int)) (l' : List Int):Prop where
 len:l.length≤l'.length
 root:∀ c,c<l.length→l'.getD c 0=(c:Int)→l.getD c 0=(c:Int)
 has:∀ c g,c<l.length→g<G→0≤Bo I c g→0≤Bo I' c g
theorem Mo.refl (G:Nat)(I:List (List Int))(l:List Int):Mo G I l I l:=⟨Nat.le_refl _,fun _ _ h=>h,fun _ _ _ _ h=>h⟩
theorem Mo.trans {G:Nat}{I I' I'' : List (List Int)}{l l' l'' : List Int}(h:Mo G I l I' l')(k:Mo G I' l' I'' l''):Mo G I l I'' l'' :=
 ⟨Nat.le_trans h.len k.len,fun c hc e=>h.root c hc (k.root c (Nat.lt_of_lt_of_le hc h.len) e),fun c g hc hg e=>k.has c g (Nat.lt_of_lt_of_le hc h.len) hg (h.has c g hc hg e)⟩
theorem Mo.put {G:Nat}{I:List (List Int)}{l:List Int}(h:Ok G I l){c g:Nat}{v:Int}(hc:c<I.length)(hg:g<G)(hv:0≤v):Mo G I l (Cq I c g v) l:=
 ⟨Nat.le_refl _,fun _ _ h=>h,fun d k hd hk e=>by
  rw [Rm hc (by rw [h.row c hc];exact hg)]
  split
  ·exact hv
  ·exact e⟩
theorem Px {G:Nat}{I:List (List Int)}{l:List Int}(h:Ok G I l){lo hi:Nat}(h1:lo<l.length)(h2:hi<l.length):∀ k:Nat,k≤G→Ok G (mI I lo hi k) l∧Mo G I l (mI I lo hi k) l
 | 0,_=>⟨h,.refl _ _ _⟩
 | k+1,hk=>by
  obtain ⟨h3,h4⟩:=Px h h1 h2 k (by omega)
  unfold mI
  split
  ·exact ⟨h3,h4⟩
  ·rename_i hn
   have h5:=h3.ent hi k (by rw [h3.len];exact h2) (by omega)
   exact ⟨h3.put (by rw [h3.len];exact h1) (by omega) h5,h4.trans (.put h3 (by rw [h3.len];exact h1) (by omega) (by omega))⟩
theorem aV {G:Nat}{I:List (List Int)}{l:List Int}(h:Ok G I l){lo hi:Nat}(h1:lo<l.length)(h2:hi<l.length):∀ k:Nat,k≤G→∀ p∈mQ I lo hi k,p.1<l.length∧p.2<l.length
 | 0,_=>fun p hp=>by cases hp
 | k+1,hk=>by
  intro p hp
  have ih:=aV h h1 h2 k (by omega)
  unfold mQ at hp
  split at hp
  ·rename_i hn
   rcases List.mem_append.1 hp with hp | hp
   ·exact ih p hp
   ·obtain rfl:=List.mem_singleton.1 hp
    obtain ⟨h3,_⟩:=Px h h1 h2 k (by omega)
    have h5:=h3.ent hi k (by rw [h3.len];exact h2) (by omega)
    have h6:=h3.ent lo k (by rw [h3.len];exact h1) (by omega)
    dsimp only
    omega
  ·exact ih p hp
def Li (l:List Int):Nat:=(List.range l.length).countP fun c=>decide (l.getD c 0=(c:Int))
theorem Abo (l:List Int):Li l≤l.length:=by
 have:=List.countP_le_length (p:=fun c=>decide (l.getD c 0=(c:Int))) (l:=List.range l.length)
 simpa [Li] using this
theorem X5 {p q:Nat→Bool}{h:Nat}:∀ (n:Nat),h<n→p h=true→q h=false→(∀ c,c≠h→q c=p c)→(List.range n).countP q+1=(List.range n).countP p
 | 0,hn,_,_,_=>by omega
 | n+1,hn,hp,hq,he=>by
  rw [List.range_succ,List.countP_append,List.countP_append]
  simp only [List.countP_cons,List.countP_nil]
  by_cases e:h=n
  ·subst e
   have:(List.range h).countP q=(List.range h).countP p:=List.countP_congr fun c hc=>by rw [he c (by have:=List.mem_range.1 hc;omega)]
   rw [this,hp,hq]
   simp
  ·have ih:=X5 n (by omega) hp hq he
   rw [he n (fun h=>e h.symm)]
   omega
theorem Abp {l:List Int}{lo hi:Nat}(h:lo<hi)(hh:hi<l.length)(hr:l.getD hi 0=(hi:Int)):Li (l.set hi (lo:Int))+1=Li l:=by
 unfold Li
 rw [List.length_set]
 refine X5 _ hh (by simpa using hr) (by simp [hh];omega) fun c hc=>?_
 rw [List.getD_eq_getElem?_getD,List.getElem?_set_ne (fun h=>hc h.symm),← List.getD_eq_getElem?_getD]
theorem sO {l:List Int}(h:Il l){lo hi:Nat}(hl:lo≤hi):Il (l.set hi (lo:Int)):=fun c hc=>by
 rw [List.length_set] at hc
 by_cases e:c=hi
 ·subst e
  simp [hc]
  omega
 ·rw [List.getD_eq_getElem?_getD,List.getElem?_set_ne (fun h=>e h.symm),← List.getD_eq_getElem?_getD]
  exact h c hc
theorem Ok.set {G:Nat}{I:List (List Int)}{l:List Int}(h:Ok G I l){lo hi:Nat}(hl:lo≤hi):Ok G I (l.set hi (lo:Int)):=
 ⟨by rw [List.length_set,h.len],sO h.low hl,h.row,fun c g hc hg=>by rw [List.length_set];exact h.ent c g hc hg⟩
theorem Mo.set {G:Nat}{I:List (List Int)}{l:List Int}{lo hi:Nat}(hl:lo<hi)(hh:hi<l.length):Mo G I l I (l.set hi (lo:Int)):=
 ⟨by simp,fun c hc e=>by
  by_cases e2:c=hi
  ·subst e2
   have e3:(l.set c (lo:Int)).getD c 0=lo:=by simp [hh]
   rw [e3] at e
   omega
  ·rwa [List.getD_eq_getElem?_getD,List.getElem?_set_ne (fun h=>e2 h.symm),← List.getD_eq_getElem?_getD] at e,fun c g _ _ h=>h⟩
def Iw (G:Nat):Nat→List (List Int)→List Int→List (Nat×Nat)→List (List Int)×List Int
 | 0,I,l,_=>(I,l)
 | _+1,I,l,[]=>(I,l)
 | n + 1, I, l, p :: q => if Bh l p.1 = Bh l p.2 then Iw G n I l q else
     Iw G n (mI I (min (Bh l p.1) (Bh l p.2)) (max (Bh l p.1) (Bh l p.2)) G) (l.set (max (Bh l p.1) (Bh l p.2)) (min (Bh l p.1) (Bh l p.2):Nat)) (q++mQ I (min (Bh l p.1) (Bh l p.2)) (max (Bh l p.1) (Bh l p.2)) G)
def C4 (l:List Int)(q:List (Nat×Nat)):Nat:=6*Li l+q.length
theorem nO (G n:Nat)(I:List (List Int))(l:List Int):Iw G n I l []=(I,l):=by cases n<;>rfl
structure IdI (G:Nat) (I0:List (List Int)) (l0:List Int) (R:List (List Int)×List Int) (I:List (List Int)) (l:List Int) (q:List (Nat×Nat)):Prop where
 ok:Ok G I l
 mo:Mo G I0 l0 I l
 len:l.length=l0.length
 qb:∀ p∈q,p.1<l.length∧p.2<l.length
 res:∃ n,C4 l q≤n∧Iw G n I l q=R
theorem IdI.start {G:Nat}{I:List (List Int)}{l:List Int}(h:Ok G I l){a b:Nat}(ha:a<l.length)(hb:b<l.length):IdI G I l (Iw G (C4 l [(a,b)]) I l [(a,b)]) I l [(a,b)]:=
 ⟨h,.refl _ _ _,rfl,fun p hp=>by obtain rfl:=List.mem_singleton.1 hp;exact ⟨ha,hb⟩,_,Nat.le_refl _,rfl⟩
theorem IdI.done {G:Nat}{I0:List (List Int)}{l0:List Int}{R:List (List Int)×List Int}{I:List (List Int)}{l:List Int}(h:IdI G I0 l0 R I l []):R=(I,l):=by
 obtain ⟨n,_,e⟩:=h.res
 rw [nO] at e
 exact e.symm
theorem IdI.same {G:Nat}{I0:List (List Int)}{l0:List Int}{R:List (List Int)×List Int}{I:List (List Int)}{l:List Int}{a b:Nat}{q:List (Nat×Nat)}(h:IdI G I0 l0 R I l ((a,b) :: q))(e:Bh l a=Bh l b):IdI G I0 l0 R I l q:=by
 obtain ⟨n,hn,hR⟩:=h.res
 refine ⟨h.ok,h.mo,h.len,fun p hp=>h.qb p (by simp [hp]),?_⟩
 unfold C4 at hn
 simp only [List.length_cons] at hn
 obtain ⟨m,rfl⟩:∃ m,n=m+1:=⟨n - 1,by omega⟩
 unfold Iw at hR
 rw [if_pos e] at hR
 exact ⟨m,by unfold C4;omega,hR⟩
theorem IdI.step {G : Nat} (hG : G ≤ 5) {I0 : List (List Int)} {l0 : List Int} {R : List (List Int) × List Int} {I : List (List Int)} {l : List Int} {a b : Nat} {q : List (Nat × Nat)} (h : IdI G I0 l0 R I l ((a, b) :: q)) {lo hi : Nat} (hlo : lo = min (Bh l a) (Bh l b)) (hhi : hi = max (Bh l a) (Bh l b)) (hne : lo < hi) :
    IdI G I0 l0 R (mI I lo hi G) (l.set hi (lo:Int)) (q++mQ I lo hi G)∧C4 (l.set hi (lo:Int)) (q++mQ I lo hi G)<C4 l ((a,b) :: q):=by
 obtain ⟨n,hn,hR⟩:=h.res
 have hab:=h.qb (a,b) (by simp)
 dsimp only at hab
 have f1:=K2 h.ok.low a hab.1
 have f2:=K2 h.ok.low b hab.2
 have hhl:hi<l.length:=by omega
 have hll:lo<l.length:=by omega
 have hr:l.getD hi 0=(hi:Int):=by
  rcases Nat.le_total (Bh l a) (Bh l b) with h1 | h1
  ·rw [hhi,Nat.max_eq_right h1];exact f2.2
  ·rw [hhi,Nat.max_eq_left h1];exact f1.2
 have hrs:=Abp hne hhl hr
 have hql:=Tu I lo hi G
 have hm:C4 (l.set hi (lo:Int)) (q++mQ I lo hi G)<C4 l ((a,b) :: q):=by
  unfold C4
  simp only [List.length_append,List.length_cons]
  omega
 obtain ⟨m1,m2⟩:=Px h.ok hll hhl G (Nat.le_refl _)
 refine ⟨⟨m1.set (by omega),(h.mo.trans m2).trans (.set hne hhl),by rw [List.length_set,h.len],fun p hp=>?_,?_⟩,hm⟩
 ·rw [List.length_set]
  rcases List.mem_append.1 hp with hp | hp
  ·exact h.qb p (by simp [hp])
  ·exact aV h.ok hll hhl G (Nat.le_refl _) p hp
 ·obtain ⟨m,rfl⟩:∃ m,n=m+1:=⟨n - 1,by unfold C4 at hn;simp only [List.length_cons] at hn;omega⟩
  unfold Iw at hR
  dsimp only at hR
  rw [if_neg (by omega),← hlo,← hhi] at hR
  exact ⟨m,by omega,hR⟩
def Dl (G:Nat)(I:List (List Int))(l:List Int)(a b:Nat):List (List Int)×List Int:=Iw G (C4 l [(a,b)]) I l [(a,b)]
theorem S5 {G:Nat}(hG:G≤5):∀ (n:Nat) {I0:List (List Int)} {l0:List Int} {R:List (List Int)×List Int} {I:List (List Int)} {l:List Int} {q:List (Nat×Nat)},C4 l q≤n→IdI G I0 l0 R I l q→IdI G I0 l0 R R.1 R.2 []
 | n,I0,l0,R,I,l,[],_,h=>by
  have:=h.done
  rw [this] at h ⊢
  exact h
 | 0,I0,l0,R,I,l,p :: q,hn,_=>by
  unfold C4 at hn
  simp only [List.length_cons] at hn
  omega
 | n+1,I0,l0,R,I,l,(a,b) :: q,hn,h=>by
  by_cases e:Bh l a=Bh l b
  ·exact S5 hG n (by unfold C4 at hn ⊢;simp only [List.length_cons] at hn;omega) (h.same e)
  ·obtain ⟨h1,h2⟩:=h.step hG rfl rfl (by omega)
   exact S5 hG n (by omega) h1
theorem Zb {G:Nat}(hG:G≤5){I:List (List Int)}{l:List Int}(h:Ok G I l){a b:Nat}(ha:a<l.length)(hb:b<l.length):Ok G (Dl G I l a b).1 (Dl G I l a b).2∧Mo G I l (Dl G I l a b).1 (Dl G I l a b).2∧(Dl G I l a b).2.length=l.length:=by
 have:=S5 hG _ (Nat.le_refl _) (IdI.start h ha hb)
 exact ⟨this.ok,this.mo,this.len⟩
end
section
open Classical
def Hz (G:Nat)(I:List (List Int))(c g:Nat):List (List Int):=Cq (Cq (I++[List.replicate G (-1)]) c g (I.length:Int)) I.length g (c:Int)
theorem jB {G:Nat}{I:List (List Int)}{l:List Int}(h:Ok G I l):Ok G (I++[List.replicate G (-1)]) (l++[(l.length:Int)]):=by
 have hget:∀ c,c<I.length→(I++[List.replicate G (-1:Int)]).getD c []=I.getD c []:=fun c hc=>by
  rw [List.getD_eq_getElem?_getD,List.getElem?_append_left hc,← List.getD_eq_getElem?_getD]
 have hnew:(I++[List.replicate G (-1:Int)]).getD I.length []=List.replicate G (-1):=by simp
 refine ⟨by simp [h.len],fun c hc=>?_,fun c hc=>?_,fun c g hc hg=>?_⟩
 ·simp only [List.length_append,List.length_cons,List.length_nil] at hc
  by_cases e:c<l.length
  ·rw [List.getD_eq_getElem?_getD,List.getElem?_append_left e,← List.getD_eq_getElem?_getD]
   exact h.low c e
  ·obtain rfl:c=l.length:=by omega
   simp
 ·simp only [List.length_append,List.length_cons,List.length_nil] at hc
  by_cases e:c<I.length
  ·rw [hget c e];exact h.row c e
  ·obtain rfl:c=I.length:=by omega
   rw [hnew];simp
 ·simp only [List.length_append,List.length_cons,List.length_nil] at hc ⊢
  unfold Bo
  by_cases e:c<I.length
  ·rw [hget c e]
   have:=h.ent c g e hg
   unfold Bo at this
   omega
  ·obtain rfl:c=I.length:=by omega
   rw [hnew]
   have:(List.replicate G (-1:Int)).getD g 0 = -1:=by simp [hg]
   rw [this]
   omega
theorem jA {G:Nat}{I:List (List Int)}{l:List Int}(h:Ok G I l):Mo G I l (I++[List.replicate G (-1)]) (l++[(l.length:Int)]):=
 ⟨by simp,fun c hc e=>by rwa [List.getD_eq_getElem?_getD,List.getElem?_append_left hc,← List.getD_eq_getElem?_getD] at e,fun c g hc _ e=>by
  unfold Bo at e ⊢
  rwa [List.getD_eq_getElem?_getD (l:=I++_),List.getElem?_append_left (by rw [h.len];exact hc),← List.getD_eq_getElem?_getD]⟩
theorem tY {G:Nat}{I:List (List Int)}{l:List Int}(h:Ok G I l){c g:Nat}(hc:c<l.length)(hg:g<G):Ok G (Hz G I c g) (l++[(l.length:Int)])∧Mo G I l (Hz G I c g) (l++[(l.length:Int)])∧0≤Bo (Hz G I c g) c g:=by
 have hl:=h.len
 have h1:=jB h
 have hc1:c<(I++[List.replicate G (-1:Int)]).length:=by simp;omega
 have h2:=h1.put (c:=c) (g:=g) (v:=(I.length:Int)) hc1 hg (by simp;omega)
 have m2:=Mo.put h1 (c:=c) (g:=g) (v:=(I.length:Int)) hc1 hg (by omega)
 have hc2:I.length<(Cq (I++[List.replicate G (-1:Int)]) c g (I.length:Int)).length:=by rw [H8];simp
 have h3:=h2.put (c:=I.length) (g:=g) (v:=(c:Int)) hc2 hg (by simp;omega)
 have m3:=Mo.put h2 (c:=I.length) (g:=g) (v:=(c:Int)) hc2 hg (by omega)
 refine ⟨h3,(jA h).trans (m2.trans m3),?_⟩
 unfold Hz
 refine m3.has c g (by simp;omega) hg ?_
 rw [Rm hc1 (by rw [h1.row c hc1];exact hg),if_pos ⟨rfl,rfl⟩]
 omega
structure Ss (G:Nat) (S:St):Prop where
 ok:Ok G S.im S.le
 pos:0<S.le.length
 few:S.le.length≤2000
abbrev Ko (G:Nat)(S T:St):Prop:=Mo G S.im S.le T.im T.le
def nx (G:Nat)(S:St)(c g:Nat):St×Nat:=if 0≤img S.im S.le c g then (S,(img S.im S.le c g).toNat) else if S.le.length=2000 then (⟨S.im,S.le,true⟩,0) else (⟨Hz G S.im c g,S.le++[(S.le.length:Int)],S.bad⟩,S.le.length)
theorem nX {I:List (List Int)}{l:List Int}{c g:Nat}:img I l c g<0 ↔ Bo I c g<0:=by
 unfold img
 split<;>omega
theorem T5 {G : Nat} {S : St} (h : Ss G S) {c g : Nat} (hc : c < S.le.length) (hg : g < G) :
    Ss G (nx G S c g).1∧Ko G S (nx G S c g).1∧(nx G S c g).2<(nx G S c g).1.le.length∧((nx G S c g).1.bad=false→0≤Bo (nx G S c g).1.im c g):=by
 have hi:=h.ok.img (c:=c) (g:=g) (by rw [h.ok.len];exact hc) hg
 unfold nx
 split
 ·rename_i h0
  refine ⟨h,.refl _ _ _,by dsimp only;omega,fun _=>?_⟩
  have:=(nX (I:=S.im) (l:=S.le) (c:=c) (g:=g))
  dsimp only
  omega
 ·split
  ·exact ⟨⟨h.ok,h.pos,h.few⟩,.refl _ _ _,h.pos,fun e=>by cases e⟩
  ·rename_i h2
   obtain ⟨h3,h4,h5⟩:=tY h.ok hc hg
   have:=h.few
   exact ⟨⟨h3,by simp,by simp;omega⟩,h4,by simp,fun _=>h5⟩
def Bl (G:Nat)(S:St)(w:List Int)(c:Nat):Nat→St×Nat
 | 0=>(S,c)
 | k+1=>if (Bl G S w c k).1.bad=true then Bl G S w c k else nx G (Bl G S w c k).1 (Bl G S w c k).2 (w.getD k 0).toNat
def C8 (G:Nat)(w:List Int):Prop:=∀ k,k<w.length→0≤w.getD k 0∧w.getD k 0<G
theorem Sg {G:Nat}{S:St}(h:Ss G S){w:List Int}(hw:C8 G w){c:Nat}(hc:c<S.le.length):∀ k:Nat,k≤w.length→Ss G (Bl G S w c k).1∧Ko G S (Bl G S w c k).1∧(Bl G S w c k).2<(Bl G S w c k).1.le.length
 | 0,_=>⟨h,.refl _ _ _,hc⟩
 | k+1,hk=>by
  obtain ⟨h1,h2,h3⟩:=Sg h hw hc k (by omega)
  unfold Bl
  split
  ·exact ⟨h1,h2,h3⟩
  ·have:=hw k (by omega)
   obtain ⟨h4,h5,h6,_⟩:=T5 h1 h3 (g:=(w.getD k 0).toNat) (by omega)
   exact ⟨h4,h2.trans h5,h6⟩
def fin (G:Nat)(T:St)(c d g:Nat):St:=
 if 0≤img T.im T.le d g then ⟨(Dl G T.im T.le (img T.im T.le d g).toNat c).1,(Dl G T.im T.le (img T.im T.le d g).toNat c).2,T.bad⟩
 else if 0≤img T.im T.le c g then ⟨(Dl G T.im T.le (img T.im T.le c g).toNat d).1,(Dl G T.im T.le (img T.im T.le c g).toNat d).2,T.bad⟩
 else ⟨Cq (Cq T.im d g (c:Int)) c g (d:Int),T.le,T.bad⟩
theorem mG {G:Nat}(hG:G≤5){T:St}(h:Ss G T){c d g:Nat}(hc:c<T.le.length)(hd:d<T.le.length)(hg:g<G):Ss G (fin G T c d g)∧Ko G T (fin G T c d g):=by
 have hl:=h.ok.len
 have i1:=h.ok.img (c:=d) (g:=g) (by omega) hg
 have i2:=h.ok.img (c:=c) (g:=g) (by omega) hg
 unfold fin
 split
 ·obtain ⟨h1,h2,h3⟩:=Zb hG h.ok (a:=(img T.im T.le d g).toNat) (b:=c) (by omega) hc
  exact ⟨⟨h1,by rw [h3];exact h.pos,by rw [h3];exact h.few⟩,h2⟩
 ·split
  ·obtain ⟨h1,h2,h3⟩:=Zb hG h.ok (a:=(img T.im T.le c g).toNat) (b:=d) (by omega) hd
   exact ⟨⟨h1,by rw [h3];exact h.pos,by rw [h3];exact h.few⟩,h2⟩
  ·have h1:=h.ok.put (c:=d) (g:=g) (v:=(c:Int)) (by omega) hg (by omega)
   have m1:=Mo.put h.ok (c:=d) (g:=g) (v:=(c:Int)) (by omega) hg (by omega)
   have h2:=h1.put (c:=c) (g:=g) (v:=(d:Int)) (by rw [H8];omega) hg (by omega)
   have m2:=Mo.put h1 (c:=c) (g:=g) (v:=(d:Int)) (by rw [H8];omega) hg (by omega)
   exact ⟨⟨h2,h.pos,h.few⟩,m1.trans m2⟩
def Bp (G:Nat)(S:St)(w:List Int)(c:Nat):St:=if w.length=0 then S else if (Bl G S w c (w.length - 1)).1.bad=true then (Bl G S w c (w.length - 1)).1 else fin G (Bl G S w c (w.length - 1)).1 c (Bl G S w c (w.length - 1)).2 (w.getD (w.length - 1) 0).toNat
theorem kN {G:Nat}(hG:G≤5){S:St}(h:Ss G S){w:List Int}(hw:C8 G w){c:Nat}(hc:c<S.le.length):Ss G (Bp G S w c)∧Ko G S (Bp G S w c):=by
 unfold Bp
 split
 ·exact ⟨h,.refl _ _ _⟩
 ·obtain ⟨h1,h2,h3⟩:=Sg h hw hc (w.length - 1) (by omega)
  split
  ·exact ⟨h1,h2⟩
  ·have:=hw (w.length - 1) (by omega)
   obtain ⟨h4,h5⟩:=mG hG h1 (c:=c) (Nat.lt_of_lt_of_le hc h2.len) h3 (g:=(w.getD (w.length - 1) 0).toNat) (by omega)
   exact ⟨h4,h2.trans h5⟩
def Go (S:St)(c:Nat):Prop:=S.le.getD c 0=(c:Int)∧S.bad=false
noncomputable def Ch (G:Nat)(S:St)(rs:List (List Int))(c:Nat):Nat→St
 | 0=>S
 | k+1=>if Go (Ch G S rs c k) c then Bp G (Ch G S rs c k) (rs.getD k []) c else Ch G S rs c k
noncomputable def Ca (G:Nat)(S:St)(c:Nat):Nat→St
 | 0=>S
 | k+1=>if Go (Ca G S c k) c then (nx G (Ca G S c k) c k).1 else Ca G S c k
theorem Qg {G:Nat}(hG:G≤5){S:St}(h:Ss G S){rs:List (List Int)}(hr:∀ k,k<rs.length→C8 G (rs.getD k [])){c:Nat}(hc:c<S.le.length):∀ k:Nat,k≤rs.length→Ss G (Ch G S rs c k)∧Ko G S (Ch G S rs c k)
 | 0,_=>⟨h,.refl _ _ _⟩
 | k+1,hk=>by
  obtain ⟨h1,h2⟩:=Qg hG h hr hc k (by omega)
  unfold Ch
  split
  ·obtain ⟨h3,h4⟩:=kN hG h1 (hr k (by omega)) (Nat.lt_of_lt_of_le hc h2.len)
   exact ⟨h3,h2.trans h4⟩
  ·exact ⟨h1,h2⟩
theorem Sz {G:Nat}{S:St}(h:Ss G S){c:Nat}(hc:c<S.le.length):∀ k:Nat,k≤G→Ss G (Ca G S c k)∧Ko G S (Ca G S c k)∧(Go (Ca G S c k) c→∀ g,g<k→0≤Bo (Ca G S c k).im c g)
 | 0,_=>⟨h,.refl _ _ _,fun _ g hg=>by omega⟩
 | k+1,hk=>by
  obtain ⟨h1,h2,h3⟩:=Sz h hc k (by omega)
  unfold Ca
  split
  ·rename_i hgo
   obtain ⟨h4,h5,_,h7⟩:=T5 h1 (c:=c) (g:=k) (Nat.lt_of_lt_of_le hc h2.len) (by omega)
   refine ⟨h4,h2.trans h5,fun hg2 g hg=>?_⟩
   by_cases e:g=k
   ·subst e;exact h7 hg2.2
   ·exact h5.has c g (Nat.lt_of_lt_of_le hc h2.len) (by omega) (h3 hgo g (by omega))
  ·rename_i hgo
   exact ⟨h1,h2,fun hg2=>absurd hg2 hgo⟩
noncomputable def mn (G:Nat)(rs:List (List Int)):Nat→St→Nat→St
 | 0,S,_=>S
 | k+1,S,c=>if c<S.le.length∧S.bad=false then mn G rs k (Ca G (Ch G S rs c rs.length) c G) (c+1) else S
def Cp (G:Nat)(S:St)(c:Nat):Prop:=∀ d,d<c→d<S.le.length→S.le.getD d 0=(d:Int)→∀ g,g<G→0≤Bo S.im d g
def start (G:Nat):St:=⟨[List.replicate G (-1)],[0],false⟩
noncomputable def Bm (G:Nat)(rs:List (List Int)):St:=mn G rs 2001 (start G) 0
structure Ei (G:Nat) (rs:List (List Int)) (S:St) (c:Nat):Prop where
 ok:Ss G S
 le:c≤S.le.length
 cp:S.bad=false→Cp G S c
 res:mn G rs (2001 - c) S c=Bm G rs
theorem X9 (G:Nat)(rs:List (List Int)):Ei G rs (start G) 0:=
 ⟨⟨⟨rfl,fun c hc=>by simp [start] at hc ⊢;subst hc;simp,fun c hc=>by simp [start] at hc ⊢;subst hc;simp,fun c g hc hg=>by
  simp [start] at hc
  subst hc
  simp [start,Bo,hg]⟩,by simp [start],by simp [start]⟩,Nat.zero_le _,fun _ d hd=>by omega,rfl⟩
theorem Ei.step {G : Nat} (hG : G ≤ 5) {rs : List (List Int)} (hr : ∀ k, k < rs.length → C8 G (rs.getD k [])) {S : St} {c : Nat} (h : Ei G rs S c) (hc : c < S.le.length) (hb : S.bad = false) :
    Ei G rs (Ca G (Ch G S rs c rs.length) c G) (c+1):=by
 obtain ⟨h1,h2⟩:=Qg hG h.ok hr hc rs.length (Nat.le_refl _)
 obtain ⟨h3,h4,h5⟩:=Sz h1 (c:=c) (Nat.lt_of_lt_of_le hc h2.len) G (Nat.le_refl _)
 have h6:=h2.trans h4
 have hlen:=h6.len
 refine ⟨h3,by omega,fun hb2 d hd hdl hrt g hg=>?_,?_⟩
 ·by_cases e:d=c
  ·subst e
   exact h5 ⟨hrt,hb2⟩ g hg
  ·exact h6.has d g (by omega) hg (h.cp hb d (by omega) (by omega) (h6.root d (by omega) hrt) g hg)
 ·have:=h.ok.few
  rw [← h.res,show 2001 - c=(2001 - (c+1))+1 by omega,mn,if_pos ⟨hc,hb⟩]
theorem Ei.done {G:Nat}{rs:List (List Int)}{S:St}{c:Nat}(h:Ei G rs S c)(hn:¬ (c<S.le.length∧S.bad=false)):S=Bm G rs:=by
 have:=h.ok.few
 have:=h.le
 rw [← h.res,show 2001 - c=(2000 - c)+1 by omega,mn,if_neg hn]
end
section
open Classical
structure Ed (G:Nat) (S:St):Prop where
 ok:Ss G S
 cp:∀ d,d<S.le.length→S.le.getD d 0=(d:Int)→∀ g,g<G→0≤Bo S.im d g
theorem lW {G:Nat}{rs:List (List Int)}{S:St}{c:Nat}(h:Ei G rs S c)(hb:S.bad=false)(hn:¬ (c<S.le.length∧S.bad=false)):Ed G S:=by
 have h1:=h.le
 have hc:c=S.le.length:=Nat.le_antisymm h1 (by rcases Nat.lt_or_ge c S.le.length with h2 | h2;exact absurd ⟨h2,hb⟩ hn;exact h2)
 exact ⟨h.ok,fun d hd hr g hg=>h.cp hb d (by omega) hd hr g hg⟩
def Rt (S:St)(d:Nat):Prop:=d<S.le.length∧S.le.getD d 0=(d:Int)
def Em (S:St)(d g:Nat):Nat:=(img S.im S.le d g).toNat
theorem S7 {G:Nat}{S:St}(h:Ed G S){d g:Nat}(hd:Rt S d)(hg:g<G):img S.im S.le d g=(Em S d g:Nat)∧Rt S (Em S d g):=by
 have h1:=h.cp d hd.1 hd.2 g hg
 have h2:=h.ok.ok.ent d g (by rw [h.ok.ok.len];exact hd.1) hg
 have e:img S.im S.le d g=(Bh S.le (Bo S.im d g).toNat:Nat):=by
  unfold img
  rw [if_neg (by omega)]
 have h3:(Bo S.im d g).toNat<S.le.length:=by omega
 have e2:Em S d g=Bh S.le (Bo S.im d g).toNat:=by
  unfold Em
  rw [e,Int.toNat_natCast]
 rw [e2]
 exact ⟨e,Ym h.ok.ok.low h3,(K2 h.ok.ok.low _ h3).2⟩
noncomputable def Hd (O:List Nat)(d:Nat):List Nat:=if d∈O then O else O++[d]
noncomputable def oG (S:St)(O:List Nat)(x:Nat):Nat→List Nat
 | 0=>O
 | g+1=>Hd (oG S O x g) (Em S x g)
noncomputable def oF (G:Nat)(S:St):Nat→List Nat→Nat→List Nat
 | 0,O,_=>O
 | k+1,O,i=>if i<O.length then oF G S k (oG S O (O.getD i 0) G) (i+1) else O
noncomputable def Cx (G:Nat)(S:St):List Nat:=oF G S 2001 [0] 0
theorem dK (O:List Nat)(d:Nat):∃ L,Hd O d=O++L:=by
 unfold Hd
 split
 ·exact ⟨[],by simp⟩
 ·exact ⟨[d],rfl⟩
theorem zK (O:List Nat)(d:Nat):d∈Hd O d:=by
 unfold Hd
 split
 ·assumption
 ·simp
theorem T7 (S:St)(O:List Nat)(x:Nat):∀ g:Nat,∃ L,oG S O x g=O++L
 | 0=>⟨[],by simp [oG]⟩
 | g+1=>by
  obtain ⟨L,h⟩:=T7 S O x g
  obtain ⟨L2,h2⟩:=dK (oG S O x g) (Em S x g)
  exact ⟨L++L2,by rw [oG,h2,h,List.append_assoc]⟩
structure Od (S:St) (O:List Nat):Prop where
 nd:O.Nodup
 rt:∀ d∈O,Rt S d
 zero:∃ L,O=0 :: L
theorem Od.psh {S:St}{O:List Nat}(h:Od S O){d:Nat}(hd:Rt S d):Od S (Hd O d):=by
 unfold Hd
 split
 ·exact h
 ·rename_i hn
  obtain ⟨L,hL⟩:=h.zero
  refine ⟨List.nodup_append.2 ⟨h.nd,by simp,fun a ha b hb e=>by obtain rfl:=List.mem_singleton.1 hb;exact hn (e ▸ ha)⟩,fun e he=>?_,L++[d],by rw [hL];rfl⟩
  rcases List.mem_append.1 he with he | he
  ·exact h.rt e he
  ·rw [List.mem_singleton.1 he];exact hd
theorem Nb {S:St}{O:List Nat}(h:Od S O):O.length≤S.le.length:=by
 have key:∀ {n:Nat} {V:List Nat},V.Nodup→(∀ x∈V,x<n)→V.length≤n:=by
  intro n
  induction n with
  | zero=>
   intro V _ hV
   cases V with
   | nil=>simp
   | cons x V=>have:=hV x (by simp);omega
  | succ n ih=>
   intro V hn hV
   have h1:=ih (V:=V.erase n) (hn.erase n) fun x hx=>by
    have:=(hn.mem_erase_iff).1 hx
    have:=hV x this.2
    omega
   rw [List.length_erase] at h1
   split at h1<;>omega
 exact key h.nd fun x hx=>(h.rt x hx).1
theorem T6 {G:Nat}{S:St}(h:Ed G S){O:List Nat}(ho:Od S O){x:Nat}(hx:x∈O):∀ g:Nat,g≤G→Od S (oG S O x g)∧∀ k,k<g→Em S x k∈oG S O x g
 | 0,_=>⟨ho,fun k hk=>by omega⟩
 | g+1,hg=>by
  obtain ⟨h1,h2⟩:=T6 h ho hx g (by omega)
  refine ⟨h1.psh (S7 h (ho.rt x hx) (by omega)).2,fun k hk=>?_⟩
  rw [oG]
  by_cases e:k=g
  ·subst e;exact zK _ _
  ·obtain ⟨L,hL⟩:=dK (oG S O x g) (Em S x g)
   rw [hL]
   exact List.mem_append.2 (.inl (h2 k (by omega)))
structure Oi (G:Nat) (S:St) (O:List Nat) (i:Nat):Prop where
 od:Od S O
 le:i≤O.length
 cl:∀ j,j<i→∀ g,g<G→Em S (O.getD j 0) g∈O
 res:oF G S (2001 - i) O i=Cx G S
theorem bZ {G:Nat}{S:St}(h:Ed G S):Oi G S [0] 0:=
 ⟨⟨by simp,fun d hd=>by
  obtain rfl:=List.mem_singleton.1 hd
  have:=h.ok.pos
  have h2:=h.ok.ok.low 0 this
  exact ⟨this,by omega⟩,[],rfl⟩,Nat.zero_le _,fun j hj=>by omega,rfl⟩
theorem Y4 {O L:List Nat}{j:Nat}(hj:j<O.length):(O++L).getD j 0=O.getD j 0:=by
 rw [List.getD_eq_getElem?_getD,List.getElem?_append_left hj,← List.getD_eq_getElem?_getD]
theorem Sw {O:List Nat}{j:Nat}(hj:j<O.length):O.getD j 0∈O:=by
 rw [List.getD_eq_getElem?_getD,List.getElem?_eq_getElem hj]
 exact List.getElem_mem hj
theorem Oi.step {G:Nat}{S:St}(h:Ed G S){O:List Nat}{i:Nat}(ho:Oi G S O i)(hi:i<O.length):Oi G S (oG S O (O.getD i 0) G) (i+1):=by
 obtain ⟨h1,h2⟩:=T6 h ho.od (Sw hi) G (Nat.le_refl _)
 obtain ⟨L,hL⟩:=T7 S O (O.getD i 0) G
 have hol:=Nb ho.od
 have hfew:=h.ok.few
 refine ⟨h1,by rw [hL,List.length_append];omega,fun j hj g hg=>?_,?_⟩
 ·rw [hL,Y4 (by omega),← hL]
  by_cases e:j=i
  ·subst e;exact h2 g hg
  ·rw [hL]
   exact List.mem_append.2 (.inl (ho.cl j (by omega) g hg))
 ·rw [← ho.res,show 2001 - i=(2001 - (i+1))+1 by omega,oF,if_pos hi]
theorem Oi.done {G:Nat}{S:St}(h:Ed G S){O:List Nat}{i:Nat}(ho:Oi G S O i)(hi:¬ i<O.length):O=Cx G S:=by
 have hol:=Nb ho.od
 have hfew:=h.ok.few
 have:=ho.le
 rw [← ho.res,show 2001 - i=(2000 - i)+1 by omega,oF,if_neg hi]
theorem bY {G:Nat}{S:St}(h:Ed G S):∀ (k:Nat) {O:List Nat} {i:Nat},S.le.length≤i+k→Oi G S O i→Oi G S (Cx G S) (Cx G S).length
 | 0,O,i,hk,ho=>by
  have hol:=Nb ho.od
  have:=ho.le
  have e:=ho.done h (by omega)
  rw [← e,show O.length=i by omega]
  exact ho
 | k+1,O,i,hk,ho=>by
  by_cases hi:i<O.length
  ·exact bY h k (by omega) (ho.step h hi)
  ·have:=ho.le
   have e:=ho.done h hi
   rw [← e,show O.length=i by omega]
   exact ho
theorem cW {G:Nat}{S:St}(h:Ed G S):Oi G S (Cx G S) (Cx G S).length:=bY h S.le.length (by omega) (bZ h)
def Ba (O:List Nat)(d:Nat):Nat:=O.idxOf d
theorem zI {O L:List Nat}{d:Nat}(h:d∈O):Ba (O++L) d=Ba O d:=by
 unfold Ba
 rw [List.idxOf_append,if_pos h]
theorem zG {O:List Nat}{d:Nat}(h:d∈O):Ba O d<O.length:=List.idxOf_lt_length_of_mem h
noncomputable def Dw (S:St)(O:List Nat)(g i:Nat):List Int:=(List.range i).map fun j=>(Ba O (Em S (O.getD j 0) g):Int)
theorem Uu (S:St)(O:List Nat)(g i:Nat):(Dw S O g i).length=i:=by simp [Dw]
theorem Adm (S:St)(O:List Nat)(g i:Nat):Dw S O g (i+1)=Dw S O g i++[(Ba O (Em S (O.getD i 0) g):Int)]:=by simp [Dw,List.range_succ]
noncomputable def Ek (G:Nat)(S:St):List (List Int):=(List.range G).map fun g=>Dw S (Cx G S) g (Cx G S).length
theorem Qp (G:Nat)(S:St):(Ek G S).length=G:=by simp [Ek]
theorem Uv {G:Nat}{S:St}{g:Nat}(hg:g<G):((Ek G S).getD g []).length=(Cx G S).length:=by simp [Ek,hg,Uu]
end
end Go.Ce
