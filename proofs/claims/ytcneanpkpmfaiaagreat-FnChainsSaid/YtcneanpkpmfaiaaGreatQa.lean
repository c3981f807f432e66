/- Texts that belong together. -/
import Derived.LoopN
import Derived.Test.YtcneanpkpmfaiaaGreatR5
set_option maxHeartbeats 16000000
set_option linter.unusedSimpArgs false
set_option linter.unusedVariables false
set_option maxRecDepth 100000
namespace Go.Gov
variable {P:Program} {M:List Nat} {N n0:Nat} {Q:Exit→Frame→Heap→Prop} {F:Frame} {H:Heap}
def Kq (P:Program)(M:List Nat)(N n0:Nat)(c:ACode)(Q:Exit→Frame→Heap→Prop):List Unit→Frame→Heap→Prop
 | []=>fun _ _=>False
 | _ :: u=>V P M N n0 c (Dx (Kq P M N n0 c Q u) Q)
theorem Ay (c:ACode)(x:Unit)(u:List Unit):Kq P M N n0 c Q (x :: u) F H=V P M N n0 c (Dx (Kq P M N n0 c Q u) Q) F H:=rfl
theorem iS (u:List Unit){c:ACode}(h:Kq P M N n0 c Q u F H):W P M N n0 (.loop c) Q F H:=fun code hc g a w hR=>by
 cases code<;>simp only [Dz,Option.map_eq_some_iff,Option.some.injEq,reduceCtorEq,and_false,exists_false] at hc
 case loop cx=>
  obtain ⟨x', hx,he⟩:=hc
  simp only [ACode.loop.injEq] at he
  obtain rfl:=he
  have key : ∀ (u : List Unit) (F' : Frame) (H' : Heap) (g' : Gh) (a' : Act) (w' : World), Kq P M N n0 x' Q u F' H' → R N g' F' H' a' w' → MvN n0 g H w g' H' w' →
      Code.rounds P cx (fun e a2 w2=>(∀ c,e ≠ .panic c)∧∃ g2 F2 H2,R N g2 F2 H2 a2 w2∧MvN n0 g H w g2 H2 w2∧Q e F2 H2) u.length a' w' := fun u=>by
   induction u with
   | nil=>exact fun F' H' g' a' w' h=>h.elim
   | cons x u ih=>
    intro F' H' g' a' w' h hR' hm'
    refine wp_mono (Al h cx hx g' a' w' hR') fun e a2 w2 hf=>?_
    obtain ⟨h1,g2,F2,H2,hR2,hm2,hk⟩:=hf
    cases e with
    | normal=>exact ih F2 H2 g2 a2 w2 hk hR2 (hm'.trans hm2)
    | panic c=>exact absurd rfl (h1 c)
    | _=>exact ⟨h1,g2,F2,H2,hR2,hm'.trans hm2,hk⟩
  exact wp_loop_rounds u.length (key u F H g a w h hR (MvN.refl hR.hp))
 all_goals (try (split at hc<;>cases hc))
 all_goals (rcases G5 hc with ⟨_,_,he,_⟩ | ⟨_,he,_⟩<;>cases he)
theorem A0 (u:List Unit){c:ACode}(h:Kq P M N n0 c Q u F H):V P M N n0 (.loop c) Q F H:=iS u h
end Go.Gov
namespace Go.Proofs.YtcneanpkpmfaiaaGreat
section
open Go.Gov
open Classical
theorem K5 {α:Type}(l:List α)(i j:Nat)(x d:α)(h:i≠j):(l.set i x).getD j d=l.getD j d:=by
 rw [List.getD_eq_getElem?_getD,List.getElem?_set_ne h,← List.getD_eq_getElem?_getD]
def Ij (n m:Nat)(l:List Int):Prop:=l.length=n∧∀ x,x<n→0≤l.getD x 0∧l.getD x 0<m
def Lbm (n m:Nat)(l:List Int):Prop:=l.length=n∧∀ x,x<n → -1≤l.getD x 0∧l.getD x 0<m
theorem Lbm.set {n m j:Nat}{l:List Int}(h:Lbm n m l)(v:Int)(h1 : -1≤v)(h2:v<m):Lbm n m (l.set j v):=by
 refine ⟨by rw [List.length_set];exact h.1,fun x hx=>?_⟩
 by_cases e:j=x
 ·subst e
  rw [Hs _ _ _ _ (by rw [h.1];exact hx)]
  exact ⟨h1,h2⟩
 ·rw [K5 _ _ _ _ _ e]
  exact h.2 x hx
theorem Lbm.mono {n m m' : Nat}{l:List Int}(h:Lbm n m l)(hm:m≤m'):Lbm n m' l:=⟨h.1,fun x hx=>⟨(h.2 x hx).1,by have:=(h.2 x hx).2;omega⟩⟩
theorem Zp (n:Nat)(L:List (List Int))(hL:RgOk n L)(hn:n≤1048576)(hl:L.length≤1048576):B1 Tryz.prog 118 [i64 n,Ae L] (fun l:List Int=>Ij n n l) (fun l=>.sl 0 1 0 n) (fun l=>[some (Aa l)]):=by
 refine E5 uX rfl ?_;unfold Vy
 refine RN ?_
 refine Aj (α:=Nat) (S:=fun k=>([(0,i64 n),(1,Ae L),(5,.sl 0 1 0 k),(6,i64 k)],[some (Aa (List.replicate k (-1)))])) (C:=fun k=>k≤n) (μ:=fun k=>n - k) 0 (by omega) (Ref.to (by simp [Aa]) (by simp [sub,Ab])) ?_
 intro k hk
 have hkl:(List.replicate k (-1:Int)).length=k:=by simp
 refine RN ?_
 refine ⟨fun hc=>?_,fun hc=>?_⟩
 ·(refine RN ?_;try with_reducible exact trivial)
  refine ⟨k+1,by omega,by omega,Ref.gc [2] rfl ?_ (by simp [sub,Ab,go_sem,↓reduceIte,Nat.reduceEqDiff,Nat.reduceAdd,reduceCtorEq])⟩
  have e1:(Aa (List.replicate k (-1))).take k=Aa (List.replicate k (-1)):=List.take_of_length_le (by simp [Aa])
  (try simp only [go_sem,↓reduceIte,Nat.reduceEqDiff,Nat.reduceAdd,reduceCtorEq,e1,H7,Gg,List.replicate_succ'])
 ·obtain rfl:k=n:=by omega
  refine RN ?_
  have h0:Lbm k 0 (List.replicate k (-1)):=⟨by simp,fun x hx=>by simp [hx]⟩
  refine Aj (α:=Nat×Nat×List Int) (S:=fun o=>([(0,i64 k),(1,Ae L),(5,.sl 0 1 0 k),(7,i64 (o.2.1:Int)),(8,i64 (o.1:Int))],[some (Aa o.2.2)])) (C:=fun o=>o.1≤k∧o.2.1≤o.1∧Lbm k o.2.1 o.2.2∧∀ x,x<o.1→0≤o.2.2.getD x 0) (μ:=fun o=>k - o.1) (0,0,List.replicate k (-1)) ⟨Nat.zero_le _,Nat.zero_le _,h0,fun x hx=>absurd hx (Nat.not_lt_zero _)⟩ (Ref.to1) ?_
  clear h0
  rintro ⟨i,c,l⟩ ⟨hi,hci,hlb,hge⟩
  dsimp only at hi hci hlb hge ⊢
  have hlen:=hlb.1
  refine RN ?_
  refine ⟨fun hc=>?_,fun hc=>?_⟩
  ·have hi' : i<k:=by omega
   refine RN ?_
   refine ⟨fun hc1=>?_,fun hc1=>?_⟩
   ·(refine RN ?_;try with_reducible exact trivial)
    refine ⟨(i+1,c,l),⟨by dsimp only;omega,by dsimp only;omega,hlb,fun x hx=>?_⟩,by dsimp only;omega,Ref.to1⟩
    dsimp only at hx ⊢
    by_cases e:x=i
    ·subst e;omega
    ·exact hge x (by omega)
   ·(refine RN ?_;try with_reducible exact trivial)
    refine Bx (Tf k L i hL hi' hn hl) (by simp only [go_sem,↓reduceIte,Nat.reduceEqDiff,Nat.reduceAdd,reduceCtorEq]<;>rfl) (fun o=>by first | rfl | simp only [go_sem,↓reduceIte,Nat.reduceEqDiff,Nat.reduceAdd,reduceCtorEq]) fun o ho=>?_
    obtain ⟨hnd,hV⟩:=ho
    have hVlt:∀ j,j∈o→j<k:=fun j hj=>((hV j).1 hj).ltR hL hi'
    have hVn:=H5 hnd hVlt
    have hiV:i∈o:=(hV i).2 .refl
    have hnzl:=Ld o
    refine RN ?_
    refine Aj (α:=Nat×List Int) (S:=fun q=>([(0,i64 k),(1,Ae L),(5,.sl 0 1 0 k),(7,i64 (c:Int)),(8,i64 (i:Int)),(9,.sl 1 1 0 o.length),(10,i64 (q.1:Int))],[some (Aa q.2),some (Aa (nz o))])) (C:=fun q=>q.1≤o.length∧Lbm k (c+1) q.2∧(∀ x,x<i→0≤q.2.getD x 0)∧∀ j,j<q.1→0≤q.2.getD (o.getD j 0) 0) (μ:=fun q=>o.length - q.1) (0,l) ⟨Nat.zero_le _,hlb.mono (by omega),hge,fun j hj=>absurd hj (Nat.not_lt_zero _)⟩ (Ref.to1) ?_
    rintro ⟨j,l2⟩ ⟨hj,hlb2,hge2,hset⟩
    dsimp only at hj hlb2 hge2 hset ⊢
    have hlen2:=hlb2.1
    refine RN ?_
    refine ⟨fun hc2=>?_,fun hc2=>?_⟩
    ·have hj' : j<o.length:=by omega
     have hoj:o[j]∈o:=List.getElem_mem _
     have hlt:=hVlt _ hoj
     have hat2:=uM hj'
     have hgo:o.getD j 0=o[j]:=by simp [hj']
     generalize hx:o[j]=x at hoj hlt hat2 hgo
     have hxi:((x:Nat):Int).toNat=x:=by omega
     refine RN ?_
     simp only [hat2,hxi,go_sem,↓reduceIte,Nat.reduceEqDiff,Nat.reduceAdd,reduceCtorEq]
     refine ⟨(j+1,l2.set x (c:Int)),⟨by dsimp only;omega,hlb2.set _ (by omega) (by omega),fun z hz=>?_,fun z hz=>?_⟩,by dsimp only;omega,Ref.to (by simp [Aa,List.map_set]) (by simp [sub,Ab])⟩
     ·dsimp only
      by_cases e:x=z
      ·subst e;rw [Hs _ _ _ _ (by omega)];omega
      ·rw [K5 _ _ _ _ _ e];exact hge2 z hz
     ·dsimp only at hz ⊢
      by_cases e:x=o.getD z 0
      ·rw [← e,Hs _ _ _ _ (by omega)];omega
      ·rw [K5 _ _ _ _ _ e]
       refine hset z ?_
       by_cases e2:z=j
       ·subst e2;exact absurd hgo.symm e
       ·omega
    ·obtain rfl:j=o.length:=by omega
     refine RN ?_
     obtain ⟨t,ht,hit⟩:=List.mem_iff_getElem.1 hiV
     have hii:=hset t ht
     rw [show o.getD t 0=i by simp [ht,hit]] at hii
     refine ⟨(i+1,c+1,l2),⟨by dsimp only;omega,by dsimp only;omega,hlb2,fun x hx=>?_⟩,by dsimp only;omega,Ref.gc1 [0]⟩
     dsimp only at hx ⊢
     by_cases e:x=i
     ·subst e;exact hii
     ·exact hge2 x (by omega)
  ·obtain rfl:i=k:=by omega
   refine RN ?_
   exact ⟨l,⟨hlen,fun x hx=>⟨hge x hx,by have:=(hlb.2 x hx).2;omega⟩⟩,Ref.gc1 [0]⟩
theorem RgOk.oth {n:Nat}{M:List (List Int)}(h:RgOk n M)(i k:Nat):RgOk n (oth M i k):=fun p hp=>h p (cZ hp)
theorem pC (n : Nat) (M : List (List Int)) (i : Nat) (hM : RgOk n M) (hi : i < M.length) (hr : (M.getD 0 []).length = n) (hn : n ≤ 1048576) (hl : M.length ≤ 1048576) :
    B1 Tryz.prog 87 [Bw M,i64 i] (fun l:List Int=>Ij n n l) (fun l=>.sl 0 1 0 n) (fun l=>[some (Aa l)]):=by
 have hol:=cY (M:=M) (i:=i) (k:=M.length) (Nat.le_refl _)
 rw [if_pos hi] at hol
 have hmo:=hM.oth i M.length
 have hot:=pE M i hl (by omega)
 rw [show ((i:Nat):Int).toNat=i by omega] at hot
 have hfl:=Jw M (by omega) hl (by omega)
 rw [hr] at hfl
 have hor:=Zp n (oth M i M.length) hmo hn (by omega)
 generalize oth M i M.length=L at *
 refine E5 xS rfl ?_;unfold Xu
 refine RN ?_
 refine Al ?_
 refine Ks (fun l:List Int=>Ij n n l) (fun l=>[(4,.sl 0 1 0 n)]) (fun l=>[some (Aa l)]) ?_ ?_
 ·repeat' first
    | simp only [go_sem,↓reduceIte,Nat.reduceEqDiff,Nat.reduceAdd,reduceCtorEq]
    | with_reducible refine Ar ?_
    | with_reducible refine Aq ?_
    | with_reducible exact As
    | with_reducible refine Ap ?_ ?_
    | (with_reducible refine And.intro ?_ ?_;focus first | assumption | omega | grind)
    | (refine Bn hfl ?_ ?_ ?_;(simp only [go_sem,↓reduceIte,Nat.reduceEqDiff,Nat.reduceAdd,reduceCtorEq]<;>first | done | (simp only [Bw,Ae]<;>rfl));(focus first | rfl | simp only [go_sem,↓reduceIte,Nat.reduceEqDiff,Nat.reduceAdd,reduceCtorEq]))
    | (refine jS hot ?_ ?_;(focus (try simp only [go_sem,↓reduceIte,Nat.reduceEqDiff,Nat.reduceAdd,reduceCtorEq,Nat.reduceMul,List.take_succ_cons,List.take_zero,List.take_nil]<;>rfl)))
    | (refine Bx hor ?_ ?_ fun l hlb=>?_;(focus simp only [Adk,Adl,bB,Ae,go_sem,↓reduceIte,Nat.reduceEqDiff,Nat.reduceAdd,reduceCtorEq]);(focus (intro o;first | rfl | simp only [go_sem,↓reduceIte,Nat.reduceEqDiff,Nat.reduceAdd,reduceCtorEq])))
  all_goals exact ⟨l,hlb,Ref.gc2 [3]⟩
 ·intro l hlb
  refine RN ?_
  exact ⟨l,hlb,Ref.gc2 [0]⟩
def Ds (l:List Int):Nat→Int
 | 0=>0
 | k+1=>if Ds l k≤l.getD k 0 then l.getD k 0+1 else Ds l k
theorem Pg (l:List Int):∀ k,0≤Ds l k
 | 0=>Int.le_refl _
 | k+1=>by
  have:=Pg l k
  unfold Ds
  split<;>omega
theorem My (l:List Int):∀ k j,j<k→l.getD j 0<Ds l k
 | 0,j,h=>absurd h (Nat.not_lt_zero _)
 | k+1,j,h=>by
  unfold Ds
  by_cases e:j=k
  ·subst e
   split<;>omega
  ·have:=My l k j (by omega)
   split<;>omega
theorem Mz {n m:Nat}{l:List Int}(h:Ij n m l):∀ k,k≤n→Ds l k≤m
 | 0,_=>by unfold Ds;omega
 | k+1,hk=>by
  have:=Mz h k (by omega)
  have:=(h.2 k (by omega)).2
  unfold Ds
  split<;>omega
theorem Zt (n m:Nat)(l:List Int)(h:Ij n m l)(hn:n≤1048576)(hm:m≤1048576):Pure Tryz.prog 84 [Ac l] (i64 (Ds l n)) []:=by
 have hln:=h.1
 refine Er xQ rfl ?_;unfold Xs
 refine RN ?_
 refine Aj (α:=Nat) (S:=fun k=>([(0,Ac l),(3,i64 (Ds l k)),(4,i64 k)],[])) (C:=fun k=>k≤n) (μ:=fun k=>n - k) 0 (by omega) (Ref.to (by simp) (by simp [sub,Ab,Ds])) ?_
 intro k hk
 have hp:=Pg l k
 have hg:=Mz h k hk
 refine RN ?_
 refine ⟨fun hc=>?_,fun hc=>?_⟩
 ·have hk' : k<n:=by omega
  have hat:=h.2 k hk'
  have hst:Ds l (k+1)=if Ds l k≤l.getD k 0 then l.getD k 0+1 else Ds l k:=rfl
  refine RN ?_
  refine ⟨fun hc1=>?_,fun hc1=>?_⟩
  ·rw [if_pos (by omega)] at hst
   refine RN ?_
   refine ⟨k+1,by omega,by omega,?_⟩
   rw [hst]
   exact Ref.frame (by simp [sub,Ab])
  ·rw [if_neg (by omega)] at hst
   refine RN ?_
   refine ⟨k+1,by omega,by omega,?_⟩
   rw [hst]
   exact Ref.frame (by simp [sub,Ab])
 ·obtain rfl:k=n:=by omega
  (refine RN ?_;try with_reducible exact trivial)
end
section
open Go.Gov
open Classical
structure Kp (r:Nat) (R:List Int) (B:List (List Int)):Prop where
 len:B.length=R.length
 few:R.length≤2400
 rk:∀ e,e<R.length→0≤R.getD e 0∧R.getD e 0<r
 mono:∀ d e,d≤e→e<R.length→R.getD d 0≤R.getD e 0
 row:∀ e,e<R.length→(B.getD e []).length≤20000
 low:∀ e,e<R.length→∀ d∈B.getD e [],0≤d∧d<R.length∧R.getD d.toNat 0<R.getD e 0
structure PD1 (n i:Nat) (Ls:List (List Int)) (Fs R:List Int):Prop where
 l1:Ls.length=i
 l2:Fs.length=i
 lab:∀ j,j<i→(Ls.getD j []).length=n∧0≤Fs.getD j 0∧∀ x,x<n→0≤(Ls.getD j []).getD x 0∧Fs.getD j 0+(Ls.getD j []).getD x 0<R.length∧R.getD (Fs.getD j 0+(Ls.getD j []).getD x 0).toNat 0=j
 few:R.length≤i*400
 rk:∀ e,e<R.length→0≤R.getD e 0∧R.getD e 0<i
 mono:∀ d e,d≤e→e<R.length→R.getD d 0≤R.getD e 0
 ne:1≤i→1≤n→1≤R.length
theorem Su {α:Type}(a b:List α)(j:Nat)(d:α)(h:j<a.length):(a++b).getD j d=a.getD j d:=by
 rw [List.getD_eq_getElem?_getD,List.getElem?_append_left h,← List.getD_eq_getElem?_getD]
theorem Sv {α:Type}(a b:List α)(j:Nat)(d:α)(h:a.length≤j):(a++b).getD j d=b.getD (j - a.length) d:=by
 rw [List.getD_eq_getElem?_getD,List.getElem?_append_right h,← List.getD_eq_getElem?_getD]
theorem Pe {α:Type}(v d:α)(c j:Nat)(h:j<c):(List.replicate c v).getD j d=v:=by simp [h]
theorem PD1.nil (n:Nat):PD1 n 0 [] [] []:=⟨rfl,rfl,fun j hj=>absurd hj (Nat.not_lt_zero _),Nat.zero_le _,fun e he=>absurd he (Nat.not_lt_zero _),fun d e _ he=>absurd he (Nat.not_lt_zero _),fun h=>absurd h (by decide)⟩
theorem PD1.step {n i:Nat}{Ls:List (List Int)}{Fs R l:List Int}(h:PD1 n i Ls Fs R)(hl:Ij n n l)(hn:n≤400){c:Nat}(hc:(c:Int)=Ds l n):PD1 n (i+1) (Ls++[l]) (Fs++[(R.length:Int)]) (R++List.replicate c (i:Int)):=by
 have hcn:=Mz hl n (Nat.le_refl _)
 have hlen:(R++List.replicate c (i:Int)).length=R.length+c:=by simp
 have hat:∀ e,e<R.length+c→(R++List.replicate c (i:Int)).getD e 0=if e<R.length then R.getD e 0 else (i:Int):=fun e he=>by
  split
  ·rename_i h1;exact Su _ _ _ _ h1
  ·rw [Sv _ _ _ _ (by omega),Pe _ _ _ _ (by omega)]
 refine ⟨by simp [h.l1],by simp [h.l2],fun j hj=>?_,by rw [hlen];have:=h.few;omega,fun e he=>?_,fun d e hd he=>?_,fun _ hn1=>?_⟩
 ·by_cases e:j<i
  ·have hL:=Su Ls [l] j [] (by rw [h.l1];exact e)
   have hF:=Su Fs [(R.length:Int)] j 0 (by rw [h.l2];exact e)
   rw [hL,hF]
   obtain ⟨a1,a2,a3⟩:=h.lab j e
   refine ⟨a1,a2,fun x hx=>?_⟩
   obtain ⟨b1,b2,b3⟩:=a3 x hx
   refine ⟨b1,by rw [hlen];omega,?_⟩
   rw [hat _ (by omega),if_pos (by omega)]
   exact b3
  ·have hji:j=i:=by omega
   have hL:=Sv Ls [l] j [] (by rw [h.l1];omega)
   have hF:=Sv Fs [(R.length:Int)] j 0 (by rw [h.l2];omega)
   rw [hL,hF,h.l1,h.l2,hji,Nat.sub_self]
   refine ⟨hl.1,by simp,fun x hx=>?_⟩
   have h1:=hl.2 x hx
   have h2:=My l n x hx
   have e1:[l].getD 0 []=l:=rfl
   have e2:[(R.length:Int)].getD 0 0=(R.length:Int):=rfl
   rw [e1,e2]
   refine ⟨h1.1,by rw [hlen];omega,?_⟩
   rw [hat _ (by omega),if_neg (by omega)]
 ·rw [hlen] at he
  rw [hat e he]
  split
  ·rename_i h1
   have:=h.rk e h1
   omega
  ·omega
 ·rw [hlen] at he
  rw [hat e he,hat d (by omega)]
  split
  ·rename_i h1
   split
   ·exact h.mono d e hd ‹_›
   ·have:=h.rk d h1
    omega
  ·rename_i h1
   rw [if_neg (by omega)]
   exact Int.le_refl _
 ·rw [hlen]
  have:=My l n 0 hn1
  have:=(hl.2 0 hn1).1
  omega
theorem Ur {a b s:Nat}(ha:a<s)(hb:b<s):a*s+b<s*s:=by
 have:(a+1)*s≤s*s:=Nat.mul_le_mul_right s ha
 rw [Nat.add_mul] at this
 omega
theorem Acq {a b c d s:Nat}(hb:b<s)(hd:d<s)(h:a*s+b=c*s+d):a=c∧b=d:=by
 rcases Nat.lt_trichotomy a c with e | e | e
 ·have:(a+1)*s≤c*s:=Nat.mul_le_mul_right s e
  rw [Nat.add_mul] at this
  omega
 ·subst e;omega
 ·have:(c+1)*s≤a*s:=Nat.mul_le_mul_right s e
  rw [Nat.add_mul] at this
  omega
def FOk (R:List Int)(s:Nat)(FN:List Bool):Prop:=FN.length=s*s∧∀ e d,e<s→d<s→FN.getD (e*s+d) false=true→R.getD d 0<R.getD e 0
theorem FOk.set {R:List Int}{s:Nat}{FN:List Bool}(h:FOk R s FN){e0 d0:Nat}(he:e0<s)(hd:d0<s)(hlt:R.getD d0 0<R.getD e0 0):FOk R s (FN.set (e0*s+d0) true):=by
 refine ⟨by rw [List.length_set];exact h.1,fun e d h1 h2 h3=>?_⟩
 by_cases k:e0*s+d0=e*s+d
 ·obtain ⟨rfl,rfl⟩:=Acq hd h2 k
  exact hlt
 ·rw [K5 _ _ _ _ _ k] at h3
  exact h.2 e d h1 h2 h3
theorem FOk.rep (R:List Int)(s:Nat):FOk R s (List.replicate (s*s) false):=by
 refine ⟨by simp,fun e d h1 h2 h3=>?_⟩
 rw [Pe _ _ _ _ (Ur h1 h2)] at h3
 cases h3
theorem Adu (ks:List Nat)(H:Heap)(X:List Int):(Aa X).map (Dp ks H)=Aa X:=by simp [Aa,Dp,An]
theorem Adw (ks:List Nat)(H:Heap)(X:List (List Int)):(X.map Ac).map (Dp ks H)=X.map Ac:=by
 rw [List.map_map]
 refine List.map_congr_left fun z _=>?_
 simp only [Function.comp,Dp,An,De]
theorem Adv (ks:List Nat)(H:Heap)(X:List (List Int)):(X.map Ad).map (Dp ks H)=X.map Ad:=by
 rw [List.map_map]
 refine List.map_congr_left fun z _=>?_
 simp only [Function.comp,Dp,An,De]
def Re (R:List Int)(s e:Nat)(x:List Int):Prop:=∀ d∈x,0≤d∧d<s∧R.getD d.toNat 0<R.getD e 0
structure PBr (R:List Int) (s i e:Nat) (U:List (List Int)):Prop where
 len:U.length=s
 row:∀ k,k<s→(U.getD k []).length≤if k<e then (i+1)*2400 else i*2400
 low:∀ k,k<s→Re R s k (U.getD k [])
theorem PBr.next {R:List Int}{s i:Nat}{U:List (List Int)}(h:PBr R s i s U):PBr R s (i+1) 0 U:=⟨h.len,fun k hk=>by
 have:=h.row k hk
 rw [if_pos hk] at this
 rw [if_neg (Nat.not_lt_zero _)]
 exact this,h.low⟩
theorem PBr.set {R:List Int}{s i e:Nat}{U:List (List Int)}(h:PBr R s i e U)(he:e<s){x:List Int}(h1:x.length≤i*2400+s)(hs:s≤2400)(h2:Re R s e x):PBr R s i (e+1) (U.set e x):=by
 refine ⟨by rw [List.length_set];exact h.len,fun k hk=>?_,fun k hk=>?_⟩
 ·by_cases q:e=k
  ·subst q
   rw [Hs _ _ _ _ (by rw [h.len];exact he),if_pos (by omega)]
   omega
  ·rw [K5 _ _ _ _ _ q]
   have:=h.row k hk
   by_cases q2:k<e
   ·rw [if_pos q2] at this
    rw [if_pos (by omega)]
    exact this
   ·rw [if_neg q2] at this
    rw [if_neg (by omega)]
    exact this
 ·by_cases q:e=k
  ·subst q
   rw [Hs _ _ _ _ (by rw [h.len];exact he)]
   exact h2
  ·rw [K5 _ _ _ _ _ q]
   exact h.low k hk
theorem PBr.nil (R:List Int)(s i:Nat):PBr R s i 0 (List.replicate s []):=⟨by simp,fun k hk=>by rw [Pe _ _ _ _ hk];exact Nat.zero_le _,fun k hk=>by rw [Pe _ _ _ _ hk];intro d hd;cases hd⟩
theorem Pq (n:Nat)(M:List (List Int))(hM:RgOk n M)(hr6:M.length≤6)(hn:n≤400):B1 Tryz.prog 58 [Bw M] (fun o:List Int×List (List Int)=>Kp M.length o.1 o.2∧(1≤M.length→1≤n→1≤o.1.length)) (fun o=>.agg [i64 M.length,.sl 0 1 0 o.1.length,.sl 1 1 0 o.1.length]) (fun o=>[some (Aa o.1),some (o.2.map Ad)]):=by
 have hfg:=fun (h:0<M.length)=>Jw M h (by omega) (by rw [(hM _ (Nk (k:=0) h)).1];omega)
 have hff:=fun (h:0<M.length)=>(hM _ (Nk (k:=0) h)).1
 refine E5 xA rfl ?_;unfold Xd
 refine RN ?_
 refine Aj (α:=Nat×List (List Int)×List Int×List Int) (S:=fun o=>([(1,.ref 0 0),(2,.ref 1 0),(3,i64 (M.length:Int)),(4,.ref 4 0),(5,.sl 2 1 0 o.1),(6,.sl 3 1 0 o.1),(7,i64 (o.1:Int))],[some [Ae M],some [i64 0,Af,Af],some (Aa o.2.2.1),some (o.2.1.map Ac),some [i64 (M.length:Int),.sl 5 1 0 o.2.2.2.length,.sl 6 1 0 o.2.2.2.length],some (Aa o.2.2.2),some ((List.replicate o.2.2.2.length ([]:List Int)).map Ad)])) (C:=fun o=>o.1≤M.length∧PD1 n o.1 o.2.1 o.2.2.1 o.2.2.2) (μ:=fun o=>M.length - o.1) (0,[],[],[]) ⟨Nat.zero_le _,PD1.nil n⟩ ?_ ?_
 ·refine (Ref.nilC 4 1 1 (cs:=[i64 (M.length:Int),Af,Af]) rfl rfl).trans ((Ref.nilC 4 2 1 (cs:=[i64 (M.length:Int),.sl 5 1 0 0,Af]) rfl rfl).trans (Ref.to ?_ (by simp [sub,Ab])))
  simp [Aa]
 rintro ⟨i,Ls,Fs,R⟩ ⟨hi,hp⟩
 dsimp only at hi hp ⊢
 have hrl:=hp.few
 have hol:=hp.l2
 have hll:=hp.l1
 refine RN ?_
 refine ⟨fun hc=>?_,fun hc=>?_⟩
 ·have hi2:i<M.length:=by omega
  have hlf:=pC n M i hM hi2 (hff (by omega)) (by omega) (by omega)
  refine RN ?_
  refine Bx (hlf) (by simp only [go_sem,↓reduceIte,Nat.reduceEqDiff,Nat.reduceAdd,reduceCtorEq]<;>rfl) (fun o=>by first | rfl | simp only [go_sem,↓reduceIte,Nat.reduceEqDiff,Nat.reduceAdd,reduceCtorEq]) fun o ho=>?_
  refine RN ?_
  have hgl:∀ v d:AV,(List.take i (Ls.map Ac)++[v]).getD i d=v:=fun v d=>by
   rw [List.take_of_length_le (by simp [hll]),List.getD_eq_getElem?_getD,List.getElem?_append_right (by simp [hll])]
   simp [hll]
  have hgr:=Zt n n o ho (by omega) (by omega)
  have hg0:=Pg o n
  have hg1:=Mz ho n (Nat.le_refl _)
  obtain ⟨c,hcg⟩:=Int.eq_ofNat_of_zero_le hg0
  have hst:=hp.step ho hn hcg.symm
  have hsl:(R++List.replicate c (i:Int)).length=R.length+c:=by simp
  have hrl2:=hst.few
  rw [hsl] at hrl2
  have hlb:=ho.1
  have htk:(Aa o).take n=Aa o:=List.take_of_length_le (by simp [Aa,hlb])
  rw [hcg] at hgr
  simp only [hgl,hll,go_sem,↓reduceIte,Nat.reduceEqDiff,Nat.reduceAdd,reduceCtorEq]
  refine ⟨by omega,?_⟩
  refine Oq hgr (by simp only [go_sem,↓reduceIte,Nat.reduceEqDiff,Nat.reduceAdd,reduceCtorEq,htk,Ac,hlb]) rfl rfl ?_
  refine RN ?_
  refine Aj (α:=Nat) (S:=fun t=>([(1,.ref 0 0),(2,.ref 1 0),(3,i64 (M.length:Int)),(4,.ref 4 0),(5,.sl 2 1 0 (i+1)),(6,.sl 3 1 0 (i+1)),(7,i64 (i:Int)),(8,i64 ((c:Int) - (t:Int)))],[some [Ae M],some [i64 0,Af,Af],some (Aa (Fs++[(R.length:Int)])),some ((Ls++[o]).map Ac),some [i64 (M.length:Int),.sl 5 1 0 (R.length+t),.sl 6 1 0 (R.length+t)],some (Aa (R++List.replicate t (i:Int))),some ((List.replicate (R.length+t) ([]:List Int)).map Ad)])) (C:=fun t=>t≤c) (μ:=fun t=>c - t) 0 (by omega) ?_ ?_
  ·refine Ref.sel [0,1,8,11,4,5,6] rfl ?_ ?_
   ·have t1:(Aa Fs).take i=Aa Fs:=List.take_of_length_le (by simp [Aa,hol])
    have t2:(Ls.map Ac).take i=Ls.map Ac:=List.take_of_length_le (by simp [hll])
    have hvw:∀ (ks:List Nat) (H:Heap) (z:Int),Dp ks H (i64 z)=i64 z:=fun ks H z=>by simp [Dp,An]
    simp only [t1,t2,List.map_append,List.map_cons,List.map_nil,Adu,Adw,Adv,hvw,go_sem,↓reduceIte,Nat.reduceEqDiff,Nat.reduceAdd,reduceCtorEq]
    simp only [Aa,List.map_append,List.map_cons,List.map_nil,Dp,vw,Ak,List.drop_zero,go_sem,↓reduceIte,Nat.reduceEqDiff,Nat.reduceAdd,reduceCtorEq]
    rw [List.take_of_length_le (by simp [hlb])]
    simp [Function.comp_def,Ak,hlb,Aa]
   ·simp only [go_sem,↓reduceIte,Nat.reduceEqDiff,Nat.reduceAdd,reduceCtorEq]
    simp [sub,Ab]
  intro t ht
  dsimp only
  have hrk:(R++List.replicate t (i:Int)).length=R.length+t:=by simp
  have htk2:(Aa (R++List.replicate t (i:Int))).take (R.length+t)=Aa (R++List.replicate t (i:Int)):=List.take_of_length_le (by simp [Aa])
  have htk3:((List.replicate (R.length+t) ([]:List Int)).map Ad).take (R.length+t)=(List.replicate (R.length+t) ([]:List Int)).map Ad:=List.take_of_length_le (by simp)
  refine RN ?_
  refine ⟨fun hc2=>?_,fun hc2=>?_⟩
  ·have htc:t<c:=by omega
   refine RN ?_
   refine ⟨t+1,by omega,by omega,(Ref.close 11 (R.length+t) 9 (k:=1) (n:=0) (cs:=((List.replicate (R.length+t) ([]:List Int)).map Ad).take (R.length+t)++[.sl 9 1 0 0]) (cs2:=[]) rfl (by rw [htk3,List.getElem?_append_right (by simp)];simp) rfl (by decide) rfl).trans (Ref.gc [0,1,2,3,4,8,11] rfl ?_ ?_)⟩
   ·have e1 : ((List.replicate (R.length + t) ([] : List Int)).map Ad ++ [AV.sl 9 1 0 0]).set (R.length + t) (.osl 1 0 []) = (List.replicate (R.length + (t + 1)) ([] : List Int)).map Ad := by
      rw [List.set_append_right _ _ (by simp),List.length_map,List.length_replicate,Nat.sub_self,← Nat.add_assoc,List.replicate_succ', List.map_append]
      rfl
    have e2:Aa (R++List.replicate (t+1) (i:Int))=Aa (R++List.replicate t (i:Int))++[i64 i]:=by
     rw [List.replicate_succ', ← List.append_assoc]
     simp [Aa]
    rw [e2]
    simp only [htk2,htk3,e1,Eb,I6,De,go_sem,↓reduceIte,Nat.reduceEqDiff,Nat.reduceAdd,reduceCtorEq]
    try rfl
   ·simp [sub,Ab,go_sem,↓reduceIte,Nat.reduceEqDiff,Nat.reduceAdd,reduceCtorEq]
    omega
  ·obtain rfl:t=c:=by omega
   refine RN ?_
   refine ⟨(i+1,Ls++[o],Fs++[(R.length:Int)],R++List.replicate t (i:Int)),⟨by dsimp only;omega,hst⟩,by dsimp only;omega,Ref.to ?_ ?_⟩
   ·dsimp only
    rw [hsl]
   ·simp [sub,Ab,hsl]
 ·obtain rfl:i=M.length:=by omega
  clear hc
  have hsb:R.length≤2400:=by omega
  have hlab:=hp.lab
  have hrk:=hp.rk
  have hmo:=hp.mono
  have hne:=hp.ne
  clear hp
  obtain ⟨s,hs⟩:∃ s,s=R.length:=⟨_,rfl⟩
  have hs2:s≤2400:=by omega
  have hss:s*s≤5760000:=Nat.mul_le_mul hs2 hs2
  rw [← hs]
  refine RN ?_
  refine Aj (α:=Nat×List (List Int)) (S:=fun o=>([(1,.ref 0 0),(2,.ref 1 0),(3,i64 (M.length:Int)),(4,.ref 4 0),(5,.sl 2 1 0 M.length),(6,.sl 3 1 0 M.length),(9,i64 (o.1:Int))],[some [Ae M],some [i64 0,Af,Af],some (Aa Fs),some (Ls.map Ac),some [i64 (M.length:Int),.sl 5 1 0 s,.sl 6 1 0 s],some (Aa R),some (o.2.map Ad)])) (C:=fun o=>1≤o.1∧o.1≤M.length+1∧PBr R s o.1 0 o.2) (μ:=fun o=>M.length+1 - o.1) (1,List.replicate s []) ⟨Nat.le_refl 1,Nat.le_add_left 1 _,PBr.nil R s 1⟩ (Ref.to (by rfl) (by simp [sub,Ab])) ?_
  rintro ⟨i,B⟩ ⟨hi1,hin,hpb⟩
  dsimp only at hi1 hin hpb ⊢
  have hbl:=hpb.len
  refine RN ?_
  refine ⟨fun hc=>?_,fun hc=>?_⟩
  ·have hi2:i<M.length:=by omega
   have hss3:((s:Int)*(s:Int)).toNat=s*s:=by rw [← Int.natCast_mul];rfl
   have hss4:(s:Int)*(s:Int)≤5760000:=by rw [← Int.natCast_mul];omega
   have hss5:0≤(s:Int)*(s:Int):=by rw [← Int.natCast_mul];omega
   have hfg:=hfg (by omega)
   have hff:=hff (by omega)
   rw [hff] at hfg
   obtain ⟨li1,li2,li3⟩:=hlab i hi2
   refine RN ?_
   refine Aj (α:=Nat×List Bool) (S:=fun o=>([(1,.ref 0 0),(2,.ref 1 0),(3,i64 (M.length:Int)),(4,.ref 4 0),(5,.sl 2 1 0 M.length),(6,.sl 3 1 0 M.length),(9,i64 (i:Int)),(10,i64 (s:Int)),(11,.sl 7 1 0 (s*s)),(12,i64 (o.1:Int))],[some [Ae M],some [i64 0,Af,Af],some (Aa Fs),some (Ls.map Ac),some [i64 (M.length:Int),.sl 5 1 0 s,.sl 6 1 0 s],some (Aa R),some (B.map Ad),some (Ci o.2)])) (C:=fun o=>o.1≤n∧FOk R s o.2) (μ:=fun o=>n - o.1) (0,List.replicate (s*s) false) ⟨Nat.zero_le _,FOk.rep R s⟩ (Ref.to (by simp [hss3,Ci]) (by simp [sub,Ab,hss3])) ?_
   rintro ⟨f,FN⟩ ⟨hf,hfo⟩
   dsimp only at hf hfo ⊢
   refine RN ?_
   refine Am (hfg) ?_
   refine RN ?_
   refine ⟨fun hc2=>?_,fun hc2=>?_⟩
   ·have hf2:f<n:=by omega
    obtain ⟨la,lb,lc⟩:=li3 f hf2
    refine RN ?_
    refine Aj (α:=Nat×List Bool) (S:=fun o=>([(1,.ref 0 0),(2,.ref 1 0),(3,i64 (M.length:Int)),(4,.ref 4 0),(5,.sl 2 1 0 M.length),(6,.sl 3 1 0 M.length),(9,i64 (i:Int)),(10,i64 (s:Int)),(11,.sl 7 1 0 (s*s)),(12,i64 (f:Int)),(13,i64 (o.1:Int))],[some [Ae M],some [i64 0,Af,Af],some (Aa Fs),some (Ls.map Ac),some [i64 (M.length:Int),.sl 5 1 0 s,.sl 6 1 0 s],some (Aa R),some (B.map Ad),some (Ci o.2)])) (C:=fun o=>o.1≤i∧FOk R s o.2) (μ:=fun o=>i - o.1) (0,FN) ⟨Nat.zero_le _,hfo⟩ (Ref.to (by rfl) (by simp [sub,Ab])) ?_
    clear FN hfo
    rintro ⟨k,FN⟩ ⟨hk,hfo⟩
    dsimp only at hk hfo ⊢
    have hfnl:=hfo.1
    refine RN ?_
    refine ⟨fun hc3=>?_,fun hc3=>?_⟩
    ·have hk2:k<i:=by omega
     obtain ⟨lk1,lk2,lk3⟩:=hlab k (by omega)
     obtain ⟨ma,mb,mc⟩:=lk3 f hf2
     obtain ⟨ei,hei⟩:=Int.eq_ofNat_of_zero_le (show 0≤Fs.getD i 0+(Ls.getD i []).getD f 0 by omega)
     obtain ⟨ek,hek⟩:=Int.eq_ofNat_of_zero_le (show 0≤Fs.getD k 0+(Ls.getD k []).getD f 0 by omega)
     rw [hei] at lb lc
     rw [hek] at mb mc
     rw [Int.toNat_natCast] at lc mc
     have hei2:ei<s:=by omega
     have hek2:ek<s:=by omega
     have hsq:=Ur hei2 hek2
     have hset:=hfo.set hei2 hek2 (by rw [lc,mc];omega)
     have hidx:(Fs.getD i 0+(Ls.getD i []).getD f 0)*(s:Int)+Fs.getD k 0+(Ls.getD k []).getD f 0=((ei*s+ek:Nat):Int):=by
      rw [hei]
      push_cast
      omega
     have b2:0≤(ei:Int)*(s:Int)∧(ei:Int)*(s:Int)≤5760000:=by
      have:ei*s≤2400*2400:=Nat.mul_le_mul (by omega) (by omega)
      rw [← Int.natCast_mul]
      omega
     generalize ei*s+ek=ix at *
     refine RN ?_
     simp only [hidx,Int.toNat_natCast]
     exact ⟨(k+1,FN.set ix true),⟨by dsimp only;omega,hset⟩,by dsimp only;omega,Ref.to1⟩
    ·obtain rfl:k=i:=by omega
     refine RN ?_
     exact ⟨(f+1,FN),⟨by dsimp only;omega,hfo⟩,by dsimp only;omega,Ref.to1⟩
   ·obtain rfl:f=n:=by omega
    have hfat:=hfo.2
    have hfnl:=hfo.1
    refine RN ?_
    refine (Vb (α:=Nat×List (List Int)) (S:=fun o=>([(1,.ref 0 0),(2,.ref 1 0),(3,i64 (M.length:Int)),(4,.ref 4 0),(5,.sl 2 1 0 M.length),(6,.sl 3 1 0 M.length),(9,i64 (i:Int)),(10,i64 (s:Int)),(11,.sl 7 1 0 (s*s)),(14,i64 (o.1:Int))],[some [Ae M],some [i64 0,Af,Af],some (Aa Fs),some (Ls.map Ac),some [i64 (M.length:Int),.sl 5 1 0 s,.sl 6 1 0 s],some (Aa R),some (o.2.map Ad),some (Ci FN)])) (C:=fun o=>o.1≤s∧PBr R s i o.1 o.2) (μ:=fun o=>s - o.1) (0,B) ⟨Nat.zero_le _,hpb⟩ (Ref.to (by rfl) (by simp [sub,Ab])) ?_)
    clear B hpb hbl
    rintro ⟨e,U⟩ ⟨he,hpu⟩
    dsimp only at he hpu ⊢
    have hUl:=hpu.len
    by_cases hes:e<s
    ·have hrw:=hpu.row e hes
     have hlw:=hpu.low e hes
     rw [if_neg (Nat.lt_irrefl _)] at hrw
     have hst:=fun x h1 h2=>hpu.set hes (x:=x) h1 hs2 h2
     have hrow:(U.map Ad)[e]? = some (Ad (U.getD e [])):=by
      rw [List.getElem?_map,List.getElem?_eq_getElem (by omega)]
      simp [show e<U.length by omega]
     generalize U.getD e []=row0 at *
     generalize hL:U.map Ad=L at hrow ⊢
     have hLl:L.length=s:=by rw [← hL,List.length_map,hUl]
     have hrn:∀ τ,A9 τ L=L:=fun τ=>by rw [← hL];exact Eb τ _
     refine Ft (Ref.open 6 e (cs:=L) rfl hrow) ?_
     simp only [List.set_cons_zero,List.set_cons_succ,List.cons_append,List.nil_append,List.length_cons,List.length_nil,Nat.zero_add]
     refine RN ?_
     refine ⟨fun hc3=>?_,fun hc3=>absurd hc3 (by omega)⟩
     refine RN ?_
     refine Aj (α:=Nat×List Int) (S:=fun o=>([(1,.ref 0 0),(2,.ref 1 0),(3,i64 (M.length:Int)),(4,.ref 4 0),(5,.sl 2 1 0 M.length),(6,.sl 3 1 0 M.length),(9,i64 (i:Int)),(10,i64 (s:Int)),(11,.sl 7 1 0 (s*s)),(14,i64 (e:Int)),(15,i64 (o.1:Int))],[some [Ae M],some [i64 0,Af,Af],some (Aa Fs),some (Ls.map Ac),some [i64 (M.length:Int),.sl 5 1 0 s,.sl 6 1 0 s],some (Aa R),some (L.set e (.sl 8 1 0 o.2.length)),some (Ci FN),some (Aa o.2)])) (C:=fun o=>o.1≤s∧o.2.length≤i*2400+o.1∧Re R s e o.2) (μ:=fun o=>s - o.1) (0,row0) ⟨Nat.zero_le _,hrw,hlw⟩ (Ref.to (by rfl) (by simp [sub,Ab])) ?_
     clear hrw hlw hrow row0
     rintro ⟨d,cur⟩ ⟨hd,hcl,hlw⟩
     dsimp only at hd hcl hlw ⊢
     refine RN ?_
     refine ⟨fun hc4=>?_,fun hc4=>?_⟩
     ·have hds:d<s:=by omega
      have hfa:=hfat e d hes hds
      have hx:(e:Int)*(s:Int)+(d:Int)=((e*s+d:Nat):Int):=by push_cast;rfl
      have hb:0≤(e:Int)*(s:Int)∧(e:Int)*(s:Int)≤5760000:=by
       have:e*s≤2400*2400:=Nat.mul_le_mul (by omega) (by omega)
       rw [← Int.natCast_mul]
       omega
      have hsq:=Ur hes hds
      generalize e*s+d=ix at *
      refine RN ?_
      have e1:((e:Int)*(s:Int)+(d:Int)).toNat=ix:=by rw [hx];rfl
      simp only [e1]
      refine ⟨fun hq=>?_,fun hq=>?_⟩
      ·have hlt:=hfa hq
       have hg:=Hs L e (.sl 8 1 0 cur.length) (.slc 1 0 []) (by omega)
       have hg2:=Hs L e (.sl 8 1 0 cur.length) .any (by omega)
       have hls:(L.set e (.sl 8 1 0 cur.length)).length=s:=by rw [List.length_set];exact hLl
       refine hY [(1,.ref 0 0),(2,.ref 1 0),(3,i64 (M.length:Int)),(4,.ref 4 0),(5,.sl 2 1 0 M.length),(6,.sl 3 1 0 M.length),(9,i64 (i:Int)),(10,i64 (s:Int)),(11,.sl 7 1 0 (s*s)),(14,i64 (e:Int)),(15,i64 (d:Int))] [some [Ae M],some [i64 0,Af,Af],some (Aa Fs),some (Ls.map Ac),some [i64 (M.length:Int),.sl 5 1 0 s,.sl 6 1 0 s],some (Aa R),some (L.set e (.sl 8 1 0 (cur.length+1))),some (Ci FN),some (Aa cur++[i64 (d:Int)])] ?_ ?_
       ·repeat' first
          | simp only [hg,hg2,hls,go_sem,↓reduceIte,Nat.reduceEqDiff,Nat.reduceAdd,reduceCtorEq]
          | with_reducible refine Ar ?_
          | with_reducible refine Aq ?_
          | with_reducible exact As
          | with_reducible refine Ap ?_ ?_
          | (with_reducible refine And.intro ?_ ?_;focus first | assumption | omega | grind)
        all_goals exact Ref.gc [0,1,2,3,4,5,6,7,10] rfl (by simp only [Nj,hrn,List.set_set,I6,go_sem,↓reduceIte,Nat.reduceEqDiff,Nat.reduceAdd,reduceCtorEq]) (by simp [sub,Ab,go_sem,↓reduceIte,Nat.reduceEqDiff,Nat.reduceAdd,reduceCtorEq])
       ·(refine RN ?_;try with_reducible exact trivial)
        refine ⟨(d+1,cur++[(d:Int)]),⟨by dsimp only;omega,by simp;omega,fun x hx2=>?_⟩,by dsimp only;omega,Ref.to (by simp [Aa]) (by simp [sub,Ab])⟩
        rcases List.mem_append.1 hx2 with h | h
        ·exact hlw x h
        ·rw [List.mem_singleton.1 h,Int.toNat_natCast]
         exact ⟨by omega,by omega,hlt⟩
      ·(refine RN ?_;try with_reducible exact trivial)
       exact ⟨(d+1,cur),⟨by dsimp only;omega,by dsimp only;omega,hlw⟩,by dsimp only;omega,Ref.to1⟩
     ·obtain rfl:d=s:=by omega
      refine RN ?_
      refine ⟨(e+1,U.set e cur),⟨by dsimp only;omega,hst cur hcl hlw⟩,by dsimp only;omega,(Ref.close 6 e 8 (k:=1) (n:=cur.length) (cs:=L.set e (.sl 8 1 0 cur.length)) (cs2:=Aa cur) rfl (List.getElem?_set_self (by omega)) rfl (by decide) (by simp [Aa])).trans (Ref.gc [0,1,2,3,4,5,6,7] rfl ?_ (by simp [sub,Ab,go_sem,↓reduceIte,Nat.reduceEqDiff,Nat.reduceAdd,reduceCtorEq]))⟩
      rw [List.map_set,hL]
      simp only [List.set_set,Nj,hrn,I6,go_sem,↓reduceIte,Nat.reduceEqDiff,Nat.reduceAdd,reduceCtorEq]
    ·obtain rfl:e=s:=by omega
     refine Al ?_
     refine RN ?_
     refine fun hc3=>?_
     refine RN ?_
     exact ⟨(i+1,U),⟨by dsimp only;omega,by dsimp only;omega,hpu.next⟩,by dsimp only;omega,Ref.gc [0,1,2,3,4,5,6] rfl (by simp only [Eb,I6,go_sem,↓reduceIte,Nat.reduceEqDiff,Nat.reduceAdd,reduceCtorEq]) (by simp [sub,Ab,go_sem,↓reduceIte,Nat.reduceEqDiff,Nat.reduceAdd,reduceCtorEq])⟩
  ·(refine RN ?_;try with_reducible exact trivial)
   have hrow:=hpb.row
   have hlow:=hpb.low
   refine ⟨(R,B),⟨⟨by dsimp only;omega,hsb,hrk,hmo,fun e he=>?_,fun e he=>?_⟩,hne⟩,Ref.gc [5,6] rfl ?_ (by simp [sub,Ab,hs,go_sem,↓reduceIte,Nat.reduceEqDiff,Nat.reduceAdd,reduceCtorEq])⟩
   ·have:=hrow e (by dsimp only at he;omega)
    rw [if_neg (Nat.not_lt_zero _)] at this
    dsimp only
    omega
   ·have:=hlow e (by dsimp only at he;omega)
    rw [hs] at this
    exact this
   ·simp only [Eb,go_sem,↓reduceIte,Nat.reduceEqDiff,Nat.reduceAdd,reduceCtorEq]
end
end Go.Proofs.YtcneanpkpmfaiaaGreat
