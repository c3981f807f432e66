/- Texts that belong together. -/
import Derived.Test.YtfofabbkigonpaaDoorR5
set_option maxHeartbeats 16000000
set_option linter.unusedSimpArgs false
set_option linter.unusedVariables false
set_option maxRecDepth 100000
namespace Go.Proofs.YtfofabbkigonpaaDoor
section
open Go.Gov
open Classical
theorem J5 {α:Type}(l:List α)(i j:Nat)(x d:α)(h:i≠j):(l.set i x).getD j d=l.getD j d:=by
 rw [List.getD_eq_getElem?_getD,List.getElem?_set_ne h,← List.getD_eq_getElem?_getD]
def Jp (n m:Nat)(l:List Int):Prop:=l.length=n∧∀ x,x<n→0≤l.getD x 0∧l.getD x 0<m
def Lbm (n m:Nat)(l:List Int):Prop:=l.length=n∧∀ x,x<n → -1≤l.getD x 0∧l.getD x 0<m
theorem Lbm.set {n m j:Nat}{l:List Int}(h:Lbm n m l)(v:Int)(h1 : -1≤v)(h2:v<m):Lbm n m (l.set j v):=by
 refine ⟨by rw [List.length_set];exact h.1,fun x hx=>?_⟩
 by_cases e:j=x
 ·subst e
  rw [Eb _ _ _ _ (by rw [h.1];exact hx)]
  exact ⟨h1,h2⟩
 ·rw [J5 _ _ _ _ _ e]
  exact h.2 x hx
theorem Lbm.mono {n m m' : Nat}{l:List Int}(h:Lbm n m l)(hm:m≤m'):Lbm n m' l:=⟨h.1,fun x hx=>⟨(h.2 x hx).1,by have:=(h.2 x hx).2;omega⟩⟩
theorem kI (n:Nat)(L:List (List Int))(hL:RgOk n L)(hn:n≤1048576)(hl:L.length≤1048576):Cr Tryd.prog 99 [i64 n,Ae L] (fun l:List Int=>Jp n n l) (fun l=>.sl 0 1 0 n) (fun l=>[some (Aa l)]):=by
 refine Fy qO rfl ?_;unfold Ve
 refine RN ?_
 refine Ak (α:=Nat) (S:=fun k=>([(0,i64 n),(1,Ae L),(5,.sl 0 1 0 k),(6,i64 k)],[some (Aa (List.replicate k (-1)))])) (C:=fun k=>k≤n) (μ:=fun k=>n - k) 0 (by omega) (Ref.to (by simp [Aa]) (by simp [sub,Ac])) ?_
 intro k hk
 have hkl:(List.replicate k (-1:Int)).length=k:=by simp
 refine RN ?_
 refine ⟨fun hc=>?_,fun hc=>?_⟩
 ·(refine RN ?_;try with_reducible exact trivial)
  refine ⟨k+1,by omega,by omega,Ref.gc [2] rfl ?_ (by simp [sub,Ac,go_sem,↓reduceIte,Nat.reduceEqDiff,Nat.reduceAdd,reduceCtorEq])⟩
  have e1:(Aa (List.replicate k (-1))).take k=Aa (List.replicate k (-1)):=List.take_of_length_le (by simp [Aa])
  (try simp only [go_sem,↓reduceIte,Nat.reduceEqDiff,Nat.reduceAdd,reduceCtorEq,e1,Rr,La,List.replicate_succ'])
 ·obtain rfl:k=n:=by omega
  refine RN ?_
  have h0:Lbm k 0 (List.replicate k (-1)):=⟨by simp,fun x hx=>by simp [hx]⟩
  refine Ak (α:=Nat×Nat×List Int) (S:=fun o=>([(0,i64 k),(1,Ae L),(5,.sl 0 1 0 k),(7,i64 (o.2.1:Int)),(8,i64 (o.1:Int))],[some (Aa o.2.2)])) (C:=fun o=>o.1≤k∧o.2.1≤o.1∧Lbm k o.2.1 o.2.2∧∀ x,x<o.1→0≤o.2.2.getD x 0) (μ:=fun o=>k - o.1) (0,0,List.replicate k (-1)) ⟨Nat.zero_le _,Nat.zero_le _,h0,fun x hx=>absurd hx (Nat.not_lt_zero _)⟩ (Ref.to1) ?_
  clear h0
  rintro ⟨i,c,l⟩ ⟨hi,hci,hlb,hge⟩
  dsimp only at hi hci hlb hge ⊢
  have hlen:=hlb.1
  refine RN ?_
  refine ⟨fun hc=>?_,fun hc=>?_⟩
  ·have hi' : i<k:=by omega
   refine RN ?_
   refine ⟨fun hc1=>?_,fun hc1=>?_⟩
   ·(refine RN ?_;try with_reducible exact trivial)
    refine ⟨(i+1,c,l),⟨by dsimp only;omega,by dsimp only;omega,hlb,fun x hx=>?_⟩,by dsimp only;omega,Ref.to1⟩
    dsimp only at hx ⊢
    by_cases e:x=i
    ·subst e;omega
    ·exact hge x (by omega)
   ·(refine RN ?_;try with_reducible exact trivial)
    refine B3 (Xf k L i hL hi' hn hl) (by simp only [go_sem,↓reduceIte,Nat.reduceEqDiff,Nat.reduceAdd,reduceCtorEq]<;>rfl) (fun o=>by first | rfl | simp only [go_sem,↓reduceIte,Nat.reduceEqDiff,Nat.reduceAdd,reduceCtorEq]) fun o ho=>?_
    obtain ⟨hnd,hV⟩:=ho
    have hVlt:∀ j,j∈o→j<k:=fun j hj=>((hV j).1 hj).ltR hL hi'
    have hVn:=Gu hnd hVlt
    have hiV:i∈o:=(hV i).2 .refl
    have hnzl:=Ki o
    refine RN ?_
    refine Ak (α:=Nat×List Int) (S:=fun q=>([(0,i64 k),(1,Ae L),(5,.sl 0 1 0 k),(7,i64 (c:Int)),(8,i64 (i:Int)),(9,.sl 1 1 0 o.length),(10,i64 (q.1:Int))],[some (Aa q.2),some (Aa (nz o))])) (C:=fun q=>q.1≤o.length∧Lbm k (c+1) q.2∧(∀ x,x<i→0≤q.2.getD x 0)∧∀ j,j<q.1→0≤q.2.getD (o.getD j 0) 0) (μ:=fun q=>o.length - q.1) (0,l) ⟨Nat.zero_le _,hlb.mono (by omega),hge,fun j hj=>absurd hj (Nat.not_lt_zero _)⟩ (Ref.to1) ?_
    rintro ⟨j,l2⟩ ⟨hj,hlb2,hge2,hset⟩
    dsimp only at hj hlb2 hge2 hset ⊢
    have hlen2:=hlb2.1
    refine RN ?_
    refine ⟨fun hc2=>?_,fun hc2=>?_⟩
    ·have hj' : j<o.length:=by omega
     have hoj:o[j]∈o:=List.getElem_mem _
     have hlt:=hVlt _ hoj
     have hat2:=nV hj'
     have hgo:o.getD j 0=o[j]:=by simp [hj']
     generalize hx:o[j]=x at hoj hlt hat2 hgo
     have hxi:((x:Nat):Int).toNat=x:=by omega
     refine RN ?_
     simp only [hat2,hxi,go_sem,↓reduceIte,Nat.reduceEqDiff,Nat.reduceAdd,reduceCtorEq]
     refine ⟨(j+1,l2.set x (c:Int)),⟨by dsimp only;omega,hlb2.set _ (by omega) (by omega),fun z hz=>?_,fun z hz=>?_⟩,by dsimp only;omega,Ref.to (by simp [Aa,List.map_set]) (by simp [sub,Ac])⟩
     ·dsimp only
      by_cases e:x=z
      ·subst e;rw [Eb _ _ _ _ (by omega)];omega
      ·rw [J5 _ _ _ _ _ e];exact hge2 z hz
     ·dsimp only at hz ⊢
      by_cases e:x=o.getD z 0
      ·rw [← e,Eb _ _ _ _ (by omega)];omega
      ·rw [J5 _ _ _ _ _ e]
       refine hset z ?_
       by_cases e2:z=j
       ·subst e2;exact absurd hgo.symm e
       ·omega
    ·obtain rfl:j=o.length:=by omega
     refine RN ?_
     obtain ⟨t,ht,hit⟩:=List.mem_iff_getElem.1 hiV
     have hii:=hset t ht
     rw [show o.getD t 0=i by simp [ht,hit]] at hii
     refine ⟨(i+1,c+1,l2),⟨by dsimp only;omega,by dsimp only;omega,hlb2,fun x hx=>?_⟩,by dsimp only;omega,Ref.gc1 [0]⟩
     dsimp only at hx ⊢
     by_cases e:x=i
     ·subst e;exact hii
     ·exact hge2 x (by omega)
  ·obtain rfl:i=k:=by omega
   refine RN ?_
   exact ⟨l,⟨hlen,fun x hx=>⟨hge x hx,by have:=(hlb.2 x hx).2;omega⟩⟩,Ref.gc1 [0]⟩
theorem RgOk.oth {n:Nat}{M:List (List Int)}(h:RgOk n M)(i k:Nat):RgOk n (oth M i k):=fun p hp=>h p (Zd hp)
theorem kM (n : Nat) (M : List (List Int)) (i : Nat) (hM : RgOk n M) (hi : i < M.length) (hr : (M.getD 0 []).length = n) (hn : n ≤ 1048576) (hl : M.length ≤ 1048576) :
    Cr Tryd.prog 72 [C2 M,i64 i] (fun l:List Int=>Jp n n l) (fun l=>.sl 0 1 0 n) (fun l=>[some (Aa l)]):=by
 have hol:=Zc (M:=M) (i:=i) (k:=M.length) (Nat.le_refl _)
 rw [if_pos hi] at hol
 have hmo:=hM.oth i M.length
 have hot:=kP M i hl (by omega)
 rw [show ((i:Nat):Int).toNat=i by omega] at hot
 have hfl:=J9 M (by omega) hl (by omega)
 rw [hr] at hfl
 have hor:=kI n (oth M i M.length) hmo hn (by omega)
 generalize oth M i M.length=L at *
 refine Fy pX rfl ?_;unfold Ux
 refine RN ?_
 refine Cf ?_
 refine Px (fun l:List Int=>Jp n n l) (fun l=>[(4,.sl 0 1 0 n)]) (fun l=>[some (Aa l)]) ?_ ?_
 ·repeat' first
    | simp only [go_sem,↓reduceIte,Nat.reduceEqDiff,Nat.reduceAdd,reduceCtorEq]
    | with_reducible refine Fg ?_
    | with_reducible refine Ff ?_
    | with_reducible exact Fh
    | with_reducible refine Fe ?_ ?_
    | (with_reducible refine And.intro ?_ ?_;focus first | assumption | omega | grind)
    | (refine E8 hfl ?_ ?_ ?_;(simp only [go_sem,↓reduceIte,Nat.reduceEqDiff,Nat.reduceAdd,reduceCtorEq]<;>first | done | (simp only [C2,Ae]<;>rfl));(focus first | rfl | simp only [go_sem,↓reduceIte,Nat.reduceEqDiff,Nat.reduceAdd,reduceCtorEq]))
    | (refine eM hot ?_ ?_;(focus (try simp only [go_sem,↓reduceIte,Nat.reduceEqDiff,Nat.reduceAdd,reduceCtorEq,Nat.reduceMul,List.take_succ_cons,List.take_zero,List.take_nil]<;>rfl)))
    | (refine B3 hor ?_ ?_ fun l hlb=>?_;(focus simp only [xY,xZ,X9,Ae,go_sem,↓reduceIte,Nat.reduceEqDiff,Nat.reduceAdd,reduceCtorEq]);(focus (intro o;first | rfl | simp only [go_sem,↓reduceIte,Nat.reduceEqDiff,Nat.reduceAdd,reduceCtorEq])))
  all_goals exact ⟨l,hlb,Ref.gc2 [3]⟩
 ·intro l hlb
  refine RN ?_
  exact ⟨l,hlb,Ref.gc2 [0]⟩
def Du (l:List Int):Nat→Int
 | 0=>0
 | k+1=>if Du l k≤l.getD k 0 then l.getD k 0+1 else Du l k
theorem Qx (l:List Int):∀ k,0≤Du l k
 | 0=>Int.le_refl _
 | k+1=>by
  have:=Qx l k
  unfold Du
  split<;>omega
theorem Qw (l:List Int):∀ k j,j<k→l.getD j 0<Du l k
 | 0,j,h=>absurd h (Nat.not_lt_zero _)
 | k+1,j,h=>by
  unfold Du
  by_cases e:j=k
  ·subst e
   split<;>omega
  ·have:=Qw l k j (by omega)
   split<;>omega
theorem Nv {n m:Nat}{l:List Int}(h:Jp n m l):∀ k,k≤n→Du l k≤m
 | 0,_=>by unfold Du;omega
 | k+1,hk=>by
  have:=Nv h k (by omega)
  have:=(h.2 k (by omega)).2
  unfold Du
  split<;>omega
theorem kN (n m:Nat)(l:List Int)(h:Jp n m l)(hn:n≤1048576)(hm:m≤1048576):Ao Tryd.prog 73 [Ad l] (i64 (Du l n)) []:=by
 have hln:=h.1
 refine Cm pY rfl ?_;unfold Uy
 refine RN ?_
 refine Ak (α:=Nat) (S:=fun k=>([(0,Ad l),(3,i64 (Du l k)),(4,i64 k)],[])) (C:=fun k=>k≤n) (μ:=fun k=>n - k) 0 (by omega) (Ref.to (by simp) (by simp [sub,Ac,Du])) ?_
 intro k hk
 have hp:=Qx l k
 have hg:=Nv h k hk
 refine RN ?_
 refine ⟨fun hc=>?_,fun hc=>?_⟩
 ·have hk' : k<n:=by omega
  have hat:=h.2 k hk'
  have hst:Du l (k+1)=if Du l k≤l.getD k 0 then l.getD k 0+1 else Du l k:=rfl
  refine RN ?_
  refine ⟨fun hc1=>?_,fun hc1=>?_⟩
  ·rw [if_pos (by omega)] at hst
   refine RN ?_
   refine ⟨k+1,by omega,by omega,?_⟩
   rw [hst]
   exact Ref.frame (by simp [sub,Ac])
  ·rw [if_neg (by omega)] at hst
   refine RN ?_
   refine ⟨k+1,by omega,by omega,?_⟩
   rw [hst]
   exact Ref.frame (by simp [sub,Ac])
 ·obtain rfl:k=n:=by omega
  (refine RN ?_;try with_reducible exact trivial)
end
section
open Go.Gov
open Classical
structure K2 (r:Nat) (R:List Int) (B:List (List Int)):Prop where
 len:B.length=R.length
 few:R.length≤2400
 rk:∀ e,e<R.length→0≤R.getD e 0∧R.getD e 0<r
 mono:∀ d e,d≤e→e<R.length→R.getD d 0≤R.getD e 0
 row:∀ e,e<R.length→(B.getD e []).length≤20000
 low:∀ e,e<R.length→∀ d∈B.getD e [],0≤d∧d<R.length∧R.getD d.toNat 0<R.getD e 0
structure PD1 (n i:Nat) (Ls:List (List Int)) (Fs R:List Int):Prop where
 l1:Ls.length=i
 l2:Fs.length=i
 lab:∀ j,j<i→(Ls.getD j []).length=n∧0≤Fs.getD j 0∧∀ x,x<n→0≤(Ls.getD j []).getD x 0∧Fs.getD j 0+(Ls.getD j []).getD x 0<R.length∧R.getD (Fs.getD j 0+(Ls.getD j []).getD x 0).toNat 0=j
 few:R.length≤i*400
 rk:∀ e,e<R.length→0≤R.getD e 0∧R.getD e 0<i
 mono:∀ d e,d≤e→e<R.length→R.getD d 0≤R.getD e 0
 ne:1≤i→1≤n→1≤R.length
theorem Qr {α:Type}(a b:List α)(j:Nat)(d:α)(h:j<a.length):(a++b).getD j d=a.getD j d:=by
 rw [List.getD_eq_getElem?_getD,List.getElem?_append_left h,← List.getD_eq_getElem?_getD]
theorem Qs {α:Type}(a b:List α)(j:Nat)(d:α)(h:a.length≤j):(a++b).getD j d=b.getD (j - a.length) d:=by
 rw [List.getD_eq_getElem?_getD,List.getElem?_append_right h,← List.getD_eq_getElem?_getD]
theorem Nr {α:Type}(v d:α)(c j:Nat)(h:j<c):(List.replicate c v).getD j d=v:=by simp [h]
theorem PD1.nil (n:Nat):PD1 n 0 [] [] []:=⟨rfl,rfl,fun j hj=>absurd hj (Nat.not_lt_zero _),Nat.zero_le _,fun e he=>absurd he (Nat.not_lt_zero _),fun d e _ he=>absurd he (Nat.not_lt_zero _),fun h=>absurd h (by decide)⟩
theorem PD1.step {n i:Nat}{Ls:List (List Int)}{Fs R l:List Int}(h:PD1 n i Ls Fs R)(hl:Jp n n l)(hn:n≤400){c:Nat}(hc:(c:Int)=Du l n):PD1 n (i+1) (Ls++[l]) (Fs++[(R.length:Int)]) (R++List.replicate c (i:Int)):=by
 have hcn:=Nv hl n (Nat.le_refl _)
 have hlen:(R++List.replicate c (i:Int)).length=R.length+c:=by simp
 have hat:∀ e,e<R.length+c→(R++List.replicate c (i:Int)).getD e 0=if e<R.length then R.getD e 0 else (i:Int):=fun e he=>by
  split
  ·rename_i h1;exact Qr _ _ _ _ h1
  ·rw [Qs _ _ _ _ (by omega),Nr _ _ _ _ (by omega)]
 refine ⟨by simp [h.l1],by simp [h.l2],fun j hj=>?_,by rw [hlen];have:=h.few;omega,fun e he=>?_,fun d e hd he=>?_,fun _ hn1=>?_⟩
 ·by_cases e:j<i
  ·have hL:=Qr Ls [l] j [] (by rw [h.l1];exact e)
   have hF:=Qr Fs [(R.length:Int)] j 0 (by rw [h.l2];exact e)
   rw [hL,hF]
   obtain ⟨a1,a2,a3⟩:=h.lab j e
   refine ⟨a1,a2,fun x hx=>?_⟩
   obtain ⟨b1,b2,b3⟩:=a3 x hx
   refine ⟨b1,by rw [hlen];omega,?_⟩
   rw [hat _ (by omega),if_pos (by omega)]
   exact b3
  ·have hji:j=i:=by omega
   have hL:=Qs Ls [l] j [] (by rw [h.l1];omega)
   have hF:=Qs Fs [(R.length:Int)] j 0 (by rw [h.l2];omega)
   rw [hL,hF,h.l1,h.l2,hji,Nat.sub_self]
   refine ⟨hl.1,by simp,fun x hx=>?_⟩
   have h1:=hl.2 x hx
   have h2:=Qw l n x hx
   have e1:[l].getD 0 []=l:=rfl
   have e2:[(R.length:Int)].getD 0 0=(R.length:Int):=rfl
   rw [e1,e2]
   refine ⟨h1.1,by rw [hlen];omega,?_⟩
   rw [hat _ (by omega),if_neg (by omega)]
 ·rw [hlen] at he
  rw [hat e he]
  split
  ·rename_i h1
   have:=h.rk e h1
   omega
  ·omega
 ·rw [hlen] at he
  rw [hat e he,hat d (by omega)]
  split
  ·rename_i h1
   split
   ·exact h.mono d e hd ‹_›
   ·have:=h.rk d h1
    omega
  ·rename_i h1
   rw [if_neg (by omega)]
   exact Int.le_refl _
 ·rw [hlen]
  have:=Qw l n 0 hn1
  have:=(hl.2 0 hn1).1
  omega
theorem Sc {a b s:Nat}(ha:a<s)(hb:b<s):a*s+b<s*s:=by
 have:(a+1)*s≤s*s:=Nat.mul_le_mul_right s ha
 rw [Nat.add_mul] at this
 omega
theorem wZ {a b c d s:Nat}(hb:b<s)(hd:d<s)(h:a*s+b=c*s+d):a=c∧b=d:=by
 rcases Nat.lt_trichotomy a c with e | e | e
 ·have:(a+1)*s≤c*s:=Nat.mul_le_mul_right s e
  rw [Nat.add_mul] at this
  omega
 ·subst e;omega
 ·have:(c+1)*s≤a*s:=Nat.mul_le_mul_right s e
  rw [Nat.add_mul] at this
  omega
def FOk (R:List Int)(s:Nat)(FN:List Bool):Prop:=FN.length=s*s∧∀ e d,e<s→d<s→FN.getD (e*s+d) false=true→R.getD d 0<R.getD e 0
theorem FOk.set {R:List Int}{s:Nat}{FN:List Bool}(h:FOk R s FN){e0 d0:Nat}(he:e0<s)(hd:d0<s)(hlt:R.getD d0 0<R.getD e0 0):FOk R s (FN.set (e0*s+d0) true):=by
 refine ⟨by rw [List.length_set];exact h.1,fun e d h1 h2 h3=>?_⟩
 by_cases k:e0*s+d0=e*s+d
 ·obtain ⟨rfl,rfl⟩:=wZ hd h2 k
  exact hlt
 ·rw [J5 _ _ _ _ _ k] at h3
  exact h.2 e d h1 h2 h3
theorem FOk.rep (R:List Int)(s:Nat):FOk R s (List.replicate (s*s) false):=by
 refine ⟨by simp,fun e d h1 h2 h3=>?_⟩
 rw [Nr _ _ _ _ (Sc h1 h2)] at h3
 cases h3
theorem zB (ks:List Nat)(H:Heap)(X:List Int):(Aa X).map (Cd ks H)=Aa X:=by simp [Aa,Cd,Al]
theorem zE (ks:List Nat)(H:Heap)(X:List (List Int)):(X.map Ad).map (Cd ks H)=X.map Ad:=by
 rw [List.map_map]
 refine List.map_congr_left fun z _=>?_
 simp only [Function.comp,Cd,Al,Ej]
theorem zC (ks:List Nat)(H:Heap)(X:List (List Int)):(X.map Af).map (Cd ks H)=X.map Af:=by
 rw [List.map_map]
 refine List.map_congr_left fun z _=>?_
 simp only [Function.comp,Cd,Al,Ej]
def Pv (R:List Int)(s e:Nat)(x:List Int):Prop:=∀ d∈x,0≤d∧d<s∧R.getD d.toNat 0<R.getD e 0
structure PBr (R:List Int) (s i e:Nat) (U:List (List Int)):Prop where
 len:U.length=s
 row:∀ k,k<s→(U.getD k []).length≤if k<e then (i+1)*2400 else i*2400
 low:∀ k,k<s→Pv R s k (U.getD k [])
theorem PBr.next {R:List Int}{s i:Nat}{U:List (List Int)}(h:PBr R s i s U):PBr R s (i+1) 0 U:=⟨h.len,fun k hk=>by
 have:=h.row k hk
 rw [if_pos hk] at this
 rw [if_neg (Nat.not_lt_zero _)]
 exact this,h.low⟩
theorem PBr.set {R:List Int}{s i e:Nat}{U:List (List Int)}(h:PBr R s i e U)(he:e<s){x:List Int}(h1:x.length≤i*2400+s)(hs:s≤2400)(h2:Pv R s e x):PBr R s i (e+1) (U.set e x):=by
 refine ⟨by rw [List.length_set];exact h.len,fun k hk=>?_,fun k hk=>?_⟩
 ·by_cases q:e=k
  ·subst q
   rw [Eb _ _ _ _ (by rw [h.len];exact he),if_pos (by omega)]
   omega
  ·rw [J5 _ _ _ _ _ q]
   have:=h.row k hk
   by_cases q2:k<e
   ·rw [if_pos q2] at this
    rw [if_pos (by omega)]
    exact this
   ·rw [if_neg q2] at this
    rw [if_neg (by omega)]
    exact this
 ·by_cases q:e=k
  ·subst q
   rw [Eb _ _ _ _ (by rw [h.len];exact he)]
   exact h2
  ·rw [J5 _ _ _ _ _ q]
   exact h.low k hk
theorem PBr.nil (R:List Int)(s i:Nat):PBr R s i 0 (List.replicate s []):=⟨by simp,fun k hk=>by rw [Nr _ _ _ _ hk];exact Nat.zero_le _,fun k hk=>by rw [Nr _ _ _ _ hk];intro d hd;cases hd⟩
theorem Xk (n:Nat)(M:List (List Int))(hM:RgOk n M)(hr6:M.length≤6)(hn:n≤400):Cr Tryd.prog 39 [C2 M] (fun o:List Int×List (List Int)=>K2 M.length o.1 o.2∧(1≤M.length→1≤n→1≤o.1.length)) (fun o=>.agg [i64 M.length,.sl 0 1 0 o.1.length,.sl 1 1 0 o.1.length]) (fun o=>[some (Aa o.1),some (o.2.map Af)]):=by
 have hfg:=fun (h:0<M.length)=>J9 M h (by omega) (by rw [(hM _ (O1 (k:=0) h)).1];omega)
 have hff:=fun (h:0<M.length)=>(hM _ (O1 (k:=0) h)).1
 refine Fy pD rfl ?_;unfold Ug
 refine RN ?_
 refine Ak (α:=Nat×List (List Int)×List Int×List Int) (S:=fun o=>([(1,.ref 0 0),(2,.ref 1 0),(3,i64 (M.length:Int)),(4,.ref 4 0),(5,.sl 2 1 0 o.1),(6,.sl 3 1 0 o.1),(7,i64 (o.1:Int))],[some [Ae M],some [i64 0,Ag,Ag],some (Aa o.2.2.1),some (o.2.1.map Ad),some [i64 (M.length:Int),.sl 5 1 0 o.2.2.2.length,.sl 6 1 0 o.2.2.2.length],some (Aa o.2.2.2),some ((List.replicate o.2.2.2.length ([]:List Int)).map Af)])) (C:=fun o=>o.1≤M.length∧PD1 n o.1 o.2.1 o.2.2.1 o.2.2.2) (μ:=fun o=>M.length - o.1) (0,[],[],[]) ⟨Nat.zero_le _,PD1.nil n⟩ ?_ ?_
 ·refine (Ref.nilC 4 1 1 (cs:=[i64 (M.length:Int),Ag,Ag]) rfl rfl).trans ((Ref.nilC 4 2 1 (cs:=[i64 (M.length:Int),.sl 5 1 0 0,Ag]) rfl rfl).trans (Ref.to ?_ (by simp [sub,Ac])))
  simp [Aa]
 rintro ⟨i,Ls,Fs,R⟩ ⟨hi,hp⟩
 dsimp only at hi hp ⊢
 have hrl:=hp.few
 have hol:=hp.l2
 have hll:=hp.l1
 refine RN ?_
 refine ⟨fun hc=>?_,fun hc=>?_⟩
 ·have hi2:i<M.length:=by omega
  have hlf:=kM n M i hM hi2 (hff (by omega)) (by omega) (by omega)
  refine RN ?_
  refine B3 (hlf) (by simp only [go_sem,↓reduceIte,Nat.reduceEqDiff,Nat.reduceAdd,reduceCtorEq]<;>rfl) (fun o=>by first | rfl | simp only [go_sem,↓reduceIte,Nat.reduceEqDiff,Nat.reduceAdd,reduceCtorEq]) fun o ho=>?_
  refine RN ?_
  have hgl:∀ v d:AV,(List.take i (Ls.map Ad)++[v]).getD i d=v:=fun v d=>by
   rw [List.take_of_length_le (by simp [hll]),List.getD_eq_getElem?_getD,List.getElem?_append_right (by simp [hll])]
   simp [hll]
  have hgr:=kN n n o ho (by omega) (by omega)
  have hg0:=Qx o n
  have hg1:=Nv ho n (Nat.le_refl _)
  obtain ⟨c,hcg⟩:=Int.eq_ofNat_of_zero_le hg0
  have hst:=hp.step ho hn hcg.symm
  have hsl:(R++List.replicate c (i:Int)).length=R.length+c:=by simp
  have hrl2:=hst.few
  rw [hsl] at hrl2
  have hlb:=ho.1
  have htk:(Aa o).take n=Aa o:=List.take_of_length_le (by simp [Aa,hlb])
  rw [hcg] at hgr
  simp only [hgl,hll,go_sem,↓reduceIte,Nat.reduceEqDiff,Nat.reduceAdd,reduceCtorEq]
  refine ⟨by omega,?_⟩
  refine M3 hgr (by simp only [go_sem,↓reduceIte,Nat.reduceEqDiff,Nat.reduceAdd,reduceCtorEq,htk,Ad,hlb]) rfl rfl ?_
  refine RN ?_
  refine Ak (α:=Nat) (S:=fun t=>([(1,.ref 0 0),(2,.ref 1 0),(3,i64 (M.length:Int)),(4,.ref 4 0),(5,.sl 2 1 0 (i+1)),(6,.sl 3 1 0 (i+1)),(7,i64 (i:Int)),(8,i64 ((c:Int) - (t:Int)))],[some [Ae M],some [i64 0,Ag,Ag],some (Aa (Fs++[(R.length:Int)])),some ((Ls++[o]).map Ad),some [i64 (M.length:Int),.sl 5 1 0 (R.length+t),.sl 6 1 0 (R.length+t)],some (Aa (R++List.replicate t (i:Int))),some ((List.replicate (R.length+t) ([]:List Int)).map Af)])) (C:=fun t=>t≤c) (μ:=fun t=>c - t) 0 (by omega) ?_ ?_
  ·refine Ref.sel [0,1,8,11,4,5,6] rfl ?_ ?_
   ·have t1:(Aa Fs).take i=Aa Fs:=List.take_of_length_le (by simp [Aa,hol])
    have t2:(Ls.map Ad).take i=Ls.map Ad:=List.take_of_length_le (by simp [hll])
    have hvw:∀ (ks:List Nat) (H:Heap) (z:Int),Cd ks H (i64 z)=i64 z:=fun ks H z=>by simp [Cd,Al]
    simp only [t1,t2,List.map_append,List.map_cons,List.map_nil,zB,zE,zC,hvw,go_sem,↓reduceIte,Nat.reduceEqDiff,Nat.reduceAdd,reduceCtorEq]
    simp only [Aa,List.map_append,List.map_cons,List.map_nil,Cd,vw,Ai,List.drop_zero,go_sem,↓reduceIte,Nat.reduceEqDiff,Nat.reduceAdd,reduceCtorEq]
    rw [List.take_of_length_le (by simp [hlb])]
    simp [Function.comp_def,Ai,hlb,Aa]
   ·simp only [go_sem,↓reduceIte,Nat.reduceEqDiff,Nat.reduceAdd,reduceCtorEq]
    simp [sub,Ac]
  intro t ht
  dsimp only
  have hrk:(R++List.replicate t (i:Int)).length=R.length+t:=by simp
  have htk2:(Aa (R++List.replicate t (i:Int))).take (R.length+t)=Aa (R++List.replicate t (i:Int)):=List.take_of_length_le (by simp [Aa])
  have htk3:((List.replicate (R.length+t) ([]:List Int)).map Af).take (R.length+t)=(List.replicate (R.length+t) ([]:List Int)).map Af:=List.take_of_length_le (by simp)
  refine RN ?_
  refine ⟨fun hc2=>?_,fun hc2=>?_⟩
  ·have htc:t<c:=by omega
   refine RN ?_
   refine ⟨t+1,by omega,by omega,(Ref.close 11 (R.length+t) 9 (k:=1) (n:=0) (cs:=((List.replicate (R.length+t) ([]:List Int)).map Af).take (R.length+t)++[.sl 9 1 0 0]) (cs2:=[]) rfl (by rw [htk3,List.getElem?_append_right (by simp)];simp) rfl (by decide) rfl).trans (Ref.gc [0,1,2,3,4,8,11] rfl ?_ ?_)⟩
   ·have e1 : ((List.replicate (R.length + t) ([] : List Int)).map Af ++ [AV.sl 9 1 0 0]).set (R.length + t) (.osl 1 0 []) = (List.replicate (R.length + (t + 1)) ([] : List Int)).map Af := by
      rw [List.set_append_right _ _ (by simp),List.length_map,List.length_replicate,Nat.sub_self,← Nat.add_assoc,List.replicate_succ', List.map_append]
      rfl
    have e2:Aa (R++List.replicate (t+1) (i:Int))=Aa (R++List.replicate t (i:Int))++[i64 i]:=by
     rw [List.replicate_succ', ← List.append_assoc]
     simp [Aa]
    rw [e2]
    simp only [htk2,htk3,e1,Dx,Ic,Ej,go_sem,↓reduceIte,Nat.reduceEqDiff,Nat.reduceAdd,reduceCtorEq]
    try rfl
   ·simp [sub,Ac,go_sem,↓reduceIte,Nat.reduceEqDiff,Nat.reduceAdd,reduceCtorEq]
    omega
  ·obtain rfl:t=c:=by omega
   refine RN ?_
   refine ⟨(i+1,Ls++[o],Fs++[(R.length:Int)],R++List.replicate t (i:Int)),⟨by dsimp only;omega,hst⟩,by dsimp only;omega,Ref.to ?_ ?_⟩
   ·dsimp only
    rw [hsl]
   ·simp [sub,Ac,hsl]
 ·obtain rfl:i=M.length:=by omega
  clear hc
  have hsb:R.length≤2400:=by omega
  have hlab:=hp.lab
  have hrk:=hp.rk
  have hmo:=hp.mono
  have hne:=hp.ne
  clear hp
  obtain ⟨s,hs⟩:∃ s,s=R.length:=⟨_,rfl⟩
  have hs2:s≤2400:=by omega
  have hss:s*s≤5760000:=Nat.mul_le_mul hs2 hs2
  rw [← hs]
  refine RN ?_
  refine Ak (α:=Nat×List (List Int)) (S:=fun o=>([(1,.ref 0 0),(2,.ref 1 0),(3,i64 (M.length:Int)),(4,.ref 4 0),(5,.sl 2 1 0 M.length),(6,.sl 3 1 0 M.length),(9,i64 (o.1:Int))],[some [Ae M],some [i64 0,Ag,Ag],some (Aa Fs),some (Ls.map Ad),some [i64 (M.length:Int),.sl 5 1 0 s,.sl 6 1 0 s],some (Aa R),some (o.2.map Af)])) (C:=fun o=>1≤o.1∧o.1≤M.length+1∧PBr R s o.1 0 o.2) (μ:=fun o=>M.length+1 - o.1) (1,List.replicate s []) ⟨Nat.le_refl 1,Nat.le_add_left 1 _,PBr.nil R s 1⟩ (Ref.to (by rfl) (by simp [sub,Ac])) ?_
  rintro ⟨i,B⟩ ⟨hi1,hin,hpb⟩
  dsimp only at hi1 hin hpb ⊢
  have hbl:=hpb.len
  refine RN ?_
  refine ⟨fun hc=>?_,fun hc=>?_⟩
  ·have hi2:i<M.length:=by omega
   have hss3:((s:Int)*(s:Int)).toNat=s*s:=by rw [← Int.natCast_mul];rfl
   have hss4:(s:Int)*(s:Int)≤5760000:=by rw [← Int.natCast_mul];omega
   have hss5:0≤(s:Int)*(s:Int):=by rw [← Int.natCast_mul];omega
   have hfg:=hfg (by omega)
   have hff:=hff (by omega)
   rw [hff] at hfg
   obtain ⟨li1,li2,li3⟩:=hlab i hi2
   refine RN ?_
   refine Ak (α:=Nat×List Bool) (S:=fun o=>([(1,.ref 0 0),(2,.ref 1 0),(3,i64 (M.length:Int)),(4,.ref 4 0),(5,.sl 2 1 0 M.length),(6,.sl 3 1 0 M.length),(9,i64 (i:Int)),(10,i64 (s:Int)),(11,.sl 7 1 0 (s*s)),(12,i64 (o.1:Int))],[some [Ae M],some [i64 0,Ag,Ag],some (Aa Fs),some (Ls.map Ad),some [i64 (M.length:Int),.sl 5 1 0 s,.sl 6 1 0 s],some (Aa R),some (B.map Af),some (Bc o.2)])) (C:=fun o=>o.1≤n∧FOk R s o.2) (μ:=fun o=>n - o.1) (0,List.replicate (s*s) false) ⟨Nat.zero_le _,FOk.rep R s⟩ (Ref.to (by simp [hss3,Bc]) (by simp [sub,Ac,hss3])) ?_
   rintro ⟨f,FN⟩ ⟨hf,hfo⟩
   dsimp only at hf hfo ⊢
   refine RN ?_
   refine An (hfg) ?_
   refine RN ?_
   refine ⟨fun hc2=>?_,fun hc2=>?_⟩
   ·have hf2:f<n:=by omega
    obtain ⟨la,lb,lc⟩:=li3 f hf2
    refine RN ?_
    refine Ak (α:=Nat×List Bool) (S:=fun o=>([(1,.ref 0 0),(2,.ref 1 0),(3,i64 (M.length:Int)),(4,.ref 4 0),(5,.sl 2 1 0 M.length),(6,.sl 3 1 0 M.length),(9,i64 (i:Int)),(10,i64 (s:Int)),(11,.sl 7 1 0 (s*s)),(12,i64 (f:Int)),(13,i64 (o.1:Int))],[some [Ae M],some [i64 0,Ag,Ag],some (Aa Fs),some (Ls.map Ad),some [i64 (M.length:Int),.sl 5 1 0 s,.sl 6 1 0 s],some (Aa R),some (B.map Af),some (Bc o.2)])) (C:=fun o=>o.1≤i∧FOk R s o.2) (μ:=fun o=>i - o.1) (0,FN) ⟨Nat.zero_le _,hfo⟩ (Ref.to (by rfl) (by simp [sub,Ac])) ?_
    clear FN hfo
    rintro ⟨k,FN⟩ ⟨hk,hfo⟩
    dsimp only at hk hfo ⊢
    have hfnl:=hfo.1
    refine RN ?_
    refine ⟨fun hc3=>?_,fun hc3=>?_⟩
    ·have hk2:k<i:=by omega
     obtain ⟨lk1,lk2,lk3⟩:=hlab k (by omega)
     obtain ⟨ma,mb,mc⟩:=lk3 f hf2
     obtain ⟨ei,hei⟩:=Int.eq_ofNat_of_zero_le (show 0≤Fs.getD i 0+(Ls.getD i []).getD f 0 by omega)
     obtain ⟨ek,hek⟩:=Int.eq_ofNat_of_zero_le (show 0≤Fs.getD k 0+(Ls.getD k []).getD f 0 by omega)
     rw [hei] at lb lc
     rw [hek] at mb mc
     rw [Int.toNat_natCast] at lc mc
     have hei2:ei<s:=by omega
     have hek2:ek<s:=by omega
     have hsq:=Sc hei2 hek2
     have hset:=hfo.set hei2 hek2 (by rw [lc,mc];omega)
     have hidx:(Fs.getD i 0+(Ls.getD i []).getD f 0)*(s:Int)+Fs.getD k 0+(Ls.getD k []).getD f 0=((ei*s+ek:Nat):Int):=by
      rw [hei]
      push_cast
      omega
     have b2:0≤(ei:Int)*(s:Int)∧(ei:Int)*(s:Int)≤5760000:=by
      have:ei*s≤2400*2400:=Nat.mul_le_mul (by omega) (by omega)
      rw [← Int.natCast_mul]
      omega
     generalize ei*s+ek=ix at *
     refine RN ?_
     simp only [hidx,Int.toNat_natCast]
     exact ⟨(k+1,FN.set ix true),⟨by dsimp only;omega,hset⟩,by dsimp only;omega,Ref.to1⟩
    ·obtain rfl:k=i:=by omega
     refine RN ?_
     exact ⟨(f+1,FN),⟨by dsimp only;omega,hfo⟩,by dsimp only;omega,Ref.to1⟩
   ·obtain rfl:f=n:=by omega
    have hfat:=hfo.2
    have hfnl:=hfo.1
    refine RN ?_
    refine (S0 (α:=Nat×List (List Int)) (S:=fun o=>([(1,.ref 0 0),(2,.ref 1 0),(3,i64 (M.length:Int)),(4,.ref 4 0),(5,.sl 2 1 0 M.length),(6,.sl 3 1 0 M.length),(9,i64 (i:Int)),(10,i64 (s:Int)),(11,.sl 7 1 0 (s*s)),(14,i64 (o.1:Int))],[some [Ae M],some [i64 0,Ag,Ag],some (Aa Fs),some (Ls.map Ad),some [i64 (M.length:Int),.sl 5 1 0 s,.sl 6 1 0 s],some (Aa R),some (o.2.map Af),some (Bc FN)])) (C:=fun o=>o.1≤s∧PBr R s i o.1 o.2) (μ:=fun o=>s - o.1) (0,B) ⟨Nat.zero_le _,hpb⟩ (Ref.to (by rfl) (by simp [sub,Ac])) ?_)
    clear B hpb hbl
    rintro ⟨e,U⟩ ⟨he,hpu⟩
    dsimp only at he hpu ⊢
    have hUl:=hpu.len
    by_cases hes:e<s
    ·have hrw:=hpu.row e hes
     have hlw:=hpu.low e hes
     rw [if_neg (Nat.lt_irrefl _)] at hrw
     have hst:=fun x h1 h2=>hpu.set hes (x:=x) h1 hs2 h2
     have hrow:(U.map Af)[e]? = some (Af (U.getD e [])):=by
      rw [List.getElem?_map,List.getElem?_eq_getElem (by omega)]
      simp [show e<U.length by omega]
     generalize U.getD e []=row0 at *
     generalize hL:U.map Af=L at hrow ⊢
     have hLl:L.length=s:=by rw [← hL,List.length_map,hUl]
     have hrn:∀ τ,Av τ L=L:=fun τ=>by rw [← hL];exact Dx τ _
     refine Hs (Ref.open 6 e (cs:=L) rfl hrow) ?_
     simp only [List.set_cons_zero,List.set_cons_succ,List.cons_append,List.nil_append,List.length_cons,List.length_nil,Nat.zero_add]
     refine RN ?_
     refine ⟨fun hc3=>?_,fun hc3=>absurd hc3 (by omega)⟩
     refine RN ?_
     refine Ak (α:=Nat×List Int) (S:=fun o=>([(1,.ref 0 0),(2,.ref 1 0),(3,i64 (M.length:Int)),(4,.ref 4 0),(5,.sl 2 1 0 M.length),(6,.sl 3 1 0 M.length),(9,i64 (i:Int)),(10,i64 (s:Int)),(11,.sl 7 1 0 (s*s)),(14,i64 (e:Int)),(15,i64 (o.1:Int))],[some [Ae M],some [i64 0,Ag,Ag],some (Aa Fs),some (Ls.map Ad),some [i64 (M.length:Int),.sl 5 1 0 s,.sl 6 1 0 s],some (Aa R),some (L.set e (.sl 8 1 0 o.2.length)),some (Bc FN),some (Aa o.2)])) (C:=fun o=>o.1≤s∧o.2.length≤i*2400+o.1∧Pv R s e o.2) (μ:=fun o=>s - o.1) (0,row0) ⟨Nat.zero_le _,hrw,hlw⟩ (Ref.to (by rfl) (by simp [sub,Ac])) ?_
     clear hrw hlw hrow row0
     rintro ⟨d,cur⟩ ⟨hd,hcl,hlw⟩
     dsimp only at hd hcl hlw ⊢
     refine RN ?_
     refine ⟨fun hc4=>?_,fun hc4=>?_⟩
     ·have hds:d<s:=by omega
      have hfa:=hfat e d hes hds
      have hx:(e:Int)*(s:Int)+(d:Int)=((e*s+d:Nat):Int):=by push_cast;rfl
      have hb:0≤(e:Int)*(s:Int)∧(e:Int)*(s:Int)≤5760000:=by
       have:e*s≤2400*2400:=Nat.mul_le_mul (by omega) (by omega)
       rw [← Int.natCast_mul]
       omega
      have hsq:=Sc hes hds
      generalize e*s+d=ix at *
      refine RN ?_
      have e1:((e:Int)*(s:Int)+(d:Int)).toNat=ix:=by rw [hx];rfl
      simp only [e1]
      refine ⟨fun hq=>?_,fun hq=>?_⟩
      ·have hlt:=hfa hq
       have hg:=Eb L e (.sl 8 1 0 cur.length) (.slc 1 0 []) (by omega)
       have hg2:=Eb L e (.sl 8 1 0 cur.length) .any (by omega)
       have hls:(L.set e (.sl 8 1 0 cur.length)).length=s:=by rw [List.length_set];exact hLl
       refine Sy [(1,.ref 0 0),(2,.ref 1 0),(3,i64 (M.length:Int)),(4,.ref 4 0),(5,.sl 2 1 0 M.length),(6,.sl 3 1 0 M.length),(9,i64 (i:Int)),(10,i64 (s:Int)),(11,.sl 7 1 0 (s*s)),(14,i64 (e:Int)),(15,i64 (d:Int))] [some [Ae M],some [i64 0,Ag,Ag],some (Aa Fs),some (Ls.map Ad),some [i64 (M.length:Int),.sl 5 1 0 s,.sl 6 1 0 s],some (Aa R),some (L.set e (.sl 8 1 0 (cur.length+1))),some (Bc FN),some (Aa cur++[i64 (d:Int)])] ?_ ?_
       ·repeat' first
          | simp only [hg,hg2,hls,go_sem,↓reduceIte,Nat.reduceEqDiff,Nat.reduceAdd,reduceCtorEq]
          | with_reducible refine Fg ?_
          | with_reducible refine Ff ?_
          | with_reducible exact Fh
          | with_reducible refine Fe ?_ ?_
          | (with_reducible refine And.intro ?_ ?_;focus first | assumption | omega | grind)
        all_goals exact Ref.gc [0,1,2,3,4,5,6,7,10] rfl (by simp only [O0,hrn,List.set_set,Ic,go_sem,↓reduceIte,Nat.reduceEqDiff,Nat.reduceAdd,reduceCtorEq]) (by simp [sub,Ac,go_sem,↓reduceIte,Nat.reduceEqDiff,Nat.reduceAdd,reduceCtorEq])
       ·(refine RN ?_;try with_reducible exact trivial)
        refine ⟨(d+1,cur++[(d:Int)]),⟨by dsimp only;omega,by simp;omega,fun x hx2=>?_⟩,by dsimp only;omega,Ref.to (by simp [Aa]) (by simp [sub,Ac])⟩
        rcases List.mem_append.1 hx2 with h | h
        ·exact hlw x h
        ·rw [List.mem_singleton.1 h,Int.toNat_natCast]
         exact ⟨by omega,by omega,hlt⟩
      ·(refine RN ?_;try with_reducible exact trivial)
       exact ⟨(d+1,cur),⟨by dsimp only;omega,by dsimp only;omega,hlw⟩,by dsimp only;omega,Ref.to1⟩
     ·obtain rfl:d=s:=by omega
      refine RN ?_
      refine ⟨(e+1,U.set e cur),⟨by dsimp only;omega,hst cur hcl hlw⟩,by dsimp only;omega,(Ref.close 6 e 8 (k:=1) (n:=cur.length) (cs:=L.set e (.sl 8 1 0 cur.length)) (cs2:=Aa cur) rfl (List.getElem?_set_self (by omega)) rfl (by decide) (by simp [Aa])).trans (Ref.gc [0,1,2,3,4,5,6,7] rfl ?_ (by simp [sub,Ac,go_sem,↓reduceIte,Nat.reduceEqDiff,Nat.reduceAdd,reduceCtorEq]))⟩
      rw [List.map_set,hL]
      simp only [List.set_set,O0,hrn,Ic,go_sem,↓reduceIte,Nat.reduceEqDiff,Nat.reduceAdd,reduceCtorEq]
    ·obtain rfl:e=s:=by omega
     refine Cf ?_
     refine RN ?_
     refine fun hc3=>?_
     refine RN ?_
     exact ⟨(i+1,U),⟨by dsimp only;omega,by dsimp only;omega,hpu.next⟩,by dsimp only;omega,Ref.gc [0,1,2,3,4,5,6] rfl (by simp only [Dx,Ic,go_sem,↓reduceIte,Nat.reduceEqDiff,Nat.reduceAdd,reduceCtorEq]) (by simp [sub,Ac,go_sem,↓reduceIte,Nat.reduceEqDiff,Nat.reduceAdd,reduceCtorEq])⟩
  ·(refine RN ?_;try with_reducible exact trivial)
   have hrow:=hpb.row
   have hlow:=hpb.low
   refine ⟨(R,B),⟨⟨by dsimp only;omega,hsb,hrk,hmo,fun e he=>?_,fun e he=>?_⟩,hne⟩,Ref.gc [5,6] rfl ?_ (by simp [sub,Ac,hs,go_sem,↓reduceIte,Nat.reduceEqDiff,Nat.reduceAdd,reduceCtorEq])⟩
   ·have:=hrow e (by dsimp only at he;omega)
    rw [if_neg (Nat.not_lt_zero _)] at this
    dsimp only
    omega
   ·have:=hlow e (by dsimp only at he;omega)
    rw [hs] at this
    exact this
   ·simp only [Dx,go_sem,↓reduceIte,Nat.reduceEqDiff,Nat.reduceAdd,reduceCtorEq]
end
end Go.Proofs.YtfofabbkigonpaaDoor
