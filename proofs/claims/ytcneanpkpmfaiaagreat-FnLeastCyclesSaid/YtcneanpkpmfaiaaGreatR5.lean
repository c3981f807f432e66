/- Texts that belong together. -/
import Derived.Test.YtcneanpkpmfaiaaGreatR4
set_option maxHeartbeats 16000000
set_option linter.unusedSimpArgs false
set_option linter.unusedVariables false
set_option maxRecDepth 100000
namespace Go.Gov
def Dj (bs:List Int):List AV:=bs.map fun b=>.val (.int .u8 b)
theorem uX (xs:List Int):(Dj xs).length=xs.length:=by simp [Dj]
theorem vJ (H:Heap)(d:Nat)(xs:List Int):(Dj xs).map (Al H (d+1))=Dj xs:=by simp [Dj,Al]
theorem pN (xs:List Int)(i:Nat):(Dj xs).getD i (.val (.int .u8 0)) = .val (.int .u8 (xs.getD i 0)):=by
 simp only [Dj,List.getD_eq_getElem?_getD,List.getElem?_map]
 cases xs[i]? <;> rfl
theorem Aa9 (xs:List Int)(i:Nat):Bv ((Dj xs).getD i .any)=true:=by
 simp only [Dj,List.getD_eq_getElem?_getD,List.getElem?_map]
 cases xs[i]? <;> rfl
theorem fO (τ:Nat→Option Nat)(xs:List Int):A7 τ (Dj xs)=Dj xs:=by simp [Bu,Dj,Ao]
attribute [go_sem] uX vJ pN Aa9 fO
def Es (bs:List Int):AV:=.slc 1 bs.length (Dj bs)
def A5 (bs:List Int)(a:Nat)(h:Int):List AV:=[Es bs,.val (.int .i64 (a:Int)),.val (.int .u64 h)]
theorem Ada (τ:Nat→Option Nat)(bs:List Int)(a:Nat)(h:Int):A7 τ (A5 bs a h)=A5 bs a h:=by simp [A5,Es, go_sem]
attribute [go_sem] Ada
theorem wE (x:Int):0≤Co .and .u64 x 16777215∧Co .and .u64 x 16777215≤16777215:=by
 have h:(BitVec.ofInt 64 x &&& BitVec.ofInt 64 16777215).toNat≤16777215:=by
  rw [BitVec.toNat_and]
  exact Nat.le_trans Nat.and_le_right (by decide)
 generalize hy:(BitVec.ofInt 64 x &&& BitVec.ofInt 64 16777215).toNat=y at h
 have:Co .and .u64 x 16777215=((y:Int)%2^64):=by
  show IntKind.u64.wrap _=_
  rw [show IntKind.u64.bits=64 from rfl,hy]
  simp [IntKind.wrap,IntKind.signed,IntKind.bits]
 omega
end Go.Gov
namespace Go.Proofs.YtcneanpkpmfaiaaGreat
section
open Go.Gov Go.Ce
open Classical
structure E6 (bs:List Int):Prop where
 few:bs.length≤1048576
 by8:∀ k,k<bs.length→0≤bs.getD k 0∧bs.getD k 0≤255
theorem C5 (bs : List Int) (hb : E6 bs) (a : Nat) (h : Int) (hs : a ≤ bs.length) (n : Int) :
    Ds Tryz.prog 44 [.ref 0 0,i64 n] [some (A5 bs a h)] (fun o:Nat×Int×Int=>o.1≤bs.length∧0≤o.2.2∧(o.2.2=0∨o.2.2<n)) (fun o=>i64 o.2.2) (fun o=>[some (A5 bs o.1 o.2.1)]):=by
 unfold A5 Es
 have hfw:=hb.few
 refine Hd yY rfl ?_;unfold X6
 refine RN ?_
 refine ⟨fun hn=>?_,fun hn=>?_⟩
 ·(refine RN ?_;try with_reducible exact trivial)
  exact ⟨(a,h,0),⟨hs,Int.le_refl _,.inl rfl⟩,Ref.gc2 [0]⟩
 refine An ?_
 simp only [go_sem,↓reduceIte,Nat.reduceEqDiff,Nat.reduceAdd,reduceCtorEq]
 refine An ?_
 have hm:=wE (Da BinOp.shr IntKind.u64 (IntKind.u64.wrap (IntKind.u64.wrap (h*6364136223846793005)+1442695040888963407)) 33)
 simp only [go_sem,↓reduceIte,Nat.reduceEqDiff,Nat.reduceAdd,reduceCtorEq]
 generalize Co BinOp.and IntKind.u64 (Da BinOp.shr IntKind.u64 (IntKind.u64.wrap (IntKind.u64.wrap (h*6364136223846793005)+1442695040888963407)) 33) 16777215=x at *
 generalize IntKind.u64.wrap (IntKind.u64.wrap (h*6364136223846793005)+1442695040888963407)=h' at *
 have fin:∀ y:Int,0≤y→0≤y.tmod n∧(y.tmod n=0∨y.tmod n<n):=fun y hy=>⟨Int.tmod_nonneg _ hy,.inr (Int.tmod_lt_of_pos _ (by omega))⟩
 have hby:=hb.by8 a
 refine RN ?_
 refine ⟨fun hc=>?_,fun hc=>?_⟩
 ·have hy:=hby (by omega)
  refine RN ?_
  refine ⟨(a+1,h', (x+bs.getD a 0).tmod n),⟨by dsimp only;omega,fin _ (by omega)⟩,?_⟩
  exact Ref.gc2 [0]
 ·(refine RN ?_;try with_reducible exact trivial)
  refine ⟨(a,h', x.tmod n),⟨by dsimp only;omega,fin _ (by omega)⟩,?_⟩
  exact Ref.gc2 [0]
def D2 (n:Nat)(p:List Int):Prop:=p.length=n∧∀ k,k<n→0≤p.getD k 0∧p.getD k 0<n
theorem rF (n:Nat)(hn:n≤1048576):Pure Tryz.prog 131 [i64 (n:Int)] (.sl 0 1 0 n) [some (Aa ((List.range n).map fun (i:Nat)=>(i:Int)))]:=by
 refine Aw xP rfl ?_;unfold W7
 refine RN ?_
 refine Aj (α:=Nat) (S:=fun i=>([(0,i64 (n:Int)),(3,.sl 0 1 0 i),(4,i64 (i:Int))],[some (Aa ((List.range i).map fun (i:Nat)=>(i:Int)))])) (C:=fun i=>i≤n) (μ:=fun i=>n - i) 0 (Nat.zero_le _) (Ref.to1) ?_
 intro i hi
 refine RN ?_
 refine ⟨fun hc=>?_,fun hc=>?_⟩
 ·have hst:(List.range (i+1)).map (fun (i:Nat)=>(i:Int))=(List.range i).map (fun (i:Nat)=>(i:Int))++[(i:Int)]:=by simp [List.range_succ]
  have hln:((List.range i).map (fun (i:Nat)=>(i:Int))).length=i:=by simp
  refine RN ?_
  refine ⟨i+1,by omega,by omega,?_⟩
  rw [hst]
  generalize (List.range i).map (fun (i:Nat)=>(i:Int))=X at *
  have tk1:(Aa X).take i=Aa X:=List.take_of_length_le (by rw [Ca];omega)
  refine Ref.gc [2] rfl ?_ (by simp [sub,Ab,go_sem,↓reduceIte,Nat.reduceEqDiff,Nat.reduceAdd,reduceCtorEq])
  simp only [go_sem,↓reduceIte,Nat.reduceEqDiff,Nat.reduceAdd,reduceCtorEq]
  rw [tk1,Dq]
  simp [Aa]
 ·obtain rfl:i=n:=by omega
  refine RN ?_
  exact Ref.gc2 [0]
theorem Ac6 (n:Nat):D2 n ((List.range n).map fun (i:Nat)=>(i:Int)):=⟨by simp,fun k hk=>by simp [hk]⟩
theorem Is {n:Nat}{p:List Int}(h:D2 n p){k:Nat}{x:Int}(hx:0≤x∧x<n):D2 n (p.set k x):=⟨by simp [h.1],fun j hj=>by
 have hl:=h.1
 have:=h.2 j hj
 by_cases e:k=j
 ·subst e
  simpa [hl,hj] using hx
 ·have:(p.set k x).getD j 0=p.getD j 0:=by simp [List.getElem?_set,e]
  rw [this]
  assumption⟩
theorem aO (bs : List Int) (hb : E6 bs) (a : Nat) (h : Int) (hs : a ≤ bs.length) (n : Nat) (hn : n ≤ 1048576) :
    Ds Tryz.prog 109 [.ref 0 0,i64 (n:Int)] [some (A5 bs a h)] (fun o:Nat×Int×List Int=>o.1≤bs.length∧D2 n o.2.2) (fun _=>.sl 1 1 0 n) (fun o=>[some (A5 bs o.1 o.2.1),some (Aa o.2.2)]):=by
 have hu:=rF n hn
 have hr:=Ac6 n
 generalize (List.range n).map (fun (i:Nat)=>(i:Int))=p0 at *
 refine Hd xD rfl ?_;unfold Wv
 refine RN ?_
 refine Ak (hu) ?_
 refine RN ?_
 refine Aj (α:=Nat×Int×List Int×Int) (S:=fun o=>([(0,.ref 0 0),(1,i64 (n:Int)),(5,.sl 1 1 0 n),(6,i64 o.2.2.2)],[some (A5 bs o.1 o.2.1),some (Aa o.2.2.1)])) (C:=fun o=>o.1≤bs.length∧D2 n o.2.2.1 ∧ -1≤o.2.2.2∧o.2.2.2<n) (μ:=fun o=>(o.2.2.2+1).toNat) (a,h,p0,(n:Int) - 1) ⟨hs,hr,by dsimp only;omega,by dsimp only;omega⟩ (Ref.to1) ?_
 rintro ⟨a,h,p,i⟩ ⟨h1,h2,h3,h4⟩
 dsimp only at h1 h2 h3 h4 ⊢
 have hpl:=h2.1
 refine RN ?_
 refine ⟨fun hc=>?_,fun hc=>?_⟩
 ·obtain ⟨i,rfl⟩:=Int.eq_ofNat_of_zero_le (show 0≤i by omega)
  have hp1:=h2.2 i (by omega)
  refine RN ?_
  refine Bq (C5 bs hb a h h1 ((i:Int)+1)) [0] (by first | rfl | simp) (by simp only [go_sem,↓reduceIte,Nat.reduceEqDiff,Nat.reduceAdd,reduceCtorEq]<;>rfl) (by simp only [go_sem,↓reduceIte,Nat.reduceEqDiff,Nat.reduceAdd,reduceCtorEq]<;>rfl) fun o ho=>?_
  obtain ⟨a', h', k⟩:=o
  obtain ⟨g1,g2,g3⟩:=ho
  dsimp only at g1 g2 g3
  obtain ⟨k,rfl⟩:=Int.eq_ofNat_of_zero_le g2
  have hk:k<n:=by omega
  have hp2:=h2.2 k hk
  refine RN ?_
  exact ⟨(a', h', (p.set i (p.getD k 0)).set k (p.getD i 0),(i:Int) - 1),⟨g1,Is (Is h2 hp2) hp1,by dsimp only;omega,by dsimp only;omega⟩,by dsimp only;omega,Ref.to1⟩
 ·(refine RN ?_;try with_reducible exact trivial)
  exact ⟨(a,h,p),⟨h1,h2⟩,Ref.gc2 [0,1]⟩
end
section
open Go.Gov Go.Ce
open Classical
def Eb (n:Nat)(L:List (List Int)):Prop:=∀ k,k<L.length→D2 n (L.getD k [])
theorem qZ (bs:List Int)(hb:E6 bs):Cf Tryz.prog 20 [Es bs] (fun _:Int=>True) (fun _=>.ref 0 0) (fun h=>[some (A5 bs 0 h)]):=by
 have hfw:=hb.few
 unfold A5 Es
 refine Fh yH rfl ?_;unfold Xp
 refine RN ?_
 generalize IntKind.u64.wrap (8191+IntKind.u64.wrap (bs.length:Int))=h0
 refine Aj (α:=Nat×Int) (S:=fun o=>([(0,.slc 1 bs.length (Dj bs)),(3,.ref 0 0),(4,i64 (o.1:Int))],[some [.slc 1 bs.length (Dj bs),.val (.int .i64 0),.val (.int .u64 o.2)]])) (C:=fun o=>o.1≤bs.length) (μ:=fun o=>bs.length - o.1) (0,h0) (Nat.zero_le _) (Ref.to1) ?_
 rintro ⟨i,h⟩ hi
 dsimp only at hi ⊢
 refine RN ?_
 refine ⟨fun hc=>?_,fun hc=>?_⟩
 ·(refine RN ?_;try with_reducible exact trivial)
  exact ⟨(i+1,_),by dsimp only;omega,by dsimp only;omega,Ref.to1⟩
 ·(refine RN ?_;try with_reducible exact trivial)
  exact ⟨h,Ref.gc2 [0]⟩
theorem Ref.row {n0 : Nat} {F : Gov.Frame} {H : Gov.Heap} (o o2 : Nat) {L : List (List Int)} {x : List Int} {n k : Nat} (ho : H[o]? = some (some ((L.map Ad).take k ++ [.sl o2 1 0 n]))) (hk : L.length = k) (h2 : H[o2]? = some (some (Aa x))) (hn : x.length = n) (hne : o ≠ o2) :
    Ref n0 F H F ((H.set o (some ((L++[x]).map Ad))).set o2 none):=by
 subst hk hn
 have e:(L.map Ad).take L.length=L.map Ad:=List.take_of_length_le (by simp)
 rw [e] at ho
 have r:=Ref.close (n0:=n0) (F:=F) o L.length o2 (k:=1) (n:=x.length) ho (by rw [List.getElem?_append_right (by simp)];simp) h2 hne (by simp [Ca])
 have hs:(L.map Ad++[AV.sl o2 1 0 x.length]).set L.length (.osl 1 x.length (Aa x))=(L++[x]).map Ad:=by
  rw [List.set_append_right _ _ (by simp)];simp [Ad]
 rw [hs] at r
 exact r
theorem M6 {m:Nat}{c:Int}{x:List Int}(h:∀ j,j<m→0≤x.getD j 0∧x.getD j 0<c)(hl:x.length=m){v:Int}(hv:0≤v∧v<c):∀ j,j<m+1→0≤(x++[v]).getD j 0∧(x++[v]).getD j 0<c:=fun j hj=>by
 by_cases e:j<m
 ·have:(x++[v]).getD j 0=x.getD j 0:=by simp [List.getElem?_append_left (show j<x.length by omega)]
  rw [this];exact h j e
 ·have:j=x.length:=by omega
  subst this
  simpa using hv
theorem Vi {n:Nat}{L:List (List Int)}{x:List Int}(h:Eb n L)(hx:D2 n x):Eb n (L++[x]):=fun k hk=>by
 by_cases e:k<L.length
 ·have:(L++[x]).getD k []=L.getD k []:=by simp [List.getElem?_append_left e]
  rw [this];exact h k e
 ·have:k=L.length:=by simp at hk;omega
  subst this
  simpa using hx
theorem Rn (n:Nat):D2 n (List.replicate n 0):=⟨by simp,fun k hk=>by simp [hk];omega⟩
theorem Lt (p:Nat)(hp:1≤p)(hp2:p≤1048576):Cf Tryz.prog 128 [i64 (p:Int)] (fun L:List (List Int)=>L.length=2∧Eb (2*p) L) (fun _=>.agg [.sl 0 1 0 2]) (fun L=>[some (L.map Ad)]):=by
 refine Fh xM rfl ?_;unfold W4
 refine RN ?_
 have hm:(2*(p:Int)).toNat=2*p:=by omega
 refine Jz [(2,.ref 0 0),(3,i64 (2*(p:Int))),(4,.sl 1 1 0 (2*p)),(5,.sl 2 1 0 (2*p))] [some [Ae],some (Aa (List.replicate (2*p) 0)),some (Aa (List.replicate (2*p) 0))] ?_ ?_
 ·(repeat' first | simp only [go_sem,↓reduceIte,Nat.reduceEqDiff,Nat.reduceAdd,reduceCtorEq] | with_reducible refine Ar ?_ | with_reducible refine Sj ?_ | with_reducible refine Aq ?_ | with_reducible exact As | with_reducible refine Ap ?_ ?_ | (with_reducible refine And.intro ?_ ?_;focus first | assumption | omega | grind))
  all_goals rw [hm]
  ·exact Ref.to1
  ·exact Ref.gc2 [0,2,1]
 refine RN ?_
 refine Aj (α:=Nat×List Int×List Int) (S:=fun o=>([(2,.ref 0 0),(3,i64 (2*(p:Int))),(4,.sl 1 1 0 (2*p)),(5,.sl 2 1 0 (2*p)),(6,i64 (o.1:Int))],[some [Ae],some (Aa o.2.1),some (Aa o.2.2)])) (C:=fun o=>o.1≤2*p∧D2 (2*p) o.2.1∧D2 (2*p) o.2.2) (μ:=fun o=>2*p - o.1) (0,List.replicate (2*p) 0,List.replicate (2*p) 0) ⟨Nat.zero_le _,Rn _,Rn _⟩ (Ref.to1) ?_
 rintro ⟨i,x,y⟩ ⟨h1,h2,h3⟩
 dsimp only at h1 h2 h3 ⊢
 have hx:=h2.1
 have hy:=h3.1
 refine RN ?_
 refine ⟨fun hc=>?_,fun hc=>?_⟩
 ·(refine RN ?_;try with_reducible exact trivial)
  have e1:((i:Int)+2*p - 1).tmod (2*p)=if i=0 then 2*(p:Int) - 1 else (i:Int) - 1:=by
   rw [Int.tmod_eq_emod_of_nonneg (by omega)]
   split
   ·subst i;rw [Int.emod_eq_of_lt (by omega) (by omega)];omega
   ·rw [show (i:Int)+2*p - 1=(i - 1)+(2*p)*1 by omega,Int.add_mul_emod_self_left,Int.emod_eq_of_lt (by omega) (by omega)]
  have e2:0≤((i:Int)+1).tmod (2*p)∧((i:Int)+1).tmod (2*p)<2*p:=⟨Int.tmod_nonneg _ (by omega),Int.tmod_lt_of_pos _ (by omega)⟩
  have e3:(i:Int).tmod 2=(i:Int)%2:=Int.tmod_eq_emod_of_nonneg (by omega)
  refine ⟨fun hc2=>?_,fun hc2=>?_⟩
  ·(refine RN ?_;try with_reducible exact trivial)
   refine ⟨(i+1,_,_),⟨by dsimp only;omega,Is h2 (k:=i) (x:=(i:Int)+1) (by omega),Is h3 (k:=i) (x:=((i:Int)+2*p - 1).tmod (2*p)) (by rw [e1];split<;>omega)⟩,by dsimp only;omega,Ref.to1⟩
  ·(refine RN ?_;try with_reducible exact trivial)
   refine ⟨(i+1,_,_),⟨by dsimp only;omega,Is h2 (k:=i) (x:=(i:Int) - 1) (by omega),Is h3 (k:=i) (x:=((i:Int)+1).tmod (2*p)) (by omega)⟩,by dsimp only;omega,Ref.to1⟩
 ·(refine RN ?_;try with_reducible exact trivial)
  refine ⟨[x,y],⟨rfl,fun k hk=>?_⟩,?_⟩
  ·match k,hk with
   | 0,_=>exact h2
   | 1,_=>exact h3
  refine (Ref.close 3 0 1 (k:=1) (n:=2*p) (cs2:=Aa x) rfl rfl rfl (by decide) (by simp [Ca,hx])).trans ((Ref.close 3 1 2 (k:=1) (n:=2*p) (cs2:=Aa y) rfl rfl rfl (by decide) (by simp [Ca,hy])).trans ?_)
  exact Ref.gc [3] rfl (by simp only [go_sem,↓reduceIte,Nat.reduceEqDiff,Nat.reduceAdd,reduceCtorEq];simp [Ad,hx,hy,go_sem,↓reduceIte,Nat.reduceEqDiff,Nat.reduceAdd,reduceCtorEq]) (by simp [sub,Ab,go_sem,↓reduceIte,Nat.reduceEqDiff,Nat.reduceAdd,reduceCtorEq])
theorem rK (n:Nat)(hn:n≤1048576)(M:List (List Int))(hM:Eb n M)(hl:M.length≤1048576)(p:List Int)(hp:D2 n p):Cf Tryz.prog 108 [B4 M,Ac p] (fun L:List (List Int)=>L.length=M.length∧Eb n L) (fun L=>.agg [.sl 0 1 0 L.length]) (fun L=>[some (L.map Ad)]):=by
 have hpl:=hp.1
 refine Fh xC rfl ?_;unfold Wu
 refine RN ?_
 refine Aj (α:=Nat×List (List Int)) (S:=fun o=>([(1,Ac p),(2,.ref 0 0),(4,.ref 1 0),(5,.ref 2 0),(6,i64 (o.1:Int))],[some [Af M],some [Ae],some [.sl 3 1 0 o.1],some (o.2.map Ad)])) (C:=fun o=>o.1≤M.length∧o.2.length=o.1∧Eb n o.2) (μ:=fun o=>M.length - o.1) (0,[]) ⟨Nat.zero_le _,rfl,fun k hk=>absurd hk (by simp)⟩ ((Ref.nilC 2 0 1 rfl rfl).trans (Ref.to1)) ?_
 rintro ⟨k,L⟩ ⟨h1,h2,h3⟩
 dsimp only at h1 h2 h3 ⊢
 refine RN ?_
 refine ⟨fun hc=>?_,fun hc=>?_⟩
 ·have hrow:=hM k (by omega)
  have hrl:=hrow.1
  generalize hA:M.getD k []=A at *
  refine RN ?_
  rw [hpl]
  refine Aj (α:=Nat×List Int) (S:=fun o=>([(1,Ac p),(2,.ref 0 0),(4,.ref 1 0),(5,.ref 2 0),(6,i64 (k:Int)),(7,.sl 4 1 0 n),(8,i64 (o.1:Int))],[some [Af M],some [Ae],some [.sl 3 1 0 k],some (L.map Ad),some (Aa o.2)])) (C:=fun o=>o.1≤n∧D2 n o.2) (μ:=fun o=>n - o.1) (0,List.replicate n 0) ⟨Nat.zero_le _,Rn n⟩ (Ref.to1) ?_
  rintro ⟨f,x⟩ ⟨g1,g2⟩
  dsimp only at g1 g2 ⊢
  have hx:=g2.1
  refine RN ?_
  refine ⟨fun hc2=>?_,fun hc2=>?_⟩
  ·have q1:=hp.2 f (by omega)
   have q2:=hrow.2 f (by omega)
   obtain ⟨y,hy⟩:=Int.eq_ofNat_of_zero_le q2.1
   have q3:=hp.2 y (by omega)
   refine RN ?_
   exact ⟨(f+1,_),⟨by dsimp only;omega,Is g2 (k:=(p.getD f 0).toNat) (x:=p.getD ((M.getD k []).getD f 0).toNat 0) (hp.2 _ (by rw [hA];omega))⟩,by dsimp only;omega,Ref.to1⟩
  ·(refine RN ?_;try with_reducible exact trivial)
   refine ⟨(k+1,L++[x]),⟨by dsimp only;omega,by simp [h2],Vi h3 g2⟩,by dsimp only;omega,?_⟩
   refine (Ref.row 6 4 (L:=L) rfl h2 rfl hx (by decide)).trans ?_
   exact Ref.gc1 [0,1,2,6]
 ·(refine RN ?_;try with_reducible exact trivial)
  exact ⟨L,⟨by omega,h3⟩,Ref.gc [3] rfl (by simp only [go_sem,↓reduceIte,Nat.reduceEqDiff,Nat.reduceAdd,reduceCtorEq]) (by simp [sub,Ab,go_sem,↓reduceIte,Nat.reduceEqDiff,Nat.reduceAdd,reduceCtorEq,h2])⟩
theorem Nw (a b : Nat) (ha : 1 ≤ a) (hb : 1 ≤ b) (hab : a * b ≤ 1048576) (M K : List (List Int)) (hM : Eb a M) (hK : Eb b K) (hl : 1 ≤ M.length ∧ M.length ≤ 1024) (hl2 : 1 ≤ K.length ∧ K.length ≤ 1024) :
    Cf Tryz.prog 129 [B4 M,B4 K] (fun L:List (List Int)=>L.length=M.length+K.length∧Eb (a*b) L) (fun L=>.agg [.sl 0 1 0 L.length]) (fun L=>[some (L.map Ad)]):=by
 have ha2:a≤1048576:=Nat.le_trans (Nat.le_mul_of_pos_right a hb) hab
 have hb2:b≤1048576:=Nat.le_trans (Nat.le_mul_of_pos_left b ha) hab
 have hf1:=Kf M hl.1 (by omega) (by rw [(hM 0 (by omega)).1];exact ha2)
 have hf2:=Kf K hl2.1 (by omega) (by rw [(hK 0 (by omega)).1];exact hb2)
 rw [(hM 0 (by omega)).1] at hf1
 rw [(hK 0 (by omega)).1] at hf2
 refine Fh xN rfl ?_;unfold W5
 refine RN ?_
 refine Ak (hf1) ?_
 refine RN ?_
 refine Ak (hf2) ?_
 refine RN ?_
 refine Aj (α:=Nat×List (List Int)) (S:=fun o=>([(2,.ref 0 0),(3,.ref 1 0),(4,.ref 2 0),(5,i64 (a:Int)),(6,i64 (b:Int)),(7,.ref 3 0),(8,i64 (o.1:Int))],[some [Af M],some [Af K],some [Ae],some [.sl 4 1 0 o.1],some (o.2.map Ad)])) (C:=fun o=>o.1≤M.length+K.length∧o.2.length=o.1∧Eb (a*b) o.2) (μ:=fun o=>M.length+K.length - o.1) (0,[]) ⟨Nat.zero_le _,rfl,fun k hk=>absurd hk (by simp)⟩ ((Ref.nilC 3 0 1 rfl rfl).trans (Ref.to1)) ?_
 rintro ⟨i,L⟩ ⟨h1,h2,h3⟩
 dsimp only at h1 h2 h3 ⊢
 refine RN ?_
 refine ⟨fun hc=>?_,fun hc=>?_⟩
 ·(refine RN ?_;try with_reducible exact trivial)
  refine Aj (α:=Nat×List Int) (S:=fun o=>([(2,.ref 0 0),(3,.ref 1 0),(4,.ref 2 0),(5,i64 (a:Int)),(6,i64 (b:Int)),(7,.ref 3 0),(8,i64 (i:Int)),(9,.sl 5 1 0 o.1),(10,i64 (o.1:Int))],[some [Af M],some [Af K],some [Ae],some [.sl 4 1 0 i],some (L.map Ad),some (Aa o.2)])) (C:=fun o=>o.1≤a*b∧o.2.length=o.1∧∀ j,j<o.1→0≤o.2.getD j 0∧o.2.getD j 0<(a*b:Nat)) (μ:=fun o=>a*b - o.1) (0,[]) ⟨Nat.zero_le _,rfl,fun j hj=>absurd hj (by simp)⟩ (Ref.to1) ?_
  rintro ⟨f,x⟩ ⟨g1,g2,g3⟩
  dsimp only at g1 g2 g3 ⊢
  have hab1:(a:Int)*b=(a*b:Nat):=by simp
  refine RN ?_
  refine ⟨fun hc2=>?_,fun hc2=>?_⟩
  ·have hfb:f<a*b:=by rw [hab1] at hc2;omega
   have e1:(f:Int).tdiv b=((f / b:Nat):Int):=by rw [Int.tdiv_eq_ediv_of_nonneg (by omega)];rfl
   have e2:(f:Int).tmod b=((f%b:Nat):Int):=by rw [Int.tmod_eq_emod_of_nonneg (by omega)];rfl
   have q1:f / b<a:=(Nat.div_lt_iff_lt_mul hb).2 hfb
   have q2:f%b<b:=Nat.mod_lt _ hb
   have q3:(f / b)*b≤f:=Nat.div_mul_le_self f b
   generalize f / b=u at *
   generalize f%b=v at *
   refine RN ?_
   refine ⟨fun hc3=>?_,fun hc3=>?_⟩
   ·have hr:=hM i (by omega)
    have hr1:=hr.1
    have hr2:=hr.2 u q1
    obtain ⟨y,hy⟩:=Int.eq_ofNat_of_zero_le hr2.1
    have hyb:(y+1)*b≤a*b:=Nat.mul_le_mul_right b (by omega)
    have hyc:(y:Int)*b=(y*b:Nat):=by simp
    rw [Nat.add_mul,Nat.one_mul] at hyb
    simp only [go_sem,↓reduceIte,Nat.reduceEqDiff,Nat.reduceAdd,reduceCtorEq,e1,e2,Int.toNat_natCast,hy,hyc]
    refine RN ?_
    refine ⟨(f+1,x++[((y*b:Nat):Int)+v]),⟨by dsimp only;omega,by simp [g2],M6 g3 g2 (by omega)⟩,by dsimp only;omega,?_⟩
    have tk1:(Aa x).take f=Aa x:=List.take_of_length_le (by rw [Ca];omega)
    refine Ref.gc [0,1,2,3,4,7] rfl ?_ (by simp [sub,Ab,go_sem,↓reduceIte,Nat.reduceEqDiff,Nat.reduceAdd,reduceCtorEq])
    simp only [go_sem,↓reduceIte,Nat.reduceEqDiff,Nat.reduceAdd,reduceCtorEq]
    rw [tk1,Dq]
    simp [Aa]
   ·have hr:=hK (i - M.length) (by omega)
    have hr1:=hr.1
    have hr2:=hr.2 v q2
    have hub:(u+1)*b≤a*b:=Nat.mul_le_mul_right b (by omega)
    have huc:(u:Int)*b=(u*b:Nat):=by simp
    have hi:((i:Int) - M.length).toNat=i - M.length:=by omega
    rw [Nat.add_mul,Nat.one_mul] at hub
    simp only [go_sem,↓reduceIte,Nat.reduceEqDiff,Nat.reduceAdd,reduceCtorEq,e1,e2,Int.toNat_natCast,huc,hi]
    refine RN ?_
    refine ⟨(f+1,x++[((u*b:Nat):Int)+(K.getD (i - M.length) []).getD v 0]),⟨by dsimp only;omega,by simp [g2],M6 g3 g2 (by omega)⟩,by dsimp only;omega,?_⟩
    have tk1:(Aa x).take f=Aa x:=List.take_of_length_le (by rw [Ca];omega)
    refine Ref.gc [0,1,2,3,4,7] rfl ?_ (by simp [sub,Ab,go_sem,↓reduceIte,Nat.reduceEqDiff,Nat.reduceAdd,reduceCtorEq])
    simp only [go_sem,↓reduceIte,Nat.reduceEqDiff,Nat.reduceAdd,reduceCtorEq]
    rw [tk1,Dq]
    simp [Aa]
  ·have hfb:f=a*b:=by rw [hab1] at hc2;omega
   refine RN ?_
   refine ⟨(i+1,L++[x]),⟨by dsimp only;omega,by simp [h2],Vi h3 ⟨by omega,fun j hj=>g3 j (by omega)⟩⟩,by dsimp only;omega,?_⟩
   refine (Ref.row 7 5 (L:=L) rfl h2 rfl g2 (by decide)).trans ?_
   exact Ref.gc1 [0,1,2,3,7]
 ·(refine RN ?_;try with_reducible exact trivial)
  exact ⟨L,⟨by omega,h3⟩,Ref.gc [4] rfl (by simp only [go_sem,↓reduceIte,Nat.reduceEqDiff,Nat.reduceAdd,reduceCtorEq]) (by simp [sub,Ab,go_sem,↓reduceIte,Nat.reduceEqDiff,Nat.reduceAdd,reduceCtorEq,h2])⟩
end
end Go.Proofs.YtcneanpkpmfaiaaGreat
namespace Go.Gov
variable {P:Program} {N:Nat} {F:Frame} {H:Heap} {M:List Nat} {n0:Nat}
theorem Sq {α:Type}(C:α→Prop)(F1:α→Frame)(H1:α→Heap){t:GT}{y:ACode}{Q:Exit→Frame→Heap→Prop}(hE:LT P false t (fun F' H' => ∃ o,C o∧Ref n0 F' H' (F1 o) (H1 o)) F H)(hy:∀ o,C o→W P M N n0 y Q (F1 o) (H1 o)):V P M N n0 (.alts t) (Ep (W P M N n0 y Q) Q) F H:=
 K6 (Hg (fun F' H' ⟨o,ho,h⟩=>Dr h (hy o ho)) t false F H hE)
theorem vQ (ks:List Nat)(H:Heap)(bs:List Int)(a:Nat)(h:Int):(A5 bs a h).map (Dz ks H)=A5 bs a h:=by simp [A5,Es, Dz,Ao,fO]
theorem vP (ks:List Nat)(H:Heap)(xs:List Int):(Aa xs).map (Dz ks H)=Aa xs:=by simp [Aa,Dz,Ao]
attribute [go_sem] vQ vP
theorem iZ {f k e:Nat}(hf:f<4*e)(he:e≤1048576)(hk:k<4):0≤Co .xor .i64 (f:Int) (k:Int)∧Co .xor .i64 (f:Int) (k:Int)<(4*e:Nat):=by
 have h2:(f ^^^ k) / 4=f / 4:=by
  have h:=Nat.xor_div_two_pow (a:=f) (b:=k) (n:=2)
  rw [show (2:Nat)^2=4 from rfl,Nat.div_eq_of_lt hk,Nat.xor_zero] at h
  exact h
 have h1:(BitVec.ofInt 64 (f:Int) ^^^ BitVec.ofInt 64 (k:Int)).toNat=f ^^^ k:=by
  rw [BitVec.toNat_xor]
  congr 1
  ·simp [BitVec.toNat_ofInt];omega
  ·simp [BitVec.toNat_ofInt];omega
 have h3:Co .xor .i64 (f:Int) (k:Int)=((f ^^^ k:Nat):Int):=by
  show IntKind.i64.wrap _=_
  rw [show IntKind.i64.bits=64 from rfl,h1]
  generalize f ^^^ k=y at *
  show (if (true&&decide ((y:Int)%2^64 ≥ 2^63))=true then (y:Int)%2^64 - 2^64 else (y:Int)%2^64)=(y:Int)
  rw [if_neg (by simp;omega)]
  omega
 rw [h3]
 omega
end Go.Gov
namespace Go.Proofs.YtcneanpkpmfaiaaGreat
open Go.Gov Go.Ce
open Classical
theorem rD (n:Nat)(L:List (List Int))(pt:Nat)(hL:∀ p∈L,D2 n p)(hL1:1≤L.length)(hp:pt<n)(hn:n≤1048576)(hl:L.length≤1048576):Cf Tryz.prog 138 [Af L,i64 pt] (fun V:List Nat=>V.Nodup∧pt∈V∧∀ j,j∈V→j<n) (fun V=>.sl 0 1 0 V.length) (fun V=>[some (Aa (nz V))]):=
 CallsX.mono (Ud n L pt hL hp hn hl) (by
  rintro av H' ⟨V,h,rfl,rfl⟩
  exact ⟨V,⟨h.1,(h.2 pt).2 .refl,fun j hj=>((h.2 j).1 hj).ltR hL hp⟩,rfl,rfl⟩)
theorem lL {m:Nat}{c:Int}{x:List Int}(h:∀ j,j<m→0≤x.getD j 0∧x.getD j 0<c)(hl:x.length=m){k:Nat}{v:Int}(hv:0≤v∧v<c):∀ j,j<m→0≤(x.set k v).getD j 0∧(x.set k v).getD j 0<c:=fun j hj=>by
 by_cases e:k=j
 ·subst e
  have:(x.set k v).getD k 0=v:=by simp [hl,hj]
  rw [this];exact hv
 ·have:(x.set k v).getD j 0=x.getD j 0:=by simp [List.getElem?_set,e]
  rw [this];exact h j hj
theorem rB (bs : List Int) (hb : E6 bs) (a : Nat) (h : Int) (hs : a ≤ bs.length) (n : Nat) (hn : n ≤ 1048576) :
    Ds Tryz.prog 144 [.ref 0 0,i64 (n:Int)] [some (A5 bs a h)] (fun o:Nat×Int×List Int=>o.1≤bs.length∧D2 n o.2.2) (fun _=>.sl 1 1 0 n) (fun o=>[some (A5 bs o.1 o.2.1),some (Aa o.2.2)]):=by
 have hd:=aO bs hb a h hs n hn
 refine Hd yA rfl ?_;unfold Xi
 refine RN ?_
 refine Sq (fun o:Nat×Int×List Int=>o.1≤bs.length∧D2 n o.2.2) (fun o=>[(0,.ref 0 0),(1,i64 (n:Int)),(5,.sl 1 1 0 n),(6,.sl 2 1 0 n)]) (fun o=>[some (A5 bs o.1 o.2.1),some (Aa o.2.2),some (Aa (List.replicate n 0))]) ?_ ?_
 ·repeat' first
    | simp only [go_sem,↓reduceIte,Nat.reduceEqDiff,Nat.reduceAdd,reduceCtorEq]
    | with_reducible refine Ar ?_
    | with_reducible refine Aq ?_
    | with_reducible exact As
    | with_reducible refine Ap ?_ ?_
    | (with_reducible refine And.intro ?_ ?_;focus first | assumption | omega | grind)
    | refine Bq (hd) [0] (by first | rfl | simp) (by simp only [go_sem,↓reduceIte,Nat.reduceEqDiff,Nat.reduceAdd,reduceCtorEq]<;>rfl) (by simp only [go_sem,↓reduceIte,Nat.reduceEqDiff,Nat.reduceAdd,reduceCtorEq]<;>rfl) fun o ho=>?_
  all_goals refine ⟨o,ho,?_⟩
  ·exact Ref.to1
  ·exact Ref.gc2 [0,2,1]
 rintro ⟨a,h,p⟩ ⟨h1,h2⟩
 dsimp only at h1 h2 ⊢
 have hpl:=h2.1
 refine RN ?_
 refine Aj (α:=Nat×List Int) (S:=fun o=>([(0,.ref 0 0),(1,i64 (n:Int)),(5,.sl 1 1 0 n),(6,.sl 2 1 0 n),(7,i64 (o.1:Int))],[some (A5 bs a h),some (Aa p),some (Aa o.2)])) (C:=fun o=>o.1≤n+1∧D2 n o.2) (μ:=fun o=>n+1 - o.1) (0,List.replicate n 0) ⟨Nat.zero_le _,Rn n⟩ (Ref.to1) ?_
 rintro ⟨i,x⟩ ⟨g1,g2⟩
 dsimp only at g1 g2 ⊢
 have hx:=g2.1
 refine RN ?_
 refine ⟨fun hc=>?_,fun hc=>?_⟩
 ·have q1:=h2.2 i (by omega)
  have q2:=h2.2 (i+1) (by omega)
  have e1:((i:Int)+1).toNat=i+1:=by omega
  refine RN ?_
  exact ⟨(i+2,_),⟨by dsimp only;omega,Is (Is g2 (k:=(p.getD i 0).toNat) q2) (k:=(p.getD (i+1) 0).toNat) q1⟩,by dsimp only;omega,Ref.to1⟩
 ·(refine RN ?_;try with_reducible exact trivial)
  exact ⟨(a,h,x),⟨h1,g2⟩,Ref.gc1 [0,2]⟩
theorem rI (bs : List Int) (hb : E6 bs) (a : Nat) (h : Int) (hs : a ≤ bs.length) (e : Nat) (he1 : 1 ≤ e) (he : e ≤ 100000) :
    Ds Tryz.prog 130 [.ref 0 0,i64 (e:Int)] [some (A5 bs a h)] (fun o:Nat×Int×Nat×List (List Int)=>o.1≤bs.length∧1≤o.2.2.1∧o.2.2.1≤4*e∧o.2.2.2.length=3∧Eb o.2.2.1 o.2.2.2) (fun _=>.agg [.sl 1 1 0 3]) (fun o=>[some (A5 bs o.1 o.2.1),some (o.2.2.2.map Ad)]):=by
 have hd:=rB bs hb a h hs (4*e) (by omega)
 refine Hd xO rfl ?_;unfold W6
 refine RN ?_
 refine Bq (hd) [0] (by first | rfl | simp) (by simp only [go_sem,↓reduceIte,Nat.reduceEqDiff,Nat.reduceAdd,reduceCtorEq]<;>rfl) (by simp only [go_sem,↓reduceIte,Nat.reduceEqDiff,Nat.reduceAdd,reduceCtorEq]<;>rfl) fun o ho=>?_
 obtain ⟨a', h', w⟩:=o
 obtain ⟨h1,h2⟩:=ho
 dsimp only at h1 h2
 have hwl:=h2.1
 refine RN ?_
 refine Aj (α:=Nat×List Int×List Int) (S:=fun o=>([(0,.ref 0 0),(4,.ref 1 0),(5,i64 (4*(e:Int))),(6,.sl 2 1 0 o.1),(7,.sl 3 1 0 o.1),(8,.sl 4 1 0 (4*e)),(9,i64 (o.1:Int))],[some (A5 bs a' h'),some [Ae],some (Aa o.2.1),some (Aa o.2.2),some (Aa w)])) (C:=fun o=>o.1≤4*e∧o.2.1.length=o.1∧o.2.2.length=o.1∧(∀ j,j<o.1→0≤o.2.1.getD j 0∧o.2.1.getD j 0<(4*e:Nat))∧(∀ j,j<o.1→0≤o.2.2.getD j 0∧o.2.2.getD j 0<(4*e:Nat))) (μ:=fun o=>4*e - o.1) (0,[],[]) ⟨Nat.zero_le _,rfl,rfl,fun j hj=>absurd hj (by simp),fun j hj=>absurd hj (by simp)⟩ (Ref.to1) ?_
 rintro ⟨f,z,t⟩ ⟨g1,g2,g3,g4,g5⟩
 dsimp only at g1 g2 g3 g4 g5 ⊢
 refine RN ?_
 refine ⟨fun hc=>?_,fun hc=>?_⟩
 ·have x1:=iZ (f:=f) (k:=1) (e:=e) (by omega) (by omega) (by decide)
  have x2:=iZ (f:=f) (k:=2) (e:=e) (by omega) (by omega) (by decide)
  simp only [Int.cast_ofNat_Int] at x1 x2
  refine RN ?_
  refine ⟨(f+1,z++[_],t++[_]),⟨by dsimp only;omega,by simp [g2],by simp [g3],M6 g4 g2 x1,M6 g5 g3 x2⟩,by dsimp only;omega,?_⟩
  have tk1:(Aa z).take f=Aa z:=List.take_of_length_le (by rw [Ca];omega)
  have tk2:(Aa t).take f=Aa t:=List.take_of_length_le (by rw [Ca];omega)
  refine Ref.gc [0,1,6,8,4] rfl ?_ (by simp [sub,Ab,go_sem,↓reduceIte,Nat.reduceEqDiff,Nat.reduceAdd,reduceCtorEq])
  simp only [go_sem,↓reduceIte,Nat.reduceEqDiff,Nat.reduceAdd,reduceCtorEq]
  rw [tk1,tk2,Dq,Dq]
  simp [Aa]
 ·obtain rfl:f=4*e:=by omega
  have rz:D2 (4*e) z:=⟨g2,g4⟩
  have rt:D2 (4*e) t:=⟨g3,g5⟩
  have tk1:(Aa z).take (4*e)=Aa z:=List.take_of_length_le (by rw [Ca];omega)
  have tk2:(Aa t).take (4*e)=Aa t:=List.take_of_length_le (by rw [Ca];omega)
  have tk3:(Aa w).take (4*e)=Aa w:=List.take_of_length_le (by rw [Ca];omega)
  have hM:Af [z,w,t] = .slc 1 3 [.slc 1 (4*e) (Aa z),.slc 1 (4*e) (Aa w),.slc 1 (4*e) (Aa t)]:=by simp [Af,Ac,Aa,g2,g3,hwl]
  have hRs:∀ k,k<3→D2 (4*e) ([z,w,t].getD k []):=fun k hk=>by
   match k,hk with
   | 0,_=>exact rz
   | 1,_=>exact h2
   | 2,_=>exact rt
  have hor:=rD (4*e) [z,w,t] 0 (by intro p hp;simp at hp;rcases hp with rfl | rfl | rfl<;>assumption) (by simp) (by omega) (by omega) (by simp)
  have hMl:[z,w,t].length=3:=rfl
  generalize [z,w,t]=Mv at hM hRs hor hMl
  have hc4:(4*(e:Int)).toNat=4*e:=by omega
  refine RN ?_
  refine B0 hor (by simp only [go_sem,↓reduceIte,Nat.reduceEqDiff,Nat.reduceAdd,reduceCtorEq,tk1,tk2,tk3,hM]<;>rfl) (by simp only [go_sem,↓reduceIte,Nat.reduceEqDiff,Nat.reduceAdd,reduceCtorEq]<;>rfl) fun V hV=>?_
  obtain ⟨v1,v2,v3⟩:=hV
  have hVn:=Ip v1 v3
  have hV1:1≤V.length:=List.length_pos_of_mem v2
  have hzl:=Lz V
  have hat:∀ i,i<V.length→(nz V).getD i 0=(V.getD i 0:Nat)∧V.getD i 0<4*e:=fun i hi=>by
   refine ⟨by simp [nz,hi],?_⟩
   have:V.getD i 0∈V:=by simp [hi]
   exact v3 _ this
  generalize nz V=O at *
  generalize V.length=n at *
  simp only [go_sem,↓reduceIte,Nat.reduceEqDiff,Nat.reduceAdd,reduceCtorEq]
  refine Dr (Ref.sel [0,1,6] (F' := [(0,.ref 0 0),(4,.ref 1 0),(5,i64 (4*(e:Int))),(10,Af Mv),(11,.sl 2 1 0 n)]) (H' := [some (A5 bs a' h'),some [Ae],some (Aa O)]) rfl ?_ ?_) ?_
  ·simp only [go_sem,↓reduceIte,Nat.reduceEqDiff,Nat.reduceAdd,reduceCtorEq]
  ·simp only [sub,List.all_cons,List.all_nil,go_sem,↓reduceIte,Nat.reduceEqDiff,Nat.reduceAdd,reduceCtorEq]
   rw [tk1,tk2,tk3,G2,G2,G2,← hM]
  refine RN ?_
  rw [hc4]
  refine Aj (α:=Nat×List Int) (S:=fun o=>([(0,.ref 0 0),(4,.ref 1 0),(10,Af Mv),(11,.sl 2 1 0 n),(12,.sl 3 1 0 (4*e)),(13,i64 (o.1:Int))],[some (A5 bs a' h'),some [Ae],some (Aa O),some (Aa o.2)])) (C:=fun o=>o.1≤n∧o.2.length=4*e∧∀ j,j<4*e→0≤o.2.getD j 0∧o.2.getD j 0<n) (μ:=fun o=>n - o.1) (0,List.replicate (4*e) 0) ⟨Nat.zero_le _,by simp,fun j hj=>by simp [hj];omega⟩ (Ref.to1) ?_
  rintro ⟨i,x⟩ ⟨d1,d2,d3⟩
  dsimp only at d1 d2 d3 ⊢
  refine RN ?_
  refine ⟨fun hc5=>?_,fun hc5=>?_⟩
  ·obtain ⟨a1,a2⟩:=hat i (by omega)
   have hsx:=lL (k:=(O.getD i 0).toNat) (v:=(i:Int)) d3 d2 (by omega)
   refine RN ?_
   exact ⟨(i+1,_),⟨by dsimp only;omega,by simp [d2],hsx⟩,by dsimp only;omega,Ref.to1⟩
  obtain rfl:i=n:=by omega
  refine RN ?_
  refine Aj (α:=Nat×List (List Int)) (S:=fun o=>([(4,.ref 1 0),(10,Af Mv),(11,.sl 2 1 0 i),(12,.sl 3 1 0 (4*e)),(14,.ref 4 0),(15,i64 (o.1:Int))],[some (A5 bs a' h'),some [Ae],some (Aa O),some (Aa x),some [.sl 5 1 0 o.1],some (o.2.map Ad)])) (C:=fun o=>o.1≤3∧o.2.length=o.1∧Eb i o.2) (μ:=fun o=>3 - o.1) (0,[]) ⟨Nat.zero_le _,rfl,fun k hk=>absurd hk (by simp)⟩ ((Ref.nilC 4 0 1 rfl rfl).trans (Ref.to1)) ?_
  rintro ⟨k,L⟩ ⟨m1,m2,m3⟩
  dsimp only at m1 m2 m3 ⊢
  refine RN ?_
  refine ⟨fun hc6=>?_,fun hc6=>?_⟩
  ·have hrow:=hRs k (by omega)
   have hrl:=hrow.1
   refine RN ?_
   refine Aj (α:=Nat×List Int) (S:=fun o=>([(4,.ref 1 0),(10,Af Mv),(11,.sl 2 1 0 i),(12,.sl 3 1 0 (4*e)),(14,.ref 4 0),(15,i64 (k:Int)),(16,.sl 6 1 0 o.1),(17,i64 (o.1:Int))],[some (A5 bs a' h'),some [Ae],some (Aa O),some (Aa x),some [.sl 5 1 0 k],some (L.map Ad),some (Aa o.2)])) (C:=fun o=>o.1≤i∧o.2.length=o.1∧∀ j,j<o.1→0≤o.2.getD j 0∧o.2.getD j 0<i) (μ:=fun o=>i - o.1) (0,[]) ⟨Nat.zero_le _,rfl,fun j hj=>absurd hj (by simp)⟩ (Ref.to1) ?_
   rintro ⟨f,y⟩ ⟨r1,r2,r3⟩
   dsimp only at r1 r2 r3 ⊢
   refine RN ?_
   refine ⟨fun hc7=>?_,fun hc7=>?_⟩
   ·obtain ⟨a1,a2⟩:=hat f (by omega)
    have b1:=hrow.2 (O.getD f 0).toNat (by omega)
    have b2:=d3 ((Mv.getD k []).getD (O.getD f 0).toNat 0).toNat (by omega)
    refine RN ?_
    refine ⟨(f+1,y++[x.getD ((Mv.getD k []).getD (O.getD f 0).toNat 0).toNat 0]),⟨by dsimp only;omega,by simp [r2],M6 r3 r2 b2⟩,by dsimp only;omega,?_⟩
    have tk1:(Aa y).take f=Aa y:=List.take_of_length_le (by rw [Ca];omega)
    refine Ref.gc [0,1,2,3,4,5,8] rfl ?_ (by simp [sub,Ab,go_sem,↓reduceIte,Nat.reduceEqDiff,Nat.reduceAdd,reduceCtorEq])
    simp only [go_sem,↓reduceIte,Nat.reduceEqDiff,Nat.reduceAdd,reduceCtorEq]
    rw [tk1,Dq]
    simp [Aa]
   obtain rfl:f=i:=by omega
   refine RN ?_
   refine ⟨(k+1,L++[y]),⟨by dsimp only;omega,by simp [m2],Vi m3 ⟨r2,r3⟩⟩,by dsimp only;omega,?_⟩
   refine (Ref.row 8 6 (L:=L) rfl m2 rfl r2 (by decide)).trans ?_
   exact Ref.gc1 [0,1,2,3,4,8]
  obtain rfl:k=3:=by omega
  refine RN ?_
  exact ⟨(a', h', i,L),⟨h1,hV1,by dsimp only;omega,m2,m3⟩,Ref.gc1 [0,5]⟩
end Go.Proofs.YtcneanpkpmfaiaaGreat
namespace Go.Gov
variable {P:Program} {N:Nat} {F:Frame} {H:Heap} {M:List Nat} {n0:Nat}
theorem V9 {x z:ACode}{Q:Exit→Frame→Heap→Prop}{α:Type}(C:α→Prop)(F1:α→Frame)(H1:α→Heap)(hx:W P M N n0 x (Ep (fun F' H' => ∃ o,C o∧Ref n0 F' H' (F1 o) (H1 o)) Q) F H)(hn:∀ o,C o→W P M N n0 z Q (F1 o) (H1 o)):W P M N n0 x (Ep (W P M N n0 z Q) Q) F H:=
 kH hx fun e F' H' h=>by
  cases e with
  | normal=>obtain ⟨o,ho,hr⟩:=h;exact Dr hr (hn o ho)
  | _=>exact h
end Go.Gov
namespace Go.Proofs.YtcneanpkpmfaiaaGreat
section
open Go.Gov Go.Ce
open Classical
theorem Rl:Eb 2 [[1,0]]:=fun k hk=>by
 obtain rfl:k=0:=by simp at hk;omega
 refine ⟨rfl,fun j hj=>?_⟩
 match j,hj with
 | 0,_=>decide
 | 1,_=>decide
theorem rG (bs : List Int) (hb : E6 bs) (a : Nat) (h : Int) (hs : a ≤ bs.length) (most : Nat) (hm1 : 8 ≤ most) (hm2 : most ≤ 1000) :
    Ds Tryz.prog 107 [.ref 0 0,i64 (most:Int)] [some (A5 bs a h)] (fun o:Nat×Int×Nat×List (List Int)=>o.1≤bs.length∧1≤o.2.2.1∧o.2.2.1≤most∧1≤o.2.2.2.length∧o.2.2.2.length≤5∧Eb o.2.2.1 o.2.2.2) (fun o=>.agg [.sl 1 1 0 o.2.2.2.length]) (fun o=>[some (A5 bs o.1 o.2.1),some (o.2.2.2.map Ad)]):=by
 refine Hd xB rfl ?_;unfold Wt
 refine RN ?_
 refine Bq (C5 bs hb a h hs 7) [0] (by first | rfl | simp) (by simp only [go_sem,↓reduceIte,Nat.reduceEqDiff,Nat.reduceAdd,reduceCtorEq]<;>rfl) (by simp only [go_sem,↓reduceIte,Nat.reduceEqDiff,Nat.reduceAdd,reduceCtorEq]<;>rfl) fun o ho=>?_
 obtain ⟨a1,b1,k⟩:=o
 obtain ⟨h1,h2,h3⟩:=ho
 dsimp only at h1 h2 h3
 obtain ⟨k,rfl⟩:=Int.eq_ofNat_of_zero_le h2
 simp only [go_sem,↓reduceIte,Nat.reduceEqDiff,Nat.reduceAdd,reduceCtorEq]
 have eq2:(most:Int).tdiv 2=((most / 2:Nat):Int):=by rw [Int.tdiv_eq_ediv_of_nonneg (by omega)];rfl
 have eq4:(most:Int).tdiv 4=((most / 4:Nat):Int):=by rw [Int.tdiv_eq_ediv_of_nonneg (by omega)];rfl
 have hcl:Ref 1 [(13,AV.val (Value.int IntKind.i64 k)),(6,AV.ref 5 0),(5,AV.ref 4 0),(4,AV.ref 1 0),(0,AV.ref 0 0),(1,i64 most)]
  [some (A5 bs a1 b1),some [Ae],some (Aa [1,0]),some [AV.sl 2 1 0 2],some [AV.sl 3 1 0 1],some [AV.sl 3 1 0 1]]
  [(13,AV.val (Value.int IntKind.i64 k)),(6,AV.ref 4 0),(5,AV.ref 3 0),(4,AV.ref 1 0),(0,AV.ref 0 0),(1,i64 most)]
  [some (A5 bs a1 b1),some [Ae],some ([[1,0]].map Ad),some [AV.sl 2 1 0 1],some [AV.sl 2 1 0 1]]:=by
  refine (Ref.close 3 0 2 (k:=1) (n:=2) (cs2:=Aa [1,0]) rfl rfl rfl (by decide) rfl).trans ?_
  exact Ref.gc2 [0,1,3,4,5]
 refine Dr ((Ref.to1).trans hcl) ?_
 refine V9 (fun o:Nat×Int×Nat×List (List Int)=>o.1≤bs.length∧1≤o.2.2.1∧o.2.2.1≤most∧1≤o.2.2.2.length∧o.2.2.2.length≤5∧Eb o.2.2.1 o.2.2.2) (fun o=>[(0,.ref 0 0),(1,i64 (most:Int)),(4,.ref 1 0),(5,.ref 3 0),(6,.ref 4 0)]) (fun o=>[some (A5 bs o.1 o.2.1),some [Ae],some ([[1,0]].map Ad),some [.sl 2 1 0 1],some [.sl 5 1 0 o.2.2.2.length],some (o.2.2.2.map Ad)]) ?_ ?_
 ·(refine RN ?_;try with_reducible exact trivial)
  simp only [eq2,eq4]
  refine ⟨fun c0=>?_,fun c0=>?_⟩
  ·(refine RN ?_;try with_reducible exact trivial)
   (try simp only [eq2,eq4])
   refine Bq (C5 bs hb a1 b1 h1 ((most / 2:Nat):Int)) [0] (by first | rfl | simp) (by simp only [go_sem,↓reduceIte,Nat.reduceEqDiff,Nat.reduceAdd,reduceCtorEq]<;>rfl) (by simp only [go_sem,↓reduceIte,Nat.reduceEqDiff,Nat.reduceAdd,reduceCtorEq]<;>rfl) fun o ho=>?_
   obtain ⟨a2,b2,p⟩:=o
   obtain ⟨q1,q2,q3⟩:=ho
   dsimp only at q1 q2 q3
   obtain ⟨p,rfl⟩:=Int.eq_ofNat_of_zero_le q2
   have hp:=Lt (1+p) (by omega) (by omega)
   rw [show ((1+p:Nat):Int)=1+(p:Int) from by omega] at hp
   refine RN ?_
   refine B0 (hp) (by simp only [go_sem,↓reduceIte,Nat.reduceEqDiff,Nat.reduceAdd,reduceCtorEq]<;>rfl) (fun o=>by first | rfl | simp only [go_sem,↓reduceIte,Nat.reduceEqDiff,Nat.reduceAdd,reduceCtorEq]) fun o ho=>?_
   obtain ⟨o1,o2⟩:=ho
   refine RN ?_
   exact ⟨(a2,b2,2*(1+p),o),⟨q1,by dsimp only;omega,by dsimp only;omega,by dsimp only;omega,by dsimp only;omega,o2⟩,Ref.to (by simp [o1]) (by simp [sub,Ab])⟩
  ·(refine RN ?_;try with_reducible exact trivial)
   refine ⟨fun c1=>?_,fun c1=>?_⟩
   ·(refine RN ?_;try with_reducible exact trivial)
    refine ⟨(a1,b1,2,[[1,0]]),⟨h1,by dsimp only;omega,by dsimp only;omega,by simp,by simp,Rl⟩,?_⟩
    exact Ref.gc2 [0,2]
   ·(refine RN ?_;try with_reducible exact trivial)
    refine ⟨fun c2=>?_,fun c2=>?_⟩
    ·(refine RN ?_;try with_reducible exact trivial)
     (try simp only [eq2,eq4])
     refine Bq (C5 bs hb a1 b1 h1 ((most / 4:Nat):Int)) [0] (by first | rfl | simp) (by simp only [go_sem,↓reduceIte,Nat.reduceEqDiff,Nat.reduceAdd,reduceCtorEq]<;>rfl) (by simp only [go_sem,↓reduceIte,Nat.reduceEqDiff,Nat.reduceAdd,reduceCtorEq]<;>rfl) fun o ho=>?_
     obtain ⟨a2,b2,p⟩:=o
     obtain ⟨q1,q2,q3⟩:=ho
     dsimp only at q1 q2 q3
     obtain ⟨p,rfl⟩:=Int.eq_ofNat_of_zero_le q2
     have hp:=Lt (1+p) (by omega) (by omega)
     rw [show ((1+p:Nat):Int)=1+(p:Int) from by omega] at hp
     refine RN ?_
     refine B0 (hp) (by simp only [go_sem,↓reduceIte,Nat.reduceEqDiff,Nat.reduceAdd,reduceCtorEq]<;>rfl) (fun o=>by first | rfl | simp only [go_sem,↓reduceIte,Nat.reduceEqDiff,Nat.reduceAdd,reduceCtorEq]) fun o ho=>?_
     obtain ⟨o1,o2⟩:=ho
     have hbe:=Nw (2*(1+p)) 2 (by omega) (by omega) (by omega) o [[1,0]] o2 Rl (by omega) (by decide)
     refine RN ?_
     refine B0 hbe (by simp only [go_sem,↓reduceIte,Nat.reduceEqDiff,Nat.reduceAdd,reduceCtorEq,Dc _ _ o 2 o1]<;>first | done | (simp only [B4,Af,o1]<;>rfl)) (fun o=>by first | rfl | simp only [go_sem,↓reduceIte,Nat.reduceEqDiff,Nat.reduceAdd,reduceCtorEq]) fun o' ho' => ?_
     obtain ⟨o3,o4⟩:=ho'
     have o5:o'.length=3:=by rw [o3,o1];rfl
     refine RN ?_
     exact ⟨(a2,b2,2*(1+p)*2,o'),⟨q1,by dsimp only;omega,by dsimp only;omega,by dsimp only;omega,by dsimp only;omega,o4⟩,Ref.gc2 [0,1,2,3,4,6]⟩
    ·(refine RN ?_;try with_reducible exact trivial)
     refine ⟨fun c3=>?_,fun c3=>?_⟩
     ·(refine RN ?_;try with_reducible exact trivial)
      refine Bq (C5 bs hb a1 b1 h1 4) [0] (by first | rfl | simp) (by simp only [go_sem,↓reduceIte,Nat.reduceEqDiff,Nat.reduceAdd,reduceCtorEq]<;>rfl) (by simp only [go_sem,↓reduceIte,Nat.reduceEqDiff,Nat.reduceAdd,reduceCtorEq]<;>rfl) fun o ho=>?_
      obtain ⟨a2,b2,p⟩:=o
      obtain ⟨q1,q2,q3⟩:=ho
      dsimp only at q1 q2 q3
      obtain ⟨p,rfl⟩:=Int.eq_ofNat_of_zero_le q2
      refine RN ?_
      refine ⟨fun hbig=>?_,fun hbig=>?_⟩
      ·have hp:=Lt 2 (by omega) (by omega)
       rw [show ((2:Nat):Int)=2 from rfl] at hp
       have eq5:(most:Int).tdiv (4*2)=((most / 8:Nat):Int):=by rw [Int.tdiv_eq_ediv_of_nonneg (by omega)];rfl
       have hD:8*(most / 8)≤most:=Nat.mul_div_le _ _
       have hD1:1≤most / 8:=by omega
       generalize most / 8=D at eq5 hD hD1
       refine RN ?_
       refine B0 (hp) (by simp only [go_sem,↓reduceIte,Nat.reduceEqDiff,Nat.reduceAdd,reduceCtorEq]<;>rfl) (fun o=>by first | rfl | simp only [go_sem,↓reduceIte,Nat.reduceEqDiff,Nat.reduceAdd,reduceCtorEq]) fun o ho=>?_
       obtain ⟨o1,o2⟩:=ho
       simp only [go_sem,↓reduceIte,Nat.reduceEqDiff,Nat.reduceAdd,reduceCtorEq,eq5]
       refine RN ?_
       refine Bq (C5 bs hb a2 b2 q1 (D:Int)) [0] (by first | rfl | simp) (by simp only [go_sem,↓reduceIte,Nat.reduceEqDiff,Nat.reduceAdd,reduceCtorEq]<;>rfl) (by simp only [go_sem,↓reduceIte,Nat.reduceEqDiff,Nat.reduceAdd,reduceCtorEq]<;>rfl) fun o' ho' => ?_
       obtain ⟨a3,b3,r⟩:=o'
       obtain ⟨y1,y2,y3⟩:=ho'
       dsimp only at y1 y2 y3
       obtain ⟨r,rfl⟩:=Int.eq_ofNat_of_zero_le y2
       have hrD:8*(1+r)≤most:=Nat.le_trans (Nat.mul_le_mul_left _ (by omega)) hD
       have hrr:2*2*(2*(1+r))=8*(1+r):=by omega
       have hp2:=Lt (1+r) (by omega) (by
        have:1+r≤8*(1+r):=Nat.le_mul_of_pos_left _ (by omega)
        omega)
       rw [show ((1+r:Nat):Int)=1+(r:Int) from by omega] at hp2
       have hr1:1+r≤8*(1+r):=Nat.le_mul_of_pos_left _ (by omega)
       refine RN ?_
       refine B0 hp2 (by simp only [go_sem,↓reduceIte,Nat.reduceEqDiff,Nat.reduceAdd,reduceCtorEq]<;>rfl) (fun o=>by first | rfl | simp only [go_sem,↓reduceIte,Nat.reduceEqDiff,Nat.reduceAdd,reduceCtorEq]) fun o' ho' => ?_
       obtain ⟨o3,o4⟩:=ho'
       have hbe:=Nw (2*2) (2*(1+r)) (by omega) (by omega) (by omega) o o' o2 o4 (by omega) (by omega)
       refine RN ?_
       refine B0 hbe (by simp only [go_sem,↓reduceIte,Nat.reduceEqDiff,Nat.reduceAdd,reduceCtorEq,Dc _ _ o 2 o1,Dc _ _ o' 2 o3]<;>first | done | (simp only [B4,Af,o1,o3]<;>rfl)) (fun o=>by first | rfl | simp only [go_sem,↓reduceIte,Nat.reduceEqDiff,Nat.reduceAdd,reduceCtorEq]) fun o2' ho2' => ?_
       obtain ⟨o5,o6⟩:=ho2'
       have o7:o2'.length=4:=by rw [o5,o1,o3]
       refine RN ?_
       exact ⟨(a3,b3,2*2*(2*(1+r)),o2'),⟨y1,by dsimp only;omega,by dsimp only;omega,by dsimp only;omega,by dsimp only;omega,o6⟩,Ref.gc2 [0,1,2,3,4,7]⟩
      ·have hp:=Lt (1+p) (by omega) (by omega)
       rw [show ((1+p:Nat):Int)=1+(p:Int) from by omega] at hp
       have eq5:(most:Int).tdiv (4*(1+(p:Int)))=((most / (4*(1+p)):Nat):Int):=by
        rw [Int.tdiv_eq_ediv_of_nonneg (by omega)]
        have:(4*(1+(p:Int)))=((4*(1+p):Nat):Int):=by omega
        rw [this];rfl
       have hD:(4*(1+p))*(most / (4*(1+p)))≤most:=Nat.mul_div_le _ _
       have hp4:4*(1+p)≤most:=by omega
       have hD1:1≤most / (4*(1+p)):=(Nat.le_div_iff_mul_le (by omega)).2 (by omega)
       generalize most / (4*(1+p))=D at eq5 hD hD1
       refine RN ?_
       refine B0 (hp) (by simp only [go_sem,↓reduceIte,Nat.reduceEqDiff,Nat.reduceAdd,reduceCtorEq]<;>rfl) (fun o=>by first | rfl | simp only [go_sem,↓reduceIte,Nat.reduceEqDiff,Nat.reduceAdd,reduceCtorEq]) fun o ho=>?_
       obtain ⟨o1,o2⟩:=ho
       simp only [go_sem,↓reduceIte,Nat.reduceEqDiff,Nat.reduceAdd,reduceCtorEq,eq5]
       refine RN ?_
       refine Bq (C5 bs hb a2 b2 q1 (D:Int)) [0] (by first | rfl | simp) (by simp only [go_sem,↓reduceIte,Nat.reduceEqDiff,Nat.reduceAdd,reduceCtorEq]<;>rfl) (by simp only [go_sem,↓reduceIte,Nat.reduceEqDiff,Nat.reduceAdd,reduceCtorEq]<;>rfl) fun o' ho' => ?_
       obtain ⟨a3,b3,r⟩:=o'
       obtain ⟨y1,y2,y3⟩:=ho'
       dsimp only at y1 y2 y3
       obtain ⟨r,rfl⟩:=Int.eq_ofNat_of_zero_le y2
       have hrD:(4*(1+p))*(1+r)≤most:=Nat.le_trans (Nat.mul_le_mul_left _ (by omega)) hD
       have hrr:2*(1+p)*(2*(1+r))=(4*(1+p))*(1+r):=by
        rw [show 2*(1+p)*(2*(1+r))=(2*(1+p)*2)*(1+r) by rw [Nat.mul_assoc,Nat.mul_assoc,Nat.mul_assoc]]
        congr 1
        omega
       have hp2:=Lt (1+r) (by omega) (by
        have:1+r≤(4*(1+p))*(1+r):=Nat.le_mul_of_pos_left _ (by omega)
        omega)
       rw [show ((1+r:Nat):Int)=1+(r:Int) from by omega] at hp2
       have hr1:1+r≤(4*(1+p))*(1+r):=Nat.le_mul_of_pos_left _ (by omega)
       refine RN ?_
       refine B0 hp2 (by simp only [go_sem,↓reduceIte,Nat.reduceEqDiff,Nat.reduceAdd,reduceCtorEq]<;>rfl) (fun o=>by first | rfl | simp only [go_sem,↓reduceIte,Nat.reduceEqDiff,Nat.reduceAdd,reduceCtorEq]) fun o' ho' => ?_
       obtain ⟨o3,o4⟩:=ho'
       have hbe:=Nw (2*(1+p)) (2*(1+r)) (by omega) (by omega) (by omega) o o' o2 o4 (by omega) (by omega)
       refine RN ?_
       refine B0 hbe (by simp only [go_sem,↓reduceIte,Nat.reduceEqDiff,Nat.reduceAdd,reduceCtorEq,Dc _ _ o 2 o1,Dc _ _ o' 2 o3]<;>first | done | (simp only [B4,Af,o1,o3]<;>rfl)) (fun o=>by first | rfl | simp only [go_sem,↓reduceIte,Nat.reduceEqDiff,Nat.reduceAdd,reduceCtorEq]) fun o2' ho2' => ?_
       obtain ⟨o5,o6⟩:=ho2'
       have o7:o2'.length=4:=by rw [o5,o1,o3]
       refine RN ?_
       exact ⟨(a3,b3,2*(1+p)*(2*(1+r)),o2'),⟨y1,by dsimp only;omega,by dsimp only;omega,by dsimp only;omega,by dsimp only;omega,o6⟩,Ref.gc2 [0,1,2,3,4,7]⟩
     ·(refine RN ?_;try with_reducible exact trivial)
      (try simp only [eq2,eq4])
      refine Bq (C5 bs hb a1 b1 h1 ((most / 4:Nat):Int)) [0] (by first | rfl | simp) (by simp only [go_sem,↓reduceIte,Nat.reduceEqDiff,Nat.reduceAdd,reduceCtorEq]<;>rfl) (by simp only [go_sem,↓reduceIte,Nat.reduceEqDiff,Nat.reduceAdd,reduceCtorEq]<;>rfl) fun o ho=>?_
      obtain ⟨a2,b2,p⟩:=o
      obtain ⟨q1,q2,q3⟩:=ho
      dsimp only at q1 q2 q3
      obtain ⟨p,rfl⟩:=Int.eq_ofNat_of_zero_le q2
      have hp:=rI bs hb a2 b2 q1 (1+p) (by omega) (by omega)
      rw [show ((1+p:Nat):Int)=1+(p:Int) from by omega] at hp
      refine RN ?_
      refine Bq (hp) [0] (by first | rfl | simp) (by simp only [go_sem,↓reduceIte,Nat.reduceEqDiff,Nat.reduceAdd,reduceCtorEq]<;>rfl) (by simp only [go_sem,↓reduceIte,Nat.reduceEqDiff,Nat.reduceAdd,reduceCtorEq]<;>rfl) fun o ho=>?_
      obtain ⟨a3,b3,n,L⟩:=o
      obtain ⟨t1,t2,t3,t4,t5⟩:=ho
      dsimp only at t1 t2 t3 t4 t5 ⊢
      refine RN ?_
      exact ⟨(a3,b3,n,L),⟨t1,t2,by dsimp only;omega,by dsimp only;omega,by dsimp only;omega,t5⟩,Ref.to (by simp [t4]) (by simp [sub,Ab])⟩
 ·rintro ⟨a2,b2,n,L⟩ ⟨g1,g2,g3,g4,g5,g6⟩
  dsimp only at g1 g2 g3 g4 g5 g6 ⊢
  refine RN ?_
  refine Aj (α:=Nat×Int×Nat×List (List Int)) (S:=fun o=>([(0,.ref 0 0),(1,i64 (most:Int)),(4,.ref 1 0),(5,.ref 3 0),(6,.ref 4 0)],[some (A5 bs o.1 o.2.1),some [Ae],some [Ad [1,0]],some [.sl 2 1 0 1],some [.sl 5 1 0 o.2.2.2.length],some (o.2.2.2.map Ad)])) (C:=fun o=>o.1≤bs.length∧1≤o.2.2.1∧o.2.2.1≤most∧1≤o.2.2.2.length∧o.2.2.2.length≤5∧Eb o.2.2.1 o.2.2.2) (μ:=fun o=>5 - o.2.2.2.length) (a2,b2,n,L) ⟨g1,g2,g3,g4,g5,g6⟩ (Ref.to1) ?_
  clear g1 g2 g3 g4 g5 g6
  clear a2 b2 n L
  rintro ⟨a2,b2,n,L⟩ ⟨g1,g2,g3,g4,g5,g6⟩
  dsimp only at g1 g2 g3 g4 g5 g6 ⊢
  have hfl:=Kf L (by omega) (by omega) (by rw [(g6 0 (by omega)).1];omega)
  rw [(g6 0 (by omega)).1] at hfl
  by_cases hA:L.length<5
  ·have pA:((L.length:Int)<5)=True:=eq_true (by omega)
   have dA:decide ((L.length:Int)<5)=true:=decide_eq_true (by omega)
   by_cases hB:n*2≤most
   ·have pB:((n:Int)*2≤most)=True:=eq_true (by omega)
    have dB:decide ((n:Int)*2≤most)=true:=decide_eq_true (by omega)
    refine RN ?_
    rw [dA]
    refine GCall.on rfl ⟨by first | trivial | omega | simp,?_⟩
    refine Bx hfl (by simp only [go_sem,↓reduceIte,Nat.reduceEqDiff,Nat.reduceAdd,reduceCtorEq,Dc _ _ L L.length rfl]<;>first | done | (simp only [B4,Af]<;>rfl)) (by first | rfl | simp only [go_sem,↓reduceIte,Nat.reduceEqDiff,Nat.reduceAdd,reduceCtorEq]) ?_
    simp only [go_sem,↓reduceIte,Nat.reduceEqDiff,Nat.reduceAdd,reduceCtorEq,pA,pB,dA,dB,true_implies]
    refine RN ?_
    refine GCall.on rfl ?_
    refine Bq (C5 bs hb a2 b2 g1 3) [0] (by first | rfl | simp) (by simp only [go_sem,↓reduceIte,Nat.reduceEqDiff,Nat.reduceAdd,reduceCtorEq]<;>rfl) (by simp only [go_sem,↓reduceIte,Nat.reduceEqDiff,Nat.reduceAdd,reduceCtorEq]<;>rfl) fun o ho=>?_
    obtain ⟨a3,b3,r⟩:=o
    obtain ⟨y1,y2,y3⟩:=ho
    dsimp only at y1 y2 y3
    simp only [go_sem,↓reduceIte,Nat.reduceEqDiff,Nat.reduceAdd,reduceCtorEq,pA,pB,dA,dB,true_implies]
    refine RN ?_
    refine ⟨fun c6=>?_,fun c6=>?_⟩
    ·have hb1:=Nw n 2 g2 (by decide) (by omega) L [[1,0]] g6 Rl (by omega) (by decide)
     have hb2:=Nw 2 n (by decide) g2 (by omega) [[1,0]] L Rl g6 (by decide) (by omega)
     refine RN ?_
     refine Bq (C5 bs hb a3 b3 y1 2) [0] (by first | rfl | simp) (by simp only [go_sem,↓reduceIte,Nat.reduceEqDiff,Nat.reduceAdd,reduceCtorEq]<;>rfl) (by simp only [go_sem,↓reduceIte,Nat.reduceEqDiff,Nat.reduceAdd,reduceCtorEq]<;>rfl) fun o ho=>?_
     obtain ⟨a4,b4,r2⟩:=o
     obtain ⟨z1,z2,z3⟩:=ho
     dsimp only at z1 z2 z3
     refine RN ?_
     refine ⟨fun c7=>?_,fun c7=>?_⟩
     ·(refine RN ?_;try with_reducible exact trivial)
      refine B0 hb1 (by simp only [go_sem,↓reduceIte,Nat.reduceEqDiff,Nat.reduceAdd,reduceCtorEq,Dc _ _ L L.length rfl]<;>first | done | (simp only [B4,Af]<;>rfl)) (fun o=>by first | rfl | simp only [go_sem,↓reduceIte,Nat.reduceEqDiff,Nat.reduceAdd,reduceCtorEq]) fun o' ho' => ?_
      obtain ⟨o3,o4⟩:=ho'
      have o5:o'.length=L.length+1:=o3
      refine RN ?_
      exact ⟨(a4,b4,n*2,o'),⟨z1,by dsimp only;omega,by dsimp only;omega,by dsimp only;omega,by dsimp only;omega,o4⟩,by dsimp only;omega,Ref.gc2 [0,1,2,3,4,6]⟩
     ·(refine RN ?_;try with_reducible exact trivial)
      refine B0 hb2 (by simp only [go_sem,↓reduceIte,Nat.reduceEqDiff,Nat.reduceAdd,reduceCtorEq,Dc _ _ L L.length rfl]<;>first | done | (simp only [B4,Af]<;>rfl)) (fun o=>by first | rfl | simp only [go_sem,↓reduceIte,Nat.reduceEqDiff,Nat.reduceAdd,reduceCtorEq]) fun o' ho' => ?_
      obtain ⟨o3,o4⟩:=ho'
      have o5:o'.length=1+L.length:=o3
      refine RN ?_
      exact ⟨(a4,b4,2*n,o'),⟨z1,by dsimp only;omega,by dsimp only;omega,by dsimp only;omega,by dsimp only;omega,o4⟩,by dsimp only;omega,Ref.gc2 [0,1,2,3,4,6]⟩
    ·(refine RN ?_;try with_reducible exact trivial)
     exact ⟨(a3,b3,n,L),⟨y1,g2,g3,g4,g5,g6⟩,Ref.gc1 [0,5]⟩
   ·have nB:((n:Int)*2≤most)=False:=eq_false (by omega)
    have dB:decide ((n:Int)*2≤most)=false:=decide_eq_false (by omega)
    refine RN ?_
    rw [dA]
    refine GCall.on rfl ⟨by first | trivial | omega | simp,?_⟩
    refine Bx hfl (by simp only [go_sem,↓reduceIte,Nat.reduceEqDiff,Nat.reduceAdd,reduceCtorEq,Dc _ _ L L.length rfl]<;>first | done | (simp only [B4,Af]<;>rfl)) (by first | rfl | simp only [go_sem,↓reduceIte,Nat.reduceEqDiff,Nat.reduceAdd,reduceCtorEq]) ?_
    simp only [go_sem,↓reduceIte,Nat.reduceEqDiff,Nat.reduceAdd,reduceCtorEq,pA,nB,dA,dB,true_implies]
    refine RN ?_
    refine Au (i64 0) rfl ?_
    simp only [go_sem,↓reduceIte,Nat.reduceEqDiff,Nat.reduceAdd,reduceCtorEq,pA,nB,dA,dB,true_implies,false_implies]
    refine RN ?_
    exact ⟨(a2,b2,n,L),⟨g1,g2,g3,g4,g5,g6⟩,Ref.gc1 [0,5]⟩
  ·have dA:decide ((L.length:Int)<5)=false:=decide_eq_false (by omega)
   refine RN ?_
   rw [dA]
   refine Au (i64 0) rfl ?_
   have nA:((L.length:Int)<5)=False:=eq_false (by omega)
   simp only [go_sem,↓reduceIte,Nat.reduceEqDiff,Nat.reduceAdd,reduceCtorEq,nA,dA,false_implies]
   refine RN ?_
   refine Au (i64 0) rfl ?_
   simp only [go_sem,↓reduceIte,Nat.reduceEqDiff,Nat.reduceAdd,reduceCtorEq,nA,dA,false_implies]
   refine RN ?_
   exact ⟨(a2,b2,n,L),⟨g1,g2,g3,g4,g5,g6⟩,Ref.gc1 [0,5]⟩
end
section
open Go.Gov Go.Ce
open Classical
theorem aS (bs : List Int) (hb : E6 bs) (a : Nat) (h : Int) (hs : a ≤ bs.length) (w : List Int) (hw : w.length ≤ 1048576) (hw1 : 1 ≤ w.length) :
    Ds Tryz.prog 45 [.ref 0 0,.sl 1 1 0 w.length] [some (A5 bs a h),some (Aa w)] (fun o:Nat×Int×Nat=>o.1≤bs.length∧o.2.2<w.length) (fun o=>i64 (w.getD o.2.2 0)) (fun o=>[some (A5 bs o.1 o.2.1),some (Aa w)]):=by
 refine Hd yZ rfl ?_;unfold X7
 refine RN ?_
 refine Bq (C5 bs hb a h hs (w.length:Int)) [0] (by first | rfl | simp) (by simp only [go_sem,↓reduceIte,Nat.reduceEqDiff,Nat.reduceAdd,reduceCtorEq]<;>rfl) (by simp only [go_sem,↓reduceIte,Nat.reduceEqDiff,Nat.reduceAdd,reduceCtorEq]<;>rfl) fun o ho=>?_
 obtain ⟨a', h', k⟩:=o
 obtain ⟨h1,h2,h3⟩:=ho
 dsimp only at h1 h2 h3
 obtain ⟨k,rfl⟩:=Int.eq_ofNat_of_zero_le h2
 have hk:k<w.length:=by omega
 refine RN ?_
 exact ⟨(a', h', k),⟨h1,hk⟩,Ref.gc2 [0,1]⟩
theorem Ue (bs : List Int) (hb : E6 bs) (a : Nat) (h : Int) (hs : a ≤ bs.length) (most : Nat) (hm1 : 8 ≤ most) (hm2 : most ≤ 1000) :
    Ds Tryz.prog 72 [.ref 0 0,i64 (most:Int)] [some (A5 bs a h)] (fun o:Nat×Int×Nat×List (List Int)=>o.1≤bs.length∧1≤o.2.2.1∧o.2.2.1≤most∧1≤o.2.2.2.length∧o.2.2.2.length≤5∧Eb o.2.2.1 o.2.2.2) (fun o=>.agg [.sl 1 1 0 o.2.2.2.length]) (fun o=>[some (A5 bs o.1 o.2.1),some (o.2.2.2.map Ad)]):=by
 refine Hd zT rfl ?_;unfold Yq
 refine RN ?_
 refine Bq (rG bs hb a h hs most hm1 hm2) [0] (by first | rfl | simp) (by simp only [go_sem,↓reduceIte,Nat.reduceEqDiff,Nat.reduceAdd,reduceCtorEq]<;>rfl) (by simp only [go_sem,↓reduceIte,Nat.reduceEqDiff,Nat.reduceAdd,reduceCtorEq]<;>rfl) fun o ho=>?_
 obtain ⟨a1,b1,n,L⟩:=o
 obtain ⟨h1,h2,h3,h4,h5,h6⟩:=ho
 dsimp only at h1 h2 h3 h4 h5 h6 ⊢
 have hfl:=Kf L (by omega) (by omega) (by rw [(h6 0 (by omega)).1];omega)
 rw [(h6 0 (by omega)).1] at hfl
 refine RN ?_
 refine Bq (C5 bs hb a1 b1 h1 4) [0] (by first | rfl | simp) (by simp only [go_sem,↓reduceIte,Nat.reduceEqDiff,Nat.reduceAdd,reduceCtorEq]<;>rfl) (by simp only [go_sem,↓reduceIte,Nat.reduceEqDiff,Nat.reduceAdd,reduceCtorEq]<;>rfl) fun o ho=>?_
 obtain ⟨a2,b2,k⟩:=o
 obtain ⟨q1,q2,q3⟩:=ho
 dsimp only at q1 q2 q3
 have hdr:=aO bs hb a2 b2 q1 n (by omega)
 have hrn:=fun p hp=>rK n (by omega) L h6 (by omega) p hp
 refine RN ?_
 refine ⟨fun c1=>?_,fun c1=>?_⟩
 ·refine An ?_
  refine Sq (fun o:Nat×Int×List (List Int)=>o.1≤bs.length∧o.2.2.length=L.length∧Eb n o.2.2) (fun o=>[(4,.ref 1 0)]) (fun o=>[some (A5 bs o.1 o.2.1),some [.sl 2 1 0 o.2.2.length],some (o.2.2.map Ad)]) ?_ ?_
  ·repeat' first
     | simp only [go_sem,↓reduceIte,Nat.reduceEqDiff,Nat.reduceAdd,reduceCtorEq]
     | with_reducible refine Ar ?_
     | with_reducible refine Aq ?_
     | with_reducible exact As
     | with_reducible refine Ap ?_ ?_
     | (with_reducible refine And.intro ?_ ?_;focus first | assumption | omega | grind)
     | (refine Bx hfl ?_ ?_ ?_;(simp only [go_sem,↓reduceIte,Nat.reduceEqDiff,Nat.reduceAdd,reduceCtorEq,Dc _ _ L L.length rfl]<;>first | done | (simp only [B4,Af]<;>rfl));(focus first | rfl | simp only [go_sem,↓reduceIte,Nat.reduceEqDiff,Nat.reduceAdd,reduceCtorEq]))
     | refine Bq (hdr) [0] (by first | rfl | simp) (by simp only [go_sem,↓reduceIte,Nat.reduceEqDiff,Nat.reduceAdd,reduceCtorEq]<;>rfl) (by simp only [go_sem,↓reduceIte,Nat.reduceEqDiff,Nat.reduceAdd,reduceCtorEq]<;>rfl) fun o ho=>?_
   all_goals
    have htk:(Aa o.2.2).take n=Aa o.2.2:=List.take_of_length_le (by rw [Ca,ho.2.1];exact Nat.le_refl _)
    have hin:Ac o.2.2 = .slc 1 n (Aa o.2.2):=by rw [Ac,ho.2.1]
    refine B0 (hrn o.2.2 ho.2) (by simp only [go_sem,↓reduceIte,Nat.reduceEqDiff,Nat.reduceAdd,reduceCtorEq,Dc _ _ L L.length rfl,htk,G2,hin]<;>first | done | (simp only [B4,Af]<;>rfl)) (fun o=>by first | rfl | simp only [go_sem,↓reduceIte,Nat.reduceEqDiff,Nat.reduceAdd,reduceCtorEq]) fun o' ho' => ?_
    (repeat' first | simp only [go_sem,↓reduceIte,Nat.reduceEqDiff,Nat.reduceAdd,reduceCtorEq] | with_reducible refine Ar ?_ | with_reducible refine Sj ?_ | with_reducible refine Aq ?_ | with_reducible exact As | with_reducible refine Ap ?_ ?_ | (with_reducible refine And.intro ?_ ?_;focus first | assumption | omega | grind))
    exact ⟨(o.1,o.2.1,o'),⟨ho.1,ho'.1,ho'.2⟩,Ref.gc2 [0,1,5]⟩
  ·rintro ⟨a3,b3,K⟩ ⟨g1,g2,g3⟩
   dsimp only at g1 g2 g3 ⊢
   refine RN ?_
   exact ⟨(a3,b3,n,K),⟨g1,h2,h3,by dsimp only;omega,by dsimp only;omega,g3⟩,Ref.gc1 [0,2]⟩
 ·(refine RN ?_;try with_reducible exact trivial)
  exact ⟨(a2,b2,n,L),⟨q1,h2,h3,h4,h5,h6⟩,Ref.gc1 [0,2]⟩
end
end Go.Proofs.YtcneanpkpmfaiaaGreat
namespace Go.Gov
variable {P:Program} {N:Nat} {F:Frame} {H:Heap} {M:List Nat} {n0:Nat}
theorem V7 {α:Type}(C:α→Prop)(F1:α→Frame)(H1:α→Heap){t:GT}{y:ACode}{id:Nat}{Q Q' : Exit→Frame→Heap→Prop}(hE:LT P false t (fun F' H' => ∃ o,C o∧Ref n0 F' H' (F1 o) (H1 o)) F H)(hy:∀ o,C o→W P M N n0 y Q (F1 o) (H1 o)):V P M N n0 (.alts t) (H9 id (Ep (W P M N n0 y Q) Q')) F H:=
 K6 (Hg (fun F' H' ⟨o,ho,h⟩=>Dr h (hy o ho)) t false F H hE)
end Go.Gov
namespace Go.Proofs.YtcneanpkpmfaiaaGreat
open Go.Gov Go.Ce
open Classical
def Gd (most:Nat)(M:List (List Int)):Prop:=M.length≤6∧∀ p∈M,p.length≤most+1
end Go.Proofs.YtcneanpkpmfaiaaGreat
namespace Go.Gov
variable {P:Program} {N:Nat} {F:Frame} {H:Heap} {M:List Nat} {n0:Nat}
theorem Ref.nilA (j k:Nat)(h:Ab F j = .agg [Ae]):Ref n0 F H ((j,.agg [.slc k 0 []]) :: F) H:=fun N g a w hR=>by
 refine ⟨g,⟨fun i=>?_,hR.hp,hR.size,hR.defers⟩,.refl hR.hp⟩
 simp only [Dv]
 by_cases e:j=i
 ·subst e
  rw [if_pos rfl]
  have h1:=hR.fr j
  rw [h] at h1
  generalize a.tmps.getD j undef=v at h1 ⊢
  cases h1 with
  | agg hl hr=>
   refine .agg (by simpa using hl) fun m hm=>?_
   obtain rfl:m=0:=by simp at hm;omega
   have h2:=hr 0 (by simp)
   simp only [List.getElem_cons_zero] at h2 ⊢
   rw [h2.val_inv.1]
   exact .slc0 (by unfold maxLen;omega)
 ·rw [if_neg e];exact hR.fr i
end Go.Gov
namespace Go.Proofs.YtcneanpkpmfaiaaGreat
section
open Go.Gov Go.Ce
open Classical
theorem tR (bs : List Int) (hb : E6 bs) (a : Nat) (h : Int) (hs : a ≤ bs.length) (most : Nat) (hm1 : 1 ≤ most) (hm2 : most ≤ 1000) :
    Ds Tryz.prog 90 [.ref 0 0,i64 (most:Int)] [some (A5 bs a h)] (fun o:Nat×Int×List Int=>o.1≤bs.length∧o.2.2.length≤2*most) (fun o=>.sl 1 1 0 o.2.2.length) (fun o=>[some (A5 bs o.1 o.2.1),some (Aa o.2.2)]):=by
 refine Hd Aab rfl ?_;unfold Yy
 refine RN ?_
 have hmx:(if (1:Int)<(most:Int) then (most:Int) else 1)=most:=by split<;>omega
 (try simp only [hmx])
 refine Bq (C5 bs hb a h hs (most:Int)) [0] (by first | rfl | simp) (by simp only [go_sem,↓reduceIte,Nat.reduceEqDiff,Nat.reduceAdd,reduceCtorEq]<;>rfl) (by simp only [go_sem,↓reduceIte,Nat.reduceEqDiff,Nat.reduceAdd,reduceCtorEq]<;>rfl) fun o ho=>?_
 obtain ⟨a1,b1,p⟩:=o
 obtain ⟨q1,q2,q3⟩:=ho
 dsimp only at q1 q2 q3
 obtain ⟨p,rfl⟩:=Int.eq_ofNat_of_zero_le q2
 refine RN ?_
 refine Aj (α:=Nat×Int×List Int) (S:=fun o=>([(0,.ref 0 0),(5,i64 (2*(1+(p:Int)))),(6,.sl 1 1 0 o.2.2.length),(7,i64 (o.2.2.length:Int))],[some (A5 bs o.1 o.2.1),some (Aa o.2.2)])) (C:=fun o=>o.1≤bs.length∧o.2.2.length≤2*(1+p)) (μ:=fun o=>2*(1+p) - o.2.2.length) (a1,b1,[]) ⟨q1,Nat.zero_le _⟩ (Ref.to1) ?_
 rintro ⟨a2,b2,x⟩ ⟨h1,h2⟩
 dsimp only at h1 h2 ⊢
 refine RN ?_
 refine ⟨fun hc=>?_,fun hc=>?_⟩
 ·(refine RN ?_;try with_reducible exact trivial)
  refine Bq (C5 bs hb a2 b2 h1 ((x.length:Int)+1)) [0] (by first | rfl | simp) (by simp only [go_sem,↓reduceIte,Nat.reduceEqDiff,Nat.reduceAdd,reduceCtorEq]<;>rfl) (by simp only [go_sem,↓reduceIte,Nat.reduceEqDiff,Nat.reduceAdd,reduceCtorEq]<;>rfl) fun o ho=>?_
  obtain ⟨a3,b3,k⟩:=o
  obtain ⟨r1,r2,r3⟩:=ho
  dsimp only at r1 r2 r3
  obtain ⟨k,rfl⟩:=Int.eq_ofNat_of_zero_le r2
  refine RN ?_
  have e1:((x.length:Int) - k).toNat=x.length - k:=by omega
  have tk1:((Aa x).drop k).take (x.length - k)=Aa (x.drop k):=by rw [oH];exact List.take_of_length_le (by rw [Ca,List.length_drop];exact Nat.le_refl _)
  simp only [e1,tk1,go_sem,↓reduceIte,Nat.reduceEqDiff,Nat.reduceAdd,reduceCtorEq]
  refine RN ?_
  have e2:((k:Int) - 0).toNat=k:=by omega
  have tk2:(Aa x).take k=Aa (x.take k):=iF x k
  have tk3:(i64 (x.length:Int) :: Aa (x.drop k)).take (1+(x.length - k))=Aa ((x.length:Int) :: x.drop k):=by
   rw [List.take_of_length_le (by simp [Ca];omega)];simp [Aa]
  simp only [e2,tk2,tk3,go_sem,↓reduceIte,Nat.reduceEqDiff,Nat.reduceAdd,reduceCtorEq]
  refine RN ?_
  have hkx:k≤x.length:=by omega
  have hln:(x.take k++((x.length:Int) :: x.drop k)).length=x.length+1:=by simp;omega
  have tk4:(Aa (x.take k)).take k=Aa (x.take k):=List.take_of_length_le (by rw [Ca];simp;omega)
  refine ⟨(a3,b3,x.take k++((x.length:Int) :: x.drop k)),⟨r1,by dsimp only;rw [hln];omega⟩,by dsimp only;rw [hln];omega,?_⟩
  dsimp only
  rw [hln]
  refine Ref.gc [0,6] rfl ?_ ?_
  ·simp only [go_sem,↓reduceIte,Nat.reduceEqDiff,Nat.reduceAdd,reduceCtorEq]
   rw [tk4,Dq,El]
  ·have e3:k+(1+(x.length - k))=x.length+1:=by omega
   simp [sub,Ab,go_sem,↓reduceIte,Nat.reduceEqDiff,Nat.reduceAdd,reduceCtorEq,e3]
 ·(refine RN ?_;try with_reducible exact trivial)
  exact ⟨(a2,b2,x),⟨h1,by dsimp only;omega⟩,Ref.gc1 [0,1]⟩
def V2 (r:List Int):Prop:=2≤r.length∧r.length%2=0∧r.length≤200∧IsPrm r
theorem qR (r:List Int)(hl:r.length≤1048576):Pure Tryz.prog 122 [Ac r] (bl (decide (V2 r))) []:=by
 have hp:=aR r (by omega)
 have e3:((r.length:Int)).tmod 2=((r.length%2:Nat):Int):=by rw [Int.tmod_eq_emod_of_nonneg (by omega)];rfl
 refine Bm xL rfl rfl ?_;unfold W3
 (refine RN ?_;try with_reducible exact trivial)
 (try simp only [e3,go_sem,↓reduceIte,Nat.reduceEqDiff,Nat.reduceAdd,reduceCtorEq])
 refine Gc (bl (decide (IsPrm r)) ) (fun hg =>  hp) ?_
 refine RN ?_
 congr 2
 rw [Bool.eq_iff_iff,decide_eq_true_eq]
 simp only [V2,Bool.and_eq_true,decide_eq_true_eq,beq_iff_eq]
 constructor
 ·rintro ⟨⟨⟨h1,h2⟩,h3⟩,h4⟩
  exact ⟨by omega,by omega,by omega,h4⟩
 ·rintro ⟨h1,h2,h3,h4⟩
  exact ⟨⟨⟨by omega,by omega⟩,by omega⟩,h4⟩
theorem vF (r:List Int)(hl:r.length≤1048576):Cf Tryz.prog 91 [Ac r] (fun o:List (List Int)×Int=>(o.2=0→Si o.1∧o.1.length=3∧∀ p∈o.1,p.length=2*r.length)) (fun o=>.tup [if o.2=0 then B4 o.1 else .agg [Ae],i64 o.2]) (fun _=>[]):=by
 have hi:=qR r hl
 refine Fh Aac rfl ?_;unfold Yz
 refine RN ?_
 refine Ak (hi) ?_
 refine RN ?_
 refine ⟨fun hr=>?_,fun hr=>?_⟩
 ·(refine RN ?_;try with_reducible exact trivial)
  exact ⟨([],1),fun h=>absurd h (by decide),Ref.gc1 []⟩
 ·obtain ⟨h2,hev,h200,hprm⟩:=hr
  have hc2:(2*(r.length:Int)).toNat=2*r.length:=by omega
  refine RN ?_
  refine Jz [(0,Ac r),(2,.ref 0 0),(3,i64 0),(4,i64 (r.length:Int)),(5,.ref 1 0)] [some [Ae],some [.sl 5 1 0 3],some (Aa (List.replicate (2*r.length) 0)),some (Aa (List.replicate (2*r.length) 0)),some (Aa (List.replicate (2*r.length) 0)),some [.sl 2 1 0 (2*r.length),.sl 3 1 0 (2*r.length),.sl 4 1 0 (2*r.length)]] ?_ ?_
  ·(repeat' first | simp only [go_sem,↓reduceIte,Nat.reduceEqDiff,Nat.reduceAdd,reduceCtorEq] | with_reducible refine Ar ?_ | with_reducible refine Sj ?_ | with_reducible refine Aq ?_ | with_reducible exact As | with_reducible refine Ap ?_ ?_ | (with_reducible refine And.intro ?_ ?_;focus first | assumption | omega | grind))
   all_goals rw [hc2]
   all_goals first
    | (refine Ref.gc [0,1,2,3,4,5] rfl ?_ ?_;(focus simp only [go_sem,↓reduceIte,Nat.reduceEqDiff,Nat.reduceAdd,reduceCtorEq]<;>rfl);(simp [sub,Ab,go_sem,↓reduceIte,Nat.reduceEqDiff,Nat.reduceAdd,reduceCtorEq];done))
    | (refine Ref.gc [0,1,2,4,3,5] rfl ?_ ?_;(focus simp only [go_sem,↓reduceIte,Nat.reduceEqDiff,Nat.reduceAdd,reduceCtorEq]<;>rfl);(simp [sub,Ab,go_sem,↓reduceIte,Nat.reduceEqDiff,Nat.reduceAdd,reduceCtorEq];done))
    | (refine Ref.gc [0,1,3,2,4,5] rfl ?_ ?_;(focus simp only [go_sem,↓reduceIte,Nat.reduceEqDiff,Nat.reduceAdd,reduceCtorEq]<;>rfl);(simp [sub,Ab,go_sem,↓reduceIte,Nat.reduceEqDiff,Nat.reduceAdd,reduceCtorEq];done))
    | (refine Ref.gc [0,1,3,4,2,5] rfl ?_ ?_;(focus simp only [go_sem,↓reduceIte,Nat.reduceEqDiff,Nat.reduceAdd,reduceCtorEq]<;>rfl);(simp [sub,Ab,go_sem,↓reduceIte,Nat.reduceEqDiff,Nat.reduceAdd,reduceCtorEq];done))
    | (refine Ref.gc [0,1,4,2,3,5] rfl ?_ ?_;(focus simp only [go_sem,↓reduceIte,Nat.reduceEqDiff,Nat.reduceAdd,reduceCtorEq]<;>rfl);(simp [sub,Ab,go_sem,↓reduceIte,Nat.reduceEqDiff,Nat.reduceAdd,reduceCtorEq];done))
    | (refine Ref.gc [0,1,4,3,2,5] rfl ?_ ?_;(focus simp only [go_sem,↓reduceIte,Nat.reduceEqDiff,Nat.reduceAdd,reduceCtorEq]<;>rfl);(simp [sub,Ab,go_sem,↓reduceIte,Nat.reduceEqDiff,Nat.reduceAdd,reduceCtorEq];done))
    | (refine Ref.gc [0,2,1,3,4,5] rfl ?_ ?_;(focus simp only [go_sem,↓reduceIte,Nat.reduceEqDiff,Nat.reduceAdd,reduceCtorEq]<;>rfl);(simp [sub,Ab,go_sem,↓reduceIte,Nat.reduceEqDiff,Nat.reduceAdd,reduceCtorEq];done))
    | (refine Ref.gc [0,2,1,4,3,5] rfl ?_ ?_;(focus simp only [go_sem,↓reduceIte,Nat.reduceEqDiff,Nat.reduceAdd,reduceCtorEq]<;>rfl);(simp [sub,Ab,go_sem,↓reduceIte,Nat.reduceEqDiff,Nat.reduceAdd,reduceCtorEq];done))
    | (refine Ref.gc [0,2,3,1,4,5] rfl ?_ ?_;(focus simp only [go_sem,↓reduceIte,Nat.reduceEqDiff,Nat.reduceAdd,reduceCtorEq]<;>rfl);(simp [sub,Ab,go_sem,↓reduceIte,Nat.reduceEqDiff,Nat.reduceAdd,reduceCtorEq];done))
    | (refine Ref.gc [0,2,3,4,1,5] rfl ?_ ?_;(focus simp only [go_sem,↓reduceIte,Nat.reduceEqDiff,Nat.reduceAdd,reduceCtorEq]<;>rfl);(simp [sub,Ab,go_sem,↓reduceIte,Nat.reduceEqDiff,Nat.reduceAdd,reduceCtorEq];done))
    | (refine Ref.gc [0,2,4,1,3,5] rfl ?_ ?_;(focus simp only [go_sem,↓reduceIte,Nat.reduceEqDiff,Nat.reduceAdd,reduceCtorEq]<;>rfl);(simp [sub,Ab,go_sem,↓reduceIte,Nat.reduceEqDiff,Nat.reduceAdd,reduceCtorEq];done))
    | (refine Ref.gc [0,2,4,3,1,5] rfl ?_ ?_;(focus simp only [go_sem,↓reduceIte,Nat.reduceEqDiff,Nat.reduceAdd,reduceCtorEq]<;>rfl);(simp [sub,Ab,go_sem,↓reduceIte,Nat.reduceEqDiff,Nat.reduceAdd,reduceCtorEq];done))
    | (refine Ref.gc [0,3,1,2,4,5] rfl ?_ ?_;(focus simp only [go_sem,↓reduceIte,Nat.reduceEqDiff,Nat.reduceAdd,reduceCtorEq]<;>rfl);(simp [sub,Ab,go_sem,↓reduceIte,Nat.reduceEqDiff,Nat.reduceAdd,reduceCtorEq];done))
    | (refine Ref.gc [0,3,1,4,2,5] rfl ?_ ?_;(focus simp only [go_sem,↓reduceIte,Nat.reduceEqDiff,Nat.reduceAdd,reduceCtorEq]<;>rfl);(simp [sub,Ab,go_sem,↓reduceIte,Nat.reduceEqDiff,Nat.reduceAdd,reduceCtorEq];done))
    | (refine Ref.gc [0,3,2,1,4,5] rfl ?_ ?_;(focus simp only [go_sem,↓reduceIte,Nat.reduceEqDiff,Nat.reduceAdd,reduceCtorEq]<;>rfl);(simp [sub,Ab,go_sem,↓reduceIte,Nat.reduceEqDiff,Nat.reduceAdd,reduceCtorEq];done))
    | (refine Ref.gc [0,3,2,4,1,5] rfl ?_ ?_;(focus simp only [go_sem,↓reduceIte,Nat.reduceEqDiff,Nat.reduceAdd,reduceCtorEq]<;>rfl);(simp [sub,Ab,go_sem,↓reduceIte,Nat.reduceEqDiff,Nat.reduceAdd,reduceCtorEq];done))
    | (refine Ref.gc [0,3,4,1,2,5] rfl ?_ ?_;(focus simp only [go_sem,↓reduceIte,Nat.reduceEqDiff,Nat.reduceAdd,reduceCtorEq]<;>rfl);(simp [sub,Ab,go_sem,↓reduceIte,Nat.reduceEqDiff,Nat.reduceAdd,reduceCtorEq];done))
    | (refine Ref.gc [0,3,4,2,1,5] rfl ?_ ?_;(focus simp only [go_sem,↓reduceIte,Nat.reduceEqDiff,Nat.reduceAdd,reduceCtorEq]<;>rfl);(simp [sub,Ab,go_sem,↓reduceIte,Nat.reduceEqDiff,Nat.reduceAdd,reduceCtorEq];done))
    | (refine Ref.gc [0,4,1,2,3,5] rfl ?_ ?_;(focus simp only [go_sem,↓reduceIte,Nat.reduceEqDiff,Nat.reduceAdd,reduceCtorEq]<;>rfl);(simp [sub,Ab,go_sem,↓reduceIte,Nat.reduceEqDiff,Nat.reduceAdd,reduceCtorEq];done))
    | (refine Ref.gc [0,4,1,3,2,5] rfl ?_ ?_;(focus simp only [go_sem,↓reduceIte,Nat.reduceEqDiff,Nat.reduceAdd,reduceCtorEq]<;>rfl);(simp [sub,Ab,go_sem,↓reduceIte,Nat.reduceEqDiff,Nat.reduceAdd,reduceCtorEq];done))
    | (refine Ref.gc [0,4,2,1,3,5] rfl ?_ ?_;(focus simp only [go_sem,↓reduceIte,Nat.reduceEqDiff,Nat.reduceAdd,reduceCtorEq]<;>rfl);(simp [sub,Ab,go_sem,↓reduceIte,Nat.reduceEqDiff,Nat.reduceAdd,reduceCtorEq];done))
    | (refine Ref.gc [0,4,2,3,1,5] rfl ?_ ?_;(focus simp only [go_sem,↓reduceIte,Nat.reduceEqDiff,Nat.reduceAdd,reduceCtorEq]<;>rfl);(simp [sub,Ab,go_sem,↓reduceIte,Nat.reduceEqDiff,Nat.reduceAdd,reduceCtorEq];done))
    | (refine Ref.gc [0,4,3,1,2,5] rfl ?_ ?_;(focus simp only [go_sem,↓reduceIte,Nat.reduceEqDiff,Nat.reduceAdd,reduceCtorEq]<;>rfl);(simp [sub,Ab,go_sem,↓reduceIte,Nat.reduceEqDiff,Nat.reduceAdd,reduceCtorEq];done))
    | (refine Ref.gc [0,4,3,2,1,5] rfl ?_ ?_;(focus simp only [go_sem,↓reduceIte,Nat.reduceEqDiff,Nat.reduceAdd,reduceCtorEq]<;>rfl);(simp [sub,Ab,go_sem,↓reduceIte,Nat.reduceEqDiff,Nat.reduceAdd,reduceCtorEq];done))
    | (refine Ref.gc [0,5,1,2,3,4] rfl ?_ ?_;(focus simp only [go_sem,↓reduceIte,Nat.reduceEqDiff,Nat.reduceAdd,reduceCtorEq]<;>rfl);(simp [sub,Ab,go_sem,↓reduceIte,Nat.reduceEqDiff,Nat.reduceAdd,reduceCtorEq];done))
    | (refine Ref.gc [0,5,1,3,2,4] rfl ?_ ?_;(focus simp only [go_sem,↓reduceIte,Nat.reduceEqDiff,Nat.reduceAdd,reduceCtorEq]<;>rfl);(simp [sub,Ab,go_sem,↓reduceIte,Nat.reduceEqDiff,Nat.reduceAdd,reduceCtorEq];done))
    | (refine Ref.gc [0,5,2,1,3,4] rfl ?_ ?_;(focus simp only [go_sem,↓reduceIte,Nat.reduceEqDiff,Nat.reduceAdd,reduceCtorEq]<;>rfl);(simp [sub,Ab,go_sem,↓reduceIte,Nat.reduceEqDiff,Nat.reduceAdd,reduceCtorEq];done))
    | (refine Ref.gc [0,5,2,3,1,4] rfl ?_ ?_;(focus simp only [go_sem,↓reduceIte,Nat.reduceEqDiff,Nat.reduceAdd,reduceCtorEq]<;>rfl);(simp [sub,Ab,go_sem,↓reduceIte,Nat.reduceEqDiff,Nat.reduceAdd,reduceCtorEq];done))
    | (refine Ref.gc [0,5,3,1,2,4] rfl ?_ ?_;(focus simp only [go_sem,↓reduceIte,Nat.reduceEqDiff,Nat.reduceAdd,reduceCtorEq]<;>rfl);(simp [sub,Ab,go_sem,↓reduceIte,Nat.reduceEqDiff,Nat.reduceAdd,reduceCtorEq];done))
    | (refine Ref.gc [0,5,3,2,1,4] rfl ?_ ?_;(focus simp only [go_sem,↓reduceIte,Nat.reduceEqDiff,Nat.reduceAdd,reduceCtorEq]<;>rfl);(simp [sub,Ab,go_sem,↓reduceIte,Nat.reduceEqDiff,Nat.reduceAdd,reduceCtorEq];done))
  refine RN ?_
  refine Aj (α:=Nat×List Int×List Int×List Int) (S:=fun o=>([(0,Ac r),(2,.ref 0 0),(3,i64 0),(4,i64 (r.length:Int)),(5,.ref 1 0),(6,i64 (o.1:Int))],[some [Ae],some [.sl 5 1 0 3],some (Aa o.2.1),some (Aa o.2.2.1),some (Aa o.2.2.2),some [.sl 2 1 0 (2*r.length),.sl 3 1 0 (2*r.length),.sl 4 1 0 (2*r.length)]])) (C:=fun o=>o.1≤r.length∧o.2.1.length=2*r.length∧o.2.2.1.length=2*r.length∧o.2.2.2.length=2*r.length) (μ:=fun o=>r.length - o.1) (0,List.replicate (2*r.length) 0,List.replicate (2*r.length) 0,List.replicate (2*r.length) 0) ⟨Nat.zero_le _,by simp,by simp,by simp⟩ (Ref.to1) ?_
  rintro ⟨d,A,B,C⟩ ⟨g1,g2,g3,g4⟩
  dsimp only at g1 g2 g3 g4 ⊢
  refine RN ?_
  refine ⟨fun hc=>?_,fun hc=>?_⟩
  ·have hat:=hprm.at (k:=d) (by omega)
   have e3:(d:Int).tmod 2=(d:Int)%2:=Int.tmod_eq_emod_of_nonneg (by omega)
   have e4:((2*(d:Int)+1)).toNat=2*d+1:=by omega
   have e5:((2*(d:Int))).toNat=2*d:=by omega
   refine RN ?_
   exact ⟨(d+1,_,_,_),⟨by dsimp only;omega,by simp [g2],by simp [g3],by simp [g4]⟩,by dsimp only;omega,Ref.to (rfl) (by simp [sub,Ab])⟩
  ·obtain rfl:d=r.length:=by omega
   have tA:(Aa A).take (2*r.length)=Aa A:=List.take_of_length_le (by rw [Ca];omega)
   have tB:(Aa B).take (2*r.length)=Aa B:=List.take_of_length_le (by rw [Ca];omega)
   have tC:(Aa C).take (2*r.length)=Aa C:=List.take_of_length_le (by rw [Ca];omega)
   have hM:AV.agg [.slc 1 3 [.slc 1 (2*r.length) (Aa A),.slc 1 (2*r.length) (Aa B),.slc 1 (2*r.length) (Aa C)]]=B4 [A,B,C]:=by simp [B4,Af,Ac,Aa,g2,g3,g4]
   refine RN ?_
   refine Oa (bX [A,B,C] (by simp) (by intro p hp;simp at hp;rcases hp with rfl | rfl | rfl<;>omega)) (by simp only [go_sem,↓reduceIte,Nat.reduceEqDiff,Nat.reduceAdd,reduceCtorEq,tA,tB,tC,hM]<;>rfl) ?_
   refine RN ?_
   refine ⟨fun hm=>?_,fun hm=>?_⟩
   ·(refine RN ?_;try with_reducible exact trivial)
    exact ⟨([],5),fun h=>absurd h (by decide),Ref.gc1 []⟩
   ·(refine RN ?_;try with_reducible exact trivial)
    refine ⟨([A,B,C],0),fun _=>⟨hm,rfl,by intro p hp;simp at hp;rcases hp with rfl | rfl | rfl<;>omega⟩,Ref.sel [] rfl (by simp only [go_sem,↓reduceIte,Nat.reduceEqDiff,Nat.reduceAdd,reduceCtorEq]) ?_⟩
    simp [sub,Ab,go_sem,↓reduceIte,Nat.reduceEqDiff,Nat.reduceAdd,reduceCtorEq,tA,tB,tC,hM]
end
section
open Go.Gov Go.Ce
open Classical
theorem Gd.nil (n:Nat):Gd n []:=⟨by simp,fun p hp=>by simp at hp⟩
theorem Z6 {M:List (List Int)}(h:IsMan M):Gd 400 M:=by
 refine ⟨by have:=h.r5;omega,fun p hp=>?_⟩
 obtain ⟨k,hk,rfl⟩:=List.mem_iff_getElem.1 hp
 have h1:=(h.rows k hk).1
 rw [show M.getD k []=M[k] by simp [hk]] at h1
 have:=h.f4
 omega
theorem iQ {a b:Nat}(h:H4 a b=0):IsMan (H5 a b):=by
 unfold H4 at h
 split at h
 ·split at h
  ·rename_i h2;exact h2
  ·cases h
 ·cases h
theorem Jx (a b:Nat)(ha:2≤a∧a≤32)(hb:2≤b∧b≤32):∃ (M:List (List Int)) (c:Int),(c=0→IsMan M)∧Pure Tryz.prog 89 [Ac [(a:Int),(b:Int)],Ae] (.tup [if c=0 then B4 M else .agg [Ae],i64 c]) []:=
 ⟨H5 a b,H4 a b,iQ,iP a b ha hb⟩
theorem bV (bs : List Int) (hb : E6 bs) (a : Nat) (h : Int) (hs : a ≤ bs.length) (most : Nat) (hm1 : 16 ≤ most) (hm2 : most ≤ 400) :
    Ds Tryz.prog 59 [.ref 0 0,i64 (most:Int)] [some (A5 bs a h)] (fun o:Nat×Int×List (List Int)=>o.1≤bs.length∧Gd 400 o.2.2∧(o.2.2=[]∨IsMan o.2.2)) (fun o=>B4 o.2.2) (fun o=>[some (A5 bs o.1 o.2.1)]):=by
 refine Hd zJ rfl ?_;unfold Yg
 refine RN ?_
 refine Bq (C5 bs hb a h hs 4) [0] (by first | rfl | simp) (by simp only [go_sem,↓reduceIte,Nat.reduceEqDiff,Nat.reduceAdd,reduceCtorEq]<;>rfl) (by simp only [go_sem,↓reduceIte,Nat.reduceEqDiff,Nat.reduceAdd,reduceCtorEq]<;>rfl) fun o ho=>?_
 obtain ⟨a1,b1,k⟩:=o
 obtain ⟨h1,h2,h3⟩:=ho
 dsimp only at h1 h2 h3
 obtain ⟨k,rfl⟩:=Int.eq_ofNat_of_zero_le h2
 simp only [go_sem,↓reduceIte,Nat.reduceEqDiff,Nat.reduceAdd,reduceCtorEq]
 refine V9 (fun o:Nat×Int=>o.1≤bs.length) (fun o=>[(0,.ref 0 0),(1,i64 (most:Int)),(4,.ref 1 0)]) (fun o=>[some (A5 bs o.1 o.2),some [Ae]]) ?_ ?_
 ·(refine RN ?_;try with_reducible exact trivial)
  refine ⟨fun c0=>?_,fun c0=>?_⟩
  ·(refine RN ?_;try with_reducible exact trivial)
   refine Bq (C5 bs hb a1 b1 h1 8) [0] (by first | rfl | simp) (by simp only [go_sem,↓reduceIte,Nat.reduceEqDiff,Nat.reduceAdd,reduceCtorEq]<;>rfl) (by simp only [go_sem,↓reduceIte,Nat.reduceEqDiff,Nat.reduceAdd,reduceCtorEq]<;>rfl) fun o ho=>?_
   obtain ⟨a2,b2,j⟩:=o
   obtain ⟨q1,q2,q3⟩:=ho
   dsimp only at q1 q2 q3
   obtain ⟨j,rfl⟩:=Int.eq_ofNat_of_zero_le q2
   have hj:j=0∨j=1∨j=2∨j=3∨j=4∨j=5∨j=6∨j=7:=by omega
   rcases hj with rfl | rfl | rfl | rfl | rfl | rfl | rfl | rfl
   all_goals (refine RN ?_;try with_reducible exact trivial)
   all_goals first
    | (obtain ⟨M,c,hMc,hu⟩:=Jx 3 3 (by decide) (by decide);refine CallsX.ice 2 ?_;refine Ah hu ?_ ?_;(focus (simp only [go_sem,↓reduceIte,Nat.reduceEqDiff,Nat.reduceAdd,reduceCtorEq]<;>rfl)))
    | (obtain ⟨M,c,hMc,hu⟩:=Jx 3 3 (by decide) (by decide);refine CallsX.ice 3 ?_;refine Ah hu ?_ ?_;(focus (simp only [go_sem,↓reduceIte,Nat.reduceEqDiff,Nat.reduceAdd,reduceCtorEq]<;>rfl)))
    | (obtain ⟨M,c,hMc,hu⟩:=Jx 4 3 (by decide) (by decide);refine CallsX.ice 4 ?_;refine Ah hu ?_ ?_;(focus (simp only [go_sem,↓reduceIte,Nat.reduceEqDiff,Nat.reduceAdd,reduceCtorEq]<;>rfl)))
    | (obtain ⟨M,c,hMc,hu⟩:=Jx 3 4 (by decide) (by decide);refine CallsX.ice 5 ?_;refine Ah hu ?_ ?_;(focus (simp only [go_sem,↓reduceIte,Nat.reduceEqDiff,Nat.reduceAdd,reduceCtorEq]<;>rfl)))
    | (obtain ⟨M,c,hMc,hu⟩:=Jx 2 3 (by decide) (by decide);refine CallsX.ice 6 ?_;refine Ah hu ?_ ?_;(focus (simp only [go_sem,↓reduceIte,Nat.reduceEqDiff,Nat.reduceAdd,reduceCtorEq]<;>rfl)))
    | (obtain ⟨M,c,hMc,hu⟩:=Jx 4 2 (by decide) (by decide);refine CallsX.ice 7 ?_;refine Ah hu ?_ ?_;(focus (simp only [go_sem,↓reduceIte,Nat.reduceEqDiff,Nat.reduceAdd,reduceCtorEq]<;>rfl)))
    | (obtain ⟨M,c,hMc,hu⟩:=Jx 5 2 (by decide) (by decide);refine CallsX.ice 8 ?_;refine Ah hu ?_ ?_;(focus (simp only [go_sem,↓reduceIte,Nat.reduceEqDiff,Nat.reduceAdd,reduceCtorEq]<;>rfl)))
    | (obtain ⟨M,c,hMc,hu⟩:=Jx 2 6 (by decide) (by decide);refine CallsX.ice 9 ?_;refine Ah hu ?_ ?_;(focus (simp only [go_sem,↓reduceIte,Nat.reduceEqDiff,Nat.reduceAdd,reduceCtorEq]<;>rfl)))
   all_goals
    rcases Classical.em (c=0) with e | e
    ·have hman:=hMc e
     rw [if_pos e,e]
     have m1:=hman.r1
     have m5:=hman.r5
     have f4:=hman.f4
     unfold fl at f4
     have hf:=Kf M (by omega) (by omega) (by omega)
     refine RN ?_
     refine GCall.on rfl ?_
     refine Ak (hf) ?_
     refine RN ?_
     refine ⟨fun c9=>?_,fun c9=>?_⟩
     ·(refine RN ?_;try with_reducible exact trivial)
      exact ⟨(a2,b2,M),⟨q1,Z6 hman,.inr hman⟩,Ref.gc2 [0]⟩
     ·(refine RN ?_;try with_reducible exact trivial)
      exact ⟨(a2,b2),q1,Ref.gc2 [0,1]⟩
    ·rw [if_neg e]
     have dc:(c == 0)=false:=by simp [e]
     have nc:(c=0)=False:=eq_false e
     refine RN ?_
     simp only [dc]
     refine Au (i64 0) rfl ?_
     simp only [go_sem,↓reduceIte,Nat.reduceEqDiff,Nat.reduceAdd,reduceCtorEq,dc,nc,false_implies]
     refine RN ?_
     exact ⟨(a2,b2),q1,Ref.gc2 [0,1]⟩
  ·(refine RN ?_;try with_reducible exact trivial)
   refine ⟨fun c1=>?_,fun c1=>?_⟩
   ·have hq : ∃ q : Nat, 1 ≤ q ∧ q ≤ 8 ∧ (if (8 : Int) < (most : Int).tdiv 4 then 8 else (most : Int).tdiv 4) = (q : Int) := by
      have eq4:(most:Int).tdiv 4=((most / 4:Nat):Int):=by rw [Int.tdiv_eq_ediv_of_nonneg (by omega)];rfl
      rw [eq4]
      split
      ·exact ⟨8,by omega,by omega,rfl⟩
      ·exact ⟨most / 4,by omega,by omega,rfl⟩
    obtain ⟨q,q1,q2,hq⟩:=hq
    refine RN ?_
    simp only [hq]
    refine Bq (tR bs hb a1 b1 h1 q q1 (by omega)) [0] (by first | rfl | simp) (by simp only [go_sem,↓reduceIte,Nat.reduceEqDiff,Nat.reduceAdd,reduceCtorEq]<;>rfl) (by simp only [go_sem,↓reduceIte,Nat.reduceEqDiff,Nat.reduceAdd,reduceCtorEq]<;>rfl) fun o ho=>?_
    obtain ⟨a2,b2,x⟩:=o
    obtain ⟨r1,r2⟩:=ho
    dsimp only at r1 r2
    refine RN ?_
    refine CallsX.ice 2 ?_
    have hxl:(Aa x).take x.length=Aa x:=List.take_of_length_le (by rw [Ca];omega)
    refine Ob (vF x (by omega)) (by simp only [go_sem,↓reduceIte,Nat.reduceEqDiff,Nat.reduceAdd,reduceCtorEq,hxl]<;>rfl) fun o ho=>?_
    obtain ⟨M,c⟩:=o
    dsimp only at ho ⊢
    rcases Classical.em (c=0) with e | e
    ·subst e
     obtain ⟨mm,m3,mr⟩:=ho rfl
     rw [if_pos rfl]
     refine RN ?_
     refine ⟨(a2,b2,M),⟨r1,⟨by dsimp only;omega,fun p hp=>?_⟩,.inr mm.1⟩,Ref.gc2 [0]⟩
     have:=mr p hp
     omega
    ·have dc:(c == 0)=false:=by simp [e]
     have nc:(c=0)=False:=eq_false e
     rw [if_neg e]
     refine RN ?_
     simp only [dc,nc]
     refine RN ?_
     exact ⟨(a2,b2),r1,Ref.gc2 [0,1]⟩
   ·(refine RN ?_;try with_reducible exact trivial)
    exact ⟨(a1,b1),h1,Ref.to1⟩
 ·rintro ⟨a2,b2⟩ q1
  dsimp only at q1 ⊢
  refine RN ?_
  refine Aj (α:=Nat×Nat×Int) (S:=fun o=>([(0,.ref 0 0),(1,i64 (most:Int)),(4,.ref 1 0),(11,i64 (o.1:Int))],[some (A5 bs o.2.1 o.2.2),some [Ae]])) (C:=fun o=>o.1≤20∧o.2.1≤bs.length) (μ:=fun o=>20 - o.1) (0,a2,b2) ⟨Nat.zero_le _,q1⟩ (Ref.to1) ?_
  clear a2 b2 q1
  rintro ⟨i,a2,b2⟩ ⟨h4,q1⟩
  dsimp only at h4 q1 ⊢
  refine RN ?_
  refine ⟨fun hc=>?_,fun hc=>?_⟩
  ·(refine RN ?_;try with_reducible exact trivial)
   refine Bq (Ue bs hb a2 b2 q1 most (by omega) (by omega)) [0] (by first | rfl | simp) (by simp only [go_sem,↓reduceIte,Nat.reduceEqDiff,Nat.reduceAdd,reduceCtorEq]<;>rfl) (by simp only [go_sem,↓reduceIte,Nat.reduceEqDiff,Nat.reduceAdd,reduceCtorEq]<;>rfl) fun o ho=>?_
   obtain ⟨a3,b3,n,L⟩:=o
   obtain ⟨g1,g2,g3,g4,g5,g6⟩:=ho
   dsimp only at g1 g2 g3 g4 g5 g6 ⊢
   have hrow:∀ p∈L,p.length=n:=fun p hp=>by
    obtain ⟨k,hk,rfl⟩:=List.mem_iff_getElem.1 hp
    have:=(g6 k hk).1
    rwa [show L.getD k []=L[k] by simp [hk]] at this
   have his:=bX L (by omega) (fun p hp=>by rw [hrow p hp];omega)
   refine RN ?_
   refine Bx his (by simp only [go_sem,↓reduceIte,Nat.reduceEqDiff,Nat.reduceAdd,reduceCtorEq,Dc _ _ L L.length rfl]<;>first | done | (simp only [B4,Af]<;>rfl)) (by first | rfl | simp only [go_sem,↓reduceIte,Nat.reduceEqDiff,Nat.reduceAdd,reduceCtorEq]) ?_
   refine RN ?_
   refine ⟨fun hm=>?_,fun hm=>?_⟩
   ·(refine RN ?_;try with_reducible exact trivial)
    refine ⟨(a3,b3,L),⟨g1,⟨by dsimp only;omega,fun p hp=>by rw [hrow p hp];omega⟩,.inr hm.1⟩,Ref.sel [0] rfl (by simp only [go_sem,↓reduceIte,Nat.reduceEqDiff,Nat.reduceAdd,reduceCtorEq]) ?_⟩
    simp only [sub,List.all_cons,List.all_nil,go_sem,↓reduceIte,Nat.reduceEqDiff,Nat.reduceAdd,reduceCtorEq]
    (try rw [List.take_of_length_le (show (List.map Ad L).length≤L.length by simp),Ff])
    (try simp [B4,Af])
   ·(refine RN ?_;try with_reducible exact trivial)
    exact ⟨(i+1,a3,b3),⟨by dsimp only;omega,g1⟩,by dsimp only;omega,Ref.gc2 [0,1]⟩
  ·(refine RN ?_;try with_reducible exact trivial)
   have hu:=iP 2 2 (by decide) (by decide)
   refine CallsX.ice 2 ?_
   refine Ah (hu) (by simp only [go_sem,↓reduceIte,Nat.reduceEqDiff,Nat.reduceAdd,reduceCtorEq]<;>rfl) ?_
   rcases Classical.em (H4 2 2=0) with e | e
   ·have hman:=iQ e
    rw [if_pos e]
    refine RN ?_
    exact ⟨(a2,b2,H5 2 2),⟨q1,Z6 hman,.inr hman⟩,Ref.gc2 [0]⟩
   ·rw [if_neg e]
    refine RN ?_
    refine ⟨(a2,b2,[]),⟨q1,Gd.nil _,.inl rfl⟩,(Ref.nilA 0 1 rfl).trans (Ref.gc [0] rfl (by simp only [go_sem,↓reduceIte,Nat.reduceEqDiff,Nat.reduceAdd,reduceCtorEq]<;>rfl) ?_)⟩
    simp [sub,Ab,go_sem,↓reduceIte,Nat.reduceEqDiff,Nat.reduceAdd,reduceCtorEq,B4,Af]
end
end Go.Proofs.YtcneanpkpmfaiaaGreat
