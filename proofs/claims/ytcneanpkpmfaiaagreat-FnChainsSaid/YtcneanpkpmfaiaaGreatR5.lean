/- Texts that belong together. -/
import Derived.Test.YtcneanpkpmfaiaaGreatR4
set_option maxHeartbeats 16000000
set_option linter.unusedSimpArgs false
set_option linter.unusedVariables false
set_option maxRecDepth 100000
namespace Go.Gov
def C7 (bs:List Int):List AV:=bs.map fun b=>.val (.int .u8 b)
theorem sK (xs:List Int):(C7 xs).length=xs.length:=by simp [C7]
theorem sU (H:Heap)(d:Nat)(xs:List Int):(C7 xs).map (Ak H (d+1))=C7 xs:=by simp [C7,Ak]
theorem nD (xs:List Int)(i:Nat):(C7 xs).getD i (.val (.int .u8 0)) = .val (.int .u8 (xs.getD i 0)):=by
 simp only [C7,List.getD_eq_getElem?_getD,List.getElem?_map]
 cases xs[i]? <;> rfl
theorem zE (xs:List Int)(i:Nat):Bs ((C7 xs).getD i .any)=true:=by
 simp only [C7,List.getD_eq_getElem?_getD,List.getElem?_map]
 cases xs[i]? <;> rfl
theorem dW (τ:Nat→Option Nat)(xs:List Int):A9 τ (C7 xs)=C7 xs:=by simp [Bq,C7,An]
attribute [go_sem] sK sU nD zE dW
def Ee (bs:List Int):AV:=.slc 1 bs.length (C7 bs)
def Ax (bs:List Int)(a:Nat)(h:Int):List AV:=[Ee bs,.val (.int .i64 (a:Int)),.val (.int .u64 h)]
theorem Abi (τ:Nat→Option Nat)(bs:List Int)(a:Nat)(h:Int):A9 τ (Ax bs a h)=Ax bs a h:=by simp [Ax,Ee, go_sem]
attribute [go_sem] Abi
theorem tV (x:Int):0≤Ct .and .u64 x 16777215∧Ct .and .u64 x 16777215≤16777215:=by
 have h:(BitVec.ofInt 64 x &&& BitVec.ofInt 64 16777215).toNat≤16777215:=by
  rw [BitVec.toNat_and]
  exact Nat.le_trans Nat.and_le_right (by decide)
 generalize hy:(BitVec.ofInt 64 x &&& BitVec.ofInt 64 16777215).toNat=y at h
 have:Ct .and .u64 x 16777215=((y:Int)%2^64):=by
  show IntKind.u64.wrap _=_
  rw [show IntKind.u64.bits=64 from rfl,hy]
  simp [IntKind.wrap,IntKind.signed,IntKind.bits]
 omega
end Go.Gov
namespace Go.Proofs.YtcneanpkpmfaiaaGreat
section
open Go.Gov Go.Ce
open Classical
structure Ec (bs:List Int):Prop where
 few:bs.length≤1048576
 by8:∀ k,k<bs.length→0≤bs.getD k 0∧bs.getD k 0≤255
theorem B7 (bs : List Int) (hb : Ec bs) (a : Nat) (h : Int) (hs : a ≤ bs.length) (n : Int) :
    Dg Tryz.prog 44 [.ref 0 0,i64 n] [some (Ax bs a h)] (fun o:Nat×Int×Int=>o.1≤bs.length∧0≤o.2.2∧(o.2.2=0∨o.2.2<n)) (fun o=>i64 o.2.2) (fun o=>[some (Ax bs o.1 o.2.1)]):=by
 unfold Ax Ee
 have hfw:=hb.few
 refine Fq wP rfl ?_;unfold W4
 refine RN ?_
 refine ⟨fun hn=>?_,fun hn=>?_⟩
 ·(refine RN ?_;try with_reducible exact trivial)
  exact ⟨(a,h,0),⟨hs,Int.le_refl _,.inl rfl⟩,Ref.gc2 [0]⟩
 refine Al ?_
 simp only [go_sem,↓reduceIte,Nat.reduceEqDiff,Nat.reduceAdd,reduceCtorEq]
 refine Al ?_
 have hm:=tV (D5 BinOp.shr IntKind.u64 (IntKind.u64.wrap (IntKind.u64.wrap (h*6364136223846793005)+1442695040888963407)) 33)
 simp only [go_sem,↓reduceIte,Nat.reduceEqDiff,Nat.reduceAdd,reduceCtorEq]
 generalize Ct BinOp.and IntKind.u64 (D5 BinOp.shr IntKind.u64 (IntKind.u64.wrap (IntKind.u64.wrap (h*6364136223846793005)+1442695040888963407)) 33) 16777215=x at *
 generalize IntKind.u64.wrap (IntKind.u64.wrap (h*6364136223846793005)+1442695040888963407)=h' at *
 have fin:∀ y:Int,0≤y→0≤y.tmod n∧(y.tmod n=0∨y.tmod n<n):=fun y hy=>⟨Int.tmod_nonneg _ hy,.inr (Int.tmod_lt_of_pos _ (by omega))⟩
 have hby:=hb.by8 a
 refine RN ?_
 refine ⟨fun hc=>?_,fun hc=>?_⟩
 ·have hy:=hby (by omega)
  refine RN ?_
  refine ⟨(a+1,h', (x+bs.getD a 0).tmod n),⟨by dsimp only;omega,fin _ (by omega)⟩,?_⟩
  exact Ref.gc2 [0]
 ·(refine RN ?_;try with_reducible exact trivial)
  refine ⟨(a,h', x.tmod n),⟨by dsimp only;omega,fin _ (by omega)⟩,?_⟩
  exact Ref.gc2 [0]
def Dr (n:Nat)(p:List Int):Prop:=p.length=n∧∀ k,k<n→0≤p.getD k 0∧p.getD k 0<n
theorem oY (n:Nat)(hn:n≤1048576):Pure Tryz.prog 131 [i64 (n:Int)] (.sl 0 1 0 n) [some (Aa ((List.range n).map fun (i:Nat)=>(i:Int)))]:=by
 refine Au vG rfl ?_;unfold V7
 refine RN ?_
 refine Aj (α:=Nat) (S:=fun i=>([(0,i64 (n:Int)),(3,.sl 0 1 0 i),(4,i64 (i:Int))],[some (Aa ((List.range i).map fun (i:Nat)=>(i:Int)))])) (C:=fun i=>i≤n) (μ:=fun i=>n - i) 0 (Nat.zero_le _) (Ref.to1) ?_
 intro i hi
 refine RN ?_
 refine ⟨fun hc=>?_,fun hc=>?_⟩
 ·have hst:(List.range (i+1)).map (fun (i:Nat)=>(i:Int))=(List.range i).map (fun (i:Nat)=>(i:Int))++[(i:Int)]:=by simp [List.range_succ]
  have hln:((List.range i).map (fun (i:Nat)=>(i:Int))).length=i:=by simp
  refine RN ?_
  refine ⟨i+1,by omega,by omega,?_⟩
  rw [hst]
  generalize (List.range i).map (fun (i:Nat)=>(i:Int))=X at *
  have tk1:(Aa X).take i=Aa X:=List.take_of_length_le (by rw [B4];omega)
  refine Ref.gc [2] rfl ?_ (by simp [sub,Ab,go_sem,↓reduceIte,Nat.reduceEqDiff,Nat.reduceAdd,reduceCtorEq])
  simp only [go_sem,↓reduceIte,Nat.reduceEqDiff,Nat.reduceAdd,reduceCtorEq]
  rw [tk1,De]
  simp [Aa]
 ·obtain rfl:i=n:=by omega
  refine RN ?_
  exact Ref.gc2 [0]
theorem Abe (n:Nat):Dr n ((List.range n).map fun (i:Nat)=>(i:Int)):=⟨by simp,fun k hk=>by simp [hk]⟩
theorem H9 {n:Nat}{p:List Int}(h:Dr n p){k:Nat}{x:Int}(hx:0≤x∧x<n):Dr n (p.set k x):=⟨by simp [h.1],fun j hj=>by
 have hl:=h.1
 have:=h.2 j hj
 by_cases e:k=j
 ·subst e
  simpa [hl,hj] using hx
 ·have:(p.set k x).getD j 0=p.getD j 0:=by simp [List.getElem?_set,e]
  rw [this]
  assumption⟩
theorem Zo (bs : List Int) (hb : Ec bs) (a : Nat) (h : Int) (hs : a ≤ bs.length) (n : Nat) (hn : n ≤ 1048576) :
    Dg Tryz.prog 109 [.ref 0 0,i64 (n:Int)] [some (Ax bs a h)] (fun o:Nat×Int×List Int=>o.1≤bs.length∧Dr n o.2.2) (fun _=>.sl 1 1 0 n) (fun o=>[some (Ax bs o.1 o.2.1),some (Aa o.2.2)]):=by
 have hu:=oY n hn
 have hr:=Abe n
 generalize (List.range n).map (fun (i:Nat)=>(i:Int))=p0 at *
 refine Fq uT rfl ?_;unfold Vu
 refine RN ?_
 refine Am (hu) ?_
 refine RN ?_
 refine Aj (α:=Nat×Int×List Int×Int) (S:=fun o=>([(0,.ref 0 0),(1,i64 (n:Int)),(5,.sl 1 1 0 n),(6,i64 o.2.2.2)],[some (Ax bs o.1 o.2.1),some (Aa o.2.2.1)])) (C:=fun o=>o.1≤bs.length∧Dr n o.2.2.1 ∧ -1≤o.2.2.2∧o.2.2.2<n) (μ:=fun o=>(o.2.2.2+1).toNat) (a,h,p0,(n:Int) - 1) ⟨hs,hr,by dsimp only;omega,by dsimp only;omega⟩ (Ref.to1) ?_
 rintro ⟨a,h,p,i⟩ ⟨h1,h2,h3,h4⟩
 dsimp only at h1 h2 h3 h4 ⊢
 have hpl:=h2.1
 refine RN ?_
 refine ⟨fun hc=>?_,fun hc=>?_⟩
 ·obtain ⟨i,rfl⟩:=Int.eq_ofNat_of_zero_le (show 0≤i by omega)
  have hp1:=h2.2 i (by omega)
  refine RN ?_
  refine Bb (B7 bs hb a h h1 ((i:Int)+1)) [0] (by first | rfl | simp) (by simp only [go_sem,↓reduceIte,Nat.reduceEqDiff,Nat.reduceAdd,reduceCtorEq]<;>rfl) (by simp only [go_sem,↓reduceIte,Nat.reduceEqDiff,Nat.reduceAdd,reduceCtorEq]<;>rfl) fun o ho=>?_
  obtain ⟨a', h', k⟩:=o
  obtain ⟨g1,g2,g3⟩:=ho
  dsimp only at g1 g2 g3
  obtain ⟨k,rfl⟩:=Int.eq_ofNat_of_zero_le g2
  have hk:k<n:=by omega
  have hp2:=h2.2 k hk
  refine RN ?_
  exact ⟨(a', h', (p.set i (p.getD k 0)).set k (p.getD i 0),(i:Int) - 1),⟨g1,H9 (H9 h2 hp2) hp1,by dsimp only;omega,by dsimp only;omega⟩,by dsimp only;omega,Ref.to1⟩
 ·(refine RN ?_;try with_reducible exact trivial)
  exact ⟨(a,h,p),⟨h1,h2⟩,Ref.gc2 [0,1]⟩
end
section
open Go.Gov Go.Ce
open Classical
def Dy (n:Nat)(L:List (List Int)):Prop:=∀ k,k<L.length→Dr n (L.getD k [])
theorem oS (bs:List Int)(hb:Ec bs):B1 Tryz.prog 20 [Ee bs] (fun _:Int=>True) (fun _=>.ref 0 0) (fun h=>[some (Ax bs 0 h)]):=by
 have hfw:=hb.few
 unfold Ax Ee
 refine E5 vY rfl ?_;unfold Wo
 refine RN ?_
 generalize IntKind.u64.wrap (8191+IntKind.u64.wrap (bs.length:Int))=h0
 refine Aj (α:=Nat×Int) (S:=fun o=>([(0,.slc 1 bs.length (C7 bs)),(3,.ref 0 0),(4,i64 (o.1:Int))],[some [.slc 1 bs.length (C7 bs),.val (.int .i64 0),.val (.int .u64 o.2)]])) (C:=fun o=>o.1≤bs.length) (μ:=fun o=>bs.length - o.1) (0,h0) (Nat.zero_le _) (Ref.to1) ?_
 rintro ⟨i,h⟩ hi
 dsimp only at hi ⊢
 refine RN ?_
 refine ⟨fun hc=>?_,fun hc=>?_⟩
 ·(refine RN ?_;try with_reducible exact trivial)
  exact ⟨(i+1,_),by dsimp only;omega,by dsimp only;omega,Ref.to1⟩
 ·(refine RN ?_;try with_reducible exact trivial)
  exact ⟨h,Ref.gc2 [0]⟩
theorem Ref.row {n0 : Nat} {F : Gov.Frame} {H : Gov.Heap} (o o2 : Nat) {L : List (List Int)} {x : List Int} {n k : Nat} (ho : H[o]? = some (some ((L.map Ad).take k ++ [.sl o2 1 0 n]))) (hk : L.length = k) (h2 : H[o2]? = some (some (Aa x))) (hn : x.length = n) (hne : o ≠ o2) :
    Ref n0 F H F ((H.set o (some ((L++[x]).map Ad))).set o2 none):=by
 subst hk hn
 have e:(L.map Ad).take L.length=L.map Ad:=List.take_of_length_le (by simp)
 rw [e] at ho
 have r:=Ref.close (n0:=n0) (F:=F) o L.length o2 (k:=1) (n:=x.length) ho (by rw [List.getElem?_append_right (by simp)];simp) h2 hne (by simp [B4])
 have hs:(L.map Ad++[AV.sl o2 1 0 x.length]).set L.length (.osl 1 x.length (Aa x))=(L++[x]).map Ad:=by
  rw [List.set_append_right _ _ (by simp)];simp [Ad]
 rw [hs] at r
 exact r
theorem L9 {m:Nat}{c:Int}{x:List Int}(h:∀ j,j<m→0≤x.getD j 0∧x.getD j 0<c)(hl:x.length=m){v:Int}(hv:0≤v∧v<c):∀ j,j<m+1→0≤(x++[v]).getD j 0∧(x++[v]).getD j 0<c:=fun j hj=>by
 by_cases e:j<m
 ·have:(x++[v]).getD j 0=x.getD j 0:=by simp [List.getElem?_append_left (show j<x.length by omega)]
  rw [this];exact h j e
 ·have:j=x.length:=by omega
  subst this
  simpa using hv
theorem Ul {n:Nat}{L:List (List Int)}{x:List Int}(h:Dy n L)(hx:Dr n x):Dy n (L++[x]):=fun k hk=>by
 by_cases e:k<L.length
 ·have:(L++[x]).getD k []=L.getD k []:=by simp [List.getElem?_append_left e]
  rw [this];exact h k e
 ·have:k=L.length:=by simp at hk;omega
  subst this
  simpa using hx
theorem Qh (n:Nat):Dr n (List.replicate n 0):=⟨by simp,fun k hk=>by simp [hk];omega⟩
theorem K8 (p:Nat)(hp:1≤p)(hp2:p≤1048576):B1 Tryz.prog 128 [i64 (p:Int)] (fun L:List (List Int)=>L.length=2∧Dy (2*p) L) (fun _=>.agg [.sl 0 1 0 2]) (fun L=>[some (L.map Ad)]):=by
 refine E5 vC rfl ?_;unfold V3
 refine RN ?_
 have hm:(2*(p:Int)).toNat=2*p:=by omega
 refine Ji [(2,.ref 0 0),(3,i64 (2*(p:Int))),(4,.sl 1 1 0 (2*p)),(5,.sl 2 1 0 (2*p))] [some [Af],some (Aa (List.replicate (2*p) 0)),some (Aa (List.replicate (2*p) 0))] ?_ ?_
 ·(repeat' first | simp only [go_sem,↓reduceIte,Nat.reduceEqDiff,Nat.reduceAdd,reduceCtorEq] | with_reducible refine Ar ?_ | with_reducible refine Rb ?_ | with_reducible refine Aq ?_ | with_reducible exact As | with_reducible refine Ap ?_ ?_ | (with_reducible refine And.intro ?_ ?_;focus first | assumption | omega | grind))
  all_goals rw [hm]
  ·exact Ref.to1
  ·exact Ref.gc2 [0,2,1]
 refine RN ?_
 refine Aj (α:=Nat×List Int×List Int) (S:=fun o=>([(2,.ref 0 0),(3,i64 (2*(p:Int))),(4,.sl 1 1 0 (2*p)),(5,.sl 2 1 0 (2*p)),(6,i64 (o.1:Int))],[some [Af],some (Aa o.2.1),some (Aa o.2.2)])) (C:=fun o=>o.1≤2*p∧Dr (2*p) o.2.1∧Dr (2*p) o.2.2) (μ:=fun o=>2*p - o.1) (0,List.replicate (2*p) 0,List.replicate (2*p) 0) ⟨Nat.zero_le _,Qh _,Qh _⟩ (Ref.to1) ?_
 rintro ⟨i,x,y⟩ ⟨h1,h2,h3⟩
 dsimp only at h1 h2 h3 ⊢
 have hx:=h2.1
 have hy:=h3.1
 refine RN ?_
 refine ⟨fun hc=>?_,fun hc=>?_⟩
 ·(refine RN ?_;try with_reducible exact trivial)
  have e1:((i:Int)+2*p - 1).tmod (2*p)=if i=0 then 2*(p:Int) - 1 else (i:Int) - 1:=by
   rw [Int.tmod_eq_emod_of_nonneg (by omega)]
   split
   ·subst i;rw [Int.emod_eq_of_lt (by omega) (by omega)];omega
   ·rw [show (i:Int)+2*p - 1=(i - 1)+(2*p)*1 by omega,Int.add_mul_emod_self_left,Int.emod_eq_of_lt (by omega) (by omega)]
  have e2:0≤((i:Int)+1).tmod (2*p)∧((i:Int)+1).tmod (2*p)<2*p:=⟨Int.tmod_nonneg _ (by omega),Int.tmod_lt_of_pos _ (by omega)⟩
  have e3:(i:Int).tmod 2=(i:Int)%2:=Int.tmod_eq_emod_of_nonneg (by omega)
  refine ⟨fun hc2=>?_,fun hc2=>?_⟩
  ·(refine RN ?_;try with_reducible exact trivial)
   refine ⟨(i+1,_,_),⟨by dsimp only;omega,H9 h2 (k:=i) (x:=(i:Int)+1) (by omega),H9 h3 (k:=i) (x:=((i:Int)+2*p - 1).tmod (2*p)) (by rw [e1];split<;>omega)⟩,by dsimp only;omega,Ref.to1⟩
  ·(refine RN ?_;try with_reducible exact trivial)
   refine ⟨(i+1,_,_),⟨by dsimp only;omega,H9 h2 (k:=i) (x:=(i:Int) - 1) (by omega),H9 h3 (k:=i) (x:=((i:Int)+1).tmod (2*p)) (by omega)⟩,by dsimp only;omega,Ref.to1⟩
 ·(refine RN ?_;try with_reducible exact trivial)
  refine ⟨[x,y],⟨rfl,fun k hk=>?_⟩,?_⟩
  ·match k,hk with
   | 0,_=>exact h2
   | 1,_=>exact h3
  refine (Ref.close 3 0 1 (k:=1) (n:=2*p) (cs2:=Aa x) rfl rfl rfl (by decide) (by simp [B4,hx])).trans ((Ref.close 3 1 2 (k:=1) (n:=2*p) (cs2:=Aa y) rfl rfl rfl (by decide) (by simp [B4,hy])).trans ?_)
  exact Ref.gc [3] rfl (by simp only [go_sem,↓reduceIte,Nat.reduceEqDiff,Nat.reduceAdd,reduceCtorEq];simp [Ad,hx,hy,go_sem,↓reduceIte,Nat.reduceEqDiff,Nat.reduceAdd,reduceCtorEq]) (by simp [sub,Ab,go_sem,↓reduceIte,Nat.reduceEqDiff,Nat.reduceAdd,reduceCtorEq])
theorem pF (n:Nat)(hn:n≤1048576)(M:List (List Int))(hM:Dy n M)(hl:M.length≤1048576)(p:List Int)(hp:Dr n p):B1 Tryz.prog 108 [Bw M,Ac p] (fun L:List (List Int)=>L.length=M.length∧Dy n L) (fun L=>.agg [.sl 0 1 0 L.length]) (fun L=>[some (L.map Ad)]):=by
 have hpl:=hp.1
 refine E5 uS rfl ?_;unfold Vt
 refine RN ?_
 refine Aj (α:=Nat×List (List Int)) (S:=fun o=>([(1,Ac p),(2,.ref 0 0),(4,.ref 1 0),(5,.ref 2 0),(6,i64 (o.1:Int))],[some [Ae M],some [Af],some [.sl 3 1 0 o.1],some (o.2.map Ad)])) (C:=fun o=>o.1≤M.length∧o.2.length=o.1∧Dy n o.2) (μ:=fun o=>M.length - o.1) (0,[]) ⟨Nat.zero_le _,rfl,fun k hk=>absurd hk (by simp)⟩ ((Ref.nilC 2 0 1 rfl rfl).trans (Ref.to1)) ?_
 rintro ⟨k,L⟩ ⟨h1,h2,h3⟩
 dsimp only at h1 h2 h3 ⊢
 refine RN ?_
 refine ⟨fun hc=>?_,fun hc=>?_⟩
 ·have hrow:=hM k (by omega)
  have hrl:=hrow.1
  generalize hA:M.getD k []=A at *
  refine RN ?_
  rw [hpl]
  refine Aj (α:=Nat×List Int) (S:=fun o=>([(1,Ac p),(2,.ref 0 0),(4,.ref 1 0),(5,.ref 2 0),(6,i64 (k:Int)),(7,.sl 4 1 0 n),(8,i64 (o.1:Int))],[some [Ae M],some [Af],some [.sl 3 1 0 k],some (L.map Ad),some (Aa o.2)])) (C:=fun o=>o.1≤n∧Dr n o.2) (μ:=fun o=>n - o.1) (0,List.replicate n 0) ⟨Nat.zero_le _,Qh n⟩ (Ref.to1) ?_
  rintro ⟨f,x⟩ ⟨g1,g2⟩
  dsimp only at g1 g2 ⊢
  have hx:=g2.1
  refine RN ?_
  refine ⟨fun hc2=>?_,fun hc2=>?_⟩
  ·have q1:=hp.2 f (by omega)
   have q2:=hrow.2 f (by omega)
   obtain ⟨y,hy⟩:=Int.eq_ofNat_of_zero_le q2.1
   have q3:=hp.2 y (by omega)
   refine RN ?_
   exact ⟨(f+1,_),⟨by dsimp only;omega,H9 g2 (k:=(p.getD f 0).toNat) (x:=p.getD ((M.getD k []).getD f 0).toNat 0) (hp.2 _ (by rw [hA];omega))⟩,by dsimp only;omega,Ref.to1⟩
  ·(refine RN ?_;try with_reducible exact trivial)
   refine ⟨(k+1,L++[x]),⟨by dsimp only;omega,by simp [h2],Ul h3 g2⟩,by dsimp only;omega,?_⟩
   refine (Ref.row 6 4 (L:=L) rfl h2 rfl hx (by decide)).trans ?_
   exact Ref.gc1 [0,1,2,6]
 ·(refine RN ?_;try with_reducible exact trivial)
  exact ⟨L,⟨by omega,h3⟩,Ref.gc [3] rfl (by simp only [go_sem,↓reduceIte,Nat.reduceEqDiff,Nat.reduceAdd,reduceCtorEq]) (by simp [sub,Ab,go_sem,↓reduceIte,Nat.reduceEqDiff,Nat.reduceAdd,reduceCtorEq,h2])⟩
theorem M4 (a b : Nat) (ha : 1 ≤ a) (hb : 1 ≤ b) (hab : a * b ≤ 1048576) (M K : List (List Int)) (hM : Dy a M) (hK : Dy b K) (hl : 1 ≤ M.length ∧ M.length ≤ 1024) (hl2 : 1 ≤ K.length ∧ K.length ≤ 1024) :
    B1 Tryz.prog 129 [Bw M,Bw K] (fun L:List (List Int)=>L.length=M.length+K.length∧Dy (a*b) L) (fun L=>.agg [.sl 0 1 0 L.length]) (fun L=>[some (L.map Ad)]):=by
 have ha2:a≤1048576:=Nat.le_trans (Nat.le_mul_of_pos_right a hb) hab
 have hb2:b≤1048576:=Nat.le_trans (Nat.le_mul_of_pos_left b ha) hab
 have hf1:=Jw M hl.1 (by omega) (by rw [(hM 0 (by omega)).1];exact ha2)
 have hf2:=Jw K hl2.1 (by omega) (by rw [(hK 0 (by omega)).1];exact hb2)
 rw [(hM 0 (by omega)).1] at hf1
 rw [(hK 0 (by omega)).1] at hf2
 refine E5 vD rfl ?_;unfold V4
 refine RN ?_
 refine Am (hf1) ?_
 refine RN ?_
 refine Am (hf2) ?_
 refine RN ?_
 refine Aj (α:=Nat×List (List Int)) (S:=fun o=>([(2,.ref 0 0),(3,.ref 1 0),(4,.ref 2 0),(5,i64 (a:Int)),(6,i64 (b:Int)),(7,.ref 3 0),(8,i64 (o.1:Int))],[some [Ae M],some [Ae K],some [Af],some [.sl 4 1 0 o.1],some (o.2.map Ad)])) (C:=fun o=>o.1≤M.length+K.length∧o.2.length=o.1∧Dy (a*b) o.2) (μ:=fun o=>M.length+K.length - o.1) (0,[]) ⟨Nat.zero_le _,rfl,fun k hk=>absurd hk (by simp)⟩ ((Ref.nilC 3 0 1 rfl rfl).trans (Ref.to1)) ?_
 rintro ⟨i,L⟩ ⟨h1,h2,h3⟩
 dsimp only at h1 h2 h3 ⊢
 refine RN ?_
 refine ⟨fun hc=>?_,fun hc=>?_⟩
 ·(refine RN ?_;try with_reducible exact trivial)
  refine Aj (α:=Nat×List Int) (S:=fun o=>([(2,.ref 0 0),(3,.ref 1 0),(4,.ref 2 0),(5,i64 (a:Int)),(6,i64 (b:Int)),(7,.ref 3 0),(8,i64 (i:Int)),(9,.sl 5 1 0 o.1),(10,i64 (o.1:Int))],[some [Ae M],some [Ae K],some [Af],some [.sl 4 1 0 i],some (L.map Ad),some (Aa o.2)])) (C:=fun o=>o.1≤a*b∧o.2.length=o.1∧∀ j,j<o.1→0≤o.2.getD j 0∧o.2.getD j 0<(a*b:Nat)) (μ:=fun o=>a*b - o.1) (0,[]) ⟨Nat.zero_le _,rfl,fun j hj=>absurd hj (by simp)⟩ (Ref.to1) ?_
  rintro ⟨f,x⟩ ⟨g1,g2,g3⟩
  dsimp only at g1 g2 g3 ⊢
  have hab1:(a:Int)*b=(a*b:Nat):=by simp
  refine RN ?_
  refine ⟨fun hc2=>?_,fun hc2=>?_⟩
  ·have hfb:f<a*b:=by rw [hab1] at hc2;omega
   have e1:(f:Int).tdiv b=((f / b:Nat):Int):=by rw [Int.tdiv_eq_ediv_of_nonneg (by omega)];rfl
   have e2:(f:Int).tmod b=((f%b:Nat):Int):=by rw [Int.tmod_eq_emod_of_nonneg (by omega)];rfl
   have q1:f / b<a:=(Nat.div_lt_iff_lt_mul hb).2 hfb
   have q2:f%b<b:=Nat.mod_lt _ hb
   have q3:(f / b)*b≤f:=Nat.div_mul_le_self f b
   generalize f / b=u at *
   generalize f%b=v at *
   refine RN ?_
   refine ⟨fun hc3=>?_,fun hc3=>?_⟩
   ·have hr:=hM i (by omega)
    have hr1:=hr.1
    have hr2:=hr.2 u q1
    obtain ⟨y,hy⟩:=Int.eq_ofNat_of_zero_le hr2.1
    have hyb:(y+1)*b≤a*b:=Nat.mul_le_mul_right b (by omega)
    have hyc:(y:Int)*b=(y*b:Nat):=by simp
    rw [Nat.add_mul,Nat.one_mul] at hyb
    simp only [go_sem,↓reduceIte,Nat.reduceEqDiff,Nat.reduceAdd,reduceCtorEq,e1,e2,Int.toNat_natCast,hy,hyc]
    refine RN ?_
    refine ⟨(f+1,x++[((y*b:Nat):Int)+v]),⟨by dsimp only;omega,by simp [g2],L9 g3 g2 (by omega)⟩,by dsimp only;omega,?_⟩
    have tk1:(Aa x).take f=Aa x:=List.take_of_length_le (by rw [B4];omega)
    refine Ref.gc [0,1,2,3,4,7] rfl ?_ (by simp [sub,Ab,go_sem,↓reduceIte,Nat.reduceEqDiff,Nat.reduceAdd,reduceCtorEq])
    simp only [go_sem,↓reduceIte,Nat.reduceEqDiff,Nat.reduceAdd,reduceCtorEq]
    rw [tk1,De]
    simp [Aa]
   ·have hr:=hK (i - M.length) (by omega)
    have hr1:=hr.1
    have hr2:=hr.2 v q2
    have hub:(u+1)*b≤a*b:=Nat.mul_le_mul_right b (by omega)
    have huc:(u:Int)*b=(u*b:Nat):=by simp
    have hi:((i:Int) - M.length).toNat=i - M.length:=by omega
    rw [Nat.add_mul,Nat.one_mul] at hub
    simp only [go_sem,↓reduceIte,Nat.reduceEqDiff,Nat.reduceAdd,reduceCtorEq,e1,e2,Int.toNat_natCast,huc,hi]
    refine RN ?_
    refine ⟨(f+1,x++[((u*b:Nat):Int)+(K.getD (i - M.length) []).getD v 0]),⟨by dsimp only;omega,by simp [g2],L9 g3 g2 (by omega)⟩,by dsimp only;omega,?_⟩
    have tk1:(Aa x).take f=Aa x:=List.take_of_length_le (by rw [B4];omega)
    refine Ref.gc [0,1,2,3,4,7] rfl ?_ (by simp [sub,Ab,go_sem,↓reduceIte,Nat.reduceEqDiff,Nat.reduceAdd,reduceCtorEq])
    simp only [go_sem,↓reduceIte,Nat.reduceEqDiff,Nat.reduceAdd,reduceCtorEq]
    rw [tk1,De]
    simp [Aa]
  ·have hfb:f=a*b:=by rw [hab1] at hc2;omega
   refine RN ?_
   refine ⟨(i+1,L++[x]),⟨by dsimp only;omega,by simp [h2],Ul h3 ⟨by omega,fun j hj=>g3 j (by omega)⟩⟩,by dsimp only;omega,?_⟩
   refine (Ref.row 7 5 (L:=L) rfl h2 rfl g2 (by decide)).trans ?_
   exact Ref.gc1 [0,1,2,3,7]
 ·(refine RN ?_;try with_reducible exact trivial)
  exact ⟨L,⟨by omega,h3⟩,Ref.gc [4] rfl (by simp only [go_sem,↓reduceIte,Nat.reduceEqDiff,Nat.reduceAdd,reduceCtorEq]) (by simp [sub,Ab,go_sem,↓reduceIte,Nat.reduceEqDiff,Nat.reduceAdd,reduceCtorEq,h2])⟩
end
end Go.Proofs.YtcneanpkpmfaiaaGreat
namespace Go.Gov
variable {P:Program} {N:Nat} {F:Frame} {H:Heap} {M:List Nat} {n0:Nat}
theorem Ks {α:Type}(C:α→Prop)(F1:α→Frame)(H1:α→Heap){t:GT}{y:ACode}{Q:Exit→Frame→Heap→Prop}(hE:LT P false t (fun F' H' => ∃ o,C o∧Ref n0 F' H' (F1 o) (H1 o)) F H)(hy:∀ o,C o→W P M N n0 y Q (F1 o) (H1 o)):V P M N n0 (.alts t) (Dx (W P M N n0 y Q) Q) F H:=
 Kt (G0 (fun F' H' ⟨o,ho,h⟩=>Df h (hy o ho)) t false F H hE)
theorem tF (ks:List Nat)(H:Heap)(bs:List Int)(a:Nat)(h:Int):(Ax bs a h).map (Dp ks H)=Ax bs a h:=by simp [Ax,Ee, Dp,An,dW]
theorem tE (ks:List Nat)(H:Heap)(xs:List Int):(Aa xs).map (Dp ks H)=Aa xs:=by simp [Aa,Dp,An]
attribute [go_sem] tF tE
theorem fP {f k e:Nat}(hf:f<4*e)(he:e≤1048576)(hk:k<4):0≤Ct .xor .i64 (f:Int) (k:Int)∧Ct .xor .i64 (f:Int) (k:Int)<(4*e:Nat):=by
 have h2:(f ^^^ k) / 4=f / 4:=by
  have h:=Nat.xor_div_two_pow (a:=f) (b:=k) (n:=2)
  rw [show (2:Nat)^2=4 from rfl,Nat.div_eq_of_lt hk,Nat.xor_zero] at h
  exact h
 have h1:(BitVec.ofInt 64 (f:Int) ^^^ BitVec.ofInt 64 (k:Int)).toNat=f ^^^ k:=by
  rw [BitVec.toNat_xor]
  congr 1
  ·simp [BitVec.toNat_ofInt];omega
  ·simp [BitVec.toNat_ofInt];omega
 have h3:Ct .xor .i64 (f:Int) (k:Int)=((f ^^^ k:Nat):Int):=by
  show IntKind.i64.wrap _=_
  rw [show IntKind.i64.bits=64 from rfl,h1]
  generalize f ^^^ k=y at *
  show (if (true&&decide ((y:Int)%2^64 ≥ 2^63))=true then (y:Int)%2^64 - 2^64 else (y:Int)%2^64)=(y:Int)
  rw [if_neg (by simp;omega)]
  omega
 rw [h3]
 omega
end Go.Gov
namespace Go.Proofs.YtcneanpkpmfaiaaGreat
open Go.Gov Go.Ce
open Classical
theorem oW (n:Nat)(L:List (List Int))(pt:Nat)(hL:∀ p∈L,Dr n p)(hL1:1≤L.length)(hp:pt<n)(hn:n≤1048576)(hl:L.length≤1048576):B1 Tryz.prog 138 [Ae L,i64 pt] (fun V:List Nat=>V.Nodup∧pt∈V∧∀ j,j∈V→j<n) (fun V=>.sl 0 1 0 V.length) (fun V=>[some (Aa (nz V))]):=
 CallsX.mono (Tf n L pt hL hp hn hl) (by
  rintro av H' ⟨V,h,rfl,rfl⟩
  exact ⟨V,⟨h.1,(h.2 pt).2 .refl,fun j hj=>((h.2 j).1 hj).ltR hL hp⟩,rfl,rfl⟩)
theorem jQ {m:Nat}{c:Int}{x:List Int}(h:∀ j,j<m→0≤x.getD j 0∧x.getD j 0<c)(hl:x.length=m){k:Nat}{v:Int}(hv:0≤v∧v<c):∀ j,j<m→0≤(x.set k v).getD j 0∧(x.set k v).getD j 0<c:=fun j hj=>by
 by_cases e:k=j
 ·subst e
  have:(x.set k v).getD k 0=v:=by simp [hl,hj]
  rw [this];exact hv
 ·have:(x.set k v).getD j 0=x.getD j 0:=by simp [List.getElem?_set,e]
  rw [this];exact h j hj
theorem oU (bs : List Int) (hb : Ec bs) (a : Nat) (h : Int) (hs : a ≤ bs.length) (n : Nat) (hn : n ≤ 1048576) :
    Dg Tryz.prog 144 [.ref 0 0,i64 (n:Int)] [some (Ax bs a h)] (fun o:Nat×Int×List Int=>o.1≤bs.length∧Dr n o.2.2) (fun _=>.sl 1 1 0 n) (fun o=>[some (Ax bs o.1 o.2.1),some (Aa o.2.2)]):=by
 have hd:=Zo bs hb a h hs n hn
 refine Fq vS rfl ?_;unfold Wi
 refine RN ?_
 refine Ks (fun o:Nat×Int×List Int=>o.1≤bs.length∧Dr n o.2.2) (fun o=>[(0,.ref 0 0),(1,i64 (n:Int)),(5,.sl 1 1 0 n),(6,.sl 2 1 0 n)]) (fun o=>[some (Ax bs o.1 o.2.1),some (Aa o.2.2),some (Aa (List.replicate n 0))]) ?_ ?_
 ·repeat' first
    | simp only [go_sem,↓reduceIte,Nat.reduceEqDiff,Nat.reduceAdd,reduceCtorEq]
    | with_reducible refine Ar ?_
    | with_reducible refine Aq ?_
    | with_reducible exact As
    | with_reducible refine Ap ?_ ?_
    | (with_reducible refine And.intro ?_ ?_;focus first | assumption | omega | grind)
    | refine Bb (hd) [0] (by first | rfl | simp) (by simp only [go_sem,↓reduceIte,Nat.reduceEqDiff,Nat.reduceAdd,reduceCtorEq]<;>rfl) (by simp only [go_sem,↓reduceIte,Nat.reduceEqDiff,Nat.reduceAdd,reduceCtorEq]<;>rfl) fun o ho=>?_
  all_goals refine ⟨o,ho,?_⟩
  ·exact Ref.to1
  ·exact Ref.gc2 [0,2,1]
 rintro ⟨a,h,p⟩ ⟨h1,h2⟩
 dsimp only at h1 h2 ⊢
 have hpl:=h2.1
 refine RN ?_
 refine Aj (α:=Nat×List Int) (S:=fun o=>([(0,.ref 0 0),(1,i64 (n:Int)),(5,.sl 1 1 0 n),(6,.sl 2 1 0 n),(7,i64 (o.1:Int))],[some (Ax bs a h),some (Aa p),some (Aa o.2)])) (C:=fun o=>o.1≤n+1∧Dr n o.2) (μ:=fun o=>n+1 - o.1) (0,List.replicate n 0) ⟨Nat.zero_le _,Qh n⟩ (Ref.to1) ?_
 rintro ⟨i,x⟩ ⟨g1,g2⟩
 dsimp only at g1 g2 ⊢
 have hx:=g2.1
 refine RN ?_
 refine ⟨fun hc=>?_,fun hc=>?_⟩
 ·have q1:=h2.2 i (by omega)
  have q2:=h2.2 (i+1) (by omega)
  have e1:((i:Int)+1).toNat=i+1:=by omega
  refine RN ?_
  exact ⟨(i+2,_),⟨by dsimp only;omega,H9 (H9 g2 (k:=(p.getD i 0).toNat) q2) (k:=(p.getD (i+1) 0).toNat) q1⟩,by dsimp only;omega,Ref.to1⟩
 ·(refine RN ?_;try with_reducible exact trivial)
  exact ⟨(a,h,x),⟨h1,g2⟩,Ref.gc1 [0,2]⟩
theorem pD (bs : List Int) (hb : Ec bs) (a : Nat) (h : Int) (hs : a ≤ bs.length) (e : Nat) (he1 : 1 ≤ e) (he : e ≤ 100000) :
    Dg Tryz.prog 130 [.ref 0 0,i64 (e:Int)] [some (Ax bs a h)] (fun o:Nat×Int×Nat×List (List Int)=>o.1≤bs.length∧1≤o.2.2.1∧o.2.2.1≤4*e∧o.2.2.2.length=3∧Dy o.2.2.1 o.2.2.2) (fun _=>.agg [.sl 1 1 0 3]) (fun o=>[some (Ax bs o.1 o.2.1),some (o.2.2.2.map Ad)]):=by
 have hd:=oU bs hb a h hs (4*e) (by omega)
 refine Fq vF rfl ?_;unfold V6
 refine RN ?_
 refine Bb (hd) [0] (by first | rfl | simp) (by simp only [go_sem,↓reduceIte,Nat.reduceEqDiff,Nat.reduceAdd,reduceCtorEq]<;>rfl) (by simp only [go_sem,↓reduceIte,Nat.reduceEqDiff,Nat.reduceAdd,reduceCtorEq]<;>rfl) fun o ho=>?_
 obtain ⟨a', h', w⟩:=o
 obtain ⟨h1,h2⟩:=ho
 dsimp only at h1 h2
 have hwl:=h2.1
 refine RN ?_
 refine Aj (α:=Nat×List Int×List Int) (S:=fun o=>([(0,.ref 0 0),(4,.ref 1 0),(5,i64 (4*(e:Int))),(6,.sl 2 1 0 o.1),(7,.sl 3 1 0 o.1),(8,.sl 4 1 0 (4*e)),(9,i64 (o.1:Int))],[some (Ax bs a' h'),some [Af],some (Aa o.2.1),some (Aa o.2.2),some (Aa w)])) (C:=fun o=>o.1≤4*e∧o.2.1.length=o.1∧o.2.2.length=o.1∧(∀ j,j<o.1→0≤o.2.1.getD j 0∧o.2.1.getD j 0<(4*e:Nat))∧(∀ j,j<o.1→0≤o.2.2.getD j 0∧o.2.2.getD j 0<(4*e:Nat))) (μ:=fun o=>4*e - o.1) (0,[],[]) ⟨Nat.zero_le _,rfl,rfl,fun j hj=>absurd hj (by simp),fun j hj=>absurd hj (by simp)⟩ (Ref.to1) ?_
 rintro ⟨f,z,t⟩ ⟨g1,g2,g3,g4,g5⟩
 dsimp only at g1 g2 g3 g4 g5 ⊢
 refine RN ?_
 refine ⟨fun hc=>?_,fun hc=>?_⟩
 ·have x1:=fP (f:=f) (k:=1) (e:=e) (by omega) (by omega) (by decide)
  have x2:=fP (f:=f) (k:=2) (e:=e) (by omega) (by omega) (by decide)
  simp only [Int.cast_ofNat_Int] at x1 x2
  refine RN ?_
  refine ⟨(f+1,z++[_],t++[_]),⟨by dsimp only;omega,by simp [g2],by simp [g3],L9 g4 g2 x1,L9 g5 g3 x2⟩,by dsimp only;omega,?_⟩
  have tk1:(Aa z).take f=Aa z:=List.take_of_length_le (by rw [B4];omega)
  have tk2:(Aa t).take f=Aa t:=List.take_of_length_le (by rw [B4];omega)
  refine Ref.gc [0,1,6,8,4] rfl ?_ (by simp [sub,Ab,go_sem,↓reduceIte,Nat.reduceEqDiff,Nat.reduceAdd,reduceCtorEq])
  simp only [go_sem,↓reduceIte,Nat.reduceEqDiff,Nat.reduceAdd,reduceCtorEq]
  rw [tk1,tk2,De,De]
  simp [Aa]
 ·obtain rfl:f=4*e:=by omega
  have rz:Dr (4*e) z:=⟨g2,g4⟩
  have rt:Dr (4*e) t:=⟨g3,g5⟩
  have tk1:(Aa z).take (4*e)=Aa z:=List.take_of_length_le (by rw [B4];omega)
  have tk2:(Aa t).take (4*e)=Aa t:=List.take_of_length_le (by rw [B4];omega)
  have tk3:(Aa w).take (4*e)=Aa w:=List.take_of_length_le (by rw [B4];omega)
  have hM:Ae [z,w,t] = .slc 1 3 [.slc 1 (4*e) (Aa z),.slc 1 (4*e) (Aa w),.slc 1 (4*e) (Aa t)]:=by simp [Ae,Ac,Aa,g2,g3,hwl]
  have hRs:∀ k,k<3→Dr (4*e) ([z,w,t].getD k []):=fun k hk=>by
   match k,hk with
   | 0,_=>exact rz
   | 1,_=>exact h2
   | 2,_=>exact rt
  have hor:=oW (4*e) [z,w,t] 0 (by intro p hp;simp at hp;rcases hp with rfl | rfl | rfl<;>assumption) (by simp) (by omega) (by omega) (by simp)
  have hMl:[z,w,t].length=3:=rfl
  generalize [z,w,t]=Mv at hM hRs hor hMl
  have hc4:(4*(e:Int)).toNat=4*e:=by omega
  refine RN ?_
  refine Bx hor (by simp only [go_sem,↓reduceIte,Nat.reduceEqDiff,Nat.reduceAdd,reduceCtorEq,tk1,tk2,tk3,hM]<;>rfl) (by simp only [go_sem,↓reduceIte,Nat.reduceEqDiff,Nat.reduceAdd,reduceCtorEq]<;>rfl) fun V hV=>?_
  obtain ⟨v1,v2,v3⟩:=hV
  have hVn:=H5 v1 v3
  have hV1:1≤V.length:=List.length_pos_of_mem v2
  have hzl:=Ld V
  have hat:∀ i,i<V.length→(nz V).getD i 0=(V.getD i 0:Nat)∧V.getD i 0<4*e:=fun i hi=>by
   refine ⟨by simp [nz,hi],?_⟩
   have:V.getD i 0∈V:=by simp [hi]
   exact v3 _ this
  generalize nz V=O at *
  generalize V.length=n at *
  simp only [go_sem,↓reduceIte,Nat.reduceEqDiff,Nat.reduceAdd,reduceCtorEq]
  refine Df (Ref.sel [0,1,6] (F' := [(0,.ref 0 0),(4,.ref 1 0),(5,i64 (4*(e:Int))),(10,Ae Mv),(11,.sl 2 1 0 n)]) (H' := [some (Ax bs a' h'),some [Af],some (Aa O)]) rfl ?_ ?_) ?_
  ·simp only [go_sem,↓reduceIte,Nat.reduceEqDiff,Nat.reduceAdd,reduceCtorEq]
  ·simp only [sub,List.all_cons,List.all_nil,go_sem,↓reduceIte,Nat.reduceEqDiff,Nat.reduceAdd,reduceCtorEq]
   rw [tk1,tk2,tk3,F7,F7,F7,← hM]
  refine RN ?_
  rw [hc4]
  refine Aj (α:=Nat×List Int) (S:=fun o=>([(0,.ref 0 0),(4,.ref 1 0),(10,Ae Mv),(11,.sl 2 1 0 n),(12,.sl 3 1 0 (4*e)),(13,i64 (o.1:Int))],[some (Ax bs a' h'),some [Af],some (Aa O),some (Aa o.2)])) (C:=fun o=>o.1≤n∧o.2.length=4*e∧∀ j,j<4*e→0≤o.2.getD j 0∧o.2.getD j 0<n) (μ:=fun o=>n - o.1) (0,List.replicate (4*e) 0) ⟨Nat.zero_le _,by simp,fun j hj=>by simp [hj];omega⟩ (Ref.to1) ?_
  rintro ⟨i,x⟩ ⟨d1,d2,d3⟩
  dsimp only at d1 d2 d3 ⊢
  refine RN ?_
  refine ⟨fun hc5=>?_,fun hc5=>?_⟩
  ·obtain ⟨a1,a2⟩:=hat i (by omega)
   have hsx:=jQ (k:=(O.getD i 0).toNat) (v:=(i:Int)) d3 d2 (by omega)
   refine RN ?_
   exact ⟨(i+1,_),⟨by dsimp only;omega,by simp [d2],hsx⟩,by dsimp only;omega,Ref.to1⟩
  obtain rfl:i=n:=by omega
  refine RN ?_
  refine Aj (α:=Nat×List (List Int)) (S:=fun o=>([(4,.ref 1 0),(10,Ae Mv),(11,.sl 2 1 0 i),(12,.sl 3 1 0 (4*e)),(14,.ref 4 0),(15,i64 (o.1:Int))],[some (Ax bs a' h'),some [Af],some (Aa O),some (Aa x),some [.sl 5 1 0 o.1],some (o.2.map Ad)])) (C:=fun o=>o.1≤3∧o.2.length=o.1∧Dy i o.2) (μ:=fun o=>3 - o.1) (0,[]) ⟨Nat.zero_le _,rfl,fun k hk=>absurd hk (by simp)⟩ ((Ref.nilC 4 0 1 rfl rfl).trans (Ref.to1)) ?_
  rintro ⟨k,L⟩ ⟨m1,m2,m3⟩
  dsimp only at m1 m2 m3 ⊢
  refine RN ?_
  refine ⟨fun hc6=>?_,fun hc6=>?_⟩
  ·have hrow:=hRs k (by omega)
   have hrl:=hrow.1
   refine RN ?_
   refine Aj (α:=Nat×List Int) (S:=fun o=>([(4,.ref 1 0),(10,Ae Mv),(11,.sl 2 1 0 i),(12,.sl 3 1 0 (4*e)),(14,.ref 4 0),(15,i64 (k:Int)),(16,.sl 6 1 0 o.1),(17,i64 (o.1:Int))],[some (Ax bs a' h'),some [Af],some (Aa O),some (Aa x),some [.sl 5 1 0 k],some (L.map Ad),some (Aa o.2)])) (C:=fun o=>o.1≤i∧o.2.length=o.1∧∀ j,j<o.1→0≤o.2.getD j 0∧o.2.getD j 0<i) (μ:=fun o=>i - o.1) (0,[]) ⟨Nat.zero_le _,rfl,fun j hj=>absurd hj (by simp)⟩ (Ref.to1) ?_
   rintro ⟨f,y⟩ ⟨r1,r2,r3⟩
   dsimp only at r1 r2 r3 ⊢
   refine RN ?_
   refine ⟨fun hc7=>?_,fun hc7=>?_⟩
   ·obtain ⟨a1,a2⟩:=hat f (by omega)
    have b1:=hrow.2 (O.getD f 0).toNat (by omega)
    have b2:=d3 ((Mv.getD k []).getD (O.getD f 0).toNat 0).toNat (by omega)
    refine RN ?_
    refine ⟨(f+1,y++[x.getD ((Mv.getD k []).getD (O.getD f 0).toNat 0).toNat 0]),⟨by dsimp only;omega,by simp [r2],L9 r3 r2 b2⟩,by dsimp only;omega,?_⟩
    have tk1:(Aa y).take f=Aa y:=List.take_of_length_le (by rw [B4];omega)
    refine Ref.gc [0,1,2,3,4,5,8] rfl ?_ (by simp [sub,Ab,go_sem,↓reduceIte,Nat.reduceEqDiff,Nat.reduceAdd,reduceCtorEq])
    simp only [go_sem,↓reduceIte,Nat.reduceEqDiff,Nat.reduceAdd,reduceCtorEq]
    rw [tk1,De]
    simp [Aa]
   obtain rfl:f=i:=by omega
   refine RN ?_
   refine ⟨(k+1,L++[y]),⟨by dsimp only;omega,by simp [m2],Ul m3 ⟨r2,r3⟩⟩,by dsimp only;omega,?_⟩
   refine (Ref.row 8 6 (L:=L) rfl m2 rfl r2 (by decide)).trans ?_
   exact Ref.gc1 [0,1,2,3,4,8]
  obtain rfl:k=3:=by omega
  refine RN ?_
  exact ⟨(a', h', i,L),⟨h1,hV1,by dsimp only;omega,m2,m3⟩,Ref.gc1 [0,5]⟩
end Go.Proofs.YtcneanpkpmfaiaaGreat
namespace Go.Gov
variable {P:Program} {N:Nat} {F:Frame} {H:Heap} {M:List Nat} {n0:Nat}
theorem N8 {x z:ACode}{Q:Exit→Frame→Heap→Prop}{α:Type}(C:α→Prop)(F1:α→Frame)(H1:α→Heap)(hx:W P M N n0 x (Dx (fun F' H' => ∃ o,C o∧Ref n0 F' H' (F1 o) (H1 o)) Q) F H)(hn:∀ o,C o→W P M N n0 z Q (F1 o) (H1 o)):W P M N n0 x (Dx (W P M N n0 z Q) Q) F H:=
 Vc hx fun e F' H' h=>by
  cases e with
  | normal=>obtain ⟨o,ho,hr⟩:=h;exact Df hr (hn o ho)
  | _=>exact h
end Go.Gov
namespace Go.Proofs.YtcneanpkpmfaiaaGreat
section
open Go.Gov Go.Ce
open Classical
theorem Qf:Dy 2 [[1,0]]:=fun k hk=>by
 obtain rfl:k=0:=by simp at hk;omega
 refine ⟨rfl,fun j hj=>?_⟩
 match j,hj with
 | 0,_=>decide
 | 1,_=>decide
theorem oZ (bs : List Int) (hb : Ec bs) (a : Nat) (h : Int) (hs : a ≤ bs.length) (most : Nat) (hm1 : 8 ≤ most) (hm2 : most ≤ 1000) :
    Dg Tryz.prog 107 [.ref 0 0,i64 (most:Int)] [some (Ax bs a h)] (fun o:Nat×Int×Nat×List (List Int)=>o.1≤bs.length∧1≤o.2.2.1∧o.2.2.1≤most∧1≤o.2.2.2.length∧o.2.2.2.length≤5∧Dy o.2.2.1 o.2.2.2) (fun o=>.agg [.sl 1 1 0 o.2.2.2.length]) (fun o=>[some (Ax bs o.1 o.2.1),some (o.2.2.2.map Ad)]):=by
 refine Fq uR rfl ?_;unfold Vs
 refine RN ?_
 refine Bb (B7 bs hb a h hs 7) [0] (by first | rfl | simp) (by simp only [go_sem,↓reduceIte,Nat.reduceEqDiff,Nat.reduceAdd,reduceCtorEq]<;>rfl) (by simp only [go_sem,↓reduceIte,Nat.reduceEqDiff,Nat.reduceAdd,reduceCtorEq]<;>rfl) fun o ho=>?_
 obtain ⟨a1,b1,k⟩:=o
 obtain ⟨h1,h2,h3⟩:=ho
 dsimp only at h1 h2 h3
 obtain ⟨k,rfl⟩:=Int.eq_ofNat_of_zero_le h2
 simp only [go_sem,↓reduceIte,Nat.reduceEqDiff,Nat.reduceAdd,reduceCtorEq]
 have eq2:(most:Int).tdiv 2=((most / 2:Nat):Int):=by rw [Int.tdiv_eq_ediv_of_nonneg (by omega)];rfl
 have eq4:(most:Int).tdiv 4=((most / 4:Nat):Int):=by rw [Int.tdiv_eq_ediv_of_nonneg (by omega)];rfl
 have hcl:Ref 1 [(13,AV.val (Value.int IntKind.i64 k)),(6,AV.ref 5 0),(5,AV.ref 4 0),(4,AV.ref 1 0),(0,AV.ref 0 0),(1,i64 most)]
  [some (Ax bs a1 b1),some [Af],some (Aa [1,0]),some [AV.sl 2 1 0 2],some [AV.sl 3 1 0 1],some [AV.sl 3 1 0 1]]
  [(13,AV.val (Value.int IntKind.i64 k)),(6,AV.ref 4 0),(5,AV.ref 3 0),(4,AV.ref 1 0),(0,AV.ref 0 0),(1,i64 most)]
  [some (Ax bs a1 b1),some [Af],some ([[1,0]].map Ad),some [AV.sl 2 1 0 1],some [AV.sl 2 1 0 1]]:=by
  refine (Ref.close 3 0 2 (k:=1) (n:=2) (cs2:=Aa [1,0]) rfl rfl rfl (by decide) rfl).trans ?_
  exact Ref.gc2 [0,1,3,4,5]
 refine Df ((Ref.to1).trans hcl) ?_
 refine N8 (fun o:Nat×Int×Nat×List (List Int)=>o.1≤bs.length∧1≤o.2.2.1∧o.2.2.1≤most∧1≤o.2.2.2.length∧o.2.2.2.length≤5∧Dy o.2.2.1 o.2.2.2) (fun o=>[(0,.ref 0 0),(1,i64 (most:Int)),(4,.ref 1 0),(5,.ref 3 0),(6,.ref 4 0)]) (fun o=>[some (Ax bs o.1 o.2.1),some [Af],some ([[1,0]].map Ad),some [.sl 2 1 0 1],some [.sl 5 1 0 o.2.2.2.length],some (o.2.2.2.map Ad)]) ?_ ?_
 ·(refine RN ?_;try with_reducible exact trivial)
  simp only [eq2,eq4]
  refine ⟨fun c0=>?_,fun c0=>?_⟩
  ·(refine RN ?_;try with_reducible exact trivial)
   (try simp only [eq2,eq4])
   refine Bb (B7 bs hb a1 b1 h1 ((most / 2:Nat):Int)) [0] (by first | rfl | simp) (by simp only [go_sem,↓reduceIte,Nat.reduceEqDiff,Nat.reduceAdd,reduceCtorEq]<;>rfl) (by simp only [go_sem,↓reduceIte,Nat.reduceEqDiff,Nat.reduceAdd,reduceCtorEq]<;>rfl) fun o ho=>?_
   obtain ⟨a2,b2,p⟩:=o
   obtain ⟨q1,q2,q3⟩:=ho
   dsimp only at q1 q2 q3
   obtain ⟨p,rfl⟩:=Int.eq_ofNat_of_zero_le q2
   have hp:=K8 (1+p) (by omega) (by omega)
   rw [show ((1+p:Nat):Int)=1+(p:Int) from by omega] at hp
   refine RN ?_
   refine Bx (hp) (by simp only [go_sem,↓reduceIte,Nat.reduceEqDiff,Nat.reduceAdd,reduceCtorEq]<;>rfl) (fun o=>by first | rfl | simp only [go_sem,↓reduceIte,Nat.reduceEqDiff,Nat.reduceAdd,reduceCtorEq]) fun o ho=>?_
   obtain ⟨o1,o2⟩:=ho
   refine RN ?_
   exact ⟨(a2,b2,2*(1+p),o),⟨q1,by dsimp only;omega,by dsimp only;omega,by dsimp only;omega,by dsimp only;omega,o2⟩,Ref.to (by simp [o1]) (by simp [sub,Ab])⟩
  ·(refine RN ?_;try with_reducible exact trivial)
   refine ⟨fun c1=>?_,fun c1=>?_⟩
   ·(refine RN ?_;try with_reducible exact trivial)
    refine ⟨(a1,b1,2,[[1,0]]),⟨h1,by dsimp only;omega,by dsimp only;omega,by simp,by simp,Qf⟩,?_⟩
    exact Ref.gc2 [0,2]
   ·(refine RN ?_;try with_reducible exact trivial)
    refine ⟨fun c2=>?_,fun c2=>?_⟩
    ·(refine RN ?_;try with_reducible exact trivial)
     (try simp only [eq2,eq4])
     refine Bb (B7 bs hb a1 b1 h1 ((most / 4:Nat):Int)) [0] (by first | rfl | simp) (by simp only [go_sem,↓reduceIte,Nat.reduceEqDiff,Nat.reduceAdd,reduceCtorEq]<;>rfl) (by simp only [go_sem,↓reduceIte,Nat.reduceEqDiff,Nat.reduceAdd,reduceCtorEq]<;>rfl) fun o ho=>?_
     obtain ⟨a2,b2,p⟩:=o
     obtain ⟨q1,q2,q3⟩:=ho
     dsimp only at q1 q2 q3
     obtain ⟨p,rfl⟩:=Int.eq_ofNat_of_zero_le q2
     have hp:=K8 (1+p) (by omega) (by omega)
     rw [show ((1+p:Nat):Int)=1+(p:Int) from by omega] at hp
     refine RN ?_
     refine Bx (hp) (by simp only [go_sem,↓reduceIte,Nat.reduceEqDiff,Nat.reduceAdd,reduceCtorEq]<;>rfl) (fun o=>by first | rfl | simp only [go_sem,↓reduceIte,Nat.reduceEqDiff,Nat.reduceAdd,reduceCtorEq]) fun o ho=>?_
     obtain ⟨o1,o2⟩:=ho
     have hbe:=M4 (2*(1+p)) 2 (by omega) (by omega) (by omega) o [[1,0]] o2 Qf (by omega) (by decide)
     refine RN ?_
     refine Bx hbe (by simp only [go_sem,↓reduceIte,Nat.reduceEqDiff,Nat.reduceAdd,reduceCtorEq,C1 _ _ o 2 o1]<;>first | done | (simp only [Bw,Ae,o1]<;>rfl)) (fun o=>by first | rfl | simp only [go_sem,↓reduceIte,Nat.reduceEqDiff,Nat.reduceAdd,reduceCtorEq]) fun o' ho' => ?_
     obtain ⟨o3,o4⟩:=ho'
     have o5:o'.length=3:=by rw [o3,o1];rfl
     refine RN ?_
     exact ⟨(a2,b2,2*(1+p)*2,o'),⟨q1,by dsimp only;omega,by dsimp only;omega,by dsimp only;omega,by dsimp only;omega,o4⟩,Ref.gc2 [0,1,2,3,4,6]⟩
    ·(refine RN ?_;try with_reducible exact trivial)
     refine ⟨fun c3=>?_,fun c3=>?_⟩
     ·(refine RN ?_;try with_reducible exact trivial)
      refine Bb (B7 bs hb a1 b1 h1 4) [0] (by first | rfl | simp) (by simp only [go_sem,↓reduceIte,Nat.reduceEqDiff,Nat.reduceAdd,reduceCtorEq]<;>rfl) (by simp only [go_sem,↓reduceIte,Nat.reduceEqDiff,Nat.reduceAdd,reduceCtorEq]<;>rfl) fun o ho=>?_
      obtain ⟨a2,b2,p⟩:=o
      obtain ⟨q1,q2,q3⟩:=ho
      dsimp only at q1 q2 q3
      obtain ⟨p,rfl⟩:=Int.eq_ofNat_of_zero_le q2
      refine RN ?_
      refine ⟨fun hbig=>?_,fun hbig=>?_⟩
      ·have hp:=K8 2 (by omega) (by omega)
       rw [show ((2:Nat):Int)=2 from rfl] at hp
       have eq5:(most:Int).tdiv (4*2)=((most / 8:Nat):Int):=by rw [Int.tdiv_eq_ediv_of_nonneg (by omega)];rfl
       have hD:8*(most / 8)≤most:=Nat.mul_div_le _ _
       have hD1:1≤most / 8:=by omega
       generalize most / 8=D at eq5 hD hD1
       refine RN ?_
       refine Bx (hp) (by simp only [go_sem,↓reduceIte,Nat.reduceEqDiff,Nat.reduceAdd,reduceCtorEq]<;>rfl) (fun o=>by first | rfl | simp only [go_sem,↓reduceIte,Nat.reduceEqDiff,Nat.reduceAdd,reduceCtorEq]) fun o ho=>?_
       obtain ⟨o1,o2⟩:=ho
       simp only [go_sem,↓reduceIte,Nat.reduceEqDiff,Nat.reduceAdd,reduceCtorEq,eq5]
       refine RN ?_
       refine Bb (B7 bs hb a2 b2 q1 (D:Int)) [0] (by first | rfl | simp) (by simp only [go_sem,↓reduceIte,Nat.reduceEqDiff,Nat.reduceAdd,reduceCtorEq]<;>rfl) (by simp only [go_sem,↓reduceIte,Nat.reduceEqDiff,Nat.reduceAdd,reduceCtorEq]<;>rfl) fun o' ho' => ?_
       obtain ⟨a3,b3,r⟩:=o'
       obtain ⟨y1,y2,y3⟩:=ho'
       dsimp only at y1 y2 y3
       obtain ⟨r,rfl⟩:=Int.eq_ofNat_of_zero_le y2
       have hrD:8*(1+r)≤most:=Nat.le_trans (Nat.mul_le_mul_left _ (by omega)) hD
       have hrr:2*2*(2*(1+r))=8*(1+r):=by omega
       have hp2:=K8 (1+r) (by omega) (by
        have:1+r≤8*(1+r):=Nat.le_mul_of_pos_left _ (by omega)
        omega)
       rw [show ((1+r:Nat):Int)=1+(r:Int) from by omega] at hp2
       have hr1:1+r≤8*(1+r):=Nat.le_mul_of_pos_left _ (by omega)
       refine RN ?_
       refine Bx hp2 (by simp only [go_sem,↓reduceIte,Nat.reduceEqDiff,Nat.reduceAdd,reduceCtorEq]<;>rfl) (fun o=>by first | rfl | simp only [go_sem,↓reduceIte,Nat.reduceEqDiff,Nat.reduceAdd,reduceCtorEq]) fun o' ho' => ?_
       obtain ⟨o3,o4⟩:=ho'
       have hbe:=M4 (2*2) (2*(1+r)) (by omega) (by omega) (by omega) o o' o2 o4 (by omega) (by omega)
       refine RN ?_
       refine Bx hbe (by simp only [go_sem,↓reduceIte,Nat.reduceEqDiff,Nat.reduceAdd,reduceCtorEq,C1 _ _ o 2 o1,C1 _ _ o' 2 o3]<;>first | done | (simp only [Bw,Ae,o1,o3]<;>rfl)) (fun o=>by first | rfl | simp only [go_sem,↓reduceIte,Nat.reduceEqDiff,Nat.reduceAdd,reduceCtorEq]) fun o2' ho2' => ?_
       obtain ⟨o5,o6⟩:=ho2'
       have o7:o2'.length=4:=by rw [o5,o1,o3]
       refine RN ?_
       exact ⟨(a3,b3,2*2*(2*(1+r)),o2'),⟨y1,by dsimp only;omega,by dsimp only;omega,by dsimp only;omega,by dsimp only;omega,o6⟩,Ref.gc2 [0,1,2,3,4,7]⟩
      ·have hp:=K8 (1+p) (by omega) (by omega)
       rw [show ((1+p:Nat):Int)=1+(p:Int) from by omega] at hp
       have eq5:(most:Int).tdiv (4*(1+(p:Int)))=((most / (4*(1+p)):Nat):Int):=by
        rw [Int.tdiv_eq_ediv_of_nonneg (by omega)]
        have:(4*(1+(p:Int)))=((4*(1+p):Nat):Int):=by omega
        rw [this];rfl
       have hD:(4*(1+p))*(most / (4*(1+p)))≤most:=Nat.mul_div_le _ _
       have hp4:4*(1+p)≤most:=by omega
       have hD1:1≤most / (4*(1+p)):=(Nat.le_div_iff_mul_le (by omega)).2 (by omega)
       generalize most / (4*(1+p))=D at eq5 hD hD1
       refine RN ?_
       refine Bx (hp) (by simp only [go_sem,↓reduceIte,Nat.reduceEqDiff,Nat.reduceAdd,reduceCtorEq]<;>rfl) (fun o=>by first | rfl | simp only [go_sem,↓reduceIte,Nat.reduceEqDiff,Nat.reduceAdd,reduceCtorEq]) fun o ho=>?_
       obtain ⟨o1,o2⟩:=ho
       simp only [go_sem,↓reduceIte,Nat.reduceEqDiff,Nat.reduceAdd,reduceCtorEq,eq5]
       refine RN ?_
       refine Bb (B7 bs hb a2 b2 q1 (D:Int)) [0] (by first | rfl | simp) (by simp only [go_sem,↓reduceIte,Nat.reduceEqDiff,Nat.reduceAdd,reduceCtorEq]<;>rfl) (by simp only [go_sem,↓reduceIte,Nat.reduceEqDiff,Nat.reduceAdd,reduceCtorEq]<;>rfl) fun o' ho' => ?_
       obtain ⟨a3,b3,r⟩:=o'
       obtain ⟨y1,y2,y3⟩:=ho'
       dsimp only at y1 y2 y3
       obtain ⟨r,rfl⟩:=Int.eq_ofNat_of_zero_le y2
       have hrD:(4*(1+p))*(1+r)≤most:=Nat.le_trans (Nat.mul_le_mul_left _ (by omega)) hD
       have hrr:2*(1+p)*(2*(1+r))=(4*(1+p))*(1+r):=by
        rw [show 2*(1+p)*(2*(1+r))=(2*(1+p)*2)*(1+r) by rw [Nat.mul_assoc,Nat.mul_assoc,Nat.mul_assoc]]
        congr 1
        omega
       have hp2:=K8 (1+r) (by omega) (by
        have:1+r≤(4*(1+p))*(1+r):=Nat.le_mul_of_pos_left _ (by omega)
        omega)
       rw [show ((1+r:Nat):Int)=1+(r:Int) from by omega] at hp2
       have hr1:1+r≤(4*(1+p))*(1+r):=Nat.le_mul_of_pos_left _ (by omega)
       refine RN ?_
       refine Bx hp2 (by simp only [go_sem,↓reduceIte,Nat.reduceEqDiff,Nat.reduceAdd,reduceCtorEq]<;>rfl) (fun o=>by first | rfl | simp only [go_sem,↓reduceIte,Nat.reduceEqDiff,Nat.reduceAdd,reduceCtorEq]) fun o' ho' => ?_
       obtain ⟨o3,o4⟩:=ho'
       have hbe:=M4 (2*(1+p)) (2*(1+r)) (by omega) (by omega) (by omega) o o' o2 o4 (by omega) (by omega)
       refine RN ?_
       refine Bx hbe (by simp only [go_sem,↓reduceIte,Nat.reduceEqDiff,Nat.reduceAdd,reduceCtorEq,C1 _ _ o 2 o1,C1 _ _ o' 2 o3]<;>first | done | (simp only [Bw,Ae,o1,o3]<;>rfl)) (fun o=>by first | rfl | simp only [go_sem,↓reduceIte,Nat.reduceEqDiff,Nat.reduceAdd,reduceCtorEq]) fun o2' ho2' => ?_
       obtain ⟨o5,o6⟩:=ho2'
       have o7:o2'.length=4:=by rw [o5,o1,o3]
       refine RN ?_
       exact ⟨(a3,b3,2*(1+p)*(2*(1+r)),o2'),⟨y1,by dsimp only;omega,by dsimp only;omega,by dsimp only;omega,by dsimp only;omega,o6⟩,Ref.gc2 [0,1,2,3,4,7]⟩
     ·(refine RN ?_;try with_reducible exact trivial)
      (try simp only [eq2,eq4])
      refine Bb (B7 bs hb a1 b1 h1 ((most / 4:Nat):Int)) [0] (by first | rfl | simp) (by simp only [go_sem,↓reduceIte,Nat.reduceEqDiff,Nat.reduceAdd,reduceCtorEq]<;>rfl) (by simp only [go_sem,↓reduceIte,Nat.reduceEqDiff,Nat.reduceAdd,reduceCtorEq]<;>rfl) fun o ho=>?_
      obtain ⟨a2,b2,p⟩:=o
      obtain ⟨q1,q2,q3⟩:=ho
      dsimp only at q1 q2 q3
      obtain ⟨p,rfl⟩:=Int.eq_ofNat_of_zero_le q2
      have hp:=pD bs hb a2 b2 q1 (1+p) (by omega) (by omega)
      rw [show ((1+p:Nat):Int)=1+(p:Int) from by omega] at hp
      refine RN ?_
      refine Bb (hp) [0] (by first | rfl | simp) (by simp only [go_sem,↓reduceIte,Nat.reduceEqDiff,Nat.reduceAdd,reduceCtorEq]<;>rfl) (by simp only [go_sem,↓reduceIte,Nat.reduceEqDiff,Nat.reduceAdd,reduceCtorEq]<;>rfl) fun o ho=>?_
      obtain ⟨a3,b3,n,L⟩:=o
      obtain ⟨t1,t2,t3,t4,t5⟩:=ho
      dsimp only at t1 t2 t3 t4 t5 ⊢
      refine RN ?_
      exact ⟨(a3,b3,n,L),⟨t1,t2,by dsimp only;omega,by dsimp only;omega,by dsimp only;omega,t5⟩,Ref.to (by simp [t4]) (by simp [sub,Ab])⟩
 ·rintro ⟨a2,b2,n,L⟩ ⟨g1,g2,g3,g4,g5,g6⟩
  dsimp only at g1 g2 g3 g4 g5 g6 ⊢
  refine RN ?_
  refine Aj (α:=Nat×Int×Nat×List (List Int)) (S:=fun o=>([(0,.ref 0 0),(1,i64 (most:Int)),(4,.ref 1 0),(5,.ref 3 0),(6,.ref 4 0)],[some (Ax bs o.1 o.2.1),some [Af],some [Ad [1,0]],some [.sl 2 1 0 1],some [.sl 5 1 0 o.2.2.2.length],some (o.2.2.2.map Ad)])) (C:=fun o=>o.1≤bs.length∧1≤o.2.2.1∧o.2.2.1≤most∧1≤o.2.2.2.length∧o.2.2.2.length≤5∧Dy o.2.2.1 o.2.2.2) (μ:=fun o=>5 - o.2.2.2.length) (a2,b2,n,L) ⟨g1,g2,g3,g4,g5,g6⟩ (Ref.to1) ?_
  clear g1 g2 g3 g4 g5 g6
  clear a2 b2 n L
  rintro ⟨a2,b2,n,L⟩ ⟨g1,g2,g3,g4,g5,g6⟩
  dsimp only at g1 g2 g3 g4 g5 g6 ⊢
  have hfl:=Jw L (by omega) (by omega) (by rw [(g6 0 (by omega)).1];omega)
  rw [(g6 0 (by omega)).1] at hfl
  by_cases hA:L.length<5
  ·have pA:((L.length:Int)<5)=True:=eq_true (by omega)
   have dA:decide ((L.length:Int)<5)=true:=decide_eq_true (by omega)
   by_cases hB:n*2≤most
   ·have pB:((n:Int)*2≤most)=True:=eq_true (by omega)
    have dB:decide ((n:Int)*2≤most)=true:=decide_eq_true (by omega)
    refine RN ?_
    rw [dA]
    refine GCall.on rfl ⟨by first | trivial | omega | simp,?_⟩
    refine Bn hfl (by simp only [go_sem,↓reduceIte,Nat.reduceEqDiff,Nat.reduceAdd,reduceCtorEq,C1 _ _ L L.length rfl]<;>first | done | (simp only [Bw,Ae]<;>rfl)) (by first | rfl | simp only [go_sem,↓reduceIte,Nat.reduceEqDiff,Nat.reduceAdd,reduceCtorEq]) ?_
    simp only [go_sem,↓reduceIte,Nat.reduceEqDiff,Nat.reduceAdd,reduceCtorEq,pA,pB,dA,dB,true_implies]
    refine RN ?_
    refine GCall.on rfl ?_
    refine Bb (B7 bs hb a2 b2 g1 3) [0] (by first | rfl | simp) (by simp only [go_sem,↓reduceIte,Nat.reduceEqDiff,Nat.reduceAdd,reduceCtorEq]<;>rfl) (by simp only [go_sem,↓reduceIte,Nat.reduceEqDiff,Nat.reduceAdd,reduceCtorEq]<;>rfl) fun o ho=>?_
    obtain ⟨a3,b3,r⟩:=o
    obtain ⟨y1,y2,y3⟩:=ho
    dsimp only at y1 y2 y3
    simp only [go_sem,↓reduceIte,Nat.reduceEqDiff,Nat.reduceAdd,reduceCtorEq,pA,pB,dA,dB,true_implies]
    refine RN ?_
    refine ⟨fun c6=>?_,fun c6=>?_⟩
    ·have hb1:=M4 n 2 g2 (by decide) (by omega) L [[1,0]] g6 Qf (by omega) (by decide)
     have hb2:=M4 2 n (by decide) g2 (by omega) [[1,0]] L Qf g6 (by decide) (by omega)
     refine RN ?_
     refine Bb (B7 bs hb a3 b3 y1 2) [0] (by first | rfl | simp) (by simp only [go_sem,↓reduceIte,Nat.reduceEqDiff,Nat.reduceAdd,reduceCtorEq]<;>rfl) (by simp only [go_sem,↓reduceIte,Nat.reduceEqDiff,Nat.reduceAdd,reduceCtorEq]<;>rfl) fun o ho=>?_
     obtain ⟨a4,b4,r2⟩:=o
     obtain ⟨z1,z2,z3⟩:=ho
     dsimp only at z1 z2 z3
     refine RN ?_
     refine ⟨fun c7=>?_,fun c7=>?_⟩
     ·(refine RN ?_;try with_reducible exact trivial)
      refine Bx hb1 (by simp only [go_sem,↓reduceIte,Nat.reduceEqDiff,Nat.reduceAdd,reduceCtorEq,C1 _ _ L L.length rfl]<;>first | done | (simp only [Bw,Ae]<;>rfl)) (fun o=>by first | rfl | simp only [go_sem,↓reduceIte,Nat.reduceEqDiff,Nat.reduceAdd,reduceCtorEq]) fun o' ho' => ?_
      obtain ⟨o3,o4⟩:=ho'
      have o5:o'.length=L.length+1:=o3
      refine RN ?_
      exact ⟨(a4,b4,n*2,o'),⟨z1,by dsimp only;omega,by dsimp only;omega,by dsimp only;omega,by dsimp only;omega,o4⟩,by dsimp only;omega,Ref.gc2 [0,1,2,3,4,6]⟩
     ·(refine RN ?_;try with_reducible exact trivial)
      refine Bx hb2 (by simp only [go_sem,↓reduceIte,Nat.reduceEqDiff,Nat.reduceAdd,reduceCtorEq,C1 _ _ L L.length rfl]<;>first | done | (simp only [Bw,Ae]<;>rfl)) (fun o=>by first | rfl | simp only [go_sem,↓reduceIte,Nat.reduceEqDiff,Nat.reduceAdd,reduceCtorEq]) fun o' ho' => ?_
      obtain ⟨o3,o4⟩:=ho'
      have o5:o'.length=1+L.length:=o3
      refine RN ?_
      exact ⟨(a4,b4,2*n,o'),⟨z1,by dsimp only;omega,by dsimp only;omega,by dsimp only;omega,by dsimp only;omega,o4⟩,by dsimp only;omega,Ref.gc2 [0,1,2,3,4,6]⟩
    ·(refine RN ?_;try with_reducible exact trivial)
     exact ⟨(a3,b3,n,L),⟨y1,g2,g3,g4,g5,g6⟩,Ref.gc1 [0,5]⟩
   ·have nB:((n:Int)*2≤most)=False:=eq_false (by omega)
    have dB:decide ((n:Int)*2≤most)=false:=decide_eq_false (by omega)
    refine RN ?_
    rw [dA]
    refine GCall.on rfl ⟨by first | trivial | omega | simp,?_⟩
    refine Bn hfl (by simp only [go_sem,↓reduceIte,Nat.reduceEqDiff,Nat.reduceAdd,reduceCtorEq,C1 _ _ L L.length rfl]<;>first | done | (simp only [Bw,Ae]<;>rfl)) (by first | rfl | simp only [go_sem,↓reduceIte,Nat.reduceEqDiff,Nat.reduceAdd,reduceCtorEq]) ?_
    simp only [go_sem,↓reduceIte,Nat.reduceEqDiff,Nat.reduceAdd,reduceCtorEq,pA,nB,dA,dB,true_implies]
    refine RN ?_
    refine Av (i64 0) rfl ?_
    simp only [go_sem,↓reduceIte,Nat.reduceEqDiff,Nat.reduceAdd,reduceCtorEq,pA,nB,dA,dB,true_implies,false_implies]
    refine RN ?_
    exact ⟨(a2,b2,n,L),⟨g1,g2,g3,g4,g5,g6⟩,Ref.gc1 [0,5]⟩
  ·have dA:decide ((L.length:Int)<5)=false:=decide_eq_false (by omega)
   refine RN ?_
   rw [dA]
   refine Av (i64 0) rfl ?_
   have nA:((L.length:Int)<5)=False:=eq_false (by omega)
   simp only [go_sem,↓reduceIte,Nat.reduceEqDiff,Nat.reduceAdd,reduceCtorEq,nA,dA,false_implies]
   refine RN ?_
   refine Av (i64 0) rfl ?_
   simp only [go_sem,↓reduceIte,Nat.reduceEqDiff,Nat.reduceAdd,reduceCtorEq,nA,dA,false_implies]
   refine RN ?_
   exact ⟨(a2,b2,n,L),⟨g1,g2,g3,g4,g5,g6⟩,Ref.gc1 [0,5]⟩
end
section
open Go.Gov Go.Ce
open Classical
theorem Th (bs : List Int) (hb : Ec bs) (a : Nat) (h : Int) (hs : a ≤ bs.length) (w : List Int) (hw : w.length ≤ 1048576) (hw1 : 1 ≤ w.length) :
    Dg Tryz.prog 45 [.ref 0 0,.sl 1 1 0 w.length] [some (Ax bs a h),some (Aa w)] (fun o:Nat×Int×Nat=>o.1≤bs.length∧o.2.2<w.length) (fun o=>i64 (w.getD o.2.2 0)) (fun o=>[some (Ax bs o.1 o.2.1),some (Aa w)]):=by
 refine Fq wQ rfl ?_;unfold W5
 refine RN ?_
 refine Bb (B7 bs hb a h hs (w.length:Int)) [0] (by first | rfl | simp) (by simp only [go_sem,↓reduceIte,Nat.reduceEqDiff,Nat.reduceAdd,reduceCtorEq]<;>rfl) (by simp only [go_sem,↓reduceIte,Nat.reduceEqDiff,Nat.reduceAdd,reduceCtorEq]<;>rfl) fun o ho=>?_
 obtain ⟨a', h', k⟩:=o
 obtain ⟨h1,h2,h3⟩:=ho
 dsimp only at h1 h2 h3
 obtain ⟨k,rfl⟩:=Int.eq_ofNat_of_zero_le h2
 have hk:k<w.length:=by omega
 refine RN ?_
 exact ⟨(a', h', k),⟨h1,hk⟩,Ref.gc2 [0,1]⟩
theorem Ti (bs : List Int) (hb : Ec bs) (a : Nat) (h : Int) (hs : a ≤ bs.length) (most : Nat) (hm1 : 8 ≤ most) (hm2 : most ≤ 1000) :
    Dg Tryz.prog 72 [.ref 0 0,i64 (most:Int)] [some (Ax bs a h)] (fun o:Nat×Int×Nat×List (List Int)=>o.1≤bs.length∧1≤o.2.2.1∧o.2.2.1≤most∧1≤o.2.2.2.length∧o.2.2.2.length≤5∧Dy o.2.2.1 o.2.2.2) (fun o=>.agg [.sl 1 1 0 o.2.2.2.length]) (fun o=>[some (Ax bs o.1 o.2.1),some (o.2.2.2.map Ad)]):=by
 refine Fq xM rfl ?_;unfold Xo
 refine RN ?_
 refine Bb (oZ bs hb a h hs most hm1 hm2) [0] (by first | rfl | simp) (by simp only [go_sem,↓reduceIte,Nat.reduceEqDiff,Nat.reduceAdd,reduceCtorEq]<;>rfl) (by simp only [go_sem,↓reduceIte,Nat.reduceEqDiff,Nat.reduceAdd,reduceCtorEq]<;>rfl) fun o ho=>?_
 obtain ⟨a1,b1,n,L⟩:=o
 obtain ⟨h1,h2,h3,h4,h5,h6⟩:=ho
 dsimp only at h1 h2 h3 h4 h5 h6 ⊢
 have hfl:=Jw L (by omega) (by omega) (by rw [(h6 0 (by omega)).1];omega)
 rw [(h6 0 (by omega)).1] at hfl
 refine RN ?_
 refine Bb (B7 bs hb a1 b1 h1 4) [0] (by first | rfl | simp) (by simp only [go_sem,↓reduceIte,Nat.reduceEqDiff,Nat.reduceAdd,reduceCtorEq]<;>rfl) (by simp only [go_sem,↓reduceIte,Nat.reduceEqDiff,Nat.reduceAdd,reduceCtorEq]<;>rfl) fun o ho=>?_
 obtain ⟨a2,b2,k⟩:=o
 obtain ⟨q1,q2,q3⟩:=ho
 dsimp only at q1 q2 q3
 have hdr:=Zo bs hb a2 b2 q1 n (by omega)
 have hrn:=fun p hp=>pF n (by omega) L h6 (by omega) p hp
 refine RN ?_
 refine ⟨fun c1=>?_,fun c1=>?_⟩
 ·refine Al ?_
  refine Ks (fun o:Nat×Int×List (List Int)=>o.1≤bs.length∧o.2.2.length=L.length∧Dy n o.2.2) (fun o=>[(4,.ref 1 0)]) (fun o=>[some (Ax bs o.1 o.2.1),some [.sl 2 1 0 o.2.2.length],some (o.2.2.map Ad)]) ?_ ?_
  ·repeat' first
     | simp only [go_sem,↓reduceIte,Nat.reduceEqDiff,Nat.reduceAdd,reduceCtorEq]
     | with_reducible refine Ar ?_
     | with_reducible refine Aq ?_
     | with_reducible exact As
     | with_reducible refine Ap ?_ ?_
     | (with_reducible refine And.intro ?_ ?_;focus first | assumption | omega | grind)
     | (refine Bn hfl ?_ ?_ ?_;(simp only [go_sem,↓reduceIte,Nat.reduceEqDiff,Nat.reduceAdd,reduceCtorEq,C1 _ _ L L.length rfl]<;>first | done | (simp only [Bw,Ae]<;>rfl));(focus first | rfl | simp only [go_sem,↓reduceIte,Nat.reduceEqDiff,Nat.reduceAdd,reduceCtorEq]))
     | refine Bb (hdr) [0] (by first | rfl | simp) (by simp only [go_sem,↓reduceIte,Nat.reduceEqDiff,Nat.reduceAdd,reduceCtorEq]<;>rfl) (by simp only [go_sem,↓reduceIte,Nat.reduceEqDiff,Nat.reduceAdd,reduceCtorEq]<;>rfl) fun o ho=>?_
   all_goals
    have htk:(Aa o.2.2).take n=Aa o.2.2:=List.take_of_length_le (by rw [B4,ho.2.1];exact Nat.le_refl _)
    have hin:Ac o.2.2 = .slc 1 n (Aa o.2.2):=by rw [Ac,ho.2.1]
    refine Bx (hrn o.2.2 ho.2) (by simp only [go_sem,↓reduceIte,Nat.reduceEqDiff,Nat.reduceAdd,reduceCtorEq,C1 _ _ L L.length rfl,htk,F7,hin]<;>first | done | (simp only [Bw,Ae]<;>rfl)) (fun o=>by first | rfl | simp only [go_sem,↓reduceIte,Nat.reduceEqDiff,Nat.reduceAdd,reduceCtorEq]) fun o' ho' => ?_
    (repeat' first | simp only [go_sem,↓reduceIte,Nat.reduceEqDiff,Nat.reduceAdd,reduceCtorEq] | with_reducible refine Ar ?_ | with_reducible refine Rb ?_ | with_reducible refine Aq ?_ | with_reducible exact As | with_reducible refine Ap ?_ ?_ | (with_reducible refine And.intro ?_ ?_;focus first | assumption | omega | grind))
    exact ⟨(o.1,o.2.1,o'),⟨ho.1,ho'.1,ho'.2⟩,Ref.gc2 [0,1,5]⟩
  ·rintro ⟨a3,b3,K⟩ ⟨g1,g2,g3⟩
   dsimp only at g1 g2 g3 ⊢
   refine RN ?_
   exact ⟨(a3,b3,n,K),⟨g1,h2,h3,by dsimp only;omega,by dsimp only;omega,g3⟩,Ref.gc1 [0,2]⟩
 ·(refine RN ?_;try with_reducible exact trivial)
  exact ⟨(a2,b2,n,L),⟨q1,h2,h3,h4,h5,h6⟩,Ref.gc1 [0,2]⟩
end
end Go.Proofs.YtcneanpkpmfaiaaGreat
namespace Go.Gov
variable {P:Program} {N:Nat} {F:Frame} {H:Heap} {M:List Nat} {n0:Nat}
theorem U8 {α:Type}(C:α→Prop)(F1:α→Frame)(H1:α→Heap){t:GT}{y:ACode}{id:Nat}{Q Q' : Exit→Frame→Heap→Prop}(hE:LT P false t (fun F' H' => ∃ o,C o∧Ref n0 F' H' (F1 o) (H1 o)) F H)(hy:∀ o,C o→W P M N n0 y Q (F1 o) (H1 o)):V P M N n0 (.alts t) (Hl id (Dx (W P M N n0 y Q) Q')) F H:=
 Kt (G0 (fun F' H' ⟨o,ho,h⟩=>Df h (hy o ho)) t false F H hE)
end Go.Gov
namespace Go.Proofs.YtcneanpkpmfaiaaGreat
open Go.Gov Go.Ce
open Classical
def Gd (most:Nat)(M:List (List Int)):Prop:=M.length≤6∧∀ p∈M,p.length≤most+1
end Go.Proofs.YtcneanpkpmfaiaaGreat
namespace Go.Gov
variable {P:Program} {N:Nat} {F:Frame} {H:Heap} {M:List Nat} {n0:Nat}
theorem Ref.nilA (j k:Nat)(h:Ab F j = .agg [Af]):Ref n0 F H ((j,.agg [.slc k 0 []]) :: F) H:=fun N g a w hR=>by
 refine ⟨g,⟨fun i=>?_,hR.hp,hR.size,hR.defers⟩,.refl hR.hp⟩
 simp only [Dk]
 by_cases e:j=i
 ·subst e
  rw [if_pos rfl]
  have h1:=hR.fr j
  rw [h] at h1
  generalize a.tmps.getD j undef=v at h1 ⊢
  cases h1 with
  | agg hl hr=>
   refine .agg (by simpa using hl) fun m hm=>?_
   obtain rfl:m=0:=by simp at hm;omega
   have h2:=hr 0 (by simp)
   simp only [List.getElem_cons_zero] at h2 ⊢
   rw [h2.val_inv.1]
   exact .slc0 (by unfold maxLen;omega)
 ·rw [if_neg e];exact hR.fr i
end Go.Gov
namespace Go.Proofs.YtcneanpkpmfaiaaGreat
section
open Go.Gov Go.Ce
open Classical
theorem rE (bs : List Int) (hb : Ec bs) (a : Nat) (h : Int) (hs : a ≤ bs.length) (most : Nat) (hm1 : 1 ≤ most) (hm2 : most ≤ 1000) :
    Dg Tryz.prog 90 [.ref 0 0,i64 (most:Int)] [some (Ax bs a h)] (fun o:Nat×Int×List Int=>o.1≤bs.length∧o.2.2.length≤2*most) (fun o=>.sl 1 1 0 o.2.2.length) (fun o=>[some (Ax bs o.1 o.2.1),some (Aa o.2.2)]):=by
 refine Fq xV rfl ?_;unfold Xw
 refine RN ?_
 have hmx:(if (1:Int)<(most:Int) then (most:Int) else 1)=most:=by split<;>omega
 (try simp only [hmx])
 refine Bb (B7 bs hb a h hs (most:Int)) [0] (by first | rfl | simp) (by simp only [go_sem,↓reduceIte,Nat.reduceEqDiff,Nat.reduceAdd,reduceCtorEq]<;>rfl) (by simp only [go_sem,↓reduceIte,Nat.reduceEqDiff,Nat.reduceAdd,reduceCtorEq]<;>rfl) fun o ho=>?_
 obtain ⟨a1,b1,p⟩:=o
 obtain ⟨q1,q2,q3⟩:=ho
 dsimp only at q1 q2 q3
 obtain ⟨p,rfl⟩:=Int.eq_ofNat_of_zero_le q2
 refine RN ?_
 refine Aj (α:=Nat×Int×List Int) (S:=fun o=>([(0,.ref 0 0),(5,i64 (2*(1+(p:Int)))),(6,.sl 1 1 0 o.2.2.length),(7,i64 (o.2.2.length:Int))],[some (Ax bs o.1 o.2.1),some (Aa o.2.2)])) (C:=fun o=>o.1≤bs.length∧o.2.2.length≤2*(1+p)) (μ:=fun o=>2*(1+p) - o.2.2.length) (a1,b1,[]) ⟨q1,Nat.zero_le _⟩ (Ref.to1) ?_
 rintro ⟨a2,b2,x⟩ ⟨h1,h2⟩
 dsimp only at h1 h2 ⊢
 refine RN ?_
 refine ⟨fun hc=>?_,fun hc=>?_⟩
 ·(refine RN ?_;try with_reducible exact trivial)
  refine Bb (B7 bs hb a2 b2 h1 ((x.length:Int)+1)) [0] (by first | rfl | simp) (by simp only [go_sem,↓reduceIte,Nat.reduceEqDiff,Nat.reduceAdd,reduceCtorEq]<;>rfl) (by simp only [go_sem,↓reduceIte,Nat.reduceEqDiff,Nat.reduceAdd,reduceCtorEq]<;>rfl) fun o ho=>?_
  obtain ⟨a3,b3,k⟩:=o
  obtain ⟨r1,r2,r3⟩:=ho
  dsimp only at r1 r2 r3
  obtain ⟨k,rfl⟩:=Int.eq_ofNat_of_zero_le r2
  refine RN ?_
  have e1:((x.length:Int) - k).toNat=x.length - k:=by omega
  have tk1:((Aa x).drop k).take (x.length - k)=Aa (x.drop k):=by rw [lV];exact List.take_of_length_le (by rw [B4,List.length_drop];exact Nat.le_refl _)
  simp only [e1,tk1,go_sem,↓reduceIte,Nat.reduceEqDiff,Nat.reduceAdd,reduceCtorEq]
  refine RN ?_
  have e2:((k:Int) - 0).toNat=k:=by omega
  have tk2:(Aa x).take k=Aa (x.take k):=eX x k
  have tk3:(i64 (x.length:Int) :: Aa (x.drop k)).take (1+(x.length - k))=Aa ((x.length:Int) :: x.drop k):=by
   rw [List.take_of_length_le (by simp [B4];omega)];simp [Aa]
  simp only [e2,tk2,tk3,go_sem,↓reduceIte,Nat.reduceEqDiff,Nat.reduceAdd,reduceCtorEq]
  refine RN ?_
  have hkx:k≤x.length:=by omega
  have hln:(x.take k++((x.length:Int) :: x.drop k)).length=x.length+1:=by simp;omega
  have tk4:(Aa (x.take k)).take k=Aa (x.take k):=List.take_of_length_le (by rw [B4];simp;omega)
  refine ⟨(a3,b3,x.take k++((x.length:Int) :: x.drop k)),⟨r1,by dsimp only;rw [hln];omega⟩,by dsimp only;rw [hln];omega,?_⟩
  dsimp only
  rw [hln]
  refine Ref.gc [0,6] rfl ?_ ?_
  ·simp only [go_sem,↓reduceIte,Nat.reduceEqDiff,Nat.reduceAdd,reduceCtorEq]
   rw [tk4,De,Gg]
  ·have e3:k+(1+(x.length - k))=x.length+1:=by omega
   simp [sub,Ab,go_sem,↓reduceIte,Nat.reduceEqDiff,Nat.reduceAdd,reduceCtorEq,e3]
 ·(refine RN ?_;try with_reducible exact trivial)
  exact ⟨(a2,b2,x),⟨h1,by dsimp only;omega⟩,Ref.gc1 [0,1]⟩
def U3 (r:List Int):Prop:=2≤r.length∧r.length%2=0∧r.length≤200∧IsPrm r
theorem oJ (r:List Int)(hl:r.length≤1048576):Pure Tryz.prog 122 [Ac r] (bl (decide (U3 r))) []:=by
 have hp:=Zr r (by omega)
 have e3:((r.length:Int)).tmod 2=((r.length%2:Nat):Int):=by rw [Int.tmod_eq_emod_of_nonneg (by omega)];rfl
 refine Bj vB rfl rfl ?_;unfold V2
 (refine RN ?_;try with_reducible exact trivial)
 (try simp only [e3,go_sem,↓reduceIte,Nat.reduceEqDiff,Nat.reduceAdd,reduceCtorEq])
 refine G1 (bl (decide (IsPrm r)) ) (fun hg =>  hp) ?_
 refine RN ?_
 congr 2
 rw [Bool.eq_iff_iff,decide_eq_true_eq]
 simp only [U3,Bool.and_eq_true,decide_eq_true_eq,beq_iff_eq]
 constructor
 ·rintro ⟨⟨⟨h1,h2⟩,h3⟩,h4⟩
  exact ⟨by omega,by omega,by omega,h4⟩
 ·rintro ⟨h1,h2,h3,h4⟩
  exact ⟨⟨⟨by omega,by omega⟩,by omega⟩,h4⟩
theorem sQ (r:List Int)(hl:r.length≤1048576):B1 Tryz.prog 91 [Ac r] (fun o:List (List Int)×Int=>(o.2=0→Ra o.1∧o.1.length=3∧∀ p∈o.1,p.length=2*r.length)) (fun o=>.tup [if o.2=0 then Bw o.1 else .agg [Af],i64 o.2]) (fun _=>[]):=by
 have hi:=oJ r hl
 refine E5 xW rfl ?_;unfold Xx
 refine RN ?_
 refine Am (hi) ?_
 refine RN ?_
 refine ⟨fun hr=>?_,fun hr=>?_⟩
 ·(refine RN ?_;try with_reducible exact trivial)
  exact ⟨([],1),fun h=>absurd h (by decide),Ref.gc1 []⟩
 ·obtain ⟨h2,hev,h200,hprm⟩:=hr
  have hc2:(2*(r.length:Int)).toNat=2*r.length:=by omega
  refine RN ?_
  refine Ji [(0,Ac r),(2,.ref 0 0),(3,i64 0),(4,i64 (r.length:Int)),(5,.ref 1 0)] [some [Af],some [.sl 5 1 0 3],some (Aa (List.replicate (2*r.length) 0)),some (Aa (List.replicate (2*r.length) 0)),some (Aa (List.replicate (2*r.length) 0)),some [.sl 2 1 0 (2*r.length),.sl 3 1 0 (2*r.length),.sl 4 1 0 (2*r.length)]] ?_ ?_
  ·(repeat' first | simp only [go_sem,↓reduceIte,Nat.reduceEqDiff,Nat.reduceAdd,reduceCtorEq] | with_reducible refine Ar ?_ | with_reducible refine Rb ?_ | with_reducible refine Aq ?_ | with_reducible exact As | with_reducible refine Ap ?_ ?_ | (with_reducible refine And.intro ?_ ?_;focus first | assumption | omega | grind))
   all_goals rw [hc2]
   all_goals first
    | (refine Ref.gc [0,1,2,3,4,5] rfl ?_ ?_;(focus simp only [go_sem,↓reduceIte,Nat.reduceEqDiff,Nat.reduceAdd,reduceCtorEq]<;>rfl);(simp [sub,Ab,go_sem,↓reduceIte,Nat.reduceEqDiff,Nat.reduceAdd,reduceCtorEq];done))
    | (refine Ref.gc [0,1,2,4,3,5] rfl ?_ ?_;(focus simp only [go_sem,↓reduceIte,Nat.reduceEqDiff,Nat.reduceAdd,reduceCtorEq]<;>rfl);(simp [sub,Ab,go_sem,↓reduceIte,Nat.reduceEqDiff,Nat.reduceAdd,reduceCtorEq];done))
    | (refine Ref.gc [0,1,3,2,4,5] rfl ?_ ?_;(focus simp only [go_sem,↓reduceIte,Nat.reduceEqDiff,Nat.reduceAdd,reduceCtorEq]<;>rfl);(simp [sub,Ab,go_sem,↓reduceIte,Nat.reduceEqDiff,Nat.reduceAdd,reduceCtorEq];done))
    | (refine Ref.gc [0,1,3,4,2,5] rfl ?_ ?_;(focus simp only [go_sem,↓reduceIte,Nat.reduceEqDiff,Nat.reduceAdd,reduceCtorEq]<;>rfl);(simp [sub,Ab,go_sem,↓reduceIte,Nat.reduceEqDiff,Nat.reduceAdd,reduceCtorEq];done))
    | (refine Ref.gc [0,1,4,2,3,5] rfl ?_ ?_;(focus simp only [go_sem,↓reduceIte,Nat.reduceEqDiff,Nat.reduceAdd,reduceCtorEq]<;>rfl);(simp [sub,Ab,go_sem,↓reduceIte,Nat.reduceEqDiff,Nat.reduceAdd,reduceCtorEq];done))
    | (refine Ref.gc [0,1,4,3,2,5] rfl ?_ ?_;(focus simp only [go_sem,↓reduceIte,Nat.reduceEqDiff,Nat.reduceAdd,reduceCtorEq]<;>rfl);(simp [sub,Ab,go_sem,↓reduceIte,Nat.reduceEqDiff,Nat.reduceAdd,reduceCtorEq];done))
    | (refine Ref.gc [0,2,1,3,4,5] rfl ?_ ?_;(focus simp only [go_sem,↓reduceIte,Nat.reduceEqDiff,Nat.reduceAdd,reduceCtorEq]<;>rfl);(simp [sub,Ab,go_sem,↓reduceIte,Nat.reduceEqDiff,Nat.reduceAdd,reduceCtorEq];done))
    | (refine Ref.gc [0,2,1,4,3,5] rfl ?_ ?_;(focus simp only [go_sem,↓reduceIte,Nat.reduceEqDiff,Nat.reduceAdd,reduceCtorEq]<;>rfl);(simp [sub,Ab,go_sem,↓reduceIte,Nat.reduceEqDiff,Nat.reduceAdd,reduceCtorEq];done))
    | (refine Ref.gc [0,2,3,1,4,5] rfl ?_ ?_;(focus simp only [go_sem,↓reduceIte,Nat.reduceEqDiff,Nat.reduceAdd,reduceCtorEq]<;>rfl);(simp [sub,Ab,go_sem,↓reduceIte,Nat.reduceEqDiff,Nat.reduceAdd,reduceCtorEq];done))
    | (refine Ref.gc [0,2,3,4,1,5] rfl ?_ ?_;(focus simp only [go_sem,↓reduceIte,Nat.reduceEqDiff,Nat.reduceAdd,reduceCtorEq]<;>rfl);(simp [sub,Ab,go_sem,↓reduceIte,Nat.reduceEqDiff,Nat.reduceAdd,reduceCtorEq];done))
    | (refine Ref.gc [0,2,4,1,3,5] rfl ?_ ?_;(focus simp only [go_sem,↓reduceIte,Nat.reduceEqDiff,Nat.reduceAdd,reduceCtorEq]<;>rfl);(simp [sub,Ab,go_sem,↓reduceIte,Nat.reduceEqDiff,Nat.reduceAdd,reduceCtorEq];done))
    | (refine Ref.gc [0,2,4,3,1,5] rfl ?_ ?_;(focus simp only [go_sem,↓reduceIte,Nat.reduceEqDiff,Nat.reduceAdd,reduceCtorEq]<;>rfl);(simp [sub,Ab,go_sem,↓reduceIte,Nat.reduceEqDiff,Nat.reduceAdd,reduceCtorEq];done))
    | (refine Ref.gc [0,3,1,2,4,5] rfl ?_ ?_;(focus simp only [go_sem,↓reduceIte,Nat.reduceEqDiff,Nat.reduceAdd,reduceCtorEq]<;>rfl);(simp [sub,Ab,go_sem,↓reduceIte,Nat.reduceEqDiff,Nat.reduceAdd,reduceCtorEq];done))
    | (refine Ref.gc [0,3,1,4,2,5] rfl ?_ ?_;(focus simp only [go_sem,↓reduceIte,Nat.reduceEqDiff,Nat.reduceAdd,reduceCtorEq]<;>rfl);(simp [sub,Ab,go_sem,↓reduceIte,Nat.reduceEqDiff,Nat.reduceAdd,reduceCtorEq];done))
    | (refine Ref.gc [0,3,2,1,4,5] rfl ?_ ?_;(focus simp only [go_sem,↓reduceIte,Nat.reduceEqDiff,Nat.reduceAdd,reduceCtorEq]<;>rfl);(simp [sub,Ab,go_sem,↓reduceIte,Nat.reduceEqDiff,Nat.reduceAdd,reduceCtorEq];done))
    | (refine Ref.gc [0,3,2,4,1,5] rfl ?_ ?_;(focus simp only [go_sem,↓reduceIte,Nat.reduceEqDiff,Nat.reduceAdd,reduceCtorEq]<;>rfl);(simp [sub,Ab,go_sem,↓reduceIte,Nat.reduceEqDiff,Nat.reduceAdd,reduceCtorEq];done))
    | (refine Ref.gc [0,3,4,1,2,5] rfl ?_ ?_;(focus simp only [go_sem,↓reduceIte,Nat.reduceEqDiff,Nat.reduceAdd,reduceCtorEq]<;>rfl);(simp [sub,Ab,go_sem,↓reduceIte,Nat.reduceEqDiff,Nat.reduceAdd,reduceCtorEq];done))
    | (refine Ref.gc [0,3,4,2,1,5] rfl ?_ ?_;(focus simp only [go_sem,↓reduceIte,Nat.reduceEqDiff,Nat.reduceAdd,reduceCtorEq]<;>rfl);(simp [sub,Ab,go_sem,↓reduceIte,Nat.reduceEqDiff,Nat.reduceAdd,reduceCtorEq];done))
    | (refine Ref.gc [0,4,1,2,3,5] rfl ?_ ?_;(focus simp only [go_sem,↓reduceIte,Nat.reduceEqDiff,Nat.reduceAdd,reduceCtorEq]<;>rfl);(simp [sub,Ab,go_sem,↓reduceIte,Nat.reduceEqDiff,Nat.reduceAdd,reduceCtorEq];done))
    | (refine Ref.gc [0,4,1,3,2,5] rfl ?_ ?_;(focus simp only [go_sem,↓reduceIte,Nat.reduceEqDiff,Nat.reduceAdd,reduceCtorEq]<;>rfl);(simp [sub,Ab,go_sem,↓reduceIte,Nat.reduceEqDiff,Nat.reduceAdd,reduceCtorEq];done))
    | (refine Ref.gc [0,4,2,1,3,5] rfl ?_ ?_;(focus simp only [go_sem,↓reduceIte,Nat.reduceEqDiff,Nat.reduceAdd,reduceCtorEq]<;>rfl);(simp [sub,Ab,go_sem,↓reduceIte,Nat.reduceEqDiff,Nat.reduceAdd,reduceCtorEq];done))
    | (refine Ref.gc [0,4,2,3,1,5] rfl ?_ ?_;(focus simp only [go_sem,↓reduceIte,Nat.reduceEqDiff,Nat.reduceAdd,reduceCtorEq]<;>rfl);(simp [sub,Ab,go_sem,↓reduceIte,Nat.reduceEqDiff,Nat.reduceAdd,reduceCtorEq];done))
    | (refine Ref.gc [0,4,3,1,2,5] rfl ?_ ?_;(focus simp only [go_sem,↓reduceIte,Nat.reduceEqDiff,Nat.reduceAdd,reduceCtorEq]<;>rfl);(simp [sub,Ab,go_sem,↓reduceIte,Nat.reduceEqDiff,Nat.reduceAdd,reduceCtorEq];done))
    | (refine Ref.gc [0,4,3,2,1,5] rfl ?_ ?_;(focus simp only [go_sem,↓reduceIte,Nat.reduceEqDiff,Nat.reduceAdd,reduceCtorEq]<;>rfl);(simp [sub,Ab,go_sem,↓reduceIte,Nat.reduceEqDiff,Nat.reduceAdd,reduceCtorEq];done))
    | (refine Ref.gc [0,5,1,2,3,4] rfl ?_ ?_;(focus simp only [go_sem,↓reduceIte,Nat.reduceEqDiff,Nat.reduceAdd,reduceCtorEq]<;>rfl);(simp [sub,Ab,go_sem,↓reduceIte,Nat.reduceEqDiff,Nat.reduceAdd,reduceCtorEq];done))
    | (refine Ref.gc [0,5,1,3,2,4] rfl ?_ ?_;(focus simp only [go_sem,↓reduceIte,Nat.reduceEqDiff,Nat.reduceAdd,reduceCtorEq]<;>rfl);(simp [sub,Ab,go_sem,↓reduceIte,Nat.reduceEqDiff,Nat.reduceAdd,reduceCtorEq];done))
    | (refine Ref.gc [0,5,2,1,3,4] rfl ?_ ?_;(focus simp only [go_sem,↓reduceIte,Nat.reduceEqDiff,Nat.reduceAdd,reduceCtorEq]<;>rfl);(simp [sub,Ab,go_sem,↓reduceIte,Nat.reduceEqDiff,Nat.reduceAdd,reduceCtorEq];done))
    | (refine Ref.gc [0,5,2,3,1,4] rfl ?_ ?_;(focus simp only [go_sem,↓reduceIte,Nat.reduceEqDiff,Nat.reduceAdd,reduceCtorEq]<;>rfl);(simp [sub,Ab,go_sem,↓reduceIte,Nat.reduceEqDiff,Nat.reduceAdd,reduceCtorEq];done))
    | (refine Ref.gc [0,5,3,1,2,4] rfl ?_ ?_;(focus simp only [go_sem,↓reduceIte,Nat.reduceEqDiff,Nat.reduceAdd,reduceCtorEq]<;>rfl);(simp [sub,Ab,go_sem,↓reduceIte,Nat.reduceEqDiff,Nat.reduceAdd,reduceCtorEq];done))
    | (refine Ref.gc [0,5,3,2,1,4] rfl ?_ ?_;(focus simp only [go_sem,↓reduceIte,Nat.reduceEqDiff,Nat.reduceAdd,reduceCtorEq]<;>rfl);(simp [sub,Ab,go_sem,↓reduceIte,Nat.reduceEqDiff,Nat.reduceAdd,reduceCtorEq];done))
  refine RN ?_
  refine Aj (α:=Nat×List Int×List Int×List Int) (S:=fun o=>([(0,Ac r),(2,.ref 0 0),(3,i64 0),(4,i64 (r.length:Int)),(5,.ref 1 0),(6,i64 (o.1:Int))],[some [Af],some [.sl 5 1 0 3],some (Aa o.2.1),some (Aa o.2.2.1),some (Aa o.2.2.2),some [.sl 2 1 0 (2*r.length),.sl 3 1 0 (2*r.length),.sl 4 1 0 (2*r.length)]])) (C:=fun o=>o.1≤r.length∧o.2.1.length=2*r.length∧o.2.2.1.length=2*r.length∧o.2.2.2.length=2*r.length) (μ:=fun o=>r.length - o.1) (0,List.replicate (2*r.length) 0,List.replicate (2*r.length) 0,List.replicate (2*r.length) 0) ⟨Nat.zero_le _,by simp,by simp,by simp⟩ (Ref.to1) ?_
  rintro ⟨d,A,B,C⟩ ⟨g1,g2,g3,g4⟩
  dsimp only at g1 g2 g3 g4 ⊢
  refine RN ?_
  refine ⟨fun hc=>?_,fun hc=>?_⟩
  ·have hat:=hprm.at (k:=d) (by omega)
   have e3:(d:Int).tmod 2=(d:Int)%2:=Int.tmod_eq_emod_of_nonneg (by omega)
   have e4:((2*(d:Int)+1)).toNat=2*d+1:=by omega
   have e5:((2*(d:Int))).toNat=2*d:=by omega
   refine RN ?_
   exact ⟨(d+1,_,_,_),⟨by dsimp only;omega,by simp [g2],by simp [g3],by simp [g4]⟩,by dsimp only;omega,Ref.to (rfl) (by simp [sub,Ab])⟩
  ·obtain rfl:d=r.length:=by omega
   have tA:(Aa A).take (2*r.length)=Aa A:=List.take_of_length_le (by rw [B4];omega)
   have tB:(Aa B).take (2*r.length)=Aa B:=List.take_of_length_le (by rw [B4];omega)
   have tC:(Aa C).take (2*r.length)=Aa C:=List.take_of_length_le (by rw [B4];omega)
   have hM:AV.agg [.slc 1 3 [.slc 1 (2*r.length) (Aa A),.slc 1 (2*r.length) (Aa B),.slc 1 (2*r.length) (Aa C)]]=Bw [A,B,C]:=by simp [Bw,Ae,Ac,Aa,g2,g3,g4]
   refine RN ?_
   refine E4 (aE [A,B,C] (by simp) (by intro p hp;simp at hp;rcases hp with rfl | rfl | rfl<;>omega)) (by simp only [go_sem,↓reduceIte,Nat.reduceEqDiff,Nat.reduceAdd,reduceCtorEq,tA,tB,tC,hM]<;>rfl) ?_
   refine RN ?_
   refine ⟨fun hm=>?_,fun hm=>?_⟩
   ·(refine RN ?_;try with_reducible exact trivial)
    exact ⟨([],5),fun h=>absurd h (by decide),Ref.gc1 []⟩
   ·(refine RN ?_;try with_reducible exact trivial)
    refine ⟨([A,B,C],0),fun _=>⟨hm,rfl,by intro p hp;simp at hp;rcases hp with rfl | rfl | rfl<;>omega⟩,Ref.sel [] rfl (by simp only [go_sem,↓reduceIte,Nat.reduceEqDiff,Nat.reduceAdd,reduceCtorEq]) ?_⟩
    simp [sub,Ab,go_sem,↓reduceIte,Nat.reduceEqDiff,Nat.reduceAdd,reduceCtorEq,tA,tB,tC,hM]
end
section
open Go.Gov Go.Ce
open Classical
theorem Gd.nil (n:Nat):Gd n []:=⟨by simp,fun p hp=>by simp at hp⟩
theorem Y3 {M:List (List Int)}(h:IsMan M):Gd 400 M:=by
 refine ⟨by have:=h.r5;omega,fun p hp=>?_⟩
 obtain ⟨k,hk,rfl⟩:=List.mem_iff_getElem.1 hp
 have h1:=(h.rows k hk).1
 rw [show M.getD k []=M[k] by simp [hk]] at h1
 have:=h.f4
 omega
theorem fF {a b:Nat}(h:Hh a b=0):IsMan (Hi a b):=by
 unfold Hh at h
 split at h
 ·split at h
  ·rename_i h2;exact h2
  ·cases h
 ·cases h
theorem Jf (a b:Nat)(ha:2≤a∧a≤32)(hb:2≤b∧b≤32):∃ (M:List (List Int)) (c:Int),(c=0→IsMan M)∧Pure Tryz.prog 89 [Ac [(a:Int),(b:Int)],Af] (.tup [if c=0 then Bw M else .agg [Af],i64 c]) []:=
 ⟨Hi a b,Hh a b,fF,fE a b ha hb⟩
theorem aD (bs : List Int) (hb : Ec bs) (a : Nat) (h : Int) (hs : a ≤ bs.length) (most : Nat) (hm1 : 16 ≤ most) (hm2 : most ≤ 400) :
    Dg Tryz.prog 59 [.ref 0 0,i64 (most:Int)] [some (Ax bs a h)] (fun o:Nat×Int×List (List Int)=>o.1≤bs.length∧Gd 400 o.2.2∧(o.2.2=[]∨IsMan o.2.2)) (fun o=>Bw o.2.2) (fun o=>[some (Ax bs o.1 o.2.1)]):=by
 refine Fq xB rfl ?_;unfold Xe
 refine RN ?_
 refine Bb (B7 bs hb a h hs 4) [0] (by first | rfl | simp) (by simp only [go_sem,↓reduceIte,Nat.reduceEqDiff,Nat.reduceAdd,reduceCtorEq]<;>rfl) (by simp only [go_sem,↓reduceIte,Nat.reduceEqDiff,Nat.reduceAdd,reduceCtorEq]<;>rfl) fun o ho=>?_
 obtain ⟨a1,b1,k⟩:=o
 obtain ⟨h1,h2,h3⟩:=ho
 dsimp only at h1 h2 h3
 obtain ⟨k,rfl⟩:=Int.eq_ofNat_of_zero_le h2
 simp only [go_sem,↓reduceIte,Nat.reduceEqDiff,Nat.reduceAdd,reduceCtorEq]
 refine N8 (fun o:Nat×Int=>o.1≤bs.length) (fun o=>[(0,.ref 0 0),(1,i64 (most:Int)),(4,.ref 1 0)]) (fun o=>[some (Ax bs o.1 o.2),some [Af]]) ?_ ?_
 ·(refine RN ?_;try with_reducible exact trivial)
  refine ⟨fun c0=>?_,fun c0=>?_⟩
  ·(refine RN ?_;try with_reducible exact trivial)
   refine Bb (B7 bs hb a1 b1 h1 8) [0] (by first | rfl | simp) (by simp only [go_sem,↓reduceIte,Nat.reduceEqDiff,Nat.reduceAdd,reduceCtorEq]<;>rfl) (by simp only [go_sem,↓reduceIte,Nat.reduceEqDiff,Nat.reduceAdd,reduceCtorEq]<;>rfl) fun o ho=>?_
   obtain ⟨a2,b2,j⟩:=o
   obtain ⟨q1,q2,q3⟩:=ho
   dsimp only at q1 q2 q3
   obtain ⟨j,rfl⟩:=Int.eq_ofNat_of_zero_le q2
   have hj:j=0∨j=1∨j=2∨j=3∨j=4∨j=5∨j=6∨j=7:=by omega
   rcases hj with rfl | rfl | rfl | rfl | rfl | rfl | rfl | rfl
   all_goals (refine RN ?_;try with_reducible exact trivial)
   all_goals first
    | (obtain ⟨M,c,hMc,hu⟩:=Jf 3 3 (by decide) (by decide);refine CallsX.ice 2 ?_;refine Ah hu ?_ ?_;(focus (simp only [go_sem,↓reduceIte,Nat.reduceEqDiff,Nat.reduceAdd,reduceCtorEq]<;>rfl)))
    | (obtain ⟨M,c,hMc,hu⟩:=Jf 3 3 (by decide) (by decide);refine CallsX.ice 3 ?_;refine Ah hu ?_ ?_;(focus (simp only [go_sem,↓reduceIte,Nat.reduceEqDiff,Nat.reduceAdd,reduceCtorEq]<;>rfl)))
    | (obtain ⟨M,c,hMc,hu⟩:=Jf 4 3 (by decide) (by decide);refine CallsX.ice 4 ?_;refine Ah hu ?_ ?_;(focus (simp only [go_sem,↓reduceIte,Nat.reduceEqDiff,Nat.reduceAdd,reduceCtorEq]<;>rfl)))
    | (obtain ⟨M,c,hMc,hu⟩:=Jf 3 4 (by decide) (by decide);refine CallsX.ice 5 ?_;refine Ah hu ?_ ?_;(focus (simp only [go_sem,↓reduceIte,Nat.reduceEqDiff,Nat.reduceAdd,reduceCtorEq]<;>rfl)))
    | (obtain ⟨M,c,hMc,hu⟩:=Jf 2 3 (by decide) (by decide);refine CallsX.ice 6 ?_;refine Ah hu ?_ ?_;(focus (simp only [go_sem,↓reduceIte,Nat.reduceEqDiff,Nat.reduceAdd,reduceCtorEq]<;>rfl)))
    | (obtain ⟨M,c,hMc,hu⟩:=Jf 4 2 (by decide) (by decide);refine CallsX.ice 7 ?_;refine Ah hu ?_ ?_;(focus (simp only [go_sem,↓reduceIte,Nat.reduceEqDiff,Nat.reduceAdd,reduceCtorEq]<;>rfl)))
    | (obtain ⟨M,c,hMc,hu⟩:=Jf 5 2 (by decide) (by decide);refine CallsX.ice 8 ?_;refine Ah hu ?_ ?_;(focus (simp only [go_sem,↓reduceIte,Nat.reduceEqDiff,Nat.reduceAdd,reduceCtorEq]<;>rfl)))
    | (obtain ⟨M,c,hMc,hu⟩:=Jf 2 6 (by decide) (by decide);refine CallsX.ice 9 ?_;refine Ah hu ?_ ?_;(focus (simp only [go_sem,↓reduceIte,Nat.reduceEqDiff,Nat.reduceAdd,reduceCtorEq]<;>rfl)))
   all_goals
    rcases Classical.em (c=0) with e | e
    ·have hman:=hMc e
     rw [if_pos e,e]
     have m1:=hman.r1
     have m5:=hman.r5
     have f4:=hman.f4
     unfold fl at f4
     have hf:=Jw M (by omega) (by omega) (by omega)
     refine RN ?_
     refine GCall.on rfl ?_
     refine Am (hf) ?_
     refine RN ?_
     refine ⟨fun c9=>?_,fun c9=>?_⟩
     ·(refine RN ?_;try with_reducible exact trivial)
      exact ⟨(a2,b2,M),⟨q1,Y3 hman,.inr hman⟩,Ref.gc2 [0]⟩
     ·(refine RN ?_;try with_reducible exact trivial)
      exact ⟨(a2,b2),q1,Ref.gc2 [0,1]⟩
    ·rw [if_neg e]
     have dc:(c == 0)=false:=by simp [e]
     have nc:(c=0)=False:=eq_false e
     refine RN ?_
     simp only [dc]
     refine Av (i64 0) rfl ?_
     simp only [go_sem,↓reduceIte,Nat.reduceEqDiff,Nat.reduceAdd,reduceCtorEq,dc,nc,false_implies]
     refine RN ?_
     exact ⟨(a2,b2),q1,Ref.gc2 [0,1]⟩
  ·(refine RN ?_;try with_reducible exact trivial)
   refine ⟨fun c1=>?_,fun c1=>?_⟩
   ·have hq : ∃ q : Nat, 1 ≤ q ∧ q ≤ 8 ∧ (if (8 : Int) < (most : Int).tdiv 4 then 8 else (most : Int).tdiv 4) = (q : Int) := by
      have eq4:(most:Int).tdiv 4=((most / 4:Nat):Int):=by rw [Int.tdiv_eq_ediv_of_nonneg (by omega)];rfl
      rw [eq4]
      split
      ·exact ⟨8,by omega,by omega,rfl⟩
      ·exact ⟨most / 4,by omega,by omega,rfl⟩
    obtain ⟨q,q1,q2,hq⟩:=hq
    refine RN ?_
    simp only [hq]
    refine Bb (rE bs hb a1 b1 h1 q q1 (by omega)) [0] (by first | rfl | simp) (by simp only [go_sem,↓reduceIte,Nat.reduceEqDiff,Nat.reduceAdd,reduceCtorEq]<;>rfl) (by simp only [go_sem,↓reduceIte,Nat.reduceEqDiff,Nat.reduceAdd,reduceCtorEq]<;>rfl) fun o ho=>?_
    obtain ⟨a2,b2,x⟩:=o
    obtain ⟨r1,r2⟩:=ho
    dsimp only at r1 r2
    refine RN ?_
    refine CallsX.ice 2 ?_
    have hxl:(Aa x).take x.length=Aa x:=List.take_of_length_le (by rw [B4];omega)
    refine Nf (sQ x (by omega)) (by simp only [go_sem,↓reduceIte,Nat.reduceEqDiff,Nat.reduceAdd,reduceCtorEq,hxl]<;>rfl) fun o ho=>?_
    obtain ⟨M,c⟩:=o
    dsimp only at ho ⊢
    rcases Classical.em (c=0) with e | e
    ·subst e
     obtain ⟨mm,m3,mr⟩:=ho rfl
     rw [if_pos rfl]
     refine RN ?_
     refine ⟨(a2,b2,M),⟨r1,⟨by dsimp only;omega,fun p hp=>?_⟩,.inr mm.1⟩,Ref.gc2 [0]⟩
     have:=mr p hp
     omega
    ·have dc:(c == 0)=false:=by simp [e]
     have nc:(c=0)=False:=eq_false e
     rw [if_neg e]
     refine RN ?_
     simp only [dc,nc]
     refine RN ?_
     exact ⟨(a2,b2),r1,Ref.gc2 [0,1]⟩
   ·(refine RN ?_;try with_reducible exact trivial)
    exact ⟨(a1,b1),h1,Ref.to1⟩
 ·rintro ⟨a2,b2⟩ q1
  dsimp only at q1 ⊢
  refine RN ?_
  refine Aj (α:=Nat×Nat×Int) (S:=fun o=>([(0,.ref 0 0),(1,i64 (most:Int)),(4,.ref 1 0),(11,i64 (o.1:Int))],[some (Ax bs o.2.1 o.2.2),some [Af]])) (C:=fun o=>o.1≤20∧o.2.1≤bs.length) (μ:=fun o=>20 - o.1) (0,a2,b2) ⟨Nat.zero_le _,q1⟩ (Ref.to1) ?_
  clear a2 b2 q1
  rintro ⟨i,a2,b2⟩ ⟨h4,q1⟩
  dsimp only at h4 q1 ⊢
  refine RN ?_
  refine ⟨fun hc=>?_,fun hc=>?_⟩
  ·(refine RN ?_;try with_reducible exact trivial)
   refine Bb (Ti bs hb a2 b2 q1 most (by omega) (by omega)) [0] (by first | rfl | simp) (by simp only [go_sem,↓reduceIte,Nat.reduceEqDiff,Nat.reduceAdd,reduceCtorEq]<;>rfl) (by simp only [go_sem,↓reduceIte,Nat.reduceEqDiff,Nat.reduceAdd,reduceCtorEq]<;>rfl) fun o ho=>?_
   obtain ⟨a3,b3,n,L⟩:=o
   obtain ⟨g1,g2,g3,g4,g5,g6⟩:=ho
   dsimp only at g1 g2 g3 g4 g5 g6 ⊢
   have hrow:∀ p∈L,p.length=n:=fun p hp=>by
    obtain ⟨k,hk,rfl⟩:=List.mem_iff_getElem.1 hp
    have:=(g6 k hk).1
    rwa [show L.getD k []=L[k] by simp [hk]] at this
   have his:=aE L (by omega) (fun p hp=>by rw [hrow p hp];omega)
   refine RN ?_
   refine Bn his (by simp only [go_sem,↓reduceIte,Nat.reduceEqDiff,Nat.reduceAdd,reduceCtorEq,C1 _ _ L L.length rfl]<;>first | done | (simp only [Bw,Ae]<;>rfl)) (by first | rfl | simp only [go_sem,↓reduceIte,Nat.reduceEqDiff,Nat.reduceAdd,reduceCtorEq]) ?_
   refine RN ?_
   refine ⟨fun hm=>?_,fun hm=>?_⟩
   ·(refine RN ?_;try with_reducible exact trivial)
    refine ⟨(a3,b3,L),⟨g1,⟨by dsimp only;omega,fun p hp=>by rw [hrow p hp];omega⟩,.inr hm.1⟩,Ref.sel [0] rfl (by simp only [go_sem,↓reduceIte,Nat.reduceEqDiff,Nat.reduceAdd,reduceCtorEq]) ?_⟩
    simp only [sub,List.all_cons,List.all_nil,go_sem,↓reduceIte,Nat.reduceEqDiff,Nat.reduceAdd,reduceCtorEq]
    (try rw [List.take_of_length_le (show (List.map Ad L).length≤L.length by simp),E0])
    (try simp [Bw,Ae])
   ·(refine RN ?_;try with_reducible exact trivial)
    exact ⟨(i+1,a3,b3),⟨by dsimp only;omega,g1⟩,by dsimp only;omega,Ref.gc2 [0,1]⟩
  ·(refine RN ?_;try with_reducible exact trivial)
   have hu:=fE 2 2 (by decide) (by decide)
   refine CallsX.ice 2 ?_
   refine Ah (hu) (by simp only [go_sem,↓reduceIte,Nat.reduceEqDiff,Nat.reduceAdd,reduceCtorEq]<;>rfl) ?_
   rcases Classical.em (Hh 2 2=0) with e | e
   ·have hman:=fF e
    rw [if_pos e]
    refine RN ?_
    exact ⟨(a2,b2,Hi 2 2),⟨q1,Y3 hman,.inr hman⟩,Ref.gc2 [0]⟩
   ·rw [if_neg e]
    refine RN ?_
    refine ⟨(a2,b2,[]),⟨q1,Gd.nil _,.inl rfl⟩,(Ref.nilA 0 1 rfl).trans (Ref.gc [0] rfl (by simp only [go_sem,↓reduceIte,Nat.reduceEqDiff,Nat.reduceAdd,reduceCtorEq]<;>rfl) ?_)⟩
    simp [sub,Ab,go_sem,↓reduceIte,Nat.reduceEqDiff,Nat.reduceAdd,reduceCtorEq,Bw,Ae]
end
end Go.Proofs.YtcneanpkpmfaiaaGreat
