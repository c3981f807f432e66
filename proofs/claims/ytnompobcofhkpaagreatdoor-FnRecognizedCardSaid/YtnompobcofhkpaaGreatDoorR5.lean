/- Texts that belong together. -/
import Derived.Test.YtnompobcofhkpaaGreatDoorR4
set_option maxHeartbeats 16000000
set_option linter.unusedSimpArgs false
set_option linter.unusedVariables false
set_option maxRecDepth 100000
namespace Go.Gov
def Db (bs:List Int):List AV:=bs.map fun b=>.val (.int .u8 b)
theorem zT (xs:List Int):(Db xs).length=xs.length:=by simp [Db]
theorem Aak (H:Heap)(d:Nat)(xs:List Int):(Db xs).map (Aj H (d+1))=Db xs:=by simp [Db,Aj]
theorem vP (xs:List Int)(i:Nat):(Db xs).getD i (.val (.int .u8 0)) = .val (.int .u8 (xs.getD i 0)):=by
 simp only [Db,List.getD_eq_getElem?_getD,List.getElem?_map]
 cases xs[i]? <;> rfl
theorem Agv (xs:List Int)(i:Nat):Bp ((Db xs).getD i .any)=true:=by
 simp only [Db,List.getD_eq_getElem?_getD,List.getElem?_map]
 cases xs[i]? <;> rfl
theorem mN (τ:Nat→Option Nat)(xs:List Int):A5 τ (Db xs)=Db xs:=by simp [Bu,Db,Am]
attribute [go_sem] zT Aak vP Agv mN
def Ep (bs:List Int):AV:=.slc 1 bs.length (Db bs)
def Az (bs:List Int)(a:Nat)(h:Int):List AV:=[Ep bs,.val (.int .i64 (a:Int)),.val (.int .u64 h)]
theorem Ai4 (τ:Nat→Option Nat)(bs:List Int)(a:Nat)(h:Int):A5 τ (Az bs a h)=Az bs a h:=by simp [Az,Ep, go_sem]
attribute [go_sem] Ai4
theorem Aa6 (x:Int):0≤G3 .and .u64 x 16777215∧G3 .and .u64 x 16777215≤16777215:=by
 have h:(BitVec.ofInt 64 x &&& BitVec.ofInt 64 16777215).toNat≤16777215:=by
  rw [BitVec.toNat_and]
  exact Nat.le_trans Nat.and_le_right (by decide)
 generalize hy:(BitVec.ofInt 64 x &&& BitVec.ofInt 64 16777215).toNat=y at h
 have:G3 .and .u64 x 16777215=((y:Int)%2^64):=by
  show IntKind.u64.wrap _=_
  rw [show IntKind.u64.bits=64 from rfl,hy]
  simp [IntKind.wrap,IntKind.signed,IntKind.bits]
 omega
end Go.Gov
namespace Go.Proofs.YtnompobcofhkpaaGreatDoor
section
open Go.Gov Go.Ce
open Classical
structure Fa (bs:List Int):Prop where
 few:bs.length≤1048576
 by8:∀ k,k<bs.length→0≤bs.getD k 0∧bs.getD k 0≤255
theorem C2 (bs : List Int) (hb : Fa bs) (a : Nat) (h : Int) (hs : a ≤ bs.length) (n : Int) :
    E1 Tryz.prog 15 [.ref 0 0,i64 n] [some (Az bs a h)] (fun o:Nat×Int×Int=>o.1≤bs.length∧0≤o.2.2∧(o.2.2=0∨o.2.2<n)) (fun o=>i64 o.2.2) (fun o=>[some (Az bs o.1 o.2.1)]):=by
 unfold Az Ep
 have hfw:=hb.few
 refine Hn Acr rfl ?_;unfold Zc
 refine RN ?_
 refine ⟨fun hn=>?_,fun hn=>?_⟩
 ·(refine RN ?_;try with_reducible exact trivial)
  exact ⟨(a,h,0),⟨hs,Int.le_refl _,.inl rfl⟩,Ref.gc2 [0]⟩
 refine Bj ?_
 simp only [go_sem,↓reduceIte,Nat.reduceEqDiff,Nat.reduceAdd,reduceCtorEq]
 refine Bj ?_
 have hm:=Aa6 (Pp BinOp.shr IntKind.u64 (IntKind.u64.wrap (IntKind.u64.wrap (h*6364136223846793005)+1442695040888963407)) 33)
 simp only [go_sem,↓reduceIte,Nat.reduceEqDiff,Nat.reduceAdd,reduceCtorEq]
 generalize G3 BinOp.and IntKind.u64 (Pp BinOp.shr IntKind.u64 (IntKind.u64.wrap (IntKind.u64.wrap (h*6364136223846793005)+1442695040888963407)) 33) 16777215=x at *
 generalize IntKind.u64.wrap (IntKind.u64.wrap (h*6364136223846793005)+1442695040888963407)=h' at *
 have fin:∀ y:Int,0≤y→0≤y.tmod n∧(y.tmod n=0∨y.tmod n<n):=fun y hy=>⟨Int.tmod_nonneg _ hy,.inr (Int.tmod_lt_of_pos _ (by omega))⟩
 have hby:=hb.by8 a
 refine RN ?_
 refine ⟨fun hc=>?_,fun hc=>?_⟩
 ·have hy:=hby (by omega)
  refine RN ?_
  refine ⟨(a+1,h', (x+bs.getD a 0).tmod n),⟨by dsimp only;omega,fin _ (by omega)⟩,?_⟩
  exact Ref.gc2 [0]
 ·(refine RN ?_;try with_reducible exact trivial)
  refine ⟨(a,h', x.tmod n),⟨by dsimp only;omega,fin _ (by omega)⟩,?_⟩
  exact Ref.gc2 [0]
def D3 (n:Nat)(p:List Int):Prop:=p.length=n∧∀ k,k<n→0≤p.getD k 0∧p.getD k 0<n
theorem xN (n:Nat)(hn:n≤1048576):Pure Tryz.prog 154 [i64 (n:Int)] (.sl 0 1 0 n) [some (Aa ((List.range n).map fun (i:Nat)=>(i:Int)))]:=by
 refine Bh Acx rfl ?_;unfold Zh
 refine RN ?_
 refine Ah (α:=Nat) (S:=fun i=>([(0,i64 (n:Int)),(3,.sl 0 1 0 i),(4,i64 (i:Int))],[some (Aa ((List.range i).map fun (i:Nat)=>(i:Int)))])) (C:=fun i=>i≤n) (μ:=fun i=>n - i) 0 (Nat.zero_le _) (Ref.to1) ?_
 intro i hi
 refine RN ?_
 refine ⟨fun hc=>?_,fun hc=>?_⟩
 ·have hst:(List.range (i+1)).map (fun (i:Nat)=>(i:Int))=(List.range i).map (fun (i:Nat)=>(i:Int))++[(i:Int)]:=by simp [List.range_succ]
  have hln:((List.range i).map (fun (i:Nat)=>(i:Int))).length=i:=by simp
  refine RN ?_
  refine ⟨i+1,by omega,by omega,?_⟩
  rw [hst]
  generalize (List.range i).map (fun (i:Nat)=>(i:Int))=X at *
  have tk1:(Aa X).take i=Aa X:=List.take_of_length_le (by rw [A2];omega)
  refine Ref.gc [2] rfl ?_ (by simp [sub,Ab,go_sem,↓reduceIte,Nat.reduceEqDiff,Nat.reduceAdd,reduceCtorEq])
  simp only [go_sem,↓reduceIte,Nat.reduceEqDiff,Nat.reduceAdd,reduceCtorEq]
  rw [tk1,Cr]
  simp [Aa]
 ·obtain rfl:i=n:=by omega
  refine RN ?_
  exact Ref.gc2 [0]
theorem Aiw (n:Nat):D3 n ((List.range n).map fun (i:Nat)=>(i:Int)):=⟨by simp,fun k hk=>by simp [hk]⟩
theorem Jj {n:Nat}{p:List Int}(h:D3 n p){k:Nat}{x:Int}(hx:0≤x∧x<n):D3 n (p.set k x):=⟨by simp [h.1],fun j hj=>by
 have hl:=h.1
 have:=h.2 j hj
 by_cases e:k=j
 ·subst e
  simpa [hl,hj] using hx
 ·have:(p.set k x).getD j 0=p.getD j 0:=by simp [List.getElem?_set,e]
  rw [this]
  assumption⟩
theorem fU (bs : List Int) (hb : Fa bs) (a : Nat) (h : Int) (hs : a ≤ bs.length) (n : Nat) (hn : n ≤ 1048576) :
    E1 Tryz.prog 119 [.ref 0 0,i64 (n:Int)] [some (Az bs a h)] (fun o:Nat×Int×List Int=>o.1≤bs.length∧D3 n o.2.2) (fun _=>.sl 1 1 0 n) (fun o=>[some (Az bs o.1 o.2.1),some (Aa o.2.2)]):=by
 have hu:=xN n hn
 have hr:=Aiw n
 generalize (List.range n).map (fun (i:Nat)=>(i:Int))=p0 at *
 refine Hn Ab7 rfl ?_;unfold Yu
 refine RN ?_
 refine Ag (hu) ?_
 refine RN ?_
 refine Ah (α:=Nat×Int×List Int×Int) (S:=fun o=>([(0,.ref 0 0),(1,i64 (n:Int)),(5,.sl 1 1 0 n),(6,i64 o.2.2.2)],[some (Az bs o.1 o.2.1),some (Aa o.2.2.1)])) (C:=fun o=>o.1≤bs.length∧D3 n o.2.2.1 ∧ -1≤o.2.2.2∧o.2.2.2<n) (μ:=fun o=>(o.2.2.2+1).toNat) (a,h,p0,(n:Int) - 1) ⟨hs,hr,by dsimp only;omega,by dsimp only;omega⟩ (Ref.to1) ?_
 rintro ⟨a,h,p,i⟩ ⟨h1,h2,h3,h4⟩
 dsimp only at h1 h2 h3 h4 ⊢
 have hpl:=h2.1
 refine RN ?_
 refine ⟨fun hc=>?_,fun hc=>?_⟩
 ·obtain ⟨i,rfl⟩:=Int.eq_ofNat_of_zero_le (show 0≤i by omega)
  have hp1:=h2.2 i (by omega)
  refine RN ?_
  refine Bv (C2 bs hb a h h1 ((i:Int)+1)) [0] (by first | rfl | simp) (by simp only [go_sem,↓reduceIte,Nat.reduceEqDiff,Nat.reduceAdd,reduceCtorEq]<;>rfl) (by simp only [go_sem,↓reduceIte,Nat.reduceEqDiff,Nat.reduceAdd,reduceCtorEq]<;>rfl) fun o ho=>?_
  obtain ⟨a', h', k⟩:=o
  obtain ⟨g1,g2,g3⟩:=ho
  dsimp only at g1 g2 g3
  obtain ⟨k,rfl⟩:=Int.eq_ofNat_of_zero_le g2
  have hk:k<n:=by omega
  have hp2:=h2.2 k hk
  refine RN ?_
  exact ⟨(a', h', (p.set i (p.getD k 0)).set k (p.getD i 0),(i:Int) - 1),⟨g1,Jj (Jj h2 hp2) hp1,by dsimp only;omega,by dsimp only;omega⟩,by dsimp only;omega,Ref.to1⟩
 ·(refine RN ?_;try with_reducible exact trivial)
  exact ⟨(a,h,p),⟨h1,h2⟩,Ref.gc2 [0,1]⟩
end
section
open Go.Gov Go.Ce
open Classical
def Eb (n:Nat)(L:List (List Int)):Prop:=∀ k,k<L.length→D3 n (L.getD k [])
theorem xF (bs:List Int)(hb:Fa bs):Ea Tryz.prog 11 [Ep bs] (fun _:Int=>True) (fun _=>.ref 0 0) (fun h=>[some (Az bs 0 h)]):=by
 have hfw:=hb.few
 unfold Az Ep
 refine Ix Aby rfl ?_;unfold Yl
 refine RN ?_
 generalize IntKind.u64.wrap (8191+IntKind.u64.wrap (bs.length:Int))=h0
 refine Ah (α:=Nat×Int) (S:=fun o=>([(0,.slc 1 bs.length (Db bs)),(3,.ref 0 0),(4,i64 (o.1:Int))],[some [.slc 1 bs.length (Db bs),.val (.int .i64 0),.val (.int .u64 o.2)]])) (C:=fun o=>o.1≤bs.length) (μ:=fun o=>bs.length - o.1) (0,h0) (Nat.zero_le _) (Ref.to1) ?_
 rintro ⟨i,h⟩ hi
 dsimp only at hi ⊢
 refine RN ?_
 refine ⟨fun hc=>?_,fun hc=>?_⟩
 ·(refine RN ?_;try with_reducible exact trivial)
  exact ⟨(i+1,_),by dsimp only;omega,by dsimp only;omega,Ref.to1⟩
 ·(refine RN ?_;try with_reducible exact trivial)
  exact ⟨h,Ref.gc2 [0]⟩
theorem Ref.row {n0 : Nat} {F : Gov.Frame} {H : Gov.Heap} (o o2 : Nat) {L : List (List Int)} {x : List Int} {n k : Nat} (ho : H[o]? = some (some ((L.map Ac).take k ++ [.sl o2 1 0 n]))) (hk : L.length = k) (h2 : H[o2]? = some (some (Aa x))) (hn : x.length = n) (hne : o ≠ o2) :
    Ref n0 F H F ((H.set o (some ((L++[x]).map Ac))).set o2 none):=by
 subst hk hn
 have e:(L.map Ac).take L.length=L.map Ac:=List.take_of_length_le (by simp)
 rw [e] at ho
 have r:=Ref.close (n0:=n0) (F:=F) o L.length o2 (k:=1) (n:=x.length) ho (by rw [List.getElem?_append_right (by simp)];simp) h2 hne (by simp [A2])
 have hs:(L.map Ac++[AV.sl o2 1 0 x.length]).set L.length (.osl 1 x.length (Aa x))=(L++[x]).map Ac:=by
  rw [List.set_append_right _ _ (by simp)];simp [Ac]
 rw [hs] at r
 exact r
theorem N2 {m:Nat}{c:Int}{x:List Int}(h:∀ j,j<m→0≤x.getD j 0∧x.getD j 0<c)(hl:x.length=m){v:Int}(hv:0≤v∧v<c):∀ j,j<m+1→0≤(x++[v]).getD j 0∧(x++[v]).getD j 0<c:=fun j hj=>by
 by_cases e:j<m
 ·have:(x++[v]).getD j 0=x.getD j 0:=by simp [List.getElem?_append_left (show j<x.length by omega)]
  rw [this];exact h j e
 ·have:j=x.length:=by omega
  subst this
  simpa using hv
theorem W0 {n:Nat}{L:List (List Int)}{x:List Int}(h:Eb n L)(hx:D3 n x):Eb n (L++[x]):=fun k hk=>by
 by_cases e:k<L.length
 ·have:(L++[x]).getD k []=L.getD k []:=by simp [List.getElem?_append_left e]
  rw [this];exact h k e
 ·have:k=L.length:=by simp at hk;omega
  subst this
  simpa using hx
theorem S6 (n:Nat):D3 n (List.replicate n 0):=⟨by simp,fun k hk=>by simp [hk];omega⟩
theorem Ru (p:Nat)(hp:1≤p)(hp2:p≤1048576):Ea Tryz.prog 151 [i64 (p:Int)] (fun L:List (List Int)=>L.length=2∧Eb (2*p) L) (fun _=>.agg [.sl 0 1 0 2]) (fun L=>[some (L.map Ac)]):=by
 refine Ix Acu rfl ?_;unfold Ze
 refine RN ?_
 have hm:(2*(p:Int)).toNat=2*p:=by omega
 refine Ho [(2,.ref 0 0),(3,i64 (2*(p:Int))),(4,.sl 1 1 0 (2*p)),(5,.sl 2 1 0 (2*p))] [some [Ai],some (Aa (List.replicate (2*p) 0)),some (Aa (List.replicate (2*p) 0))] ?_ ?_
 ·(repeat' first | simp only [go_sem,↓reduceIte,Nat.reduceEqDiff,Nat.reduceAdd,reduceCtorEq] | with_reducible refine Ck ?_ | with_reducible refine Eo ?_ | with_reducible refine Cj ?_ | with_reducible exact Cm | with_reducible refine Ci ?_ ?_ | (with_reducible refine And.intro ?_ ?_;focus first | assumption | omega | grind))
  all_goals rw [hm]
  ·exact Ref.to1
  ·exact Ref.gc2 [0,2,1]
 refine RN ?_
 refine Ah (α:=Nat×List Int×List Int) (S:=fun o=>([(2,.ref 0 0),(3,i64 (2*(p:Int))),(4,.sl 1 1 0 (2*p)),(5,.sl 2 1 0 (2*p)),(6,i64 (o.1:Int))],[some [Ai],some (Aa o.2.1),some (Aa o.2.2)])) (C:=fun o=>o.1≤2*p∧D3 (2*p) o.2.1∧D3 (2*p) o.2.2) (μ:=fun o=>2*p - o.1) (0,List.replicate (2*p) 0,List.replicate (2*p) 0) ⟨Nat.zero_le _,S6 _,S6 _⟩ (Ref.to1) ?_
 rintro ⟨i,x,y⟩ ⟨h1,h2,h3⟩
 dsimp only at h1 h2 h3 ⊢
 have hx:=h2.1
 have hy:=h3.1
 refine RN ?_
 refine ⟨fun hc=>?_,fun hc=>?_⟩
 ·(refine RN ?_;try with_reducible exact trivial)
  have e1:((i:Int)+2*p - 1).tmod (2*p)=if i=0 then 2*(p:Int) - 1 else (i:Int) - 1:=by
   rw [Int.tmod_eq_emod_of_nonneg (by omega)]
   split
   ·subst i;rw [Int.emod_eq_of_lt (by omega) (by omega)];omega
   ·rw [show (i:Int)+2*p - 1=(i - 1)+(2*p)*1 by omega,Int.add_mul_emod_self_left,Int.emod_eq_of_lt (by omega) (by omega)]
  have e2:0≤((i:Int)+1).tmod (2*p)∧((i:Int)+1).tmod (2*p)<2*p:=⟨Int.tmod_nonneg _ (by omega),Int.tmod_lt_of_pos _ (by omega)⟩
  have e3:(i:Int).tmod 2=(i:Int)%2:=Int.tmod_eq_emod_of_nonneg (by omega)
  refine ⟨fun hc2=>?_,fun hc2=>?_⟩
  ·(refine RN ?_;try with_reducible exact trivial)
   refine ⟨(i+1,_,_),⟨by dsimp only;omega,Jj h2 (k:=i) (x:=(i:Int)+1) (by omega),Jj h3 (k:=i) (x:=((i:Int)+2*p - 1).tmod (2*p)) (by rw [e1];split<;>omega)⟩,by dsimp only;omega,Ref.to1⟩
  ·(refine RN ?_;try with_reducible exact trivial)
   refine ⟨(i+1,_,_),⟨by dsimp only;omega,Jj h2 (k:=i) (x:=(i:Int) - 1) (by omega),Jj h3 (k:=i) (x:=((i:Int)+1).tmod (2*p)) (by omega)⟩,by dsimp only;omega,Ref.to1⟩
 ·(refine RN ?_;try with_reducible exact trivial)
  refine ⟨[x,y],⟨rfl,fun k hk=>?_⟩,?_⟩
  ·match k,hk with
   | 0,_=>exact h2
   | 1,_=>exact h3
  refine (Ref.close 3 0 1 (k:=1) (n:=2*p) (cs2:=Aa x) rfl rfl rfl (by decide) (by simp [A2,hx])).trans ((Ref.close 3 1 2 (k:=1) (n:=2*p) (cs2:=Aa y) rfl rfl rfl (by decide) (by simp [A2,hy])).trans ?_)
  exact Ref.gc [3] rfl (by simp only [go_sem,↓reduceIte,Nat.reduceEqDiff,Nat.reduceAdd,reduceCtorEq];simp [Ac,hx,hy,go_sem,↓reduceIte,Nat.reduceEqDiff,Nat.reduceAdd,reduceCtorEq]) (by simp [sub,Ab,go_sem,↓reduceIte,Nat.reduceEqDiff,Nat.reduceAdd,reduceCtorEq])
theorem xU (n:Nat)(hn:n≤1048576)(M:List (List Int))(hM:Eb n M)(hl:M.length≤1048576)(p:List Int)(hp:D3 n p):Ea Tryz.prog 38 [Ak M,Ad p] (fun L:List (List Int)=>L.length=M.length∧Eb n L) (fun L=>.agg [.sl 0 1 0 L.length]) (fun L=>[some (L.map Ac)]):=by
 have hpl:=hp.1
 refine Ix kZ rfl ?_;unfold Uq
 refine RN ?_
 refine Ah (α:=Nat×List (List Int)) (S:=fun o=>([(1,Ad p),(2,.ref 0 0),(4,.ref 1 0),(5,.ref 2 0),(6,i64 (o.1:Int))],[some [Ae M],some [Ai],some [.sl 3 1 0 o.1],some (o.2.map Ac)])) (C:=fun o=>o.1≤M.length∧o.2.length=o.1∧Eb n o.2) (μ:=fun o=>M.length - o.1) (0,[]) ⟨Nat.zero_le _,rfl,fun k hk=>absurd hk (by simp)⟩ ((Ref.nilC 2 0 1 rfl rfl).trans (Ref.to1)) ?_
 rintro ⟨k,L⟩ ⟨h1,h2,h3⟩
 dsimp only at h1 h2 h3 ⊢
 refine RN ?_
 refine ⟨fun hc=>?_,fun hc=>?_⟩
 ·have hrow:=hM k (by omega)
  have hrl:=hrow.1
  generalize hA:M.getD k []=A at *
  refine RN ?_
  rw [hpl]
  refine Ah (α:=Nat×List Int) (S:=fun o=>([(1,Ad p),(2,.ref 0 0),(4,.ref 1 0),(5,.ref 2 0),(6,i64 (k:Int)),(7,.sl 4 1 0 n),(8,i64 (o.1:Int))],[some [Ae M],some [Ai],some [.sl 3 1 0 k],some (L.map Ac),some (Aa o.2)])) (C:=fun o=>o.1≤n∧D3 n o.2) (μ:=fun o=>n - o.1) (0,List.replicate n 0) ⟨Nat.zero_le _,S6 n⟩ (Ref.to1) ?_
  rintro ⟨f,x⟩ ⟨g1,g2⟩
  dsimp only at g1 g2 ⊢
  have hx:=g2.1
  refine RN ?_
  refine ⟨fun hc2=>?_,fun hc2=>?_⟩
  ·have q1:=hp.2 f (by omega)
   have q2:=hrow.2 f (by omega)
   obtain ⟨y,hy⟩:=Int.eq_ofNat_of_zero_le q2.1
   have q3:=hp.2 y (by omega)
   refine RN ?_
   exact ⟨(f+1,_),⟨by dsimp only;omega,Jj g2 (k:=(p.getD f 0).toNat) (x:=p.getD ((M.getD k []).getD f 0).toNat 0) (hp.2 _ (by rw [hA];omega))⟩,by dsimp only;omega,Ref.to1⟩
  ·(refine RN ?_;try with_reducible exact trivial)
   refine ⟨(k+1,L++[x]),⟨by dsimp only;omega,by simp [h2],W0 h3 g2⟩,by dsimp only;omega,?_⟩
   refine (Ref.row 6 4 (L:=L) rfl h2 rfl hx (by decide)).trans ?_
   exact Ref.gc1 [0,1,2,6]
 ·(refine RN ?_;try with_reducible exact trivial)
  exact ⟨L,⟨by omega,h3⟩,Ref.gc [3] rfl (by simp only [go_sem,↓reduceIte,Nat.reduceEqDiff,Nat.reduceAdd,reduceCtorEq]) (by simp [sub,Ab,go_sem,↓reduceIte,Nat.reduceEqDiff,Nat.reduceAdd,reduceCtorEq,h2])⟩
theorem Rs (a b : Nat) (ha : 1 ≤ a) (hb : 1 ≤ b) (hab : a * b ≤ 1048576) (M K : List (List Int)) (hM : Eb a M) (hK : Eb b K) (hl : 1 ≤ M.length ∧ M.length ≤ 1024) (hl2 : 1 ≤ K.length ∧ K.length ≤ 1024) :
    Ea Tryz.prog 152 [Ak M,Ak K] (fun L:List (List Int)=>L.length=M.length+K.length∧Eb (a*b) L) (fun L=>.agg [.sl 0 1 0 L.length]) (fun L=>[some (L.map Ac)]):=by
 have ha2:a≤1048576:=Nat.le_trans (Nat.le_mul_of_pos_right a hb) hab
 have hb2:b≤1048576:=Nat.le_trans (Nat.le_mul_of_pos_left b ha) hab
 have hf1:=Hw M hl.1 (by omega) (by rw [(hM 0 (by omega)).1];exact ha2)
 have hf2:=Hw K hl2.1 (by omega) (by rw [(hK 0 (by omega)).1];exact hb2)
 rw [(hM 0 (by omega)).1] at hf1
 rw [(hK 0 (by omega)).1] at hf2
 refine Ix Acv rfl ?_;unfold Zf
 refine RN ?_
 refine Ag (hf1) ?_
 refine RN ?_
 refine Ag (hf2) ?_
 refine RN ?_
 refine Ah (α:=Nat×List (List Int)) (S:=fun o=>([(2,.ref 0 0),(3,.ref 1 0),(4,.ref 2 0),(5,i64 (a:Int)),(6,i64 (b:Int)),(7,.ref 3 0),(8,i64 (o.1:Int))],[some [Ae M],some [Ae K],some [Ai],some [.sl 4 1 0 o.1],some (o.2.map Ac)])) (C:=fun o=>o.1≤M.length+K.length∧o.2.length=o.1∧Eb (a*b) o.2) (μ:=fun o=>M.length+K.length - o.1) (0,[]) ⟨Nat.zero_le _,rfl,fun k hk=>absurd hk (by simp)⟩ ((Ref.nilC 3 0 1 rfl rfl).trans (Ref.to1)) ?_
 rintro ⟨i,L⟩ ⟨h1,h2,h3⟩
 dsimp only at h1 h2 h3 ⊢
 refine RN ?_
 refine ⟨fun hc=>?_,fun hc=>?_⟩
 ·(refine RN ?_;try with_reducible exact trivial)
  refine Ah (α:=Nat×List Int) (S:=fun o=>([(2,.ref 0 0),(3,.ref 1 0),(4,.ref 2 0),(5,i64 (a:Int)),(6,i64 (b:Int)),(7,.ref 3 0),(8,i64 (i:Int)),(9,.sl 5 1 0 o.1),(10,i64 (o.1:Int))],[some [Ae M],some [Ae K],some [Ai],some [.sl 4 1 0 i],some (L.map Ac),some (Aa o.2)])) (C:=fun o=>o.1≤a*b∧o.2.length=o.1∧∀ j,j<o.1→0≤o.2.getD j 0∧o.2.getD j 0<(a*b:Nat)) (μ:=fun o=>a*b - o.1) (0,[]) ⟨Nat.zero_le _,rfl,fun j hj=>absurd hj (by simp)⟩ (Ref.to1) ?_
  rintro ⟨f,x⟩ ⟨g1,g2,g3⟩
  dsimp only at g1 g2 g3 ⊢
  have hab1:(a:Int)*b=(a*b:Nat):=by simp
  refine RN ?_
  refine ⟨fun hc2=>?_,fun hc2=>?_⟩
  ·have hfb:f<a*b:=by rw [hab1] at hc2;omega
   have e1:(f:Int).tdiv b=((f / b:Nat):Int):=by rw [Int.tdiv_eq_ediv_of_nonneg (by omega)];rfl
   have e2:(f:Int).tmod b=((f%b:Nat):Int):=by rw [Int.tmod_eq_emod_of_nonneg (by omega)];rfl
   have q1:f / b<a:=(Nat.div_lt_iff_lt_mul hb).2 hfb
   have q2:f%b<b:=Nat.mod_lt _ hb
   have q3:(f / b)*b≤f:=Nat.div_mul_le_self f b
   generalize f / b=u at *
   generalize f%b=v at *
   refine RN ?_
   refine ⟨fun hc3=>?_,fun hc3=>?_⟩
   ·have hr:=hM i (by omega)
    have hr1:=hr.1
    have hr2:=hr.2 u q1
    obtain ⟨y,hy⟩:=Int.eq_ofNat_of_zero_le hr2.1
    have hyb:(y+1)*b≤a*b:=Nat.mul_le_mul_right b (by omega)
    have hyc:(y:Int)*b=(y*b:Nat):=by simp
    rw [Nat.add_mul,Nat.one_mul] at hyb
    simp only [go_sem,↓reduceIte,Nat.reduceEqDiff,Nat.reduceAdd,reduceCtorEq,e1,e2,Int.toNat_natCast,hy,hyc]
    refine RN ?_
    refine ⟨(f+1,x++[((y*b:Nat):Int)+v]),⟨by dsimp only;omega,by simp [g2],N2 g3 g2 (by omega)⟩,by dsimp only;omega,?_⟩
    have tk1:(Aa x).take f=Aa x:=List.take_of_length_le (by rw [A2];omega)
    refine Ref.gc [0,1,2,3,4,7] rfl ?_ (by simp [sub,Ab,go_sem,↓reduceIte,Nat.reduceEqDiff,Nat.reduceAdd,reduceCtorEq])
    simp only [go_sem,↓reduceIte,Nat.reduceEqDiff,Nat.reduceAdd,reduceCtorEq]
    rw [tk1,Cr]
    simp [Aa]
   ·have hr:=hK (i - M.length) (by omega)
    have hr1:=hr.1
    have hr2:=hr.2 v q2
    have hub:(u+1)*b≤a*b:=Nat.mul_le_mul_right b (by omega)
    have huc:(u:Int)*b=(u*b:Nat):=by simp
    have hi:((i:Int) - M.length).toNat=i - M.length:=by omega
    rw [Nat.add_mul,Nat.one_mul] at hub
    simp only [go_sem,↓reduceIte,Nat.reduceEqDiff,Nat.reduceAdd,reduceCtorEq,e1,e2,Int.toNat_natCast,huc,hi]
    refine RN ?_
    refine ⟨(f+1,x++[((u*b:Nat):Int)+(K.getD (i - M.length) []).getD v 0]),⟨by dsimp only;omega,by simp [g2],N2 g3 g2 (by omega)⟩,by dsimp only;omega,?_⟩
    have tk1:(Aa x).take f=Aa x:=List.take_of_length_le (by rw [A2];omega)
    refine Ref.gc [0,1,2,3,4,7] rfl ?_ (by simp [sub,Ab,go_sem,↓reduceIte,Nat.reduceEqDiff,Nat.reduceAdd,reduceCtorEq])
    simp only [go_sem,↓reduceIte,Nat.reduceEqDiff,Nat.reduceAdd,reduceCtorEq]
    rw [tk1,Cr]
    simp [Aa]
  ·have hfb:f=a*b:=by rw [hab1] at hc2;omega
   refine RN ?_
   refine ⟨(i+1,L++[x]),⟨by dsimp only;omega,by simp [h2],W0 h3 ⟨by omega,fun j hj=>g3 j (by omega)⟩⟩,by dsimp only;omega,?_⟩
   refine (Ref.row 7 5 (L:=L) rfl h2 rfl g2 (by decide)).trans ?_
   exact Ref.gc1 [0,1,2,3,7]
 ·(refine RN ?_;try with_reducible exact trivial)
  exact ⟨L,⟨by omega,h3⟩,Ref.gc [4] rfl (by simp only [go_sem,↓reduceIte,Nat.reduceEqDiff,Nat.reduceAdd,reduceCtorEq]) (by simp [sub,Ab,go_sem,↓reduceIte,Nat.reduceEqDiff,Nat.reduceAdd,reduceCtorEq,h2])⟩
end
end Go.Proofs.YtnompobcofhkpaaGreatDoor
namespace Go.Gov
variable {P:Program} {N:Nat} {F:Frame} {H:Heap} {M:List Nat} {n0:Nat}
theorem Tv {α:Type}(C:α→Prop)(F1:α→Frame)(H1:α→Heap){t:GT}{y:ACode}{Q:Exit→Frame→Heap→Prop}(hE:LT P false t (fun F' H' => ∃ o,C o∧Ref n0 F' H' (F1 o) (H1 o)) F H)(hy:∀ o,C o→W P M N n0 y Q (F1 o) (H1 o)):V P M N n0 (.alts t) (E8 (W P M N n0 y Q) Q) F H:=
 Nr (I5 (fun F' H' ⟨o,ho,h⟩=>Fx h (hy o ho)) t false F H hE)
theorem Aat (ks:List Nat)(H:Heap)(bs:List Int)(a:Nat)(h:Int):(Az bs a h).map (E9 ks H)=Az bs a h:=by simp [Az,Ep, E9,Am,mN]
theorem Aas (ks:List Nat)(H:Heap)(xs:List Int):(Aa xs).map (E9 ks H)=Aa xs:=by simp [Aa,E9,Am]
attribute [go_sem] Aat Aas
theorem pE {f k e:Nat}(hf:f<4*e)(he:e≤1048576)(hk:k<4):0≤G3 .xor .i64 (f:Int) (k:Int)∧G3 .xor .i64 (f:Int) (k:Int)<(4*e:Nat):=by
 have h2:(f ^^^ k) / 4=f / 4:=by
  have h:=Nat.xor_div_two_pow (a:=f) (b:=k) (n:=2)
  rw [show (2:Nat)^2=4 from rfl,Nat.div_eq_of_lt hk,Nat.xor_zero] at h
  exact h
 have h1:(BitVec.ofInt 64 (f:Int) ^^^ BitVec.ofInt 64 (k:Int)).toNat=f ^^^ k:=by
  rw [BitVec.toNat_xor]
  congr 1
  ·simp [BitVec.toNat_ofInt];omega
  ·simp [BitVec.toNat_ofInt];omega
 have h3:G3 .xor .i64 (f:Int) (k:Int)=((f ^^^ k:Nat):Int):=by
  show IntKind.i64.wrap _=_
  rw [show IntKind.i64.bits=64 from rfl,h1]
  generalize f ^^^ k=y at *
  show (if (true&&decide ((y:Int)%2^64 ≥ 2^63))=true then (y:Int)%2^64 - 2^64 else (y:Int)%2^64)=(y:Int)
  rw [if_neg (by simp;omega)]
  omega
 rw [h3]
 omega
end Go.Gov
namespace Go.Proofs.YtnompobcofhkpaaGreatDoor
open Go.Gov Go.Ce
open Classical
theorem xI (n:Nat)(L:List (List Int))(pt:Nat)(hL:∀ p∈L,D3 n p)(hL1:1≤L.length)(hp:pt<n)(hn:n≤1048576)(hl:L.length≤1048576):Ea Tryz.prog 72 [Ae L,i64 pt] (fun V:List Nat=>V.Nodup∧pt∈V∧∀ j,j∈V→j<n) (fun V=>.sl 0 1 0 V.length) (fun V=>[some (Aa (nz V))]):=by
 refine lT [0] Wm rfl ?_;unfold Qj
 refine RN ?_
 have hI0:OrbI L n pt [pt] [pt] none:=⟨by simp,by simp,fun y hy=>by simp at hy;subst hy;exact ⟨hp,.refl⟩,fun y hy=>hy,fun y hy hno=>absurd hy hno,fun q hq=>(by cases hq),by simp⟩
 refine ⟨fun hcl=>?_,fun hcl=>absurd hcl (by omega)⟩
 ·have hl0:(L.getD 0 []).length=n:=(hL _ (Li (k:=0) (by omega))).1
  have hLne:L≠[]:=by intro h;subst h;simp at hcl
  have hm:(((n:Nat):Int)+(pt:Int)+1).toNat=n+pt+1:=by omega
  ·(refine RN ?_;try with_reducible exact trivial)
   simp only [hl0,hm,go_sem,↓reduceIte,Nat.reduceEqDiff,Nat.reduceAdd,reduceCtorEq]
   refine RN ?_
   rw [Po,Jl]
   simp only [List.nil_append]
   refine Ah (α:=Nat×List Nat) (S:=fun p=>([(0,Ae L),(5,.sl 0 1 0 p.2.length),(7,.sl 1 1 0 (n+pt+1)),(8,i64 p.1)],[some (Aa (nz p.2)),some (Cs (Dd (n+pt+1) p.2))])) (C:=fun p=>p.1≤p.2.length∧OrbI L n pt p.2 (p.2.drop p.1) none∧(L=[]→p.2=[pt])) (μ:=fun p=>n+1 - p.1) (0,[pt]) ⟨Nat.zero_le _,hI0,fun _=>rfl⟩ (Ref.to (by simp [nz,Aa]) (by simp [sub,Ab])) ?_
   rintro ⟨q,V⟩ ⟨hq,hI,hLe⟩
   dsimp only at hq hI hLe
   have hnzl:=H4 V
   have hVn:=E6 hI.nd fun y hy=>(hI.reach y hy).1
   refine RN ?_
   refine ⟨fun hc2=>?_,fun hc2=>?_⟩
   ·have hq' : q<V.length:=by omega
    have hdr:V.drop q=V[q] :: V.drop (q+1):=List.drop_eq_getElem_cons hq'
    rw [hdr] at hI
    have hpop:=hI.popH
    have hxV:V[q]∈V:=List.getElem_mem _
    obtain ⟨hxn,hxr⟩:=hI.reach _ hxV
    generalize hx:V[q]=x at hpop hxV hxn hxr
    have hxat:∀ W:List Nat,(nz (V++W)).getD q 0=(x:Int):=fun W=>by simp [nz,hq', List.getElem?_append_left,hx]
    refine RN ?_
    refine Ah (α:=Nat×List Nat) (S:=fun p=>([(0,Ae L),(5,.sl 0 1 0 (V++p.2).length),(7,.sl 1 1 0 (n+pt+1)),(8,i64 q),(9,i64 p.1)],[some (Aa (nz (V++p.2))),some (Cs (Dd (n+pt+1) (V++p.2)))])) (C:=fun p=>p.1≤L.length∧OrbI L n pt (V++p.2) (V.drop (q+1)++p.2) (some (x,p.1))∧(L=[]→p.2=[])) (μ:=fun p=>L.length - p.1) (0,[]) ⟨Nat.zero_le _,by simpa using hpop,fun _=>rfl⟩ (Ref.to (by simp) (by simp [sub,Ab])) ?_
    rintro ⟨k,W⟩ ⟨hk,hI2,hLe2⟩
    dsimp only at hk hI2 hLe2
    have hnzl2:=H4 (V++W)
    have hat1:=hxat W
    have hVn2:=E6 hI2.nd fun y hy=>(hI2.reach y hy).1
    have hsl:=Pn (n+pt+1) (V++W)
    have hVW:(V++W).length=V.length+W.length:=List.length_append
    refine RN ?_
    refine ⟨fun hc3=>?_,fun hc3=>?_⟩
    ·have hrm:=Li (L:=L) (k:=k) (by omega)
     obtain ⟨hrl,hrb⟩:=hL _ hrm
     obtain ⟨y1,y2⟩:=hrb x hxn
     have hyr:=hxr.step hrm
     have hym:((L.getD k []).getD x 0).toNat<n+pt+1:=by omega
     have hat3:=Tf (m:=n+pt+1) (V:=V++W) hym
     generalize hZ:V++W=Z at hnzl2 hat1 hVn2 hsl hI2 hat3 hVW ⊢
     have hxi:(((x:Nat):Int)).toNat=x:=by omega
     refine RN ?_
     simp only [hat1,hxi,go_sem,↓reduceIte,Nat.reduceEqDiff,Nat.reduceAdd,reduceCtorEq]
     refine RN ?_
     refine ⟨fun hc4=>?_,fun hc4=>?_⟩
     ·have hno : ((L.getD k []).getD x 0).toNat ∉ Z := by
        intro hm'
        rw [hat3,decide_eq_true hm'] at hc4
        cases hc4
      have hadd:=hI2.add hno (by omega) hyr
      have hst:=Jl (m:=n+pt+1) (V:=Z) (x:=((L.getD k []).getD x 0).toNat)
      have hy3:((((L.getD k []).getD x 0).toNat:Nat):Int)=(L.getD k []).getD x 0:=by omega
      refine RN ?_
      refine ⟨(k+1,W++[((L.getD k []).getD x 0).toNat]),⟨by dsimp only;omega,?_,fun h=>absurd h (by intro h;subst h;simp at hc3;omega)⟩,by dsimp only;omega,?_⟩
      ·dsimp only
       rw [← List.append_assoc,← List.append_assoc,hZ]
       exact hadd
      ·dsimp only
       rw [← List.append_assoc,hZ,← hst,Sh,hy3]
       refine Ref.gc [3,1] rfl ?_ (by simp [sub,Ab,go_sem,↓reduceIte,Nat.reduceEqDiff,Nat.reduceAdd,reduceCtorEq,Nat.add_assoc])
       have hVW' : V.length+W.length=(nz Z).length:=by omega
       (try simp only [go_sem,↓reduceIte,Nat.reduceEqDiff,Nat.reduceAdd,reduceCtorEq,hVW', Xd,Iu,Fb])
     ·have hin : ((L.getD k []).getD x 0).toNat ∈ Z := by
        rcases Classical.em (((L.getD k []).getD x 0).toNat∈Z) with h | h
        ·exact h
        ·rw [hat3,decide_eq_false h] at hc4;cases hc4
      refine RN ?_
      refine ⟨(k+1,W),⟨by dsimp only;omega,?_,hLe2⟩,by dsimp only;omega,?_⟩
      ·dsimp only
       rw [hZ]
       exact hI2.skip hin
      ·dsimp only
       rw [hZ]
       exact Ref.frame (by simp [sub,Ab])
    ·obtain rfl:k=L.length:=by omega
     refine RN ?_
     refine ⟨(q+1,V++W),⟨by dsimp only;omega,?_,fun h=>by rw [hLe h,hLe2 h];rfl⟩,by dsimp only;omega,by exact Ref.frame (by simp [sub,Ab])⟩
     dsimp only
     rw [List.drop_append_of_le_length (by omega)]
     exact hI2.fin
   ·obtain rfl:q=V.length:=by omega
    rw [List.drop_length] at hI
    refine RN ?_
    refine ⟨V,⟨hI.nd,hI.start,fun j h=>(hI.reach j h).1⟩,?_,?_⟩
    ·simp only [go_sem,↓reduceIte,Nat.reduceEqDiff,Nat.reduceAdd,reduceCtorEq]
    ·simp only [go_sem,↓reduceIte,Nat.reduceEqDiff,Nat.reduceAdd,reduceCtorEq]
theorem rP {m:Nat}{c:Int}{x:List Int}(h:∀ j,j<m→0≤x.getD j 0∧x.getD j 0<c)(hl:x.length=m){k:Nat}{v:Int}(hv:0≤v∧v<c):∀ j,j<m→0≤(x.set k v).getD j 0∧(x.set k v).getD j 0<c:=fun j hj=>by
 by_cases e:k=j
 ·subst e
  have:(x.set k v).getD k 0=v:=by simp [hl,hj]
  rw [this];exact hv
 ·have:(x.set k v).getD j 0=x.getD j 0:=by simp [List.getElem?_set,e]
  rw [this];exact h j hj
theorem fV (bs : List Int) (hb : Fa bs) (a : Nat) (h : Int) (hs : a ≤ bs.length) (n : Nat) (hn : n ≤ 1048576) :
    E1 Tryz.prog 76 [.ref 0 0,i64 (n:Int)] [some (Az bs a h)] (fun o:Nat×Int×List Int=>o.1≤bs.length∧D3 n o.2.2) (fun _=>.sl 1 1 0 n) (fun o=>[some (Az bs o.1 o.2.1),some (Aa o.2.2)]):=by
 have hd:=fU bs hb a h hs n hn
 refine Hn Aep rfl ?_;unfold bD
 refine RN ?_
 refine Tv (fun o:Nat×Int×List Int=>o.1≤bs.length∧D3 n o.2.2) (fun o=>[(0,.ref 0 0),(1,i64 (n:Int)),(5,.sl 1 1 0 n),(6,.sl 2 1 0 n)]) (fun o=>[some (Az bs o.1 o.2.1),some (Aa o.2.2),some (Aa (List.replicate n 0))]) ?_ ?_
 ·repeat' first
    | simp only [go_sem,↓reduceIte,Nat.reduceEqDiff,Nat.reduceAdd,reduceCtorEq]
    | with_reducible refine Ck ?_
    | with_reducible refine Cj ?_
    | with_reducible exact Cm
    | with_reducible refine Ci ?_ ?_
    | (with_reducible refine And.intro ?_ ?_;focus first | assumption | omega | grind)
    | refine Bv (hd) [0] (by first | rfl | simp) (by simp only [go_sem,↓reduceIte,Nat.reduceEqDiff,Nat.reduceAdd,reduceCtorEq]<;>rfl) (by simp only [go_sem,↓reduceIte,Nat.reduceEqDiff,Nat.reduceAdd,reduceCtorEq]<;>rfl) fun o ho=>?_
  all_goals refine ⟨o,ho,?_⟩
  ·exact Ref.to1
  ·exact Ref.gc2 [0,2,1]
 rintro ⟨a,h,p⟩ ⟨h1,h2⟩
 dsimp only at h1 h2 ⊢
 have hpl:=h2.1
 refine RN ?_
 refine Ah (α:=Nat×List Int) (S:=fun o=>([(0,.ref 0 0),(1,i64 (n:Int)),(5,.sl 1 1 0 n),(6,.sl 2 1 0 n),(7,i64 (o.1:Int))],[some (Az bs a h),some (Aa p),some (Aa o.2)])) (C:=fun o=>o.1≤n+1∧D3 n o.2) (μ:=fun o=>n+1 - o.1) (0,List.replicate n 0) ⟨Nat.zero_le _,S6 n⟩ (Ref.to1) ?_
 rintro ⟨i,x⟩ ⟨g1,g2⟩
 dsimp only at g1 g2 ⊢
 have hx:=g2.1
 refine RN ?_
 refine ⟨fun hc=>?_,fun hc=>?_⟩
 ·have q1:=h2.2 i (by omega)
  have q2:=h2.2 (i+1) (by omega)
  have e1:((i:Int)+1).toNat=i+1:=by omega
  refine RN ?_
  exact ⟨(i+2,_),⟨by dsimp only;omega,Jj (Jj g2 (k:=(p.getD i 0).toNat) q2) (k:=(p.getD (i+1) 0).toNat) q1⟩,by dsimp only;omega,Ref.to1⟩
 ·(refine RN ?_;try with_reducible exact trivial)
  exact ⟨(a,h,x),⟨h1,g2⟩,Ref.gc1 [0,2]⟩
theorem xS (bs : List Int) (hb : Fa bs) (a : Nat) (h : Int) (hs : a ≤ bs.length) (e : Nat) (he1 : 1 ≤ e) (he : e ≤ 100000) :
    E1 Tryz.prog 153 [.ref 0 0,i64 (e:Int)] [some (Az bs a h)] (fun o:Nat×Int×Nat×List (List Int)=>o.1≤bs.length∧1≤o.2.2.1∧o.2.2.1≤4*e∧o.2.2.2.length=3∧Eb o.2.2.1 o.2.2.2) (fun _=>.agg [.sl 1 1 0 3]) (fun o=>[some (Az bs o.1 o.2.1),some (o.2.2.2.map Ac)]):=by
 have hd:=fV bs hb a h hs (4*e) (by omega)
 refine Hn Acw rfl ?_;unfold Zg
 refine RN ?_
 refine Bv (hd) [0] (by first | rfl | simp) (by simp only [go_sem,↓reduceIte,Nat.reduceEqDiff,Nat.reduceAdd,reduceCtorEq]<;>rfl) (by simp only [go_sem,↓reduceIte,Nat.reduceEqDiff,Nat.reduceAdd,reduceCtorEq]<;>rfl) fun o ho=>?_
 obtain ⟨a', h', w⟩:=o
 obtain ⟨h1,h2⟩:=ho
 dsimp only at h1 h2
 have hwl:=h2.1
 refine RN ?_
 refine Ah (α:=Nat×List Int×List Int) (S:=fun o=>([(0,.ref 0 0),(4,.ref 1 0),(5,i64 (4*(e:Int))),(6,.sl 2 1 0 o.1),(7,.sl 3 1 0 o.1),(8,.sl 4 1 0 (4*e)),(9,i64 (o.1:Int))],[some (Az bs a' h'),some [Ai],some (Aa o.2.1),some (Aa o.2.2),some (Aa w)])) (C:=fun o=>o.1≤4*e∧o.2.1.length=o.1∧o.2.2.length=o.1∧(∀ j,j<o.1→0≤o.2.1.getD j 0∧o.2.1.getD j 0<(4*e:Nat))∧(∀ j,j<o.1→0≤o.2.2.getD j 0∧o.2.2.getD j 0<(4*e:Nat))) (μ:=fun o=>4*e - o.1) (0,[],[]) ⟨Nat.zero_le _,rfl,rfl,fun j hj=>absurd hj (by simp),fun j hj=>absurd hj (by simp)⟩ (Ref.to1) ?_
 rintro ⟨f,z,t⟩ ⟨g1,g2,g3,g4,g5⟩
 dsimp only at g1 g2 g3 g4 g5 ⊢
 refine RN ?_
 refine ⟨fun hc=>?_,fun hc=>?_⟩
 ·have x1:=pE (f:=f) (k:=1) (e:=e) (by omega) (by omega) (by decide)
  have x2:=pE (f:=f) (k:=2) (e:=e) (by omega) (by omega) (by decide)
  simp only [Int.cast_ofNat_Int] at x1 x2
  refine RN ?_
  refine ⟨(f+1,z++[_],t++[_]),⟨by dsimp only;omega,by simp [g2],by simp [g3],N2 g4 g2 x1,N2 g5 g3 x2⟩,by dsimp only;omega,?_⟩
  have tk1:(Aa z).take f=Aa z:=List.take_of_length_le (by rw [A2];omega)
  have tk2:(Aa t).take f=Aa t:=List.take_of_length_le (by rw [A2];omega)
  refine Ref.gc [0,1,6,8,4] rfl ?_ (by simp [sub,Ab,go_sem,↓reduceIte,Nat.reduceEqDiff,Nat.reduceAdd,reduceCtorEq])
  simp only [go_sem,↓reduceIte,Nat.reduceEqDiff,Nat.reduceAdd,reduceCtorEq]
  rw [tk1,tk2,Cr,Cr]
  simp [Aa]
 ·obtain rfl:f=4*e:=by omega
  have rz:D3 (4*e) z:=⟨g2,g4⟩
  have rt:D3 (4*e) t:=⟨g3,g5⟩
  have tk1:(Aa z).take (4*e)=Aa z:=List.take_of_length_le (by rw [A2];omega)
  have tk2:(Aa t).take (4*e)=Aa t:=List.take_of_length_le (by rw [A2];omega)
  have tk3:(Aa w).take (4*e)=Aa w:=List.take_of_length_le (by rw [A2];omega)
  have hM:Ae [z,w,t] = .slc 1 3 [.slc 1 (4*e) (Aa z),.slc 1 (4*e) (Aa w),.slc 1 (4*e) (Aa t)]:=by simp [Ae,Ad,Aa,g2,g3,hwl]
  have hRs:∀ k,k<3→D3 (4*e) ([z,w,t].getD k []):=fun k hk=>by
   match k,hk with
   | 0,_=>exact rz
   | 1,_=>exact h2
   | 2,_=>exact rt
  have hor:=xI (4*e) [z,w,t] 0 (by intro p hp;simp at hp;rcases hp with rfl | rfl | rfl<;>assumption) (by simp) (by omega) (by omega) (by simp)
  have hMl:[z,w,t].length=3:=rfl
  generalize [z,w,t]=Mv at hM hRs hor hMl
  have hc4:(4*(e:Int)).toNat=4*e:=by omega
  refine RN ?_
  refine Hj hor (by simp only [go_sem,↓reduceIte,Nat.reduceEqDiff,Nat.reduceAdd,reduceCtorEq,tk1,tk2,tk3,hM]<;>rfl) (by simp only [go_sem,↓reduceIte,Nat.reduceEqDiff,Nat.reduceAdd,reduceCtorEq]<;>rfl) fun V hV=>?_
  obtain ⟨v1,v2,v3⟩:=hV
  have hVn:=E6 v1 v3
  have hV1:1≤V.length:=List.length_pos_of_mem v2
  have hzl:=H4 V
  have hat:∀ i,i<V.length→(nz V).getD i 0=(V.getD i 0:Nat)∧V.getD i 0<4*e:=fun i hi=>by
   refine ⟨by simp [nz,hi],?_⟩
   have:V.getD i 0∈V:=by simp [hi]
   exact v3 _ this
  generalize nz V=O at *
  generalize V.length=n at *
  simp only [go_sem,↓reduceIte,Nat.reduceEqDiff,Nat.reduceAdd,reduceCtorEq]
  refine Fx (Ref.sel [0,1,6] (F' := [(0,.ref 0 0),(4,.ref 1 0),(5,i64 (4*(e:Int))),(10,Ae Mv),(11,.sl 2 1 0 n)]) (H' := [some (Az bs a' h'),some [Ai],some (Aa O)]) rfl ?_ ?_) ?_
  ·simp only [go_sem,↓reduceIte,Nat.reduceEqDiff,Nat.reduceAdd,reduceCtorEq]
  ·simp only [sub,List.all_cons,List.all_nil,go_sem,↓reduceIte,Nat.reduceEqDiff,Nat.reduceAdd,reduceCtorEq]
   rw [tk1,tk2,tk3,Fl,Fl,Fl,← hM]
  refine RN ?_
  rw [hc4]
  refine Ah (α:=Nat×List Int) (S:=fun o=>([(0,.ref 0 0),(4,.ref 1 0),(10,Ae Mv),(11,.sl 2 1 0 n),(12,.sl 3 1 0 (4*e)),(13,i64 (o.1:Int))],[some (Az bs a' h'),some [Ai],some (Aa O),some (Aa o.2)])) (C:=fun o=>o.1≤n∧o.2.length=4*e∧∀ j,j<4*e→0≤o.2.getD j 0∧o.2.getD j 0<n) (μ:=fun o=>n - o.1) (0,List.replicate (4*e) 0) ⟨Nat.zero_le _,by simp,fun j hj=>by simp [hj];omega⟩ (Ref.to1) ?_
  rintro ⟨i,x⟩ ⟨d1,d2,d3⟩
  dsimp only at d1 d2 d3 ⊢
  refine RN ?_
  refine ⟨fun hc5=>?_,fun hc5=>?_⟩
  ·obtain ⟨a1,a2⟩:=hat i (by omega)
   have hsx:=rP (k:=(O.getD i 0).toNat) (v:=(i:Int)) d3 d2 (by omega)
   refine RN ?_
   exact ⟨(i+1,_),⟨by dsimp only;omega,by simp [d2],hsx⟩,by dsimp only;omega,Ref.to1⟩
  obtain rfl:i=n:=by omega
  refine RN ?_
  refine Ah (α:=Nat×List (List Int)) (S:=fun o=>([(4,.ref 1 0),(10,Ae Mv),(11,.sl 2 1 0 i),(12,.sl 3 1 0 (4*e)),(14,.ref 4 0),(15,i64 (o.1:Int))],[some (Az bs a' h'),some [Ai],some (Aa O),some (Aa x),some [.sl 5 1 0 o.1],some (o.2.map Ac)])) (C:=fun o=>o.1≤3∧o.2.length=o.1∧Eb i o.2) (μ:=fun o=>3 - o.1) (0,[]) ⟨Nat.zero_le _,rfl,fun k hk=>absurd hk (by simp)⟩ ((Ref.nilC 4 0 1 rfl rfl).trans (Ref.to1)) ?_
  rintro ⟨k,L⟩ ⟨m1,m2,m3⟩
  dsimp only at m1 m2 m3 ⊢
  refine RN ?_
  refine ⟨fun hc6=>?_,fun hc6=>?_⟩
  ·have hrow:=hRs k (by omega)
   have hrl:=hrow.1
   refine RN ?_
   refine Ah (α:=Nat×List Int) (S:=fun o=>([(4,.ref 1 0),(10,Ae Mv),(11,.sl 2 1 0 i),(12,.sl 3 1 0 (4*e)),(14,.ref 4 0),(15,i64 (k:Int)),(16,.sl 6 1 0 o.1),(17,i64 (o.1:Int))],[some (Az bs a' h'),some [Ai],some (Aa O),some (Aa x),some [.sl 5 1 0 k],some (L.map Ac),some (Aa o.2)])) (C:=fun o=>o.1≤i∧o.2.length=o.1∧∀ j,j<o.1→0≤o.2.getD j 0∧o.2.getD j 0<i) (μ:=fun o=>i - o.1) (0,[]) ⟨Nat.zero_le _,rfl,fun j hj=>absurd hj (by simp)⟩ (Ref.to1) ?_
   rintro ⟨f,y⟩ ⟨r1,r2,r3⟩
   dsimp only at r1 r2 r3 ⊢
   refine RN ?_
   refine ⟨fun hc7=>?_,fun hc7=>?_⟩
   ·obtain ⟨a1,a2⟩:=hat f (by omega)
    have b1:=hrow.2 (O.getD f 0).toNat (by omega)
    have b2:=d3 ((Mv.getD k []).getD (O.getD f 0).toNat 0).toNat (by omega)
    refine RN ?_
    refine ⟨(f+1,y++[x.getD ((Mv.getD k []).getD (O.getD f 0).toNat 0).toNat 0]),⟨by dsimp only;omega,by simp [r2],N2 r3 r2 b2⟩,by dsimp only;omega,?_⟩
    have tk1:(Aa y).take f=Aa y:=List.take_of_length_le (by rw [A2];omega)
    refine Ref.gc [0,1,2,3,4,5,8] rfl ?_ (by simp [sub,Ab,go_sem,↓reduceIte,Nat.reduceEqDiff,Nat.reduceAdd,reduceCtorEq])
    simp only [go_sem,↓reduceIte,Nat.reduceEqDiff,Nat.reduceAdd,reduceCtorEq]
    rw [tk1,Cr]
    simp [Aa]
   obtain rfl:f=i:=by omega
   refine RN ?_
   refine ⟨(k+1,L++[y]),⟨by dsimp only;omega,by simp [m2],W0 m3 ⟨r2,r3⟩⟩,by dsimp only;omega,?_⟩
   refine (Ref.row 8 6 (L:=L) rfl m2 rfl r2 (by decide)).trans ?_
   exact Ref.gc1 [0,1,2,3,4,8]
  obtain rfl:k=3:=by omega
  refine RN ?_
  exact ⟨(a', h', i,L),⟨h1,hV1,by dsimp only;omega,m2,m3⟩,Ref.gc1 [0,5]⟩
end Go.Proofs.YtnompobcofhkpaaGreatDoor
namespace Go.Gov
variable {P:Program} {N:Nat} {F:Frame} {H:Heap} {M:List Nat} {n0:Nat}
theorem X1 {x z:ACode}{Q:Exit→Frame→Heap→Prop}{α:Type}(C:α→Prop)(F1:α→Frame)(H1:α→Heap)(hx:W P M N n0 x (E8 (fun F' H' => ∃ o,C o∧Ref n0 F' H' (F1 o) (H1 o)) Q) F H)(hn:∀ o,C o→W P M N n0 z Q (F1 o) (H1 o)):W P M N n0 x (E8 (W P M N n0 z Q) Q) F H:=
 X2 hx fun e F' H' h=>by
  cases e with
  | normal=>obtain ⟨o,ho,hr⟩:=h;exact Fx hr (hn o ho)
  | _=>exact h
end Go.Gov
namespace Go.Proofs.YtnompobcofhkpaaGreatDoor
section
open Go.Gov Go.Ce
open Classical
theorem S5:Eb 2 [[1,0]]:=fun k hk=>by
 obtain rfl:k=0:=by simp at hk;omega
 refine ⟨rfl,fun j hj=>?_⟩
 match j,hj with
 | 0,_=>decide
 | 1,_=>decide
theorem xO (bs : List Int) (hb : Fa bs) (a : Nat) (h : Int) (hs : a ≤ bs.length) (most : Nat) (hm1 : 16 ≤ most) (hm2 : most ≤ 1000) :
    E1 Tryz.prog 118 [.ref 0 0,i64 (most:Int)] [some (Az bs a h)] (fun o:Nat×Int×Nat×List (List Int)=>o.1≤bs.length∧1≤o.2.2.1∧o.2.2.1≤most∧1≤o.2.2.2.length∧o.2.2.2.length≤5∧Eb o.2.2.1 o.2.2.2) (fun o=>.agg [.sl 1 1 0 o.2.2.2.length]) (fun o=>[some (Az bs o.1 o.2.1),some (o.2.2.2.map Ac)]):=by
 refine Hn Ab6 rfl ?_;unfold Yt
 refine RN ?_
 refine Bv (C2 bs hb a h hs 7) [0] (by first | rfl | simp) (by simp only [go_sem,↓reduceIte,Nat.reduceEqDiff,Nat.reduceAdd,reduceCtorEq]<;>rfl) (by simp only [go_sem,↓reduceIte,Nat.reduceEqDiff,Nat.reduceAdd,reduceCtorEq]<;>rfl) fun o ho=>?_
 obtain ⟨a1,b1,k⟩:=o
 obtain ⟨h1,h2,h3⟩:=ho
 dsimp only at h1 h2 h3
 obtain ⟨k,rfl⟩:=Int.eq_ofNat_of_zero_le h2
 simp only [go_sem,↓reduceIte,Nat.reduceEqDiff,Nat.reduceAdd,reduceCtorEq]
 have eq2:(most:Int).tdiv 2=((most / 2:Nat):Int):=by rw [Int.tdiv_eq_ediv_of_nonneg (by omega)];rfl
 have eq4:(most:Int).tdiv 4=((most / 4:Nat):Int):=by rw [Int.tdiv_eq_ediv_of_nonneg (by omega)];rfl
 have hcl:Ref 1 [(13,AV.val (Value.int IntKind.i64 k)),(6,AV.ref 5 0),(5,AV.ref 4 0),(4,AV.ref 1 0),(0,AV.ref 0 0),(1,i64 most)]
  [some (Az bs a1 b1),some [Ai],some (Aa [1,0]),some [AV.sl 2 1 0 2],some [AV.sl 3 1 0 1],some [AV.sl 3 1 0 1]]
  [(13,AV.val (Value.int IntKind.i64 k)),(6,AV.ref 4 0),(5,AV.ref 3 0),(4,AV.ref 1 0),(0,AV.ref 0 0),(1,i64 most)]
  [some (Az bs a1 b1),some [Ai],some ([[1,0]].map Ac),some [AV.sl 2 1 0 1],some [AV.sl 2 1 0 1]]:=by
  refine (Ref.close 3 0 2 (k:=1) (n:=2) (cs2:=Aa [1,0]) rfl rfl rfl (by decide) rfl).trans ?_
  exact Ref.gc2 [0,1,3,4,5]
 refine Fx ((Ref.to1).trans hcl) ?_
 refine X1 (fun o:Nat×Int×Nat×List (List Int)=>o.1≤bs.length∧1≤o.2.2.1∧o.2.2.1≤most∧1≤o.2.2.2.length∧o.2.2.2.length≤5∧Eb o.2.2.1 o.2.2.2) (fun o=>[(0,.ref 0 0),(1,i64 (most:Int)),(4,.ref 1 0),(5,.ref 3 0),(6,.ref 4 0)]) (fun o=>[some (Az bs o.1 o.2.1),some [Ai],some ([[1,0]].map Ac),some [.sl 2 1 0 1],some [.sl 5 1 0 o.2.2.2.length],some (o.2.2.2.map Ac)]) ?_ ?_
 ·(refine RN ?_;try with_reducible exact trivial)
  simp only [eq2,eq4]
  refine ⟨fun c0=>?_,fun c0=>?_⟩
  ·(refine RN ?_;try with_reducible exact trivial)
   (try simp only [eq2,eq4])
   refine Bv (C2 bs hb a1 b1 h1 ((most / 2:Nat):Int)) [0] (by first | rfl | simp) (by simp only [go_sem,↓reduceIte,Nat.reduceEqDiff,Nat.reduceAdd,reduceCtorEq]<;>rfl) (by simp only [go_sem,↓reduceIte,Nat.reduceEqDiff,Nat.reduceAdd,reduceCtorEq]<;>rfl) fun o ho=>?_
   obtain ⟨a2,b2,p⟩:=o
   obtain ⟨q1,q2,q3⟩:=ho
   dsimp only at q1 q2 q3
   obtain ⟨p,rfl⟩:=Int.eq_ofNat_of_zero_le q2
   have hp:=Ru (1+p) (by omega) (by omega)
   rw [show ((1+p:Nat):Int)=1+(p:Int) from by omega] at hp
   refine RN ?_
   refine Hj (hp) (by simp only [go_sem,↓reduceIte,Nat.reduceEqDiff,Nat.reduceAdd,reduceCtorEq]<;>rfl) (fun o=>by first | rfl | simp only [go_sem,↓reduceIte,Nat.reduceEqDiff,Nat.reduceAdd,reduceCtorEq]) fun o ho=>?_
   obtain ⟨o1,o2⟩:=ho
   refine RN ?_
   exact ⟨(a2,b2,2*(1+p),o),⟨q1,by dsimp only;omega,by dsimp only;omega,by dsimp only;omega,by dsimp only;omega,o2⟩,Ref.to (by simp [o1]) (by simp [sub,Ab])⟩
  ·(refine RN ?_;try with_reducible exact trivial)
   refine ⟨fun c1=>?_,fun c1=>?_⟩
   ·(refine RN ?_;try with_reducible exact trivial)
    refine ⟨(a1,b1,2,[[1,0]]),⟨h1,by dsimp only;omega,by dsimp only;omega,by simp,by simp,S5⟩,?_⟩
    exact Ref.gc2 [0,2]
   ·(refine RN ?_;try with_reducible exact trivial)
    refine ⟨fun c2=>?_,fun c2=>?_⟩
    ·(refine RN ?_;try with_reducible exact trivial)
     (try simp only [eq2,eq4])
     refine Bv (C2 bs hb a1 b1 h1 ((most / 4:Nat):Int)) [0] (by first | rfl | simp) (by simp only [go_sem,↓reduceIte,Nat.reduceEqDiff,Nat.reduceAdd,reduceCtorEq]<;>rfl) (by simp only [go_sem,↓reduceIte,Nat.reduceEqDiff,Nat.reduceAdd,reduceCtorEq]<;>rfl) fun o ho=>?_
     obtain ⟨a2,b2,p⟩:=o
     obtain ⟨q1,q2,q3⟩:=ho
     dsimp only at q1 q2 q3
     obtain ⟨p,rfl⟩:=Int.eq_ofNat_of_zero_le q2
     have hp:=Ru (1+p) (by omega) (by omega)
     rw [show ((1+p:Nat):Int)=1+(p:Int) from by omega] at hp
     refine RN ?_
     refine Hj (hp) (by simp only [go_sem,↓reduceIte,Nat.reduceEqDiff,Nat.reduceAdd,reduceCtorEq]<;>rfl) (fun o=>by first | rfl | simp only [go_sem,↓reduceIte,Nat.reduceEqDiff,Nat.reduceAdd,reduceCtorEq]) fun o ho=>?_
     obtain ⟨o1,o2⟩:=ho
     have hbe:=Rs (2*(1+p)) 2 (by omega) (by omega) (by omega) o [[1,0]] o2 S5 (by omega) (by decide)
     refine RN ?_
     refine Hj hbe (by simp only [go_sem,↓reduceIte,Nat.reduceEqDiff,Nat.reduceAdd,reduceCtorEq,Bl _ _ o 2 o1]<;>first | done | (simp only [Ak,Ae,o1]<;>rfl)) (fun o=>by first | rfl | simp only [go_sem,↓reduceIte,Nat.reduceEqDiff,Nat.reduceAdd,reduceCtorEq]) fun o' ho' => ?_
     obtain ⟨o3,o4⟩:=ho'
     have o5:o'.length=3:=by rw [o3,o1];rfl
     refine RN ?_
     exact ⟨(a2,b2,2*(1+p)*2,o'),⟨q1,by dsimp only;omega,by dsimp only;omega,by dsimp only;omega,by dsimp only;omega,o4⟩,Ref.gc2 [0,1,2,3,4,6]⟩
    ·(refine RN ?_;try with_reducible exact trivial)
     refine ⟨fun c3=>?_,fun c3=>?_⟩
     ·(refine RN ?_;try with_reducible exact trivial)
      refine Bv (C2 bs hb a1 b1 h1 4) [0] (by first | rfl | simp) (by simp only [go_sem,↓reduceIte,Nat.reduceEqDiff,Nat.reduceAdd,reduceCtorEq]<;>rfl) (by simp only [go_sem,↓reduceIte,Nat.reduceEqDiff,Nat.reduceAdd,reduceCtorEq]<;>rfl) fun o ho=>?_
      obtain ⟨a2,b2,p⟩:=o
      obtain ⟨q1,q2,q3⟩:=ho
      dsimp only at q1 q2 q3
      obtain ⟨p,rfl⟩:=Int.eq_ofNat_of_zero_le q2
      have hp:=Ru (1+p) (by omega) (by omega)
      rw [show ((1+p:Nat):Int)=1+(p:Int) from by omega] at hp
      have eq5:(most:Int).tdiv (4*(1+(p:Int)))=((most / (4*(1+p)):Nat):Int):=by
       rw [Int.tdiv_eq_ediv_of_nonneg (by omega)]
       have:(4*(1+(p:Int)))=((4*(1+p):Nat):Int):=by omega
       rw [this];rfl
      have hD:(4*(1+p))*(most / (4*(1+p)))≤most:=Nat.mul_div_le _ _
      have hD1:1≤most / (4*(1+p)):=(Nat.le_div_iff_mul_le (by omega)).2 (by omega)
      generalize most / (4*(1+p))=D at eq5 hD hD1
      refine RN ?_
      intro _
      refine RN ?_
      refine Hj (hp) (by simp only [go_sem,↓reduceIte,Nat.reduceEqDiff,Nat.reduceAdd,reduceCtorEq]<;>rfl) (fun o=>by first | rfl | simp only [go_sem,↓reduceIte,Nat.reduceEqDiff,Nat.reduceAdd,reduceCtorEq]) fun o ho=>?_
      obtain ⟨o1,o2⟩:=ho
      simp only [go_sem,↓reduceIte,Nat.reduceEqDiff,Nat.reduceAdd,reduceCtorEq,eq5]
      refine RN ?_
      refine Bv (C2 bs hb a2 b2 q1 (D:Int)) [0] (by first | rfl | simp) (by simp only [go_sem,↓reduceIte,Nat.reduceEqDiff,Nat.reduceAdd,reduceCtorEq]<;>rfl) (by simp only [go_sem,↓reduceIte,Nat.reduceEqDiff,Nat.reduceAdd,reduceCtorEq]<;>rfl) fun o' ho' => ?_
      obtain ⟨a3,b3,r⟩:=o'
      obtain ⟨y1,y2,y3⟩:=ho'
      dsimp only at y1 y2 y3
      obtain ⟨r,rfl⟩:=Int.eq_ofNat_of_zero_le y2
      have hrD:(4*(1+p))*(1+r)≤most:=Nat.le_trans (Nat.mul_le_mul_left _ (by omega)) hD
      have hrr:2*(1+p)*(2*(1+r))=(4*(1+p))*(1+r):=by
       rw [show 2*(1+p)*(2*(1+r))=(2*(1+p)*2)*(1+r) by rw [Nat.mul_assoc,Nat.mul_assoc,Nat.mul_assoc]]
       congr 1
       omega
      have hp2:=Ru (1+r) (by omega) (by
       have:1+r≤(4*(1+p))*(1+r):=Nat.le_mul_of_pos_left _ (by omega)
       omega)
      rw [show ((1+r:Nat):Int)=1+(r:Int) from by omega] at hp2
      have hr1:1+r≤(4*(1+p))*(1+r):=Nat.le_mul_of_pos_left _ (by omega)
      refine RN ?_
      refine Hj hp2 (by simp only [go_sem,↓reduceIte,Nat.reduceEqDiff,Nat.reduceAdd,reduceCtorEq]<;>rfl) (fun o=>by first | rfl | simp only [go_sem,↓reduceIte,Nat.reduceEqDiff,Nat.reduceAdd,reduceCtorEq]) fun o' ho' => ?_
      obtain ⟨o3,o4⟩:=ho'
      have hbe:=Rs (2*(1+p)) (2*(1+r)) (by omega) (by omega) (by omega) o o' o2 o4 (by omega) (by omega)
      refine RN ?_
      refine Hj hbe (by simp only [go_sem,↓reduceIte,Nat.reduceEqDiff,Nat.reduceAdd,reduceCtorEq,Bl _ _ o 2 o1,Bl _ _ o' 2 o3]<;>first | done | (simp only [Ak,Ae,o1,o3]<;>rfl)) (fun o=>by first | rfl | simp only [go_sem,↓reduceIte,Nat.reduceEqDiff,Nat.reduceAdd,reduceCtorEq]) fun o2' ho2' => ?_
      obtain ⟨o5,o6⟩:=ho2'
      have o7:o2'.length=4:=by rw [o5,o1,o3]
      refine RN ?_
      exact ⟨(a3,b3,2*(1+p)*(2*(1+r)),o2'),⟨y1,by dsimp only;omega,by dsimp only;omega,by dsimp only;omega,by dsimp only;omega,o6⟩,Ref.gc2 [0,1,2,3,4,7]⟩
     ·(refine RN ?_;try with_reducible exact trivial)
      (try simp only [eq2,eq4])
      refine Bv (C2 bs hb a1 b1 h1 ((most / 4:Nat):Int)) [0] (by first | rfl | simp) (by simp only [go_sem,↓reduceIte,Nat.reduceEqDiff,Nat.reduceAdd,reduceCtorEq]<;>rfl) (by simp only [go_sem,↓reduceIte,Nat.reduceEqDiff,Nat.reduceAdd,reduceCtorEq]<;>rfl) fun o ho=>?_
      obtain ⟨a2,b2,p⟩:=o
      obtain ⟨q1,q2,q3⟩:=ho
      dsimp only at q1 q2 q3
      obtain ⟨p,rfl⟩:=Int.eq_ofNat_of_zero_le q2
      have hp:=xS bs hb a2 b2 q1 (1+p) (by omega) (by omega)
      rw [show ((1+p:Nat):Int)=1+(p:Int) from by omega] at hp
      refine RN ?_
      refine Bv (hp) [0] (by first | rfl | simp) (by simp only [go_sem,↓reduceIte,Nat.reduceEqDiff,Nat.reduceAdd,reduceCtorEq]<;>rfl) (by simp only [go_sem,↓reduceIte,Nat.reduceEqDiff,Nat.reduceAdd,reduceCtorEq]<;>rfl) fun o ho=>?_
      obtain ⟨a3,b3,n,L⟩:=o
      obtain ⟨t1,t2,t3,t4,t5⟩:=ho
      dsimp only at t1 t2 t3 t4 t5 ⊢
      refine RN ?_
      exact ⟨(a3,b3,n,L),⟨t1,t2,by dsimp only;omega,by dsimp only;omega,by dsimp only;omega,t5⟩,Ref.to (by simp [t4]) (by simp [sub,Ab])⟩
 ·rintro ⟨a2,b2,n,L⟩ ⟨g1,g2,g3,g4,g5,g6⟩
  dsimp only at g1 g2 g3 g4 g5 g6 ⊢
  refine RN ?_
  refine Ah (α:=Nat×Int×Nat×List (List Int)) (S:=fun o=>([(0,.ref 0 0),(1,i64 (most:Int)),(4,.ref 1 0),(5,.ref 3 0),(6,.ref 4 0)],[some (Az bs o.1 o.2.1),some [Ai],some [Ac [1,0]],some [.sl 2 1 0 1],some [.sl 5 1 0 o.2.2.2.length],some (o.2.2.2.map Ac)])) (C:=fun o=>o.1≤bs.length∧1≤o.2.2.1∧o.2.2.1≤most∧1≤o.2.2.2.length∧o.2.2.2.length≤5∧Eb o.2.2.1 o.2.2.2) (μ:=fun o=>5 - o.2.2.2.length) (a2,b2,n,L) ⟨g1,g2,g3,g4,g5,g6⟩ (Ref.to1) ?_
  clear g1 g2 g3 g4 g5 g6
  clear a2 b2 n L
  rintro ⟨a2,b2,n,L⟩ ⟨g1,g2,g3,g4,g5,g6⟩
  dsimp only at g1 g2 g3 g4 g5 g6 ⊢
  have hfl:=Hw L (by omega) (by omega) (by rw [(g6 0 (by omega)).1];omega)
  rw [(g6 0 (by omega)).1] at hfl
  by_cases hA:L.length<5
  ·have pA:((L.length:Int)<5)=True:=eq_true (by omega)
   have dA:decide ((L.length:Int)<5)=true:=decide_eq_true (by omega)
   by_cases hB:n*2≤most
   ·have pB:((n:Int)*2≤most)=True:=eq_true (by omega)
    have dB:decide ((n:Int)*2≤most)=true:=decide_eq_true (by omega)
    refine RN ?_
    rw [dA]
    refine GCall.on rfl ⟨by first | trivial | omega | simp,?_⟩
    refine A9 hfl (by simp only [go_sem,↓reduceIte,Nat.reduceEqDiff,Nat.reduceAdd,reduceCtorEq,Bl _ _ L L.length rfl]<;>first | done | (simp only [Ak,Ae]<;>rfl)) (by first | rfl | simp only [go_sem,↓reduceIte,Nat.reduceEqDiff,Nat.reduceAdd,reduceCtorEq]) ?_
    simp only [go_sem,↓reduceIte,Nat.reduceEqDiff,Nat.reduceAdd,reduceCtorEq,pA,pB,dA,dB,true_implies]
    refine RN ?_
    refine GCall.on rfl ?_
    refine Bv (C2 bs hb a2 b2 g1 3) [0] (by first | rfl | simp) (by simp only [go_sem,↓reduceIte,Nat.reduceEqDiff,Nat.reduceAdd,reduceCtorEq]<;>rfl) (by simp only [go_sem,↓reduceIte,Nat.reduceEqDiff,Nat.reduceAdd,reduceCtorEq]<;>rfl) fun o ho=>?_
    obtain ⟨a3,b3,r⟩:=o
    obtain ⟨y1,y2,y3⟩:=ho
    dsimp only at y1 y2 y3
    simp only [go_sem,↓reduceIte,Nat.reduceEqDiff,Nat.reduceAdd,reduceCtorEq,pA,pB,dA,dB,true_implies]
    refine RN ?_
    refine ⟨fun c6=>?_,fun c6=>?_⟩
    ·have hb1:=Rs n 2 g2 (by decide) (by omega) L [[1,0]] g6 S5 (by omega) (by decide)
     have hb2:=Rs 2 n (by decide) g2 (by omega) [[1,0]] L S5 g6 (by decide) (by omega)
     refine RN ?_
     refine Bv (C2 bs hb a3 b3 y1 2) [0] (by first | rfl | simp) (by simp only [go_sem,↓reduceIte,Nat.reduceEqDiff,Nat.reduceAdd,reduceCtorEq]<;>rfl) (by simp only [go_sem,↓reduceIte,Nat.reduceEqDiff,Nat.reduceAdd,reduceCtorEq]<;>rfl) fun o ho=>?_
     obtain ⟨a4,b4,r2⟩:=o
     obtain ⟨z1,z2,z3⟩:=ho
     dsimp only at z1 z2 z3
     refine RN ?_
     refine ⟨fun c7=>?_,fun c7=>?_⟩
     ·(refine RN ?_;try with_reducible exact trivial)
      refine Hj hb1 (by simp only [go_sem,↓reduceIte,Nat.reduceEqDiff,Nat.reduceAdd,reduceCtorEq,Bl _ _ L L.length rfl]<;>first | done | (simp only [Ak,Ae]<;>rfl)) (fun o=>by first | rfl | simp only [go_sem,↓reduceIte,Nat.reduceEqDiff,Nat.reduceAdd,reduceCtorEq]) fun o' ho' => ?_
      obtain ⟨o3,o4⟩:=ho'
      have o5:o'.length=L.length+1:=o3
      refine RN ?_
      exact ⟨(a4,b4,n*2,o'),⟨z1,by dsimp only;omega,by dsimp only;omega,by dsimp only;omega,by dsimp only;omega,o4⟩,by dsimp only;omega,Ref.gc2 [0,1,2,3,4,6]⟩
     ·(refine RN ?_;try with_reducible exact trivial)
      refine Hj hb2 (by simp only [go_sem,↓reduceIte,Nat.reduceEqDiff,Nat.reduceAdd,reduceCtorEq,Bl _ _ L L.length rfl]<;>first | done | (simp only [Ak,Ae]<;>rfl)) (fun o=>by first | rfl | simp only [go_sem,↓reduceIte,Nat.reduceEqDiff,Nat.reduceAdd,reduceCtorEq]) fun o' ho' => ?_
      obtain ⟨o3,o4⟩:=ho'
      have o5:o'.length=1+L.length:=o3
      refine RN ?_
      exact ⟨(a4,b4,2*n,o'),⟨z1,by dsimp only;omega,by dsimp only;omega,by dsimp only;omega,by dsimp only;omega,o4⟩,by dsimp only;omega,Ref.gc2 [0,1,2,3,4,6]⟩
    ·(refine RN ?_;try with_reducible exact trivial)
     exact ⟨(a3,b3,n,L),⟨y1,g2,g3,g4,g5,g6⟩,Ref.gc1 [0,5]⟩
   ·have nB:((n:Int)*2≤most)=False:=eq_false (by omega)
    have dB:decide ((n:Int)*2≤most)=false:=decide_eq_false (by omega)
    refine RN ?_
    rw [dA]
    refine GCall.on rfl ⟨by first | trivial | omega | simp,?_⟩
    refine A9 hfl (by simp only [go_sem,↓reduceIte,Nat.reduceEqDiff,Nat.reduceAdd,reduceCtorEq,Bl _ _ L L.length rfl]<;>first | done | (simp only [Ak,Ae]<;>rfl)) (by first | rfl | simp only [go_sem,↓reduceIte,Nat.reduceEqDiff,Nat.reduceAdd,reduceCtorEq]) ?_
    simp only [go_sem,↓reduceIte,Nat.reduceEqDiff,Nat.reduceAdd,reduceCtorEq,pA,nB,dA,dB,true_implies]
    refine RN ?_
    refine Fv (i64 0) rfl ?_
    simp only [go_sem,↓reduceIte,Nat.reduceEqDiff,Nat.reduceAdd,reduceCtorEq,pA,nB,dA,dB,true_implies,false_implies]
    refine RN ?_
    exact ⟨(a2,b2,n,L),⟨g1,g2,g3,g4,g5,g6⟩,Ref.gc1 [0,5]⟩
  ·have dA:decide ((L.length:Int)<5)=false:=decide_eq_false (by omega)
   refine RN ?_
   rw [dA]
   refine Fv (i64 0) rfl ?_
   have nA:((L.length:Int)<5)=False:=eq_false (by omega)
   simp only [go_sem,↓reduceIte,Nat.reduceEqDiff,Nat.reduceAdd,reduceCtorEq,nA,dA,false_implies]
   refine RN ?_
   refine Fv (i64 0) rfl ?_
   simp only [go_sem,↓reduceIte,Nat.reduceEqDiff,Nat.reduceAdd,reduceCtorEq,nA,dA,false_implies]
   refine RN ?_
   exact ⟨(a2,b2,n,L),⟨g1,g2,g3,g4,g5,g6⟩,Ref.gc1 [0,5]⟩
end
section
open Go.Gov Go.Ce
open Classical
theorem xM (bs : List Int) (hb : Fa bs) (a : Nat) (h : Int) (hs : a ≤ bs.length) (w : List Int) (hw : w.length ≤ 1048576) (hw1 : 1 ≤ w.length) :
    E1 Tryz.prog 75 [.ref 0 0,.sl 1 1 0 w.length] [some (Az bs a h),some (Aa w)] (fun o:Nat×Int×Nat=>o.1≤bs.length∧o.2.2<w.length) (fun o=>i64 (w.getD o.2.2 0)) (fun o=>[some (Az bs o.1 o.2.1),some (Aa w)]):=by
 refine Hn Aeo rfl ?_;unfold c75
 refine RN ?_
 refine Bv (C2 bs hb a h hs (w.length:Int)) [0] (by first | rfl | simp) (by simp only [go_sem,↓reduceIte,Nat.reduceEqDiff,Nat.reduceAdd,reduceCtorEq]<;>rfl) (by simp only [go_sem,↓reduceIte,Nat.reduceEqDiff,Nat.reduceAdd,reduceCtorEq]<;>rfl) fun o ho=>?_
 obtain ⟨a', h', k⟩:=o
 obtain ⟨h1,h2,h3⟩:=ho
 dsimp only at h1 h2 h3
 obtain ⟨k,rfl⟩:=Int.eq_ofNat_of_zero_le h2
 have hk:k<w.length:=by omega
 refine RN ?_
 exact ⟨(a', h', k),⟨h1,hk⟩,Ref.gc2 [0,1]⟩
theorem fZ (bs : List Int) (hb : Fa bs) (a : Nat) (h : Int) (hs : a ≤ bs.length) (most : Nat) (hm1 : 16 ≤ most) (hm2 : most ≤ 1000) :
    E1 Tryz.prog 74 [.ref 0 0,i64 (most:Int)] [some (Az bs a h)] (fun o:Nat×Int×Nat×List (List Int)=>o.1≤bs.length∧1≤o.2.2.1∧o.2.2.1≤most∧1≤o.2.2.2.length∧o.2.2.2.length≤5∧Eb o.2.2.1 o.2.2.2) (fun o=>.agg [.sl 1 1 0 o.2.2.2.length]) (fun o=>[some (Az bs o.1 o.2.1),some (o.2.2.2.map Ac)]):=by
 refine Hn Aen rfl ?_;unfold bC
 refine RN ?_
 refine Bv (xO bs hb a h hs most hm1 hm2) [0] (by first | rfl | simp) (by simp only [go_sem,↓reduceIte,Nat.reduceEqDiff,Nat.reduceAdd,reduceCtorEq]<;>rfl) (by simp only [go_sem,↓reduceIte,Nat.reduceEqDiff,Nat.reduceAdd,reduceCtorEq]<;>rfl) fun o ho=>?_
 obtain ⟨a1,b1,n,L⟩:=o
 obtain ⟨h1,h2,h3,h4,h5,h6⟩:=ho
 dsimp only at h1 h2 h3 h4 h5 h6 ⊢
 have hfl:=Hw L (by omega) (by omega) (by rw [(h6 0 (by omega)).1];omega)
 rw [(h6 0 (by omega)).1] at hfl
 refine RN ?_
 refine Bv (C2 bs hb a1 b1 h1 4) [0] (by first | rfl | simp) (by simp only [go_sem,↓reduceIte,Nat.reduceEqDiff,Nat.reduceAdd,reduceCtorEq]<;>rfl) (by simp only [go_sem,↓reduceIte,Nat.reduceEqDiff,Nat.reduceAdd,reduceCtorEq]<;>rfl) fun o ho=>?_
 obtain ⟨a2,b2,k⟩:=o
 obtain ⟨q1,q2,q3⟩:=ho
 dsimp only at q1 q2 q3
 have hdr:=fU bs hb a2 b2 q1 n (by omega)
 have hrn:=fun p hp=>xU n (by omega) L h6 (by omega) p hp
 refine RN ?_
 refine ⟨fun c1=>?_,fun c1=>?_⟩
 ·refine Bj ?_
  refine Tv (fun o:Nat×Int×List (List Int)=>o.1≤bs.length∧o.2.2.length=L.length∧Eb n o.2.2) (fun o=>[(4,.ref 1 0)]) (fun o=>[some (Az bs o.1 o.2.1),some [.sl 2 1 0 o.2.2.length],some (o.2.2.map Ac)]) ?_ ?_
  ·repeat' first
     | simp only [go_sem,↓reduceIte,Nat.reduceEqDiff,Nat.reduceAdd,reduceCtorEq]
     | with_reducible refine Ck ?_
     | with_reducible refine Cj ?_
     | with_reducible exact Cm
     | with_reducible refine Ci ?_ ?_
     | (with_reducible refine And.intro ?_ ?_;focus first | assumption | omega | grind)
     | (refine A9 hfl ?_ ?_ ?_;(simp only [go_sem,↓reduceIte,Nat.reduceEqDiff,Nat.reduceAdd,reduceCtorEq,Bl _ _ L L.length rfl]<;>first | done | (simp only [Ak,Ae]<;>rfl));(focus first | rfl | simp only [go_sem,↓reduceIte,Nat.reduceEqDiff,Nat.reduceAdd,reduceCtorEq]))
     | refine Bv (hdr) [0] (by first | rfl | simp) (by simp only [go_sem,↓reduceIte,Nat.reduceEqDiff,Nat.reduceAdd,reduceCtorEq]<;>rfl) (by simp only [go_sem,↓reduceIte,Nat.reduceEqDiff,Nat.reduceAdd,reduceCtorEq]<;>rfl) fun o ho=>?_
   all_goals
    have htk:(Aa o.2.2).take n=Aa o.2.2:=List.take_of_length_le (by rw [A2,ho.2.1];exact Nat.le_refl _)
    have hin:Ad o.2.2 = .slc 1 n (Aa o.2.2):=by rw [Ad,ho.2.1]
    refine Hj (hrn o.2.2 ho.2) (by simp only [go_sem,↓reduceIte,Nat.reduceEqDiff,Nat.reduceAdd,reduceCtorEq,Bl _ _ L L.length rfl,htk,Fl,hin]<;>first | done | (simp only [Ak,Ae]<;>rfl)) (fun o=>by first | rfl | simp only [go_sem,↓reduceIte,Nat.reduceEqDiff,Nat.reduceAdd,reduceCtorEq]) fun o' ho' => ?_
    (repeat' first | simp only [go_sem,↓reduceIte,Nat.reduceEqDiff,Nat.reduceAdd,reduceCtorEq] | with_reducible refine Ck ?_ | with_reducible refine Eo ?_ | with_reducible refine Cj ?_ | with_reducible exact Cm | with_reducible refine Ci ?_ ?_ | (with_reducible refine And.intro ?_ ?_;focus first | assumption | omega | grind))
    exact ⟨(o.1,o.2.1,o'),⟨ho.1,ho'.1,ho'.2⟩,Ref.gc2 [0,1,5]⟩
  ·rintro ⟨a3,b3,K⟩ ⟨g1,g2,g3⟩
   dsimp only at g1 g2 g3 ⊢
   refine RN ?_
   exact ⟨(a3,b3,n,K),⟨g1,h2,h3,by dsimp only;omega,by dsimp only;omega,g3⟩,Ref.gc1 [0,2]⟩
 ·(refine RN ?_;try with_reducible exact trivial)
  exact ⟨(a2,b2,n,L),⟨q1,h2,h3,h4,h5,h6⟩,Ref.gc1 [0,2]⟩
end
end Go.Proofs.YtnompobcofhkpaaGreatDoor
namespace Go.Gov
variable {P:Program} {N:Nat} {F:Frame} {H:Heap} {M:List Nat} {n0:Nat}
theorem Tw {α:Type}(C:α→Prop)(F1:α→Frame)(H1:α→Heap){t:GT}{y:ACode}{id:Nat}{Q Q' : Exit→Frame→Heap→Prop}(hE:LT P false t (fun F' H' => ∃ o,C o∧Ref n0 F' H' (F1 o) (H1 o)) F H)(hy:∀ o,C o→W P M N n0 y Q (F1 o) (H1 o)):V P M N n0 (.alts t) (I7 id (E8 (W P M N n0 y Q) Q')) F H:=
 Nr (I5 (fun F' H' ⟨o,ho,h⟩=>Fx h (hy o ho)) t false F H hE)
end Go.Gov
namespace Go.Proofs.YtnompobcofhkpaaGreatDoor
open Go.Gov Go.Ce
open Classical
def Gd (most:Nat)(M:List (List Int)):Prop:=M.length≤6∧∀ p∈M,p.length≤most+1
theorem xX (bs : List Int) (hb : Fa bs) (a : Nat) (h : Int) (hs : a ≤ bs.length) (most : Nat) (hm1 : 16 ≤ most) (hm2 : most ≤ 1000) :
    E1 Tryz.prog 40 [.ref 0 0,i64 (most:Int)] [some (Az bs a h)] (fun o:Nat×Int×List (List Int)=>o.1≤bs.length∧Gd most o.2.2) (fun o=>Ak o.2.2) (fun o=>[some (Az bs o.1 o.2.1)]):=by
 refine Hn Adw rfl ?_;unfold aC
 refine RN ?_
 refine Bv (fZ bs hb a h hs most hm1 hm2) [0] (by first | rfl | simp) (by simp only [go_sem,↓reduceIte,Nat.reduceEqDiff,Nat.reduceAdd,reduceCtorEq]<;>rfl) (by simp only [go_sem,↓reduceIte,Nat.reduceEqDiff,Nat.reduceAdd,reduceCtorEq]<;>rfl) fun o ho=>?_
 obtain ⟨a1,b1,n,L⟩:=o
 obtain ⟨h1,h2,h3,h4,h5,h6⟩:=ho
 dsimp only at h1 h2 h3 h4 h5 h6 ⊢
 have hfl:=Hw L (by omega) (by omega) (by rw [(h6 0 (by omega)).1];omega)
 rw [(h6 0 (by omega)).1] at hfl
 refine RN ?_
 refine A9 hfl (by simp only [go_sem,↓reduceIte,Nat.reduceEqDiff,Nat.reduceAdd,reduceCtorEq,Bl _ _ L L.length rfl]<;>first | done | (simp only [Ak,Ae]<;>rfl)) (by first | rfl | simp only [go_sem,↓reduceIte,Nat.reduceEqDiff,Nat.reduceAdd,reduceCtorEq]) ?_
 refine RN ?_
 refine Bv (C2 bs hb a1 b1 h1 40) [0] (by first | rfl | simp) (by simp only [go_sem,↓reduceIte,Nat.reduceEqDiff,Nat.reduceAdd,reduceCtorEq]<;>rfl) (by simp only [go_sem,↓reduceIte,Nat.reduceEqDiff,Nat.reduceAdd,reduceCtorEq]<;>rfl) fun o ho=>?_
 obtain ⟨a2,b2,k⟩:=o
 obtain ⟨q1,q2,q3⟩:=ho
 dsimp only at q1 q2 q3
 obtain ⟨r0,J,rfl⟩:∃ r0 J,L=r0 :: J:=by
  cases L with
  | nil=>simp at h4
  | cons a J=>exact ⟨a,J,rfl⟩
 have hr0:r0.length=n:=by simpa using (h6 0 (by simp)).1
 simp only [go_sem,↓reduceIte,Nat.reduceEqDiff,Nat.reduceAdd,reduceCtorEq]
 have hJ:∀ p∈J,p.length≤most+1:=fun p hp=>by
  obtain ⟨j,hj,rfl⟩:=List.mem_iff_getElem.1 hp
  have:=(h6 (j+1) (by simpa using hj)).1
  rw [show (r0 :: J).getD (j+1) []=J[j] by simp [hj]] at this
  omega
 have hJl:J.length≤4:=by simp at h5;exact h5
 refine Fx ((Ref.open 2 0 (cs:=(r0 :: J).map Ac) (cs2:=Aa r0) (k:=1) (n:=r0.length) rfl rfl).trans (Ref.to (F' := [(0,.ref 0 0),(13,i64 k),(4,.ref 1 0),(5,.ref 3 0),(6,i64 (n:Int))]) (H' := [some (Az bs a2 b2),some [Ai],some (.sl 4 1 0 n :: J.map Ac),some [.sl 2 1 0 (J.length+1)],some (Aa r0)]) (by rw [hr0];rfl) (by simp [sub,Ab]))) ?_
 refine RN ?_
 refine ⟨fun c0=>?_,fun c0=>?_⟩
 ·refine Bj ?_
  refine Tw (fun o:Nat×Int×List Int=>o.1≤bs.length∧o.2.2.length=n) (fun o=>[(0,.ref 0 0),(4,.ref 1 0),(5,.ref 3 0)]) (fun o=>[some (Az bs o.1 o.2.1),some [Ai],some (.sl 4 1 0 n :: J.map Ac),some [.sl 2 1 0 (J.length+1)],some (Aa o.2.2)]) ?_ ?_
  ·repeat' first
     | simp only [go_sem,↓reduceIte,Nat.reduceEqDiff,Nat.reduceAdd,reduceCtorEq]
     | with_reducible refine Ck ?_
     | with_reducible refine Cj ?_
     | with_reducible exact Cm
     | with_reducible refine Ci ?_ ?_
     | (with_reducible refine And.intro ?_ ?_;focus first | assumption | omega | grind)
     | refine Bv (C2 bs hb a2 b2 q1 (n:Int)) [0] (by first | rfl | simp) (by simp only [go_sem,↓reduceIte,Nat.reduceEqDiff,Nat.reduceAdd,reduceCtorEq]<;>rfl) (by simp only [go_sem,↓reduceIte,Nat.reduceEqDiff,Nat.reduceAdd,reduceCtorEq]<;>rfl) fun o ho=>?_
     | refine Bv (xM bs hb _ _ ho.1 [-1,(n:Int),0] (by simp) (by simp)) [0,5] (by first | rfl | simp) (by simp only [go_sem,↓reduceIte,Nat.reduceEqDiff,Nat.reduceAdd,reduceCtorEq]<;>rfl) (by simp only [go_sem,↓reduceIte,Nat.reduceEqDiff,Nat.reduceAdd,reduceCtorEq]<;>rfl) fun o ho=>?_
   all_goals
    rename_i o1 ho1
    exact ⟨(o.1,o.2.1,r0.set o1.2.2.toNat ([-1,(n:Int),0].getD o.2.2 0)),⟨ho.1,by simp [hr0]⟩,Ref.gc2 [0,1,2,3,4]⟩
  ·rintro ⟨a3,b3,r⟩ ⟨g1,g2⟩
   dsimp only at g1 g2 ⊢
   refine RN ?_
   refine ⟨(a3,b3,r :: J),⟨g1,by simp;omega,fun p hp=>?_⟩,?_⟩
   ·rcases List.mem_cons.1 hp with rfl | hp
    ·omega
    ·exact hJ p hp
   ·refine Ref.sel [0] rfl (by simp only [go_sem,↓reduceIte,Nat.reduceEqDiff,Nat.reduceAdd,reduceCtorEq]) ?_
    simp only [sub,List.all_cons,List.all_nil,go_sem,↓reduceIte,Nat.reduceEqDiff,Nat.reduceAdd,reduceCtorEq]
    rw [List.take_of_length_le (show (Aa r).length≤n by rw [A2];omega),Fl]
    simp [Ak,Ae,Ad,g2]
 ·(refine RN ?_;try with_reducible exact trivial)
  refine ⟨fun c1=>?_,fun c1=>?_⟩
  ·refine Bj ?_
   refine Tw (fun o:Nat×Int×List Int=>o.1≤bs.length∧o.2.2.length=n) (fun o=>[(0,.ref 0 0),(4,.ref 1 0),(5,.ref 2 0)]) (fun o=>[some (Az bs o.1 o.2.1),some [Ai],some [.sl 3 1 0 (J.length+2)],some ((.sl 4 1 0 n :: J.map Ac)++[.sl 5 1 0 n]),some (Aa r0),some (Aa o.2.2)]) ?_ ?_
   ·repeat' first
      | simp only [go_sem,↓reduceIte,Nat.reduceEqDiff,Nat.reduceAdd,reduceCtorEq]
      | with_reducible refine Ck ?_
      | with_reducible refine Cj ?_
      | with_reducible exact Cm
      | with_reducible refine Ci ?_ ?_
      | (with_reducible refine And.intro ?_ ?_;focus first | assumption | omega | grind)
      | refine Bv (fV bs hb a2 b2 q1 n (by omega)) [0] (by first | rfl | simp) (by simp only [go_sem,↓reduceIte,Nat.reduceEqDiff,Nat.reduceAdd,reduceCtorEq]<;>rfl) (by simp only [go_sem,↓reduceIte,Nat.reduceEqDiff,Nat.reduceAdd,reduceCtorEq]<;>rfl) fun o ho=>?_
    all_goals
     exact ⟨(o.1,o.2.1,o.2.2),⟨ho.1,ho.2.1⟩,Ref.gc2 [0,1,3,7,4,5]⟩
   ·rintro ⟨a3,b3,r⟩ ⟨g1,g2⟩
    dsimp only at g1 g2 ⊢
    refine RN ?_
    refine ⟨(a3,b3,r0 :: (J++[r])),⟨g1,by simp;omega,fun p hp=>?_⟩,?_⟩
    ·rcases List.mem_cons.1 hp with rfl | hp
     ·omega
     ·rcases List.mem_append.1 hp with hp | hp
      ·exact hJ p hp
      ·have:p=r:=by simpa using hp
       subst this;omega
    ·refine Ref.sel [0] rfl (by simp only [go_sem,↓reduceIte,Nat.reduceEqDiff,Nat.reduceAdd,reduceCtorEq]) ?_
     simp only [sub,List.all_cons,List.all_nil,go_sem,↓reduceIte,Nat.reduceEqDiff,Nat.reduceAdd,reduceCtorEq]
     rw [List.take_of_length_le (show (Aa r0).length≤n by rw [A2];omega),Fl,List.take_of_length_le (show (List.map Ac J++[AV.sl 5 1 0 n]).length≤J.length+1 by simp),List.map_append,Oz]
     have tk2:(Aa r).take n=Aa r:=List.take_of_length_le (by rw [A2];omega)
     simp [Ak,Ae,Ad,hr0,g2,Aj,tk2,Fl]
  ·(refine RN ?_;try with_reducible exact trivial)
   refine ⟨fun c2=>?_,fun c2=>?_⟩
   ·(refine RN ?_;try with_reducible exact trivial)
    refine ⟨(a2,b2,[]),⟨q1,by simp,fun p hp=>by simp at hp⟩,?_⟩
    refine Ref.sel [0] rfl (by simp only [go_sem,↓reduceIte,Nat.reduceEqDiff,Nat.reduceAdd,reduceCtorEq]) ?_
    simp only [sub,List.all_cons,List.all_nil,go_sem,↓reduceIte,Nat.reduceEqDiff,Nat.reduceAdd,reduceCtorEq]
    rfl
   ·(refine RN ?_;try with_reducible exact trivial)
    refine ⟨fun c3=>?_,fun c3=>?_⟩
    ·refine Bj ?_
     refine Tw (fun o:Unit=>True) (fun o=>[(0,.ref 0 0),(4,.ref 1 0),(5,.ref 3 0)]) (fun o=>[some (Az bs a2 b2),some [Ai],some (.sl 4 1 0 (n+1) :: J.map Ac),some [.sl 2 1 0 (J.length+1)],some (Aa (r0++[(n:Int)]))]) ?_ ?_
     ·have tk1:(Aa r0).take n=Aa r0:=List.take_of_length_le (by rw [A2];omega)
      (repeat' first | simp only [go_sem,↓reduceIte,Nat.reduceEqDiff,Nat.reduceAdd,reduceCtorEq] | with_reducible refine Ck ?_ | with_reducible refine Eo ?_ | with_reducible refine Cj ?_ | with_reducible exact Cm | with_reducible refine Ci ?_ ?_ | (with_reducible refine And.intro ?_ ?_;focus first | assumption | omega | grind))
      all_goals
       refine ⟨(),Ref.gc [0,1,2,3,6] rfl ?_ (by simp [sub,Ab,go_sem,↓reduceIte,Nat.reduceEqDiff,Nat.reduceAdd,reduceCtorEq])⟩
       simp only [go_sem,↓reduceIte,Nat.reduceEqDiff,Nat.reduceAdd,reduceCtorEq]
       rw [tk1,Cr]
       simp [Aa]
     ·rintro _ _
      refine RN ?_
      refine ⟨(a2,b2,(r0++[(n:Int)]) :: J),⟨q1,by simp;omega,fun p hp=>?_⟩,?_⟩
      ·rcases List.mem_cons.1 hp with rfl | hp
       ·simp;omega
       ·exact hJ p hp
      ·refine Ref.sel [0] rfl (by simp only [go_sem,↓reduceIte,Nat.reduceEqDiff,Nat.reduceAdd,reduceCtorEq]) ?_
       simp only [sub,List.all_cons,List.all_nil,go_sem,↓reduceIte,Nat.reduceEqDiff,Nat.reduceAdd,reduceCtorEq]
       rw [List.take_of_length_le (show (Aa (r0++[(n:Int)])).length≤n+1 by rw [A2];simp;omega),Fl]
       simp [Ak,Ae,Ad,hr0]
    ·(refine RN ?_;try with_reducible exact trivial)
     refine ⟨fun c4=>?_,fun c4=>?_⟩
     ·(refine RN ?_;try with_reducible exact trivial)
      refine ⟨(a2,b2,J),⟨q1,by simp;omega,hJ⟩,?_⟩
      refine Ref.sel [0] rfl (by simp only [go_sem,↓reduceIte,Nat.reduceEqDiff,Nat.reduceAdd,reduceCtorEq]) ?_
      simp only [sub,List.all_cons,List.all_nil,go_sem,↓reduceIte,Nat.reduceEqDiff,Nat.reduceAdd,reduceCtorEq]
      rw [List.take_of_length_le (show (List.map Ac J).length≤J.length+1 - 1 by simp),Oz]
      simp [Ak,Ae]
     ·(refine RN ?_;try with_reducible exact trivial)
      refine ⟨(a2,b2,r0 :: J),⟨q1,by simp;omega,fun p hp=>?_⟩,?_⟩
      ·rcases List.mem_cons.1 hp with rfl | hp
       ·omega
       ·exact hJ p hp
      ·refine Ref.sel [0] rfl (by simp only [go_sem,↓reduceIte,Nat.reduceEqDiff,Nat.reduceAdd,reduceCtorEq]) ?_
       simp only [sub,List.all_cons,List.all_nil,go_sem,↓reduceIte,Nat.reduceEqDiff,Nat.reduceAdd,reduceCtorEq]
       rw [List.take_of_length_le (show (Aa r0).length≤n by rw [A2];omega),Fl]
       simp [Ak,Ae,Ad,hr0]
end Go.Proofs.YtnompobcofhkpaaGreatDoor
namespace Go.Gov
variable {P:Program} {N:Nat} {F:Frame} {H:Heap} {M:List Nat} {n0:Nat}
theorem Ref.nilA (j k:Nat)(h:Ab F j = .agg [Ai]):Ref n0 F H ((j,.agg [.slc k 0 []]) :: F) H:=fun N g a w hR=>by
 refine ⟨g,⟨fun i=>?_,hR.hp,hR.size,hR.defers⟩,.refl hR.hp⟩
 simp only [Dl]
 by_cases e:j=i
 ·subst e
  rw [if_pos rfl]
  have h1:=hR.fr j
  rw [h] at h1
  generalize a.tmps.getD j undef=v at h1 ⊢
  cases h1 with
  | agg hl hr=>
   refine .agg (by simpa using hl) fun m hm=>?_
   obtain rfl:m=0:=by simp at hm;omega
   have h2:=hr 0 (by simp)
   simp only [List.getElem_cons_zero] at h2 ⊢
   rw [h2.val_inv.1]
   exact .slc0 (by unfold maxLen;omega)
 ·rw [if_neg e];exact hR.fr i
end Go.Gov
namespace Go.Proofs.YtnompobcofhkpaaGreatDoor
section
open Go.Gov Go.Ce
open Classical
theorem yP (bs : List Int) (hb : Fa bs) (a : Nat) (h : Int) (hs : a ≤ bs.length) (most : Nat) (hm1 : 1 ≤ most) (hm2 : most ≤ 1000) :
    E1 Tryz.prog 77 [.ref 0 0,i64 (most:Int)] [some (Az bs a h)] (fun o:Nat×Int×List Int=>o.1≤bs.length∧o.2.2.length≤2*most) (fun o=>.sl 1 1 0 o.2.2.length) (fun o=>[some (Az bs o.1 o.2.1),some (Aa o.2.2)]):=by
 refine Hn Aeq rfl ?_;unfold bE
 refine RN ?_
 have hmx:(if (1:Int)<(most:Int) then (most:Int) else 1)=most:=by split<;>omega
 (try simp only [hmx])
 refine Bv (C2 bs hb a h hs (most:Int)) [0] (by first | rfl | simp) (by simp only [go_sem,↓reduceIte,Nat.reduceEqDiff,Nat.reduceAdd,reduceCtorEq]<;>rfl) (by simp only [go_sem,↓reduceIte,Nat.reduceEqDiff,Nat.reduceAdd,reduceCtorEq]<;>rfl) fun o ho=>?_
 obtain ⟨a1,b1,p⟩:=o
 obtain ⟨q1,q2,q3⟩:=ho
 dsimp only at q1 q2 q3
 obtain ⟨p,rfl⟩:=Int.eq_ofNat_of_zero_le q2
 refine RN ?_
 refine Ah (α:=Nat×Int×List Int) (S:=fun o=>([(0,.ref 0 0),(5,i64 (2*(1+(p:Int)))),(6,.sl 1 1 0 o.2.2.length),(7,i64 (o.2.2.length:Int))],[some (Az bs o.1 o.2.1),some (Aa o.2.2)])) (C:=fun o=>o.1≤bs.length∧o.2.2.length≤2*(1+p)) (μ:=fun o=>2*(1+p) - o.2.2.length) (a1,b1,[]) ⟨q1,Nat.zero_le _⟩ (Ref.to1) ?_
 rintro ⟨a2,b2,x⟩ ⟨h1,h2⟩
 dsimp only at h1 h2 ⊢
 refine RN ?_
 refine ⟨fun hc=>?_,fun hc=>?_⟩
 ·(refine RN ?_;try with_reducible exact trivial)
  refine Bv (C2 bs hb a2 b2 h1 ((x.length:Int)+1)) [0] (by first | rfl | simp) (by simp only [go_sem,↓reduceIte,Nat.reduceEqDiff,Nat.reduceAdd,reduceCtorEq]<;>rfl) (by simp only [go_sem,↓reduceIte,Nat.reduceEqDiff,Nat.reduceAdd,reduceCtorEq]<;>rfl) fun o ho=>?_
  obtain ⟨a3,b3,k⟩:=o
  obtain ⟨r1,r2,r3⟩:=ho
  dsimp only at r1 r2 r3
  obtain ⟨k,rfl⟩:=Int.eq_ofNat_of_zero_le r2
  refine RN ?_
  have e1:((x.length:Int) - k).toNat=x.length - k:=by omega
  have tk1:((Aa x).drop k).take (x.length - k)=Aa (x.drop k):=by rw [L9];exact List.take_of_length_le (by rw [A2,List.length_drop];exact Nat.le_refl _)
  simp only [e1,tk1,go_sem,↓reduceIte,Nat.reduceEqDiff,Nat.reduceAdd,reduceCtorEq]
  refine RN ?_
  have e2:((k:Int) - 0).toNat=k:=by omega
  have tk2:(Aa x).take k=Aa (x.take k):=Lp x k
  have tk3:(i64 (x.length:Int) :: Aa (x.drop k)).take (1+(x.length - k))=Aa ((x.length:Int) :: x.drop k):=by
   rw [List.take_of_length_le (by simp [A2];omega)];simp [Aa]
  simp only [e2,tk2,tk3,go_sem,↓reduceIte,Nat.reduceEqDiff,Nat.reduceAdd,reduceCtorEq]
  refine RN ?_
  have hkx:k≤x.length:=by omega
  have hln:(x.take k++((x.length:Int) :: x.drop k)).length=x.length+1:=by simp;omega
  have tk4:(Aa (x.take k)).take k=Aa (x.take k):=List.take_of_length_le (by rw [A2];simp;omega)
  refine ⟨(a3,b3,x.take k++((x.length:Int) :: x.drop k)),⟨r1,by dsimp only;rw [hln];omega⟩,by dsimp only;rw [hln];omega,?_⟩
  dsimp only
  rw [hln]
  refine Ref.gc [0,6] rfl ?_ ?_
  ·simp only [go_sem,↓reduceIte,Nat.reduceEqDiff,Nat.reduceAdd,reduceCtorEq]
   rw [tk4,Cr,Fb]
  ·have e3:k+(1+(x.length - k))=x.length+1:=by omega
   simp [sub,Ab,go_sem,↓reduceIte,Nat.reduceEqDiff,Nat.reduceAdd,reduceCtorEq,e3]
 ·(refine RN ?_;try with_reducible exact trivial)
  exact ⟨(a2,b2,x),⟨h1,by dsimp only;omega⟩,Ref.gc1 [0,1]⟩
def Xx (r:List Int):Prop:=2≤r.length∧r.length%2=0∧r.length≤200∧IsPrm r
theorem wU (r:List Int)(hl:r.length≤1048576):Pure Tryz.prog 120 [Ad r] (bl (decide (Xx r))) []:=by
 have hp:=fY r (by omega)
 have e3:((r.length:Int)).tmod 2=((r.length%2:Nat):Int):=by rw [Int.tmod_eq_emod_of_nonneg (by omega)];rfl
 refine Ao Ab8 rfl rfl ?_;unfold Yv
 (refine RN ?_;try with_reducible exact trivial)
 (try simp only [e3,go_sem,↓reduceIte,Nat.reduceEqDiff,Nat.reduceAdd,reduceCtorEq])
 refine C9 (bl (decide (IsPrm r)) ) (fun hg =>  hp) ?_
 refine RN ?_
 congr 2
 rw [Bool.eq_iff_iff,decide_eq_true_eq]
 simp only [Xx,Bool.and_eq_true,decide_eq_true_eq,beq_iff_eq]
 constructor
 ·rintro ⟨⟨⟨h1,h2⟩,h3⟩,h4⟩
  exact ⟨by omega,by omega,by omega,h4⟩
 ·rintro ⟨h1,h2,h3,h4⟩
  exact ⟨⟨⟨by omega,by omega⟩,by omega⟩,h4⟩
theorem Aad (r:List Int)(hl:r.length≤1048576):Ea Tryz.prog 78 [Ad r] (fun o:List (List Int)×Int=>(o.2=0→o.1.length=3∧∀ p∈o.1,p.length=2*r.length)) (fun o=>.tup [if o.2=0 then Ak o.1 else .agg [Ai],i64 o.2]) (fun _=>[]):=by
 have hi:=wU r hl
 refine Ix Aer rfl ?_;unfold bH
 refine RN ?_
 refine Ag (hi) ?_
 refine RN ?_
 refine ⟨fun hr=>?_,fun hr=>?_⟩
 ·(refine RN ?_;try with_reducible exact trivial)
  exact ⟨([],1),fun h=>absurd h (by decide),Ref.gc1 []⟩
 ·obtain ⟨h2,hev,h200,hprm⟩:=hr
  have hc2:(2*(r.length:Int)).toNat=2*r.length:=by omega
  refine RN ?_
  refine Ho [(0,Ad r),(2,.ref 0 0),(3,i64 0),(4,i64 (r.length:Int)),(5,.ref 1 0)] [some [Ai],some [.sl 5 1 0 3],some (Aa (List.replicate (2*r.length) 0)),some (Aa (List.replicate (2*r.length) 0)),some (Aa (List.replicate (2*r.length) 0)),some [.sl 2 1 0 (2*r.length),.sl 3 1 0 (2*r.length),.sl 4 1 0 (2*r.length)]] ?_ ?_
  ·(repeat' first | simp only [go_sem,↓reduceIte,Nat.reduceEqDiff,Nat.reduceAdd,reduceCtorEq] | with_reducible refine Ck ?_ | with_reducible refine Eo ?_ | with_reducible refine Cj ?_ | with_reducible exact Cm | with_reducible refine Ci ?_ ?_ | (with_reducible refine And.intro ?_ ?_;focus first | assumption | omega | grind))
   all_goals rw [hc2]
   all_goals first
    | (refine Ref.gc [0,1,2,3,4,5] rfl ?_ ?_;(focus simp only [go_sem,↓reduceIte,Nat.reduceEqDiff,Nat.reduceAdd,reduceCtorEq]<;>rfl);(simp [sub,Ab,go_sem,↓reduceIte,Nat.reduceEqDiff,Nat.reduceAdd,reduceCtorEq];done))
    | (refine Ref.gc [0,1,2,4,3,5] rfl ?_ ?_;(focus simp only [go_sem,↓reduceIte,Nat.reduceEqDiff,Nat.reduceAdd,reduceCtorEq]<;>rfl);(simp [sub,Ab,go_sem,↓reduceIte,Nat.reduceEqDiff,Nat.reduceAdd,reduceCtorEq];done))
    | (refine Ref.gc [0,1,3,2,4,5] rfl ?_ ?_;(focus simp only [go_sem,↓reduceIte,Nat.reduceEqDiff,Nat.reduceAdd,reduceCtorEq]<;>rfl);(simp [sub,Ab,go_sem,↓reduceIte,Nat.reduceEqDiff,Nat.reduceAdd,reduceCtorEq];done))
    | (refine Ref.gc [0,1,3,4,2,5] rfl ?_ ?_;(focus simp only [go_sem,↓reduceIte,Nat.reduceEqDiff,Nat.reduceAdd,reduceCtorEq]<;>rfl);(simp [sub,Ab,go_sem,↓reduceIte,Nat.reduceEqDiff,Nat.reduceAdd,reduceCtorEq];done))
    | (refine Ref.gc [0,1,4,2,3,5] rfl ?_ ?_;(focus simp only [go_sem,↓reduceIte,Nat.reduceEqDiff,Nat.reduceAdd,reduceCtorEq]<;>rfl);(simp [sub,Ab,go_sem,↓reduceIte,Nat.reduceEqDiff,Nat.reduceAdd,reduceCtorEq];done))
    | (refine Ref.gc [0,1,4,3,2,5] rfl ?_ ?_;(focus simp only [go_sem,↓reduceIte,Nat.reduceEqDiff,Nat.reduceAdd,reduceCtorEq]<;>rfl);(simp [sub,Ab,go_sem,↓reduceIte,Nat.reduceEqDiff,Nat.reduceAdd,reduceCtorEq];done))
    | (refine Ref.gc [0,2,1,3,4,5] rfl ?_ ?_;(focus simp only [go_sem,↓reduceIte,Nat.reduceEqDiff,Nat.reduceAdd,reduceCtorEq]<;>rfl);(simp [sub,Ab,go_sem,↓reduceIte,Nat.reduceEqDiff,Nat.reduceAdd,reduceCtorEq];done))
    | (refine Ref.gc [0,2,1,4,3,5] rfl ?_ ?_;(focus simp only [go_sem,↓reduceIte,Nat.reduceEqDiff,Nat.reduceAdd,reduceCtorEq]<;>rfl);(simp [sub,Ab,go_sem,↓reduceIte,Nat.reduceEqDiff,Nat.reduceAdd,reduceCtorEq];done))
    | (refine Ref.gc [0,2,3,1,4,5] rfl ?_ ?_;(focus simp only [go_sem,↓reduceIte,Nat.reduceEqDiff,Nat.reduceAdd,reduceCtorEq]<;>rfl);(simp [sub,Ab,go_sem,↓reduceIte,Nat.reduceEqDiff,Nat.reduceAdd,reduceCtorEq];done))
    | (refine Ref.gc [0,2,3,4,1,5] rfl ?_ ?_;(focus simp only [go_sem,↓reduceIte,Nat.reduceEqDiff,Nat.reduceAdd,reduceCtorEq]<;>rfl);(simp [sub,Ab,go_sem,↓reduceIte,Nat.reduceEqDiff,Nat.reduceAdd,reduceCtorEq];done))
    | (refine Ref.gc [0,2,4,1,3,5] rfl ?_ ?_;(focus simp only [go_sem,↓reduceIte,Nat.reduceEqDiff,Nat.reduceAdd,reduceCtorEq]<;>rfl);(simp [sub,Ab,go_sem,↓reduceIte,Nat.reduceEqDiff,Nat.reduceAdd,reduceCtorEq];done))
    | (refine Ref.gc [0,2,4,3,1,5] rfl ?_ ?_;(focus simp only [go_sem,↓reduceIte,Nat.reduceEqDiff,Nat.reduceAdd,reduceCtorEq]<;>rfl);(simp [sub,Ab,go_sem,↓reduceIte,Nat.reduceEqDiff,Nat.reduceAdd,reduceCtorEq];done))
    | (refine Ref.gc [0,3,1,2,4,5] rfl ?_ ?_;(focus simp only [go_sem,↓reduceIte,Nat.reduceEqDiff,Nat.reduceAdd,reduceCtorEq]<;>rfl);(simp [sub,Ab,go_sem,↓reduceIte,Nat.reduceEqDiff,Nat.reduceAdd,reduceCtorEq];done))
    | (refine Ref.gc [0,3,1,4,2,5] rfl ?_ ?_;(focus simp only [go_sem,↓reduceIte,Nat.reduceEqDiff,Nat.reduceAdd,reduceCtorEq]<;>rfl);(simp [sub,Ab,go_sem,↓reduceIte,Nat.reduceEqDiff,Nat.reduceAdd,reduceCtorEq];done))
    | (refine Ref.gc [0,3,2,1,4,5] rfl ?_ ?_;(focus simp only [go_sem,↓reduceIte,Nat.reduceEqDiff,Nat.reduceAdd,reduceCtorEq]<;>rfl);(simp [sub,Ab,go_sem,↓reduceIte,Nat.reduceEqDiff,Nat.reduceAdd,reduceCtorEq];done))
    | (refine Ref.gc [0,3,2,4,1,5] rfl ?_ ?_;(focus simp only [go_sem,↓reduceIte,Nat.reduceEqDiff,Nat.reduceAdd,reduceCtorEq]<;>rfl);(simp [sub,Ab,go_sem,↓reduceIte,Nat.reduceEqDiff,Nat.reduceAdd,reduceCtorEq];done))
    | (refine Ref.gc [0,3,4,1,2,5] rfl ?_ ?_;(focus simp only [go_sem,↓reduceIte,Nat.reduceEqDiff,Nat.reduceAdd,reduceCtorEq]<;>rfl);(simp [sub,Ab,go_sem,↓reduceIte,Nat.reduceEqDiff,Nat.reduceAdd,reduceCtorEq];done))
    | (refine Ref.gc [0,3,4,2,1,5] rfl ?_ ?_;(focus simp only [go_sem,↓reduceIte,Nat.reduceEqDiff,Nat.reduceAdd,reduceCtorEq]<;>rfl);(simp [sub,Ab,go_sem,↓reduceIte,Nat.reduceEqDiff,Nat.reduceAdd,reduceCtorEq];done))
    | (refine Ref.gc [0,4,1,2,3,5] rfl ?_ ?_;(focus simp only [go_sem,↓reduceIte,Nat.reduceEqDiff,Nat.reduceAdd,reduceCtorEq]<;>rfl);(simp [sub,Ab,go_sem,↓reduceIte,Nat.reduceEqDiff,Nat.reduceAdd,reduceCtorEq];done))
    | (refine Ref.gc [0,4,1,3,2,5] rfl ?_ ?_;(focus simp only [go_sem,↓reduceIte,Nat.reduceEqDiff,Nat.reduceAdd,reduceCtorEq]<;>rfl);(simp [sub,Ab,go_sem,↓reduceIte,Nat.reduceEqDiff,Nat.reduceAdd,reduceCtorEq];done))
    | (refine Ref.gc [0,4,2,1,3,5] rfl ?_ ?_;(focus simp only [go_sem,↓reduceIte,Nat.reduceEqDiff,Nat.reduceAdd,reduceCtorEq]<;>rfl);(simp [sub,Ab,go_sem,↓reduceIte,Nat.reduceEqDiff,Nat.reduceAdd,reduceCtorEq];done))
    | (refine Ref.gc [0,4,2,3,1,5] rfl ?_ ?_;(focus simp only [go_sem,↓reduceIte,Nat.reduceEqDiff,Nat.reduceAdd,reduceCtorEq]<;>rfl);(simp [sub,Ab,go_sem,↓reduceIte,Nat.reduceEqDiff,Nat.reduceAdd,reduceCtorEq];done))
    | (refine Ref.gc [0,4,3,1,2,5] rfl ?_ ?_;(focus simp only [go_sem,↓reduceIte,Nat.reduceEqDiff,Nat.reduceAdd,reduceCtorEq]<;>rfl);(simp [sub,Ab,go_sem,↓reduceIte,Nat.reduceEqDiff,Nat.reduceAdd,reduceCtorEq];done))
    | (refine Ref.gc [0,4,3,2,1,5] rfl ?_ ?_;(focus simp only [go_sem,↓reduceIte,Nat.reduceEqDiff,Nat.reduceAdd,reduceCtorEq]<;>rfl);(simp [sub,Ab,go_sem,↓reduceIte,Nat.reduceEqDiff,Nat.reduceAdd,reduceCtorEq];done))
    | (refine Ref.gc [0,5,1,2,3,4] rfl ?_ ?_;(focus simp only [go_sem,↓reduceIte,Nat.reduceEqDiff,Nat.reduceAdd,reduceCtorEq]<;>rfl);(simp [sub,Ab,go_sem,↓reduceIte,Nat.reduceEqDiff,Nat.reduceAdd,reduceCtorEq];done))
    | (refine Ref.gc [0,5,1,3,2,4] rfl ?_ ?_;(focus simp only [go_sem,↓reduceIte,Nat.reduceEqDiff,Nat.reduceAdd,reduceCtorEq]<;>rfl);(simp [sub,Ab,go_sem,↓reduceIte,Nat.reduceEqDiff,Nat.reduceAdd,reduceCtorEq];done))
    | (refine Ref.gc [0,5,2,1,3,4] rfl ?_ ?_;(focus simp only [go_sem,↓reduceIte,Nat.reduceEqDiff,Nat.reduceAdd,reduceCtorEq]<;>rfl);(simp [sub,Ab,go_sem,↓reduceIte,Nat.reduceEqDiff,Nat.reduceAdd,reduceCtorEq];done))
    | (refine Ref.gc [0,5,2,3,1,4] rfl ?_ ?_;(focus simp only [go_sem,↓reduceIte,Nat.reduceEqDiff,Nat.reduceAdd,reduceCtorEq]<;>rfl);(simp [sub,Ab,go_sem,↓reduceIte,Nat.reduceEqDiff,Nat.reduceAdd,reduceCtorEq];done))
    | (refine Ref.gc [0,5,3,1,2,4] rfl ?_ ?_;(focus simp only [go_sem,↓reduceIte,Nat.reduceEqDiff,Nat.reduceAdd,reduceCtorEq]<;>rfl);(simp [sub,Ab,go_sem,↓reduceIte,Nat.reduceEqDiff,Nat.reduceAdd,reduceCtorEq];done))
    | (refine Ref.gc [0,5,3,2,1,4] rfl ?_ ?_;(focus simp only [go_sem,↓reduceIte,Nat.reduceEqDiff,Nat.reduceAdd,reduceCtorEq]<;>rfl);(simp [sub,Ab,go_sem,↓reduceIte,Nat.reduceEqDiff,Nat.reduceAdd,reduceCtorEq];done))
  refine RN ?_
  refine Ah (α:=Nat×List Int×List Int×List Int) (S:=fun o=>([(0,Ad r),(2,.ref 0 0),(3,i64 0),(4,i64 (r.length:Int)),(5,.ref 1 0),(6,i64 (o.1:Int))],[some [Ai],some [.sl 5 1 0 3],some (Aa o.2.1),some (Aa o.2.2.1),some (Aa o.2.2.2),some [.sl 2 1 0 (2*r.length),.sl 3 1 0 (2*r.length),.sl 4 1 0 (2*r.length)]])) (C:=fun o=>o.1≤r.length∧o.2.1.length=2*r.length∧o.2.2.1.length=2*r.length∧o.2.2.2.length=2*r.length) (μ:=fun o=>r.length - o.1) (0,List.replicate (2*r.length) 0,List.replicate (2*r.length) 0,List.replicate (2*r.length) 0) ⟨Nat.zero_le _,by simp,by simp,by simp⟩ (Ref.to1) ?_
  rintro ⟨d,A,B,C⟩ ⟨g1,g2,g3,g4⟩
  dsimp only at g1 g2 g3 g4 ⊢
  refine RN ?_
  refine ⟨fun hc=>?_,fun hc=>?_⟩
  ·have hat:=hprm.at (k:=d) (by omega)
   have e3:(d:Int).tmod 2=(d:Int)%2:=Int.tmod_eq_emod_of_nonneg (by omega)
   have e4:((2*(d:Int)+1)).toNat=2*d+1:=by omega
   have e5:((2*(d:Int))).toNat=2*d:=by omega
   refine RN ?_
   exact ⟨(d+1,_,_,_),⟨by dsimp only;omega,by simp [g2],by simp [g3],by simp [g4]⟩,by dsimp only;omega,Ref.to (rfl) (by simp [sub,Ab])⟩
  ·obtain rfl:d=r.length:=by omega
   have tA:(Aa A).take (2*r.length)=Aa A:=List.take_of_length_le (by rw [A2];omega)
   have tB:(Aa B).take (2*r.length)=Aa B:=List.take_of_length_le (by rw [A2];omega)
   have tC:(Aa C).take (2*r.length)=Aa C:=List.take_of_length_le (by rw [A2];omega)
   have hM:AV.agg [.slc 1 3 [.slc 1 (2*r.length) (Aa A),.slc 1 (2*r.length) (Aa B),.slc 1 (2*r.length) (Aa C)]]=Ak [A,B,C]:=by simp [Ak,Ae,Ad,Aa,g2,g3,g4]
   refine RN ?_
   refine Kh (Rv [A,B,C] (by simp) (by intro p hp;simp at hp;rcases hp with rfl | rfl | rfl<;>omega)) (by simp only [go_sem,↓reduceIte,Nat.reduceEqDiff,Nat.reduceAdd,reduceCtorEq,tA,tB,tC,hM]<;>rfl) ?_
   refine RN ?_
   refine ⟨fun hm=>?_,fun hm=>?_⟩
   ·(refine RN ?_;try with_reducible exact trivial)
    exact ⟨([],5),fun h=>absurd h (by decide),Ref.gc1 []⟩
   ·(refine RN ?_;try with_reducible exact trivial)
    refine ⟨([A,B,C],0),fun _=>⟨rfl,by intro p hp;simp at hp;rcases hp with rfl | rfl | rfl<;>omega⟩,Ref.sel [] rfl (by simp only [go_sem,↓reduceIte,Nat.reduceEqDiff,Nat.reduceAdd,reduceCtorEq]) ?_⟩
    simp [sub,Ab,go_sem,↓reduceIte,Nat.reduceEqDiff,Nat.reduceAdd,reduceCtorEq,tA,tB,tC,hM]
end
section
open Go.Gov Go.Ce
open Classical
theorem Gd.mono {m n:Nat}{M:List (List Int)}(h:Gd m M)(hn:m≤n):Gd n M:=⟨h.1,fun p hp=>Nat.le_trans (h.2 p hp) (by omega)⟩
theorem Gd.nil (n:Nat):Gd n []:=⟨by simp,fun p hp=>by simp at hp⟩
theorem eQ {M:List (List Int)}(h:IsMan M):Gd 400 M:=by
 refine ⟨by have:=h.r5;omega,fun p hp=>?_⟩
 obtain ⟨k,hk,rfl⟩:=List.mem_iff_getElem.1 hp
 have h1:=(h.rows k hk).1
 rw [show M.getD k []=M[k] by simp [hk]] at h1
 have:=h.f4
 omega
theorem oP {a b:Nat}(h:Ey a b=0):IsMan (Ch a b):=by
 unfold Ey at h
 split at h
 ·split at h
  ·rename_i h2;exact h2
  ·cases h
 ·cases h
theorem Kl (a b:Nat)(ha:2≤a∧a≤32)(hb:2≤b∧b≤32):∃ (M:List (List Int)) (c:Int),(c=0→IsMan M)∧Pure Tryz.prog 33 [Ad [(a:Int),(b:Int)],Ai] (.tup [if c=0 then Ak M else .agg [Ai],i64 c]) []:=
 ⟨Ch a b,Ey a b,oP,Xl a b ha hb⟩
theorem yQ (bs : List Int) (hb : Fa bs) (a : Nat) (h : Int) (hs : a ≤ bs.length) (most : Nat) (hm1 : 16 ≤ most) (hm2 : most ≤ 400) :
    E1 Tryz.prog 41 [.ref 0 0,i64 (most:Int)] [some (Az bs a h)] (fun o:Nat×Int×List (List Int)=>o.1≤bs.length∧Gd 400 o.2.2) (fun o=>Ak o.2.2) (fun o=>[some (Az bs o.1 o.2.1)]):=by
 refine Hn Adx rfl ?_;unfold aD
 refine RN ?_
 refine Bv (C2 bs hb a h hs 4) [0] (by first | rfl | simp) (by simp only [go_sem,↓reduceIte,Nat.reduceEqDiff,Nat.reduceAdd,reduceCtorEq]<;>rfl) (by simp only [go_sem,↓reduceIte,Nat.reduceEqDiff,Nat.reduceAdd,reduceCtorEq]<;>rfl) fun o ho=>?_
 obtain ⟨a1,b1,k⟩:=o
 obtain ⟨h1,h2,h3⟩:=ho
 dsimp only at h1 h2 h3
 obtain ⟨k,rfl⟩:=Int.eq_ofNat_of_zero_le h2
 simp only [go_sem,↓reduceIte,Nat.reduceEqDiff,Nat.reduceAdd,reduceCtorEq]
 refine X1 (fun o:Nat×Int=>o.1≤bs.length) (fun o=>[(0,.ref 0 0),(1,i64 (most:Int)),(4,.ref 1 0)]) (fun o=>[some (Az bs o.1 o.2),some [Ai]]) ?_ ?_
 ·(refine RN ?_;try with_reducible exact trivial)
  refine ⟨fun c0=>?_,fun c0=>?_⟩
  ·(refine RN ?_;try with_reducible exact trivial)
   refine Bv (C2 bs hb a1 b1 h1 8) [0] (by first | rfl | simp) (by simp only [go_sem,↓reduceIte,Nat.reduceEqDiff,Nat.reduceAdd,reduceCtorEq]<;>rfl) (by simp only [go_sem,↓reduceIte,Nat.reduceEqDiff,Nat.reduceAdd,reduceCtorEq]<;>rfl) fun o ho=>?_
   obtain ⟨a2,b2,j⟩:=o
   obtain ⟨q1,q2,q3⟩:=ho
   dsimp only at q1 q2 q3
   obtain ⟨j,rfl⟩:=Int.eq_ofNat_of_zero_le q2
   have hj:j=0∨j=1∨j=2∨j=3∨j=4∨j=5∨j=6∨j=7:=by omega
   rcases hj with rfl | rfl | rfl | rfl | rfl | rfl | rfl | rfl
   all_goals (refine RN ?_;try with_reducible exact trivial)
   all_goals first
    | (obtain ⟨M,c,hMc,hu⟩:=Kl 3 3 (by decide) (by decide);refine CallsX.ice 2 ?_;refine D4 hu ?_ ?_;(focus (simp only [go_sem,↓reduceIte,Nat.reduceEqDiff,Nat.reduceAdd,reduceCtorEq]<;>rfl)))
    | (obtain ⟨M,c,hMc,hu⟩:=Kl 3 3 (by decide) (by decide);refine CallsX.ice 3 ?_;refine D4 hu ?_ ?_;(focus (simp only [go_sem,↓reduceIte,Nat.reduceEqDiff,Nat.reduceAdd,reduceCtorEq]<;>rfl)))
    | (obtain ⟨M,c,hMc,hu⟩:=Kl 4 3 (by decide) (by decide);refine CallsX.ice 4 ?_;refine D4 hu ?_ ?_;(focus (simp only [go_sem,↓reduceIte,Nat.reduceEqDiff,Nat.reduceAdd,reduceCtorEq]<;>rfl)))
    | (obtain ⟨M,c,hMc,hu⟩:=Kl 3 4 (by decide) (by decide);refine CallsX.ice 5 ?_;refine D4 hu ?_ ?_;(focus (simp only [go_sem,↓reduceIte,Nat.reduceEqDiff,Nat.reduceAdd,reduceCtorEq]<;>rfl)))
    | (obtain ⟨M,c,hMc,hu⟩:=Kl 2 3 (by decide) (by decide);refine CallsX.ice 6 ?_;refine D4 hu ?_ ?_;(focus (simp only [go_sem,↓reduceIte,Nat.reduceEqDiff,Nat.reduceAdd,reduceCtorEq]<;>rfl)))
    | (obtain ⟨M,c,hMc,hu⟩:=Kl 4 2 (by decide) (by decide);refine CallsX.ice 7 ?_;refine D4 hu ?_ ?_;(focus (simp only [go_sem,↓reduceIte,Nat.reduceEqDiff,Nat.reduceAdd,reduceCtorEq]<;>rfl)))
    | (obtain ⟨M,c,hMc,hu⟩:=Kl 5 2 (by decide) (by decide);refine CallsX.ice 8 ?_;refine D4 hu ?_ ?_;(focus (simp only [go_sem,↓reduceIte,Nat.reduceEqDiff,Nat.reduceAdd,reduceCtorEq]<;>rfl)))
    | (obtain ⟨M,c,hMc,hu⟩:=Kl 2 6 (by decide) (by decide);refine CallsX.ice 9 ?_;refine D4 hu ?_ ?_;(focus (simp only [go_sem,↓reduceIte,Nat.reduceEqDiff,Nat.reduceAdd,reduceCtorEq]<;>rfl)))
   all_goals
    rcases Classical.em (c=0) with e | e
    ·have hman:=hMc e
     rw [if_pos e,e]
     have m1:=hman.r1
     have m5:=hman.r5
     have f4:=hman.f4
     unfold fl at f4
     have hf:=Hw M (by omega) (by omega) (by omega)
     refine RN ?_
     refine GCall.on rfl ?_
     refine Ag (hf) ?_
     refine RN ?_
     refine ⟨fun c9=>?_,fun c9=>?_⟩
     ·(refine RN ?_;try with_reducible exact trivial)
      exact ⟨(a2,b2,M),⟨q1,eQ hman⟩,Ref.gc2 [0]⟩
     ·(refine RN ?_;try with_reducible exact trivial)
      exact ⟨(a2,b2),q1,Ref.gc2 [0,1]⟩
    ·rw [if_neg e]
     have dc:(c == 0)=false:=by simp [e]
     have nc:(c=0)=False:=eq_false e
     refine RN ?_
     simp only [dc]
     refine Fv (i64 0) rfl ?_
     simp only [go_sem,↓reduceIte,Nat.reduceEqDiff,Nat.reduceAdd,reduceCtorEq,dc,nc,false_implies]
     refine RN ?_
     exact ⟨(a2,b2),q1,Ref.gc2 [0,1]⟩
  ·(refine RN ?_;try with_reducible exact trivial)
   refine ⟨fun c1=>?_,fun c1=>?_⟩
   ·have hq : ∃ q : Nat, 1 ≤ q ∧ q ≤ 8 ∧ (if (8 : Int) < (most : Int).tdiv 4 then 8 else (most : Int).tdiv 4) = (q : Int) := by
      have eq4:(most:Int).tdiv 4=((most / 4:Nat):Int):=by rw [Int.tdiv_eq_ediv_of_nonneg (by omega)];rfl
      rw [eq4]
      split
      ·exact ⟨8,by omega,by omega,rfl⟩
      ·exact ⟨most / 4,by omega,by omega,rfl⟩
    obtain ⟨q,q1,q2,hq⟩:=hq
    refine RN ?_
    simp only [hq]
    refine Bv (yP bs hb a1 b1 h1 q q1 (by omega)) [0] (by first | rfl | simp) (by simp only [go_sem,↓reduceIte,Nat.reduceEqDiff,Nat.reduceAdd,reduceCtorEq]<;>rfl) (by simp only [go_sem,↓reduceIte,Nat.reduceEqDiff,Nat.reduceAdd,reduceCtorEq]<;>rfl) fun o ho=>?_
    obtain ⟨a2,b2,x⟩:=o
    obtain ⟨r1,r2⟩:=ho
    dsimp only at r1 r2
    refine RN ?_
    refine CallsX.ice 2 ?_
    have hxl:(Aa x).take x.length=Aa x:=List.take_of_length_le (by rw [A2];omega)
    refine Le (Aad x (by omega)) (by simp only [go_sem,↓reduceIte,Nat.reduceEqDiff,Nat.reduceAdd,reduceCtorEq,hxl]<;>rfl) fun o ho=>?_
    obtain ⟨M,c⟩:=o
    dsimp only at ho ⊢
    rcases Classical.em (c=0) with e | e
    ·subst e
     obtain ⟨m3,mr⟩:=ho rfl
     rw [if_pos rfl]
     refine RN ?_
     refine ⟨(a2,b2,M),⟨r1,by dsimp only;omega,fun p hp=>?_⟩,Ref.gc2 [0]⟩
     have:=mr p hp
     omega
    ·have dc:(c == 0)=false:=by simp [e]
     have nc:(c=0)=False:=eq_false e
     rw [if_neg e]
     refine RN ?_
     simp only [dc,nc]
     refine RN ?_
     exact ⟨(a2,b2),r1,Ref.gc2 [0,1]⟩
   ·(refine RN ?_;try with_reducible exact trivial)
    exact ⟨(a1,b1),h1,Ref.to1⟩
 ·rintro ⟨a2,b2⟩ q1
  dsimp only at q1 ⊢
  refine RN ?_
  refine Ah (α:=Nat×Nat×Int) (S:=fun o=>([(0,.ref 0 0),(1,i64 (most:Int)),(4,.ref 1 0),(11,i64 (o.1:Int))],[some (Az bs o.2.1 o.2.2),some [Ai]])) (C:=fun o=>o.1≤20∧o.2.1≤bs.length) (μ:=fun o=>20 - o.1) (0,a2,b2) ⟨Nat.zero_le _,q1⟩ (Ref.to1) ?_
  clear a2 b2 q1
  rintro ⟨i,a2,b2⟩ ⟨h4,q1⟩
  dsimp only at h4 q1 ⊢
  refine RN ?_
  refine ⟨fun hc=>?_,fun hc=>?_⟩
  ·(refine RN ?_;try with_reducible exact trivial)
   refine Bv (fZ bs hb a2 b2 q1 most hm1 (by omega)) [0] (by first | rfl | simp) (by simp only [go_sem,↓reduceIte,Nat.reduceEqDiff,Nat.reduceAdd,reduceCtorEq]<;>rfl) (by simp only [go_sem,↓reduceIte,Nat.reduceEqDiff,Nat.reduceAdd,reduceCtorEq]<;>rfl) fun o ho=>?_
   obtain ⟨a3,b3,n,L⟩:=o
   obtain ⟨g1,g2,g3,g4,g5,g6⟩:=ho
   dsimp only at g1 g2 g3 g4 g5 g6 ⊢
   have hrow:∀ p∈L,p.length=n:=fun p hp=>by
    obtain ⟨k,hk,rfl⟩:=List.mem_iff_getElem.1 hp
    have:=(g6 k hk).1
    rwa [show L.getD k []=L[k] by simp [hk]] at this
   have his:=Rv L (by omega) (fun p hp=>by rw [hrow p hp];omega)
   refine RN ?_
   refine A9 his (by simp only [go_sem,↓reduceIte,Nat.reduceEqDiff,Nat.reduceAdd,reduceCtorEq,Bl _ _ L L.length rfl]<;>first | done | (simp only [Ak,Ae]<;>rfl)) (by first | rfl | simp only [go_sem,↓reduceIte,Nat.reduceEqDiff,Nat.reduceAdd,reduceCtorEq]) ?_
   refine RN ?_
   refine ⟨fun hm=>?_,fun hm=>?_⟩
   ·(refine RN ?_;try with_reducible exact trivial)
    refine ⟨(a3,b3,L),⟨g1,by dsimp only;omega,fun p hp=>by rw [hrow p hp];omega⟩,Ref.sel [0] rfl (by simp only [go_sem,↓reduceIte,Nat.reduceEqDiff,Nat.reduceAdd,reduceCtorEq]) ?_⟩
    simp only [sub,List.all_cons,List.all_nil,go_sem,↓reduceIte,Nat.reduceEqDiff,Nat.reduceAdd,reduceCtorEq]
    (try rw [List.take_of_length_le (show (List.map Ac L).length≤L.length by simp),Oz])
    (try simp [Ak,Ae])
   ·(refine RN ?_;try with_reducible exact trivial)
    exact ⟨(i+1,a3,b3),⟨by dsimp only;omega,g1⟩,by dsimp only;omega,Ref.gc2 [0,1]⟩
  ·(refine RN ?_;try with_reducible exact trivial)
   have hu:=Xl 2 2 (by decide) (by decide)
   refine CallsX.ice 2 ?_
   refine D4 (hu) (by simp only [go_sem,↓reduceIte,Nat.reduceEqDiff,Nat.reduceAdd,reduceCtorEq]<;>rfl) ?_
   rcases Classical.em (Ey 2 2=0) with e | e
   ·have hman:=oP e
    rw [if_pos e]
    refine RN ?_
    exact ⟨(a2,b2,Ch 2 2),⟨q1,eQ hman⟩,Ref.gc2 [0]⟩
   ·rw [if_neg e]
    refine RN ?_
    refine ⟨(a2,b2,[]),⟨q1,Gd.nil _⟩,(Ref.nilA 0 1 rfl).trans (Ref.gc [0] rfl (by simp only [go_sem,↓reduceIte,Nat.reduceEqDiff,Nat.reduceAdd,reduceCtorEq]<;>rfl) ?_)⟩
    simp [sub,Ab,go_sem,↓reduceIte,Nat.reduceEqDiff,Nat.reduceAdd,reduceCtorEq,Ak,Ae]
theorem yR (bs : List Int) (hb : Fa bs) (a : Nat) (h : Int) (hs : a ≤ bs.length) (most : Nat) (hm1 : 16 ≤ most) (hm2 : most ≤ 400) :
    E1 Tryz.prog 17 [.ref 0 0,i64 (most:Int)] [some (Az bs a h)] (fun o:Nat×Int×List (List Int)=>o.1≤bs.length∧Gd 401 o.2.2) (fun o=>Ak o.2.2) (fun o=>[some (Az bs o.1 o.2.1)]):=by
 refine Hn Ac5 rfl ?_;unfold Zo
 refine RN ?_
 refine Bv (C2 bs hb a h hs 12) [0] (by first | rfl | simp) (by simp only [go_sem,↓reduceIte,Nat.reduceEqDiff,Nat.reduceAdd,reduceCtorEq]<;>rfl) (by simp only [go_sem,↓reduceIte,Nat.reduceEqDiff,Nat.reduceAdd,reduceCtorEq]<;>rfl) fun o ho=>?_
 obtain ⟨a1,b1,k⟩:=o
 obtain ⟨h1,h2,h3⟩:=ho
 dsimp only at h1 h2 h3
 refine RN ?_
 refine ⟨fun c0=>?_,fun c0=>?_⟩
 ·(refine RN ?_;try with_reducible exact trivial)
  refine Bv (xX bs hb a1 b1 h1 most hm1 (by omega)) [0] (by first | rfl | simp) (by simp only [go_sem,↓reduceIte,Nat.reduceEqDiff,Nat.reduceAdd,reduceCtorEq]<;>rfl) (by simp only [go_sem,↓reduceIte,Nat.reduceEqDiff,Nat.reduceAdd,reduceCtorEq]<;>rfl) fun o ho=>?_
  obtain ⟨a2,b2,M⟩:=o
  obtain ⟨g1,g2⟩:=ho
  dsimp only at g1 g2
  refine RN ?_
  exact ⟨(a2,b2,M),⟨g1,g2.mono (by omega)⟩,Ref.gc2 [0]⟩
 ·(refine RN ?_;try with_reducible exact trivial)
  refine Bv (yQ bs hb a1 b1 h1 most hm1 hm2) [0] (by first | rfl | simp) (by simp only [go_sem,↓reduceIte,Nat.reduceEqDiff,Nat.reduceAdd,reduceCtorEq]<;>rfl) (by simp only [go_sem,↓reduceIte,Nat.reduceEqDiff,Nat.reduceAdd,reduceCtorEq]<;>rfl) fun o ho=>?_
  obtain ⟨a2,b2,M⟩:=o
  obtain ⟨g1,g2⟩:=ho
  dsimp only at g1 g2
  refine RN ?_
  exact ⟨(a2,b2,M),⟨g1,g2.mono (by omega)⟩,Ref.gc2 [0]⟩
end
end Go.Proofs.YtnompobcofhkpaaGreatDoor
