/- Texts that belong together. -/
import Derived.Test.YtfofabbkigonpaaDoorR4
set_option maxHeartbeats 16000000
set_option linter.unusedSimpArgs false
set_option linter.unusedVariables false
set_option maxRecDepth 100000
namespace Go.Gov
def Cg (bs:List Int):List AV:=bs.map fun b=>.val (.int .u8 b)
theorem lT (xs:List Int):(Cg xs).length=xs.length:=by simp [Cg]
theorem mN (H:Heap)(d:Nat)(xs:List Int):(Cg xs).map (Ai H (d+1))=Cg xs:=by simp [Cg,Ai]
theorem jA (xs:List Int)(i:Nat):(Cg xs).getD i (.val (.int .u8 0)) = .val (.int .u8 (xs.getD i 0)):=by
 simp only [Cg,List.getD_eq_getElem?_getD,List.getElem?_map]
 cases xs[i]? <;> rfl
theorem sH (xs:List Int)(i:Nat):Bf ((Cg xs).getD i .any)=true:=by
 simp only [Cg,List.getD_eq_getElem?_getD,List.getElem?_map]
 cases xs[i]? <;> rfl
theorem Zv (τ:Nat→Option Nat)(xs:List Int):Av τ (Cg xs)=Cg xs:=by simp [A8,Cg,Al]
attribute [go_sem] lT mN jA sH Zv
def Ds (bs:List Int):AV:=.slc 1 bs.length (Cg bs)
def A4 (bs:List Int)(a:Nat)(h:Int):List AV:=[Ds bs,.val (.int .i64 (a:Int)),.val (.int .u64 h)]
theorem vH (τ:Nat→Option Nat)(bs:List Int)(a:Nat)(h:Int):Av τ (A4 bs a h)=A4 bs a h:=by simp [A4,Ds, go_sem]
attribute [go_sem] vH
theorem nK (x:Int):0≤C9 .and .u64 x 16777215∧C9 .and .u64 x 16777215≤16777215:=by
 have h:(BitVec.ofInt 64 x &&& BitVec.ofInt 64 16777215).toNat≤16777215:=by
  rw [BitVec.toNat_and]
  exact Nat.le_trans Nat.and_le_right (by decide)
 generalize hy:(BitVec.ofInt 64 x &&& BitVec.ofInt 64 16777215).toNat=y at h
 have:C9 .and .u64 x 16777215=((y:Int)%2^64):=by
  show IntKind.u64.wrap _=_
  rw [show IntKind.u64.bits=64 from rfl,hy]
  simp [IntKind.wrap,IntKind.signed,IntKind.bits]
 omega
end Go.Gov
namespace Go.Proofs.YtfofabbkigonpaaDoor
section
open Go.Gov
open Classical
structure F4 (bs:List Int):Prop where
 few:bs.length≤1048576
 by8:∀ k,k<bs.length→0≤bs.getD k 0∧bs.getD k 0≤255
theorem Dl (bs : List Int) (hb : F4 bs) (a : Nat) (h : Int) (hs : a ≤ bs.length) (n : Int) :
    F6 Tryd.prog 41 [.ref 0 0,i64 n] [some (A4 bs a h)] (fun o:Nat×Int×Int=>o.1≤bs.length∧0≤o.2.2∧(o.2.2=0∨o.2.2<n)) (fun o=>i64 o.2.2) (fun o=>[some (A4 bs o.1 o.2.1)]):=by
 unfold A4 Ds
 have hfw:=hb.few
 refine Ik pF rfl ?_;unfold Ui
 refine RN ?_
 refine ⟨fun hn=>?_,fun hn=>?_⟩
 ·(refine RN ?_;try with_reducible exact trivial)
  exact ⟨(a,h,0),⟨hs,Int.le_refl _,.inl rfl⟩,Ref.gc2 [0]⟩
 refine Cf ?_
 simp only [go_sem,↓reduceIte,Nat.reduceEqDiff,Nat.reduceAdd,reduceCtorEq]
 refine Cf ?_
 have hm:=nK (Fa BinOp.shr IntKind.u64 (IntKind.u64.wrap (IntKind.u64.wrap (h*6364136223846793005)+1442695040888963407)) 33)
 simp only [go_sem,↓reduceIte,Nat.reduceEqDiff,Nat.reduceAdd,reduceCtorEq]
 generalize C9 BinOp.and IntKind.u64 (Fa BinOp.shr IntKind.u64 (IntKind.u64.wrap (IntKind.u64.wrap (h*6364136223846793005)+1442695040888963407)) 33) 16777215=x at *
 generalize IntKind.u64.wrap (IntKind.u64.wrap (h*6364136223846793005)+1442695040888963407)=h' at *
 have fin:∀ y:Int,0≤y→0≤y.tmod n∧(y.tmod n=0∨y.tmod n<n):=fun y hy=>⟨Int.tmod_nonneg _ hy,.inr (Int.tmod_lt_of_pos _ (by omega))⟩
 have hby:=hb.by8 a
 refine RN ?_
 refine ⟨fun hc=>?_,fun hc=>?_⟩
 ·have hy:=hby (by omega)
  refine RN ?_
  refine ⟨(a+1,h', (x+bs.getD a 0).tmod n),⟨by dsimp only;omega,fin _ (by omega)⟩,?_⟩
  exact Ref.gc2 [0]
 ·(refine RN ?_;try with_reducible exact trivial)
  refine ⟨(a,h', x.tmod n),⟨by dsimp only;omega,fin _ (by omega)⟩,?_⟩
  exact Ref.gc2 [0]
def C0 (n:Nat)(p:List Int):Prop:=p.length=n∧∀ k,k<n→0≤p.getD k 0∧p.getD k 0<n
theorem kK (n:Nat)(hn:n≤1048576):Ao Tryd.prog 104 [i64 (n:Int)] (.sl 0 1 0 n) [some (Aa ((List.range n).map fun (i:Nat)=>(i:Int)))]:=by
 refine De oC rfl ?_;unfold Tt
 refine RN ?_
 refine Ak (α:=Nat) (S:=fun i=>([(0,i64 (n:Int)),(3,.sl 0 1 0 i),(4,i64 (i:Int))],[some (Aa ((List.range i).map fun (i:Nat)=>(i:Int)))])) (C:=fun i=>i≤n) (μ:=fun i=>n - i) 0 (Nat.zero_le _) (Ref.to1) ?_
 intro i hi
 refine RN ?_
 refine ⟨fun hc=>?_,fun hc=>?_⟩
 ·have hst:(List.range (i+1)).map (fun (i:Nat)=>(i:Int))=(List.range i).map (fun (i:Nat)=>(i:Int))++[(i:Int)]:=by simp [List.range_succ]
  have hln:((List.range i).map (fun (i:Nat)=>(i:Int))).length=i:=by simp
  refine RN ?_
  refine ⟨i+1,by omega,by omega,?_⟩
  rw [hst]
  generalize (List.range i).map (fun (i:Nat)=>(i:Int))=X at *
  have tk1:(Aa X).take i=Aa X:=List.take_of_length_le (by rw [Ef];omega)
  refine Ref.gc [2] rfl ?_ (by simp [sub,Ac,go_sem,↓reduceIte,Nat.reduceEqDiff,Nat.reduceAdd,reduceCtorEq])
  simp only [go_sem,↓reduceIte,Nat.reduceEqDiff,Nat.reduceAdd,reduceCtorEq]
  rw [tk1,Ej]
  simp [Aa]
 ·obtain rfl:i=n:=by omega
  refine RN ?_
  exact Ref.gc2 [0]
theorem vC (n:Nat):C0 n ((List.range n).map fun (i:Nat)=>(i:Int)):=⟨by simp,fun k hk=>by simp [hk]⟩
theorem Hm {n:Nat}{p:List Int}(h:C0 n p){k:Nat}{x:Int}(hx:0≤x∧x<n):C0 n (p.set k x):=⟨by simp [h.1],fun j hj=>by
 have hl:=h.1
 have:=h.2 j hj
 by_cases e:k=j
 ·subst e
  simpa [hl,hj] using hx
 ·have:(p.set k x).getD j 0=p.getD j 0:=by simp [List.getElem?_set,e]
  rw [this]
  assumption⟩
theorem Xe (bs : List Int) (hb : F4 bs) (a : Nat) (h : Int) (hs : a ≤ bs.length) (n : Nat) (hn : n ≤ 1048576) :
    F6 Tryd.prog 77 [.ref 0 0,i64 (n:Int)] [some (A4 bs a h)] (fun o:Nat×Int×List Int=>o.1≤bs.length∧C0 n o.2.2) (fun _=>.sl 1 1 0 n) (fun o=>[some (A4 bs o.1 o.2.1),some (Aa o.2.2)]):=by
 have hu:=kK n hn
 have hr:=vC n
 generalize (List.range n).map (fun (i:Nat)=>(i:Int))=p0 at *
 refine Ik qC rfl ?_;unfold U2
 refine RN ?_
 refine An (hu) ?_
 refine RN ?_
 refine Ak (α:=Nat×Int×List Int×Int) (S:=fun o=>([(0,.ref 0 0),(1,i64 (n:Int)),(5,.sl 1 1 0 n),(6,i64 o.2.2.2)],[some (A4 bs o.1 o.2.1),some (Aa o.2.2.1)])) (C:=fun o=>o.1≤bs.length∧C0 n o.2.2.1 ∧ -1≤o.2.2.2∧o.2.2.2<n) (μ:=fun o=>(o.2.2.2+1).toNat) (a,h,p0,(n:Int) - 1) ⟨hs,hr,by dsimp only;omega,by dsimp only;omega⟩ (Ref.to1) ?_
 rintro ⟨a,h,p,i⟩ ⟨h1,h2,h3,h4⟩
 dsimp only at h1 h2 h3 h4 ⊢
 have hpl:=h2.1
 refine RN ?_
 refine ⟨fun hc=>?_,fun hc=>?_⟩
 ·obtain ⟨i,rfl⟩:=Int.eq_ofNat_of_zero_le (show 0≤i by omega)
  have hp1:=h2.2 i (by omega)
  refine RN ?_
  refine Bu (Dl bs hb a h h1 ((i:Int)+1)) [0] (by first | rfl | simp) (by simp only [go_sem,↓reduceIte,Nat.reduceEqDiff,Nat.reduceAdd,reduceCtorEq]<;>rfl) (by simp only [go_sem,↓reduceIte,Nat.reduceEqDiff,Nat.reduceAdd,reduceCtorEq]<;>rfl) fun o ho=>?_
  obtain ⟨a', h', k⟩:=o
  obtain ⟨g1,g2,g3⟩:=ho
  dsimp only at g1 g2 g3
  obtain ⟨k,rfl⟩:=Int.eq_ofNat_of_zero_le g2
  have hk:k<n:=by omega
  have hp2:=h2.2 k hk
  refine RN ?_
  exact ⟨(a', h', (p.set i (p.getD k 0)).set k (p.getD i 0),(i:Int) - 1),⟨g1,Hm (Hm h2 hp2) hp1,by dsimp only;omega,by dsimp only;omega⟩,by dsimp only;omega,Ref.to1⟩
 ·(refine RN ?_;try with_reducible exact trivial)
  exact ⟨(a,h,p),⟨h1,h2⟩,Ref.gc2 [0,1]⟩
end
section
open Go.Gov
open Classical
def C7 (n:Nat)(L:List (List Int)):Prop:=∀ k,k<L.length→C0 n (L.getD k [])
theorem kE (bs:List Int)(hb:F4 bs):Cr Tryd.prog 19 [Ds bs] (fun _:Int=>True) (fun _=>.ref 0 0) (fun h=>[some (A4 bs 0 h)]):=by
 have hfw:=hb.few
 unfold A4 Ds
 refine Fy oS rfl ?_;unfold T8
 refine RN ?_
 generalize IntKind.u64.wrap (8191+IntKind.u64.wrap (bs.length:Int))=h0
 refine Ak (α:=Nat×Int) (S:=fun o=>([(0,.slc 1 bs.length (Cg bs)),(3,.ref 0 0),(4,i64 (o.1:Int))],[some [.slc 1 bs.length (Cg bs),.val (.int .i64 0),.val (.int .u64 o.2)]])) (C:=fun o=>o.1≤bs.length) (μ:=fun o=>bs.length - o.1) (0,h0) (Nat.zero_le _) (Ref.to1) ?_
 rintro ⟨i,h⟩ hi
 dsimp only at hi ⊢
 refine RN ?_
 refine ⟨fun hc=>?_,fun hc=>?_⟩
 ·(refine RN ?_;try with_reducible exact trivial)
  exact ⟨(i+1,_),by dsimp only;omega,by dsimp only;omega,Ref.to1⟩
 ·(refine RN ?_;try with_reducible exact trivial)
  exact ⟨h,Ref.gc2 [0]⟩
theorem Ref.row {n0 : Nat} {F : Gov.Frame} {H : Gov.Heap} (o o2 : Nat) {L : List (List Int)} {x : List Int} {n k : Nat} (ho : H[o]? = some (some ((L.map Af).take k ++ [.sl o2 1 0 n]))) (hk : L.length = k) (h2 : H[o2]? = some (some (Aa x))) (hn : x.length = n) (hne : o ≠ o2) :
    Ref n0 F H F ((H.set o (some ((L++[x]).map Af))).set o2 none):=by
 subst hk hn
 have e:(L.map Af).take L.length=L.map Af:=List.take_of_length_le (by simp)
 rw [e] at ho
 have r:=Ref.close (n0:=n0) (F:=F) o L.length o2 (k:=1) (n:=x.length) ho (by rw [List.getElem?_append_right (by simp)];simp) h2 hne (by simp [Ef])
 have hs:(L.map Af++[AV.sl o2 1 0 x.length]).set L.length (.osl 1 x.length (Aa x))=(L++[x]).map Af:=by
  rw [List.set_append_right _ _ (by simp)];simp [Af]
 rw [hs] at r
 exact r
theorem Lc {m:Nat}{c:Int}{x:List Int}(h:∀ j,j<m→0≤x.getD j 0∧x.getD j 0<c)(hl:x.length=m){v:Int}(hv:0≤v∧v<c):∀ j,j<m+1→0≤(x++[v]).getD j 0∧(x++[v]).getD j 0<c:=fun j hj=>by
 by_cases e:j<m
 ·have:(x++[v]).getD j 0=x.getD j 0:=by simp [List.getElem?_append_left (show j<x.length by omega)]
  rw [this];exact h j e
 ·have:j=x.length:=by omega
  subst this
  simpa using hv
theorem R3 {n:Nat}{L:List (List Int)}{x:List Int}(h:C7 n L)(hx:C0 n x):C7 n (L++[x]):=fun k hk=>by
 by_cases e:k<L.length
 ·have:(L++[x]).getD k []=L.getD k []:=by simp [List.getElem?_append_left e]
  rw [this];exact h k e
 ·have:k=L.length:=by simp at hk;omega
  subst this
  simpa using hx
theorem Oz (n:Nat):C0 n (List.replicate n 0):=⟨by simp,fun k hk=>by simp [hk];omega⟩
theorem Ka (p:Nat)(hp:1≤p)(hp2:p≤1048576):Cr Tryd.prog 101 [i64 (p:Int)] (fun L:List (List Int)=>L.length=2∧C7 (2*p) L) (fun _=>.agg [.sl 0 1 0 2]) (fun L=>[some (L.map Af)]):=by
 refine Fy nZ rfl ?_;unfold Tq
 refine RN ?_
 have hm:(2*(p:Int)).toNat=2*p:=by omega
 refine Mu [(2,.ref 0 0),(3,i64 (2*(p:Int))),(4,.sl 1 1 0 (2*p)),(5,.sl 2 1 0 (2*p))] [some [Ag],some (Aa (List.replicate (2*p) 0)),some (Aa (List.replicate (2*p) 0))] ?_ ?_
 ·(repeat' first | simp only [go_sem,↓reduceIte,Nat.reduceEqDiff,Nat.reduceAdd,reduceCtorEq] | with_reducible refine Fg ?_ | with_reducible refine Pu ?_ | with_reducible refine Ff ?_ | with_reducible exact Fh | with_reducible refine Fe ?_ ?_ | (with_reducible refine And.intro ?_ ?_;focus first | assumption | omega | grind))
  all_goals rw [hm]
  ·exact Ref.to1
  ·exact Ref.gc2 [0,2,1]
 refine RN ?_
 refine Ak (α:=Nat×List Int×List Int) (S:=fun o=>([(2,.ref 0 0),(3,i64 (2*(p:Int))),(4,.sl 1 1 0 (2*p)),(5,.sl 2 1 0 (2*p)),(6,i64 (o.1:Int))],[some [Ag],some (Aa o.2.1),some (Aa o.2.2)])) (C:=fun o=>o.1≤2*p∧C0 (2*p) o.2.1∧C0 (2*p) o.2.2) (μ:=fun o=>2*p - o.1) (0,List.replicate (2*p) 0,List.replicate (2*p) 0) ⟨Nat.zero_le _,Oz _,Oz _⟩ (Ref.to1) ?_
 rintro ⟨i,x,y⟩ ⟨h1,h2,h3⟩
 dsimp only at h1 h2 h3 ⊢
 have hx:=h2.1
 have hy:=h3.1
 refine RN ?_
 refine ⟨fun hc=>?_,fun hc=>?_⟩
 ·(refine RN ?_;try with_reducible exact trivial)
  have e1:((i:Int)+2*p - 1).tmod (2*p)=if i=0 then 2*(p:Int) - 1 else (i:Int) - 1:=by
   rw [Int.tmod_eq_emod_of_nonneg (by omega)]
   split
   ·subst i;rw [Int.emod_eq_of_lt (by omega) (by omega)];omega
   ·rw [show (i:Int)+2*p - 1=(i - 1)+(2*p)*1 by omega,Int.add_mul_emod_self_left,Int.emod_eq_of_lt (by omega) (by omega)]
  have e2:0≤((i:Int)+1).tmod (2*p)∧((i:Int)+1).tmod (2*p)<2*p:=⟨Int.tmod_nonneg _ (by omega),Int.tmod_lt_of_pos _ (by omega)⟩
  have e3:(i:Int).tmod 2=(i:Int)%2:=Int.tmod_eq_emod_of_nonneg (by omega)
  refine ⟨fun hc2=>?_,fun hc2=>?_⟩
  ·(refine RN ?_;try with_reducible exact trivial)
   refine ⟨(i+1,_,_),⟨by dsimp only;omega,Hm h2 (k:=i) (x:=(i:Int)+1) (by omega),Hm h3 (k:=i) (x:=((i:Int)+2*p - 1).tmod (2*p)) (by rw [e1];split<;>omega)⟩,by dsimp only;omega,Ref.to1⟩
  ·(refine RN ?_;try with_reducible exact trivial)
   refine ⟨(i+1,_,_),⟨by dsimp only;omega,Hm h2 (k:=i) (x:=(i:Int) - 1) (by omega),Hm h3 (k:=i) (x:=((i:Int)+1).tmod (2*p)) (by omega)⟩,by dsimp only;omega,Ref.to1⟩
 ·(refine RN ?_;try with_reducible exact trivial)
  refine ⟨[x,y],⟨rfl,fun k hk=>?_⟩,?_⟩
  ·match k,hk with
   | 0,_=>exact h2
   | 1,_=>exact h3
  refine (Ref.close 3 0 1 (k:=1) (n:=2*p) (cs2:=Aa x) rfl rfl rfl (by decide) (by simp [Ef,hx])).trans ((Ref.close 3 1 2 (k:=1) (n:=2*p) (cs2:=Aa y) rfl rfl rfl (by decide) (by simp [Ef,hy])).trans ?_)
  exact Ref.gc [3] rfl (by simp only [go_sem,↓reduceIte,Nat.reduceEqDiff,Nat.reduceAdd,reduceCtorEq];simp [Af,hx,hy,go_sem,↓reduceIte,Nat.reduceEqDiff,Nat.reduceAdd,reduceCtorEq]) (by simp [sub,Ac,go_sem,↓reduceIte,Nat.reduceEqDiff,Nat.reduceAdd,reduceCtorEq])
theorem kQ (n:Nat)(hn:n≤1048576)(M:List (List Int))(hM:C7 n M)(hl:M.length≤1048576)(p:List Int)(hp:C0 n p):Cr Tryd.prog 76 [C2 M,Ad p] (fun L:List (List Int)=>L.length=M.length∧C7 n L) (fun L=>.agg [.sl 0 1 0 L.length]) (fun L=>[some (L.map Af)]):=by
 have hpl:=hp.1
 refine Fy qB rfl ?_;unfold U1
 refine RN ?_
 refine Ak (α:=Nat×List (List Int)) (S:=fun o=>([(1,Ad p),(2,.ref 0 0),(4,.ref 1 0),(5,.ref 2 0),(6,i64 (o.1:Int))],[some [Ae M],some [Ag],some [.sl 3 1 0 o.1],some (o.2.map Af)])) (C:=fun o=>o.1≤M.length∧o.2.length=o.1∧C7 n o.2) (μ:=fun o=>M.length - o.1) (0,[]) ⟨Nat.zero_le _,rfl,fun k hk=>absurd hk (by simp)⟩ ((Ref.nilC 2 0 1 rfl rfl).trans (Ref.to1)) ?_
 rintro ⟨k,L⟩ ⟨h1,h2,h3⟩
 dsimp only at h1 h2 h3 ⊢
 refine RN ?_
 refine ⟨fun hc=>?_,fun hc=>?_⟩
 ·have hrow:=hM k (by omega)
  have hrl:=hrow.1
  generalize hA:M.getD k []=A at *
  refine RN ?_
  rw [hpl]
  refine Ak (α:=Nat×List Int) (S:=fun o=>([(1,Ad p),(2,.ref 0 0),(4,.ref 1 0),(5,.ref 2 0),(6,i64 (k:Int)),(7,.sl 4 1 0 n),(8,i64 (o.1:Int))],[some [Ae M],some [Ag],some [.sl 3 1 0 k],some (L.map Af),some (Aa o.2)])) (C:=fun o=>o.1≤n∧C0 n o.2) (μ:=fun o=>n - o.1) (0,List.replicate n 0) ⟨Nat.zero_le _,Oz n⟩ (Ref.to1) ?_
  rintro ⟨f,x⟩ ⟨g1,g2⟩
  dsimp only at g1 g2 ⊢
  have hx:=g2.1
  refine RN ?_
  refine ⟨fun hc2=>?_,fun hc2=>?_⟩
  ·have q1:=hp.2 f (by omega)
   have q2:=hrow.2 f (by omega)
   obtain ⟨y,hy⟩:=Int.eq_ofNat_of_zero_le q2.1
   have q3:=hp.2 y (by omega)
   refine RN ?_
   exact ⟨(f+1,_),⟨by dsimp only;omega,Hm g2 (k:=(p.getD f 0).toNat) (x:=p.getD ((M.getD k []).getD f 0).toNat 0) (hp.2 _ (by rw [hA];omega))⟩,by dsimp only;omega,Ref.to1⟩
  ·(refine RN ?_;try with_reducible exact trivial)
   refine ⟨(k+1,L++[x]),⟨by dsimp only;omega,by simp [h2],R3 h3 g2⟩,by dsimp only;omega,?_⟩
   refine (Ref.row 6 4 (L:=L) rfl h2 rfl hx (by decide)).trans ?_
   exact Ref.gc1 [0,1,2,6]
 ·(refine RN ?_;try with_reducible exact trivial)
  exact ⟨L,⟨by omega,h3⟩,Ref.gc [3] rfl (by simp only [go_sem,↓reduceIte,Nat.reduceEqDiff,Nat.reduceAdd,reduceCtorEq]) (by simp [sub,Ac,go_sem,↓reduceIte,Nat.reduceEqDiff,Nat.reduceAdd,reduceCtorEq,h2])⟩
theorem Lz (a b : Nat) (ha : 1 ≤ a) (hb : 1 ≤ b) (hab : a * b ≤ 1048576) (M K : List (List Int)) (hM : C7 a M) (hK : C7 b K) (hl : 1 ≤ M.length ∧ M.length ≤ 1024) (hl2 : 1 ≤ K.length ∧ K.length ≤ 1024) :
    Cr Tryd.prog 102 [C2 M,C2 K] (fun L:List (List Int)=>L.length=M.length+K.length∧C7 (a*b) L) (fun L=>.agg [.sl 0 1 0 L.length]) (fun L=>[some (L.map Af)]):=by
 have ha2:a≤1048576:=Nat.le_trans (Nat.le_mul_of_pos_right a hb) hab
 have hb2:b≤1048576:=Nat.le_trans (Nat.le_mul_of_pos_left b ha) hab
 have hf1:=J9 M hl.1 (by omega) (by rw [(hM 0 (by omega)).1];exact ha2)
 have hf2:=J9 K hl2.1 (by omega) (by rw [(hK 0 (by omega)).1];exact hb2)
 rw [(hM 0 (by omega)).1] at hf1
 rw [(hK 0 (by omega)).1] at hf2
 refine Fy oA rfl ?_;unfold Tr
 refine RN ?_
 refine An (hf1) ?_
 refine RN ?_
 refine An (hf2) ?_
 refine RN ?_
 refine Ak (α:=Nat×List (List Int)) (S:=fun o=>([(2,.ref 0 0),(3,.ref 1 0),(4,.ref 2 0),(5,i64 (a:Int)),(6,i64 (b:Int)),(7,.ref 3 0),(8,i64 (o.1:Int))],[some [Ae M],some [Ae K],some [Ag],some [.sl 4 1 0 o.1],some (o.2.map Af)])) (C:=fun o=>o.1≤M.length+K.length∧o.2.length=o.1∧C7 (a*b) o.2) (μ:=fun o=>M.length+K.length - o.1) (0,[]) ⟨Nat.zero_le _,rfl,fun k hk=>absurd hk (by simp)⟩ ((Ref.nilC 3 0 1 rfl rfl).trans (Ref.to1)) ?_
 rintro ⟨i,L⟩ ⟨h1,h2,h3⟩
 dsimp only at h1 h2 h3 ⊢
 refine RN ?_
 refine ⟨fun hc=>?_,fun hc=>?_⟩
 ·(refine RN ?_;try with_reducible exact trivial)
  refine Ak (α:=Nat×List Int) (S:=fun o=>([(2,.ref 0 0),(3,.ref 1 0),(4,.ref 2 0),(5,i64 (a:Int)),(6,i64 (b:Int)),(7,.ref 3 0),(8,i64 (i:Int)),(9,.sl 5 1 0 o.1),(10,i64 (o.1:Int))],[some [Ae M],some [Ae K],some [Ag],some [.sl 4 1 0 i],some (L.map Af),some (Aa o.2)])) (C:=fun o=>o.1≤a*b∧o.2.length=o.1∧∀ j,j<o.1→0≤o.2.getD j 0∧o.2.getD j 0<(a*b:Nat)) (μ:=fun o=>a*b - o.1) (0,[]) ⟨Nat.zero_le _,rfl,fun j hj=>absurd hj (by simp)⟩ (Ref.to1) ?_
  rintro ⟨f,x⟩ ⟨g1,g2,g3⟩
  dsimp only at g1 g2 g3 ⊢
  have hab1:(a:Int)*b=(a*b:Nat):=by simp
  refine RN ?_
  refine ⟨fun hc2=>?_,fun hc2=>?_⟩
  ·have hfb:f<a*b:=by rw [hab1] at hc2;omega
   have e1:(f:Int).tdiv b=((f / b:Nat):Int):=by rw [Int.tdiv_eq_ediv_of_nonneg (by omega)];rfl
   have e2:(f:Int).tmod b=((f%b:Nat):Int):=by rw [Int.tmod_eq_emod_of_nonneg (by omega)];rfl
   have q1:f / b<a:=(Nat.div_lt_iff_lt_mul hb).2 hfb
   have q2:f%b<b:=Nat.mod_lt _ hb
   have q3:(f / b)*b≤f:=Nat.div_mul_le_self f b
   generalize f / b=u at *
   generalize f%b=v at *
   refine RN ?_
   refine ⟨fun hc3=>?_,fun hc3=>?_⟩
   ·have hr:=hM i (by omega)
    have hr1:=hr.1
    have hr2:=hr.2 u q1
    obtain ⟨y,hy⟩:=Int.eq_ofNat_of_zero_le hr2.1
    have hyb:(y+1)*b≤a*b:=Nat.mul_le_mul_right b (by omega)
    have hyc:(y:Int)*b=(y*b:Nat):=by simp
    rw [Nat.add_mul,Nat.one_mul] at hyb
    simp only [go_sem,↓reduceIte,Nat.reduceEqDiff,Nat.reduceAdd,reduceCtorEq,e1,e2,Int.toNat_natCast,hy,hyc]
    refine RN ?_
    refine ⟨(f+1,x++[((y*b:Nat):Int)+v]),⟨by dsimp only;omega,by simp [g2],Lc g3 g2 (by omega)⟩,by dsimp only;omega,?_⟩
    have tk1:(Aa x).take f=Aa x:=List.take_of_length_le (by rw [Ef];omega)
    refine Ref.gc [0,1,2,3,4,7] rfl ?_ (by simp [sub,Ac,go_sem,↓reduceIte,Nat.reduceEqDiff,Nat.reduceAdd,reduceCtorEq])
    simp only [go_sem,↓reduceIte,Nat.reduceEqDiff,Nat.reduceAdd,reduceCtorEq]
    rw [tk1,Ej]
    simp [Aa]
   ·have hr:=hK (i - M.length) (by omega)
    have hr1:=hr.1
    have hr2:=hr.2 v q2
    have hub:(u+1)*b≤a*b:=Nat.mul_le_mul_right b (by omega)
    have huc:(u:Int)*b=(u*b:Nat):=by simp
    have hi:((i:Int) - M.length).toNat=i - M.length:=by omega
    rw [Nat.add_mul,Nat.one_mul] at hub
    simp only [go_sem,↓reduceIte,Nat.reduceEqDiff,Nat.reduceAdd,reduceCtorEq,e1,e2,Int.toNat_natCast,huc,hi]
    refine RN ?_
    refine ⟨(f+1,x++[((u*b:Nat):Int)+(K.getD (i - M.length) []).getD v 0]),⟨by dsimp only;omega,by simp [g2],Lc g3 g2 (by omega)⟩,by dsimp only;omega,?_⟩
    have tk1:(Aa x).take f=Aa x:=List.take_of_length_le (by rw [Ef];omega)
    refine Ref.gc [0,1,2,3,4,7] rfl ?_ (by simp [sub,Ac,go_sem,↓reduceIte,Nat.reduceEqDiff,Nat.reduceAdd,reduceCtorEq])
    simp only [go_sem,↓reduceIte,Nat.reduceEqDiff,Nat.reduceAdd,reduceCtorEq]
    rw [tk1,Ej]
    simp [Aa]
  ·have hfb:f=a*b:=by rw [hab1] at hc2;omega
   refine RN ?_
   refine ⟨(i+1,L++[x]),⟨by dsimp only;omega,by simp [h2],R3 h3 ⟨by omega,fun j hj=>g3 j (by omega)⟩⟩,by dsimp only;omega,?_⟩
   refine (Ref.row 7 5 (L:=L) rfl h2 rfl g2 (by decide)).trans ?_
   exact Ref.gc1 [0,1,2,3,7]
 ·(refine RN ?_;try with_reducible exact trivial)
  exact ⟨L,⟨by omega,h3⟩,Ref.gc [4] rfl (by simp only [go_sem,↓reduceIte,Nat.reduceEqDiff,Nat.reduceAdd,reduceCtorEq]) (by simp [sub,Ac,go_sem,↓reduceIte,Nat.reduceEqDiff,Nat.reduceAdd,reduceCtorEq,h2])⟩
end
end Go.Proofs.YtfofabbkigonpaaDoor
namespace Go.Gov
variable {P:Program} {N:Nat} {F:Frame} {H:Heap} {M:List Nat} {n0:Nat}
theorem Px {α:Type}(C:α→Prop)(F1:α→Frame)(H1:α→Heap){t:GT}{y:ACode}{Q:Exit→Frame→Heap→Prop}(hE:LT P false t (fun F' H' => ∃ o,C o∧Ref n0 F' H' (F1 o) (H1 o)) F H)(hy:∀ o,C o→W P M N n0 y Q (F1 o) (H1 o)):V P M N n0 (.alts t) (El (W P M N n0 y Q) Q) F H:=
 K7 (G1 (fun F' H' ⟨o,ho,h⟩=>D0 h (hy o ho)) t false F H hE)
theorem mV (ks:List Nat)(H:Heap)(bs:List Int)(a:Nat)(h:Int):(A4 bs a h).map (Cd ks H)=A4 bs a h:=by simp [A4,Ds, Cd,Al,Zv]
theorem mU (ks:List Nat)(H:Heap)(xs:List Int):(Aa xs).map (Cd ks H)=Aa xs:=by simp [Aa,Cd,Al]
attribute [go_sem] mV mU
theorem bI {f k e:Nat}(hf:f<4*e)(he:e≤1048576)(hk:k<4):0≤C9 .xor .i64 (f:Int) (k:Int)∧C9 .xor .i64 (f:Int) (k:Int)<(4*e:Nat):=by
 have h2:(f ^^^ k) / 4=f / 4:=by
  have h:=Nat.xor_div_two_pow (a:=f) (b:=k) (n:=2)
  rw [show (2:Nat)^2=4 from rfl,Nat.div_eq_of_lt hk,Nat.xor_zero] at h
  exact h
 have h1:(BitVec.ofInt 64 (f:Int) ^^^ BitVec.ofInt 64 (k:Int)).toNat=f ^^^ k:=by
  rw [BitVec.toNat_xor]
  congr 1
  ·simp [BitVec.toNat_ofInt];omega
  ·simp [BitVec.toNat_ofInt];omega
 have h3:C9 .xor .i64 (f:Int) (k:Int)=((f ^^^ k:Nat):Int):=by
  show IntKind.i64.wrap _=_
  rw [show IntKind.i64.bits=64 from rfl,h1]
  generalize f ^^^ k=y at *
  show (if (true&&decide ((y:Int)%2^64 ≥ 2^63))=true then (y:Int)%2^64 - 2^64 else (y:Int)%2^64)=(y:Int)
  rw [if_neg (by simp;omega)]
  omega
 rw [h3]
 omega
end Go.Gov
namespace Go.Proofs.YtfofabbkigonpaaDoor
open Go.Gov
open Classical
theorem kH (n:Nat)(L:List (List Int))(pt:Nat)(hL:∀ p∈L,C0 n p)(hL1:1≤L.length)(hp:pt<n)(hn:n≤1048576)(hl:L.length≤1048576):Cr Tryd.prog 117 [Ae L,i64 pt] (fun V:List Nat=>V.Nodup∧pt∈V∧∀ j,j∈V→j<n) (fun V=>.sl 0 1 0 V.length) (fun V=>[some (Aa (nz V))]):=
 CallsX.mono (Xf n L pt hL hp hn hl) (by
  rintro av H' ⟨V,h,rfl,rfl⟩
  exact ⟨V,⟨h.1,(h.2 pt).2 .refl,fun j hj=>((h.2 j).1 hj).ltR hL hp⟩,rfl,rfl⟩)
theorem eG {m:Nat}{c:Int}{x:List Int}(h:∀ j,j<m→0≤x.getD j 0∧x.getD j 0<c)(hl:x.length=m){k:Nat}{v:Int}(hv:0≤v∧v<c):∀ j,j<m→0≤(x.set k v).getD j 0∧(x.set k v).getD j 0<c:=fun j hj=>by
 by_cases e:k=j
 ·subst e
  have:(x.set k v).getD k 0=v:=by simp [hl,hj]
  rw [this];exact hv
 ·have:(x.set k v).getD j 0=x.getD j 0:=by simp [List.getElem?_set,e]
  rw [this];exact h j hj
theorem kG (bs : List Int) (hb : F4 bs) (a : Nat) (h : Int) (hs : a ≤ bs.length) (n : Nat) (hn : n ≤ 1048576) :
    F6 Tryd.prog 118 [.ref 0 0,i64 (n:Int)] [some (A4 bs a h)] (fun o:Nat×Int×List Int=>o.1≤bs.length∧C0 n o.2.2) (fun _=>.sl 1 1 0 n) (fun o=>[some (A4 bs o.1 o.2.1),some (Aa o.2.2)]):=by
 have hd:=Xe bs hb a h hs n hn
 refine Ik oO rfl ?_;unfold T4
 refine RN ?_
 refine Px (fun o:Nat×Int×List Int=>o.1≤bs.length∧C0 n o.2.2) (fun o=>[(0,.ref 0 0),(1,i64 (n:Int)),(5,.sl 1 1 0 n),(6,.sl 2 1 0 n)]) (fun o=>[some (A4 bs o.1 o.2.1),some (Aa o.2.2),some (Aa (List.replicate n 0))]) ?_ ?_
 ·repeat' first
    | simp only [go_sem,↓reduceIte,Nat.reduceEqDiff,Nat.reduceAdd,reduceCtorEq]
    | with_reducible refine Fg ?_
    | with_reducible refine Ff ?_
    | with_reducible exact Fh
    | with_reducible refine Fe ?_ ?_
    | (with_reducible refine And.intro ?_ ?_;focus first | assumption | omega | grind)
    | refine Bu (hd) [0] (by first | rfl | simp) (by simp only [go_sem,↓reduceIte,Nat.reduceEqDiff,Nat.reduceAdd,reduceCtorEq]<;>rfl) (by simp only [go_sem,↓reduceIte,Nat.reduceEqDiff,Nat.reduceAdd,reduceCtorEq]<;>rfl) fun o ho=>?_
  all_goals refine ⟨o,ho,?_⟩
  ·exact Ref.to1
  ·exact Ref.gc2 [0,2,1]
 rintro ⟨a,h,p⟩ ⟨h1,h2⟩
 dsimp only at h1 h2 ⊢
 have hpl:=h2.1
 refine RN ?_
 refine Ak (α:=Nat×List Int) (S:=fun o=>([(0,.ref 0 0),(1,i64 (n:Int)),(5,.sl 1 1 0 n),(6,.sl 2 1 0 n),(7,i64 (o.1:Int))],[some (A4 bs a h),some (Aa p),some (Aa o.2)])) (C:=fun o=>o.1≤n+1∧C0 n o.2) (μ:=fun o=>n+1 - o.1) (0,List.replicate n 0) ⟨Nat.zero_le _,Oz n⟩ (Ref.to1) ?_
 rintro ⟨i,x⟩ ⟨g1,g2⟩
 dsimp only at g1 g2 ⊢
 have hx:=g2.1
 refine RN ?_
 refine ⟨fun hc=>?_,fun hc=>?_⟩
 ·have q1:=h2.2 i (by omega)
  have q2:=h2.2 (i+1) (by omega)
  have e1:((i:Int)+1).toNat=i+1:=by omega
  refine RN ?_
  exact ⟨(i+2,_),⟨by dsimp only;omega,Hm (Hm g2 (k:=(p.getD i 0).toNat) q2) (k:=(p.getD (i+1) 0).toNat) q1⟩,by dsimp only;omega,Ref.to1⟩
 ·(refine RN ?_;try with_reducible exact trivial)
  exact ⟨(a,h,x),⟨h1,g2⟩,Ref.gc1 [0,2]⟩
theorem kO (bs : List Int) (hb : F4 bs) (a : Nat) (h : Int) (hs : a ≤ bs.length) (e : Nat) (he1 : 1 ≤ e) (he : e ≤ 100000) :
    F6 Tryd.prog 103 [.ref 0 0,i64 (e:Int)] [some (A4 bs a h)] (fun o:Nat×Int×Nat×List (List Int)=>o.1≤bs.length∧1≤o.2.2.1∧o.2.2.1≤4*e∧o.2.2.2.length=3∧C7 o.2.2.1 o.2.2.2) (fun _=>.agg [.sl 1 1 0 3]) (fun o=>[some (A4 bs o.1 o.2.1),some (o.2.2.2.map Af)]):=by
 have hd:=kG bs hb a h hs (4*e) (by omega)
 refine Ik oB rfl ?_;unfold Ts
 refine RN ?_
 refine Bu (hd) [0] (by first | rfl | simp) (by simp only [go_sem,↓reduceIte,Nat.reduceEqDiff,Nat.reduceAdd,reduceCtorEq]<;>rfl) (by simp only [go_sem,↓reduceIte,Nat.reduceEqDiff,Nat.reduceAdd,reduceCtorEq]<;>rfl) fun o ho=>?_
 obtain ⟨a', h', w⟩:=o
 obtain ⟨h1,h2⟩:=ho
 dsimp only at h1 h2
 have hwl:=h2.1
 refine RN ?_
 refine Ak (α:=Nat×List Int×List Int) (S:=fun o=>([(0,.ref 0 0),(4,.ref 1 0),(5,i64 (4*(e:Int))),(6,.sl 2 1 0 o.1),(7,.sl 3 1 0 o.1),(8,.sl 4 1 0 (4*e)),(9,i64 (o.1:Int))],[some (A4 bs a' h'),some [Ag],some (Aa o.2.1),some (Aa o.2.2),some (Aa w)])) (C:=fun o=>o.1≤4*e∧o.2.1.length=o.1∧o.2.2.length=o.1∧(∀ j,j<o.1→0≤o.2.1.getD j 0∧o.2.1.getD j 0<(4*e:Nat))∧(∀ j,j<o.1→0≤o.2.2.getD j 0∧o.2.2.getD j 0<(4*e:Nat))) (μ:=fun o=>4*e - o.1) (0,[],[]) ⟨Nat.zero_le _,rfl,rfl,fun j hj=>absurd hj (by simp),fun j hj=>absurd hj (by simp)⟩ (Ref.to1) ?_
 rintro ⟨f,z,t⟩ ⟨g1,g2,g3,g4,g5⟩
 dsimp only at g1 g2 g3 g4 g5 ⊢
 refine RN ?_
 refine ⟨fun hc=>?_,fun hc=>?_⟩
 ·have x1:=bI (f:=f) (k:=1) (e:=e) (by omega) (by omega) (by decide)
  have x2:=bI (f:=f) (k:=2) (e:=e) (by omega) (by omega) (by decide)
  simp only [Int.cast_ofNat_Int] at x1 x2
  refine RN ?_
  refine ⟨(f+1,z++[_],t++[_]),⟨by dsimp only;omega,by simp [g2],by simp [g3],Lc g4 g2 x1,Lc g5 g3 x2⟩,by dsimp only;omega,?_⟩
  have tk1:(Aa z).take f=Aa z:=List.take_of_length_le (by rw [Ef];omega)
  have tk2:(Aa t).take f=Aa t:=List.take_of_length_le (by rw [Ef];omega)
  refine Ref.gc [0,1,6,8,4] rfl ?_ (by simp [sub,Ac,go_sem,↓reduceIte,Nat.reduceEqDiff,Nat.reduceAdd,reduceCtorEq])
  simp only [go_sem,↓reduceIte,Nat.reduceEqDiff,Nat.reduceAdd,reduceCtorEq]
  rw [tk1,tk2,Ej,Ej]
  simp [Aa]
 ·obtain rfl:f=4*e:=by omega
  have rz:C0 (4*e) z:=⟨g2,g4⟩
  have rt:C0 (4*e) t:=⟨g3,g5⟩
  have tk1:(Aa z).take (4*e)=Aa z:=List.take_of_length_le (by rw [Ef];omega)
  have tk2:(Aa t).take (4*e)=Aa t:=List.take_of_length_le (by rw [Ef];omega)
  have tk3:(Aa w).take (4*e)=Aa w:=List.take_of_length_le (by rw [Ef];omega)
  have hM:Ae [z,w,t] = .slc 1 3 [.slc 1 (4*e) (Aa z),.slc 1 (4*e) (Aa w),.slc 1 (4*e) (Aa t)]:=by simp [Ae,Ad,Aa,g2,g3,hwl]
  have hRs:∀ k,k<3→C0 (4*e) ([z,w,t].getD k []):=fun k hk=>by
   match k,hk with
   | 0,_=>exact rz
   | 1,_=>exact h2
   | 2,_=>exact rt
  have hor:=kH (4*e) [z,w,t] 0 (by intro p hp;simp at hp;rcases hp with rfl | rfl | rfl<;>assumption) (by simp) (by omega) (by omega) (by simp)
  have hMl:[z,w,t].length=3:=rfl
  generalize [z,w,t]=Mv at hM hRs hor hMl
  have hc4:(4*(e:Int)).toNat=4*e:=by omega
  refine RN ?_
  refine B3 hor (by simp only [go_sem,↓reduceIte,Nat.reduceEqDiff,Nat.reduceAdd,reduceCtorEq,tk1,tk2,tk3,hM]<;>rfl) (by simp only [go_sem,↓reduceIte,Nat.reduceEqDiff,Nat.reduceAdd,reduceCtorEq]<;>rfl) fun V hV=>?_
  obtain ⟨v1,v2,v3⟩:=hV
  have hVn:=Gu v1 v3
  have hV1:1≤V.length:=List.length_pos_of_mem v2
  have hzl:=Ki V
  have hat:∀ i,i<V.length→(nz V).getD i 0=(V.getD i 0:Nat)∧V.getD i 0<4*e:=fun i hi=>by
   refine ⟨by simp [nz,hi],?_⟩
   have:V.getD i 0∈V:=by simp [hi]
   exact v3 _ this
  generalize nz V=O at *
  generalize V.length=n at *
  simp only [go_sem,↓reduceIte,Nat.reduceEqDiff,Nat.reduceAdd,reduceCtorEq]
  refine D0 (Ref.sel [0,1,6] (F' := [(0,.ref 0 0),(4,.ref 1 0),(5,i64 (4*(e:Int))),(10,Ae Mv),(11,.sl 2 1 0 n)]) (H' := [some (A4 bs a' h'),some [Ag],some (Aa O)]) rfl ?_ ?_) ?_
  ·simp only [go_sem,↓reduceIte,Nat.reduceEqDiff,Nat.reduceAdd,reduceCtorEq]
  ·simp only [sub,List.all_cons,List.all_nil,go_sem,↓reduceIte,Nat.reduceEqDiff,Nat.reduceAdd,reduceCtorEq]
   rw [tk1,tk2,tk3,I4,I4,I4,← hM]
  refine RN ?_
  rw [hc4]
  refine Ak (α:=Nat×List Int) (S:=fun o=>([(0,.ref 0 0),(4,.ref 1 0),(10,Ae Mv),(11,.sl 2 1 0 n),(12,.sl 3 1 0 (4*e)),(13,i64 (o.1:Int))],[some (A4 bs a' h'),some [Ag],some (Aa O),some (Aa o.2)])) (C:=fun o=>o.1≤n∧o.2.length=4*e∧∀ j,j<4*e→0≤o.2.getD j 0∧o.2.getD j 0<n) (μ:=fun o=>n - o.1) (0,List.replicate (4*e) 0) ⟨Nat.zero_le _,by simp,fun j hj=>by simp [hj];omega⟩ (Ref.to1) ?_
  rintro ⟨i,x⟩ ⟨d1,d2,d3⟩
  dsimp only at d1 d2 d3 ⊢
  refine RN ?_
  refine ⟨fun hc5=>?_,fun hc5=>?_⟩
  ·obtain ⟨a1,a2⟩:=hat i (by omega)
   have hsx:=eG (k:=(O.getD i 0).toNat) (v:=(i:Int)) d3 d2 (by omega)
   refine RN ?_
   exact ⟨(i+1,_),⟨by dsimp only;omega,by simp [d2],hsx⟩,by dsimp only;omega,Ref.to1⟩
  obtain rfl:i=n:=by omega
  refine RN ?_
  refine Ak (α:=Nat×List (List Int)) (S:=fun o=>([(4,.ref 1 0),(10,Ae Mv),(11,.sl 2 1 0 i),(12,.sl 3 1 0 (4*e)),(14,.ref 4 0),(15,i64 (o.1:Int))],[some (A4 bs a' h'),some [Ag],some (Aa O),some (Aa x),some [.sl 5 1 0 o.1],some (o.2.map Af)])) (C:=fun o=>o.1≤3∧o.2.length=o.1∧C7 i o.2) (μ:=fun o=>3 - o.1) (0,[]) ⟨Nat.zero_le _,rfl,fun k hk=>absurd hk (by simp)⟩ ((Ref.nilC 4 0 1 rfl rfl).trans (Ref.to1)) ?_
  rintro ⟨k,L⟩ ⟨m1,m2,m3⟩
  dsimp only at m1 m2 m3 ⊢
  refine RN ?_
  refine ⟨fun hc6=>?_,fun hc6=>?_⟩
  ·have hrow:=hRs k (by omega)
   have hrl:=hrow.1
   refine RN ?_
   refine Ak (α:=Nat×List Int) (S:=fun o=>([(4,.ref 1 0),(10,Ae Mv),(11,.sl 2 1 0 i),(12,.sl 3 1 0 (4*e)),(14,.ref 4 0),(15,i64 (k:Int)),(16,.sl 6 1 0 o.1),(17,i64 (o.1:Int))],[some (A4 bs a' h'),some [Ag],some (Aa O),some (Aa x),some [.sl 5 1 0 k],some (L.map Af),some (Aa o.2)])) (C:=fun o=>o.1≤i∧o.2.length=o.1∧∀ j,j<o.1→0≤o.2.getD j 0∧o.2.getD j 0<i) (μ:=fun o=>i - o.1) (0,[]) ⟨Nat.zero_le _,rfl,fun j hj=>absurd hj (by simp)⟩ (Ref.to1) ?_
   rintro ⟨f,y⟩ ⟨r1,r2,r3⟩
   dsimp only at r1 r2 r3 ⊢
   refine RN ?_
   refine ⟨fun hc7=>?_,fun hc7=>?_⟩
   ·obtain ⟨a1,a2⟩:=hat f (by omega)
    have b1:=hrow.2 (O.getD f 0).toNat (by omega)
    have b2:=d3 ((Mv.getD k []).getD (O.getD f 0).toNat 0).toNat (by omega)
    refine RN ?_
    refine ⟨(f+1,y++[x.getD ((Mv.getD k []).getD (O.getD f 0).toNat 0).toNat 0]),⟨by dsimp only;omega,by simp [r2],Lc r3 r2 b2⟩,by dsimp only;omega,?_⟩
    have tk1:(Aa y).take f=Aa y:=List.take_of_length_le (by rw [Ef];omega)
    refine Ref.gc [0,1,2,3,4,5,8] rfl ?_ (by simp [sub,Ac,go_sem,↓reduceIte,Nat.reduceEqDiff,Nat.reduceAdd,reduceCtorEq])
    simp only [go_sem,↓reduceIte,Nat.reduceEqDiff,Nat.reduceAdd,reduceCtorEq]
    rw [tk1,Ej]
    simp [Aa]
   obtain rfl:f=i:=by omega
   refine RN ?_
   refine ⟨(k+1,L++[y]),⟨by dsimp only;omega,by simp [m2],R3 m3 ⟨r2,r3⟩⟩,by dsimp only;omega,?_⟩
   refine (Ref.row 8 6 (L:=L) rfl m2 rfl r2 (by decide)).trans ?_
   exact Ref.gc1 [0,1,2,3,4,8]
  obtain rfl:k=3:=by omega
  refine RN ?_
  exact ⟨(a', h', i,L),⟨h1,hV1,by dsimp only;omega,m2,m3⟩,Ref.gc1 [0,5]⟩
end Go.Proofs.YtfofabbkigonpaaDoor
namespace Go.Gov
variable {P:Program} {N:Nat} {F:Frame} {H:Heap} {M:List Nat} {n0:Nat}
theorem Mw {x z:ACode}{Q:Exit→Frame→Heap→Prop}{α:Type}(C:α→Prop)(F1:α→Frame)(H1:α→Heap)(hx:W P M N n0 x (El (fun F' H' => ∃ o,C o∧Ref n0 F' H' (F1 o) (H1 o)) Q) F H)(hn:∀ o,C o→W P M N n0 z Q (F1 o) (H1 o)):W P M N n0 x (El (W P M N n0 z Q) Q) F H:=
 cU hx fun e F' H' h=>by
  cases e with
  | normal=>obtain ⟨o,ho,hr⟩:=h;exact D0 hr (hn o ho)
  | _=>exact h
end Go.Gov
namespace Go.Proofs.YtfofabbkigonpaaDoor
section
open Go.Gov
open Classical
theorem Oy:C7 2 [[1,0]]:=fun k hk=>by
 obtain rfl:k=0:=by simp at hk;omega
 refine ⟨rfl,fun j hj=>?_⟩
 match j,hj with
 | 0,_=>decide
 | 1,_=>decide
theorem kL (bs : List Int) (hb : F4 bs) (a : Nat) (h : Int) (hs : a ≤ bs.length) (most : Nat) (hm1 : 8 ≤ most) (hm2 : most ≤ 1000) :
    F6 Tryd.prog 75 [.ref 0 0,i64 (most:Int)] [some (A4 bs a h)] (fun o:Nat×Int×Nat×List (List Int)=>o.1≤bs.length∧1≤o.2.2.1∧o.2.2.1≤most∧1≤o.2.2.2.length∧o.2.2.2.length≤5∧C7 o.2.2.1 o.2.2.2) (fun o=>.agg [.sl 1 1 0 o.2.2.2.length]) (fun o=>[some (A4 bs o.1 o.2.1),some (o.2.2.2.map Af)]):=by
 refine Ik qA rfl ?_;unfold U0
 refine RN ?_
 refine Bu (Dl bs hb a h hs 7) [0] (by first | rfl | simp) (by simp only [go_sem,↓reduceIte,Nat.reduceEqDiff,Nat.reduceAdd,reduceCtorEq]<;>rfl) (by simp only [go_sem,↓reduceIte,Nat.reduceEqDiff,Nat.reduceAdd,reduceCtorEq]<;>rfl) fun o ho=>?_
 obtain ⟨a1,b1,k⟩:=o
 obtain ⟨h1,h2,h3⟩:=ho
 dsimp only at h1 h2 h3
 obtain ⟨k,rfl⟩:=Int.eq_ofNat_of_zero_le h2
 simp only [go_sem,↓reduceIte,Nat.reduceEqDiff,Nat.reduceAdd,reduceCtorEq]
 have eq2:(most:Int).tdiv 2=((most / 2:Nat):Int):=by rw [Int.tdiv_eq_ediv_of_nonneg (by omega)];rfl
 have eq4:(most:Int).tdiv 4=((most / 4:Nat):Int):=by rw [Int.tdiv_eq_ediv_of_nonneg (by omega)];rfl
 have hcl:Ref 1 [(13,AV.val (Value.int IntKind.i64 k)),(6,AV.ref 5 0),(5,AV.ref 4 0),(4,AV.ref 1 0),(0,AV.ref 0 0),(1,i64 most)]
  [some (A4 bs a1 b1),some [Ag],some (Aa [1,0]),some [AV.sl 2 1 0 2],some [AV.sl 3 1 0 1],some [AV.sl 3 1 0 1]]
  [(13,AV.val (Value.int IntKind.i64 k)),(6,AV.ref 4 0),(5,AV.ref 3 0),(4,AV.ref 1 0),(0,AV.ref 0 0),(1,i64 most)]
  [some (A4 bs a1 b1),some [Ag],some ([[1,0]].map Af),some [AV.sl 2 1 0 1],some [AV.sl 2 1 0 1]]:=by
  refine (Ref.close 3 0 2 (k:=1) (n:=2) (cs2:=Aa [1,0]) rfl rfl rfl (by decide) rfl).trans ?_
  exact Ref.gc2 [0,1,3,4,5]
 refine D0 ((Ref.to1).trans hcl) ?_
 refine Mw (fun o:Nat×Int×Nat×List (List Int)=>o.1≤bs.length∧1≤o.2.2.1∧o.2.2.1≤most∧1≤o.2.2.2.length∧o.2.2.2.length≤5∧C7 o.2.2.1 o.2.2.2) (fun o=>[(0,.ref 0 0),(1,i64 (most:Int)),(4,.ref 1 0),(5,.ref 3 0),(6,.ref 4 0)]) (fun o=>[some (A4 bs o.1 o.2.1),some [Ag],some ([[1,0]].map Af),some [.sl 2 1 0 1],some [.sl 5 1 0 o.2.2.2.length],some (o.2.2.2.map Af)]) ?_ ?_
 ·(refine RN ?_;try with_reducible exact trivial)
  simp only [eq2,eq4]
  refine ⟨fun c0=>?_,fun c0=>?_⟩
  ·(refine RN ?_;try with_reducible exact trivial)
   (try simp only [eq2,eq4])
   refine Bu (Dl bs hb a1 b1 h1 ((most / 2:Nat):Int)) [0] (by first | rfl | simp) (by simp only [go_sem,↓reduceIte,Nat.reduceEqDiff,Nat.reduceAdd,reduceCtorEq]<;>rfl) (by simp only [go_sem,↓reduceIte,Nat.reduceEqDiff,Nat.reduceAdd,reduceCtorEq]<;>rfl) fun o ho=>?_
   obtain ⟨a2,b2,p⟩:=o
   obtain ⟨q1,q2,q3⟩:=ho
   dsimp only at q1 q2 q3
   obtain ⟨p,rfl⟩:=Int.eq_ofNat_of_zero_le q2
   have hp:=Ka (1+p) (by omega) (by omega)
   rw [show ((1+p:Nat):Int)=1+(p:Int) from by omega] at hp
   refine RN ?_
   refine B3 (hp) (by simp only [go_sem,↓reduceIte,Nat.reduceEqDiff,Nat.reduceAdd,reduceCtorEq]<;>rfl) (fun o=>by first | rfl | simp only [go_sem,↓reduceIte,Nat.reduceEqDiff,Nat.reduceAdd,reduceCtorEq]) fun o ho=>?_
   obtain ⟨o1,o2⟩:=ho
   refine RN ?_
   exact ⟨(a2,b2,2*(1+p),o),⟨q1,by dsimp only;omega,by dsimp only;omega,by dsimp only;omega,by dsimp only;omega,o2⟩,Ref.to (by simp [o1]) (by simp [sub,Ac])⟩
  ·(refine RN ?_;try with_reducible exact trivial)
   refine ⟨fun c1=>?_,fun c1=>?_⟩
   ·(refine RN ?_;try with_reducible exact trivial)
    refine ⟨(a1,b1,2,[[1,0]]),⟨h1,by dsimp only;omega,by dsimp only;omega,by simp,by simp,Oy⟩,?_⟩
    exact Ref.gc2 [0,2]
   ·(refine RN ?_;try with_reducible exact trivial)
    refine ⟨fun c2=>?_,fun c2=>?_⟩
    ·(refine RN ?_;try with_reducible exact trivial)
     (try simp only [eq2,eq4])
     refine Bu (Dl bs hb a1 b1 h1 ((most / 4:Nat):Int)) [0] (by first | rfl | simp) (by simp only [go_sem,↓reduceIte,Nat.reduceEqDiff,Nat.reduceAdd,reduceCtorEq]<;>rfl) (by simp only [go_sem,↓reduceIte,Nat.reduceEqDiff,Nat.reduceAdd,reduceCtorEq]<;>rfl) fun o ho=>?_
     obtain ⟨a2,b2,p⟩:=o
     obtain ⟨q1,q2,q3⟩:=ho
     dsimp only at q1 q2 q3
     obtain ⟨p,rfl⟩:=Int.eq_ofNat_of_zero_le q2
     have hp:=Ka (1+p) (by omega) (by omega)
     rw [show ((1+p:Nat):Int)=1+(p:Int) from by omega] at hp
     refine RN ?_
     refine B3 (hp) (by simp only [go_sem,↓reduceIte,Nat.reduceEqDiff,Nat.reduceAdd,reduceCtorEq]<;>rfl) (fun o=>by first | rfl | simp only [go_sem,↓reduceIte,Nat.reduceEqDiff,Nat.reduceAdd,reduceCtorEq]) fun o ho=>?_
     obtain ⟨o1,o2⟩:=ho
     have hbe:=Lz (2*(1+p)) 2 (by omega) (by omega) (by omega) o [[1,0]] o2 Oy (by omega) (by decide)
     refine RN ?_
     refine B3 hbe (by simp only [go_sem,↓reduceIte,Nat.reduceEqDiff,Nat.reduceAdd,reduceCtorEq,Ey _ _ o 2 o1]<;>first | done | (simp only [C2,Ae,o1]<;>rfl)) (fun o=>by first | rfl | simp only [go_sem,↓reduceIte,Nat.reduceEqDiff,Nat.reduceAdd,reduceCtorEq]) fun o' ho' => ?_
     obtain ⟨o3,o4⟩:=ho'
     have o5:o'.length=3:=by rw [o3,o1];rfl
     refine RN ?_
     exact ⟨(a2,b2,2*(1+p)*2,o'),⟨q1,by dsimp only;omega,by dsimp only;omega,by dsimp only;omega,by dsimp only;omega,o4⟩,Ref.gc2 [0,1,2,3,4,6]⟩
    ·(refine RN ?_;try with_reducible exact trivial)
     refine ⟨fun c3=>?_,fun c3=>?_⟩
     ·(refine RN ?_;try with_reducible exact trivial)
      refine Bu (Dl bs hb a1 b1 h1 4) [0] (by first | rfl | simp) (by simp only [go_sem,↓reduceIte,Nat.reduceEqDiff,Nat.reduceAdd,reduceCtorEq]<;>rfl) (by simp only [go_sem,↓reduceIte,Nat.reduceEqDiff,Nat.reduceAdd,reduceCtorEq]<;>rfl) fun o ho=>?_
      obtain ⟨a2,b2,p⟩:=o
      obtain ⟨q1,q2,q3⟩:=ho
      dsimp only at q1 q2 q3
      obtain ⟨p,rfl⟩:=Int.eq_ofNat_of_zero_le q2
      refine RN ?_
      refine ⟨fun hbig=>?_,fun hbig=>?_⟩
      ·have hp:=Ka 2 (by omega) (by omega)
       rw [show ((2:Nat):Int)=2 from rfl] at hp
       have eq5:(most:Int).tdiv (4*2)=((most / 8:Nat):Int):=by rw [Int.tdiv_eq_ediv_of_nonneg (by omega)];rfl
       have hD:8*(most / 8)≤most:=Nat.mul_div_le _ _
       have hD1:1≤most / 8:=by omega
       generalize most / 8=D at eq5 hD hD1
       refine RN ?_
       refine B3 (hp) (by simp only [go_sem,↓reduceIte,Nat.reduceEqDiff,Nat.reduceAdd,reduceCtorEq]<;>rfl) (fun o=>by first | rfl | simp only [go_sem,↓reduceIte,Nat.reduceEqDiff,Nat.reduceAdd,reduceCtorEq]) fun o ho=>?_
       obtain ⟨o1,o2⟩:=ho
       simp only [go_sem,↓reduceIte,Nat.reduceEqDiff,Nat.reduceAdd,reduceCtorEq,eq5]
       refine RN ?_
       refine Bu (Dl bs hb a2 b2 q1 (D:Int)) [0] (by first | rfl | simp) (by simp only [go_sem,↓reduceIte,Nat.reduceEqDiff,Nat.reduceAdd,reduceCtorEq]<;>rfl) (by simp only [go_sem,↓reduceIte,Nat.reduceEqDiff,Nat.reduceAdd,reduceCtorEq]<;>rfl) fun o' ho' => ?_
       obtain ⟨a3,b3,r⟩:=o'
       obtain ⟨y1,y2,y3⟩:=ho'
       dsimp only at y1 y2 y3
       obtain ⟨r,rfl⟩:=Int.eq_ofNat_of_zero_le y2
       have hrD:8*(1+r)≤most:=Nat.le_trans (Nat.mul_le_mul_left _ (by omega)) hD
       have hrr:2*2*(2*(1+r))=8*(1+r):=by omega
       have hp2:=Ka (1+r) (by omega) (by
        have:1+r≤8*(1+r):=Nat.le_mul_of_pos_left _ (by omega)
        omega)
       rw [show ((1+r:Nat):Int)=1+(r:Int) from by omega] at hp2
       have hr1:1+r≤8*(1+r):=Nat.le_mul_of_pos_left _ (by omega)
       refine RN ?_
       refine B3 hp2 (by simp only [go_sem,↓reduceIte,Nat.reduceEqDiff,Nat.reduceAdd,reduceCtorEq]<;>rfl) (fun o=>by first | rfl | simp only [go_sem,↓reduceIte,Nat.reduceEqDiff,Nat.reduceAdd,reduceCtorEq]) fun o' ho' => ?_
       obtain ⟨o3,o4⟩:=ho'
       have hbe:=Lz (2*2) (2*(1+r)) (by omega) (by omega) (by omega) o o' o2 o4 (by omega) (by omega)
       refine RN ?_
       refine B3 hbe (by simp only [go_sem,↓reduceIte,Nat.reduceEqDiff,Nat.reduceAdd,reduceCtorEq,Ey _ _ o 2 o1,Ey _ _ o' 2 o3]<;>first | done | (simp only [C2,Ae,o1,o3]<;>rfl)) (fun o=>by first | rfl | simp only [go_sem,↓reduceIte,Nat.reduceEqDiff,Nat.reduceAdd,reduceCtorEq]) fun o2' ho2' => ?_
       obtain ⟨o5,o6⟩:=ho2'
       have o7:o2'.length=4:=by rw [o5,o1,o3]
       refine RN ?_
       exact ⟨(a3,b3,2*2*(2*(1+r)),o2'),⟨y1,by dsimp only;omega,by dsimp only;omega,by dsimp only;omega,by dsimp only;omega,o6⟩,Ref.gc2 [0,1,2,3,4,7]⟩
      ·have hp:=Ka (1+p) (by omega) (by omega)
       rw [show ((1+p:Nat):Int)=1+(p:Int) from by omega] at hp
       have eq5:(most:Int).tdiv (4*(1+(p:Int)))=((most / (4*(1+p)):Nat):Int):=by
        rw [Int.tdiv_eq_ediv_of_nonneg (by omega)]
        have:(4*(1+(p:Int)))=((4*(1+p):Nat):Int):=by omega
        rw [this];rfl
       have hD:(4*(1+p))*(most / (4*(1+p)))≤most:=Nat.mul_div_le _ _
       have hp4:4*(1+p)≤most:=by omega
       have hD1:1≤most / (4*(1+p)):=(Nat.le_div_iff_mul_le (by omega)).2 (by omega)
       generalize most / (4*(1+p))=D at eq5 hD hD1
       refine RN ?_
       refine B3 (hp) (by simp only [go_sem,↓reduceIte,Nat.reduceEqDiff,Nat.reduceAdd,reduceCtorEq]<;>rfl) (fun o=>by first | rfl | simp only [go_sem,↓reduceIte,Nat.reduceEqDiff,Nat.reduceAdd,reduceCtorEq]) fun o ho=>?_
       obtain ⟨o1,o2⟩:=ho
       simp only [go_sem,↓reduceIte,Nat.reduceEqDiff,Nat.reduceAdd,reduceCtorEq,eq5]
       refine RN ?_
       refine Bu (Dl bs hb a2 b2 q1 (D:Int)) [0] (by first | rfl | simp) (by simp only [go_sem,↓reduceIte,Nat.reduceEqDiff,Nat.reduceAdd,reduceCtorEq]<;>rfl) (by simp only [go_sem,↓reduceIte,Nat.reduceEqDiff,Nat.reduceAdd,reduceCtorEq]<;>rfl) fun o' ho' => ?_
       obtain ⟨a3,b3,r⟩:=o'
       obtain ⟨y1,y2,y3⟩:=ho'
       dsimp only at y1 y2 y3
       obtain ⟨r,rfl⟩:=Int.eq_ofNat_of_zero_le y2
       have hrD:(4*(1+p))*(1+r)≤most:=Nat.le_trans (Nat.mul_le_mul_left _ (by omega)) hD
       have hrr:2*(1+p)*(2*(1+r))=(4*(1+p))*(1+r):=by
        rw [show 2*(1+p)*(2*(1+r))=(2*(1+p)*2)*(1+r) by rw [Nat.mul_assoc,Nat.mul_assoc,Nat.mul_assoc]]
        congr 1
        omega
       have hp2:=Ka (1+r) (by omega) (by
        have:1+r≤(4*(1+p))*(1+r):=Nat.le_mul_of_pos_left _ (by omega)
        omega)
       rw [show ((1+r:Nat):Int)=1+(r:Int) from by omega] at hp2
       have hr1:1+r≤(4*(1+p))*(1+r):=Nat.le_mul_of_pos_left _ (by omega)
       refine RN ?_
       refine B3 hp2 (by simp only [go_sem,↓reduceIte,Nat.reduceEqDiff,Nat.reduceAdd,reduceCtorEq]<;>rfl) (fun o=>by first | rfl | simp only [go_sem,↓reduceIte,Nat.reduceEqDiff,Nat.reduceAdd,reduceCtorEq]) fun o' ho' => ?_
       obtain ⟨o3,o4⟩:=ho'
       have hbe:=Lz (2*(1+p)) (2*(1+r)) (by omega) (by omega) (by omega) o o' o2 o4 (by omega) (by omega)
       refine RN ?_
       refine B3 hbe (by simp only [go_sem,↓reduceIte,Nat.reduceEqDiff,Nat.reduceAdd,reduceCtorEq,Ey _ _ o 2 o1,Ey _ _ o' 2 o3]<;>first | done | (simp only [C2,Ae,o1,o3]<;>rfl)) (fun o=>by first | rfl | simp only [go_sem,↓reduceIte,Nat.reduceEqDiff,Nat.reduceAdd,reduceCtorEq]) fun o2' ho2' => ?_
       obtain ⟨o5,o6⟩:=ho2'
       have o7:o2'.length=4:=by rw [o5,o1,o3]
       refine RN ?_
       exact ⟨(a3,b3,2*(1+p)*(2*(1+r)),o2'),⟨y1,by dsimp only;omega,by dsimp only;omega,by dsimp only;omega,by dsimp only;omega,o6⟩,Ref.gc2 [0,1,2,3,4,7]⟩
     ·(refine RN ?_;try with_reducible exact trivial)
      (try simp only [eq2,eq4])
      refine Bu (Dl bs hb a1 b1 h1 ((most / 4:Nat):Int)) [0] (by first | rfl | simp) (by simp only [go_sem,↓reduceIte,Nat.reduceEqDiff,Nat.reduceAdd,reduceCtorEq]<;>rfl) (by simp only [go_sem,↓reduceIte,Nat.reduceEqDiff,Nat.reduceAdd,reduceCtorEq]<;>rfl) fun o ho=>?_
      obtain ⟨a2,b2,p⟩:=o
      obtain ⟨q1,q2,q3⟩:=ho
      dsimp only at q1 q2 q3
      obtain ⟨p,rfl⟩:=Int.eq_ofNat_of_zero_le q2
      have hp:=kO bs hb a2 b2 q1 (1+p) (by omega) (by omega)
      rw [show ((1+p:Nat):Int)=1+(p:Int) from by omega] at hp
      refine RN ?_
      refine Bu (hp) [0] (by first | rfl | simp) (by simp only [go_sem,↓reduceIte,Nat.reduceEqDiff,Nat.reduceAdd,reduceCtorEq]<;>rfl) (by simp only [go_sem,↓reduceIte,Nat.reduceEqDiff,Nat.reduceAdd,reduceCtorEq]<;>rfl) fun o ho=>?_
      obtain ⟨a3,b3,n,L⟩:=o
      obtain ⟨t1,t2,t3,t4,t5⟩:=ho
      dsimp only at t1 t2 t3 t4 t5 ⊢
      refine RN ?_
      exact ⟨(a3,b3,n,L),⟨t1,t2,by dsimp only;omega,by dsimp only;omega,by dsimp only;omega,t5⟩,Ref.to (by simp [t4]) (by simp [sub,Ac])⟩
 ·rintro ⟨a2,b2,n,L⟩ ⟨g1,g2,g3,g4,g5,g6⟩
  dsimp only at g1 g2 g3 g4 g5 g6 ⊢
  refine RN ?_
  refine Ak (α:=Nat×Int×Nat×List (List Int)) (S:=fun o=>([(0,.ref 0 0),(1,i64 (most:Int)),(4,.ref 1 0),(5,.ref 3 0),(6,.ref 4 0)],[some (A4 bs o.1 o.2.1),some [Ag],some [Af [1,0]],some [.sl 2 1 0 1],some [.sl 5 1 0 o.2.2.2.length],some (o.2.2.2.map Af)])) (C:=fun o=>o.1≤bs.length∧1≤o.2.2.1∧o.2.2.1≤most∧1≤o.2.2.2.length∧o.2.2.2.length≤5∧C7 o.2.2.1 o.2.2.2) (μ:=fun o=>5 - o.2.2.2.length) (a2,b2,n,L) ⟨g1,g2,g3,g4,g5,g6⟩ (Ref.to1) ?_
  clear g1 g2 g3 g4 g5 g6
  clear a2 b2 n L
  rintro ⟨a2,b2,n,L⟩ ⟨g1,g2,g3,g4,g5,g6⟩
  dsimp only at g1 g2 g3 g4 g5 g6 ⊢
  have hfl:=J9 L (by omega) (by omega) (by rw [(g6 0 (by omega)).1];omega)
  rw [(g6 0 (by omega)).1] at hfl
  by_cases hA:L.length<5
  ·have pA:((L.length:Int)<5)=True:=eq_true (by omega)
   have dA:decide ((L.length:Int)<5)=true:=decide_eq_true (by omega)
   by_cases hB:n*2≤most
   ·have pB:((n:Int)*2≤most)=True:=eq_true (by omega)
    have dB:decide ((n:Int)*2≤most)=true:=decide_eq_true (by omega)
    refine RN ?_
    rw [dA]
    refine GCall.on rfl ⟨by first | trivial | omega | simp,?_⟩
    refine E8 hfl (by simp only [go_sem,↓reduceIte,Nat.reduceEqDiff,Nat.reduceAdd,reduceCtorEq,Ey _ _ L L.length rfl]<;>first | done | (simp only [C2,Ae]<;>rfl)) (by first | rfl | simp only [go_sem,↓reduceIte,Nat.reduceEqDiff,Nat.reduceAdd,reduceCtorEq]) ?_
    simp only [go_sem,↓reduceIte,Nat.reduceEqDiff,Nat.reduceAdd,reduceCtorEq,pA,pB,dA,dB,true_implies]
    refine RN ?_
    refine GCall.on rfl ?_
    refine Bu (Dl bs hb a2 b2 g1 3) [0] (by first | rfl | simp) (by simp only [go_sem,↓reduceIte,Nat.reduceEqDiff,Nat.reduceAdd,reduceCtorEq]<;>rfl) (by simp only [go_sem,↓reduceIte,Nat.reduceEqDiff,Nat.reduceAdd,reduceCtorEq]<;>rfl) fun o ho=>?_
    obtain ⟨a3,b3,r⟩:=o
    obtain ⟨y1,y2,y3⟩:=ho
    dsimp only at y1 y2 y3
    simp only [go_sem,↓reduceIte,Nat.reduceEqDiff,Nat.reduceAdd,reduceCtorEq,pA,pB,dA,dB,true_implies]
    refine RN ?_
    refine ⟨fun c6=>?_,fun c6=>?_⟩
    ·have hb1:=Lz n 2 g2 (by decide) (by omega) L [[1,0]] g6 Oy (by omega) (by decide)
     have hb2:=Lz 2 n (by decide) g2 (by omega) [[1,0]] L Oy g6 (by decide) (by omega)
     refine RN ?_
     refine Bu (Dl bs hb a3 b3 y1 2) [0] (by first | rfl | simp) (by simp only [go_sem,↓reduceIte,Nat.reduceEqDiff,Nat.reduceAdd,reduceCtorEq]<;>rfl) (by simp only [go_sem,↓reduceIte,Nat.reduceEqDiff,Nat.reduceAdd,reduceCtorEq]<;>rfl) fun o ho=>?_
     obtain ⟨a4,b4,r2⟩:=o
     obtain ⟨z1,z2,z3⟩:=ho
     dsimp only at z1 z2 z3
     refine RN ?_
     refine ⟨fun c7=>?_,fun c7=>?_⟩
     ·(refine RN ?_;try with_reducible exact trivial)
      refine B3 hb1 (by simp only [go_sem,↓reduceIte,Nat.reduceEqDiff,Nat.reduceAdd,reduceCtorEq,Ey _ _ L L.length rfl]<;>first | done | (simp only [C2,Ae]<;>rfl)) (fun o=>by first | rfl | simp only [go_sem,↓reduceIte,Nat.reduceEqDiff,Nat.reduceAdd,reduceCtorEq]) fun o' ho' => ?_
      obtain ⟨o3,o4⟩:=ho'
      have o5:o'.length=L.length+1:=o3
      refine RN ?_
      exact ⟨(a4,b4,n*2,o'),⟨z1,by dsimp only;omega,by dsimp only;omega,by dsimp only;omega,by dsimp only;omega,o4⟩,by dsimp only;omega,Ref.gc2 [0,1,2,3,4,6]⟩
     ·(refine RN ?_;try with_reducible exact trivial)
      refine B3 hb2 (by simp only [go_sem,↓reduceIte,Nat.reduceEqDiff,Nat.reduceAdd,reduceCtorEq,Ey _ _ L L.length rfl]<;>first | done | (simp only [C2,Ae]<;>rfl)) (fun o=>by first | rfl | simp only [go_sem,↓reduceIte,Nat.reduceEqDiff,Nat.reduceAdd,reduceCtorEq]) fun o' ho' => ?_
      obtain ⟨o3,o4⟩:=ho'
      have o5:o'.length=1+L.length:=o3
      refine RN ?_
      exact ⟨(a4,b4,2*n,o'),⟨z1,by dsimp only;omega,by dsimp only;omega,by dsimp only;omega,by dsimp only;omega,o4⟩,by dsimp only;omega,Ref.gc2 [0,1,2,3,4,6]⟩
    ·(refine RN ?_;try with_reducible exact trivial)
     exact ⟨(a3,b3,n,L),⟨y1,g2,g3,g4,g5,g6⟩,Ref.gc1 [0,5]⟩
   ·have nB:((n:Int)*2≤most)=False:=eq_false (by omega)
    have dB:decide ((n:Int)*2≤most)=false:=decide_eq_false (by omega)
    refine RN ?_
    rw [dA]
    refine GCall.on rfl ⟨by first | trivial | omega | simp,?_⟩
    refine E8 hfl (by simp only [go_sem,↓reduceIte,Nat.reduceEqDiff,Nat.reduceAdd,reduceCtorEq,Ey _ _ L L.length rfl]<;>first | done | (simp only [C2,Ae]<;>rfl)) (by first | rfl | simp only [go_sem,↓reduceIte,Nat.reduceEqDiff,Nat.reduceAdd,reduceCtorEq]) ?_
    simp only [go_sem,↓reduceIte,Nat.reduceEqDiff,Nat.reduceAdd,reduceCtorEq,pA,nB,dA,dB,true_implies]
    refine RN ?_
    refine Dz (i64 0) rfl ?_
    simp only [go_sem,↓reduceIte,Nat.reduceEqDiff,Nat.reduceAdd,reduceCtorEq,pA,nB,dA,dB,true_implies,false_implies]
    refine RN ?_
    exact ⟨(a2,b2,n,L),⟨g1,g2,g3,g4,g5,g6⟩,Ref.gc1 [0,5]⟩
  ·have dA:decide ((L.length:Int)<5)=false:=decide_eq_false (by omega)
   refine RN ?_
   rw [dA]
   refine Dz (i64 0) rfl ?_
   have nA:((L.length:Int)<5)=False:=eq_false (by omega)
   simp only [go_sem,↓reduceIte,Nat.reduceEqDiff,Nat.reduceAdd,reduceCtorEq,nA,dA,false_implies]
   refine RN ?_
   refine Dz (i64 0) rfl ?_
   simp only [go_sem,↓reduceIte,Nat.reduceEqDiff,Nat.reduceAdd,reduceCtorEq,nA,dA,false_implies]
   refine RN ?_
   exact ⟨(a2,b2,n,L),⟨g1,g2,g3,g4,g5,g6⟩,Ref.gc1 [0,5]⟩
end
section
open Go.Gov
open Classical
theorem Xg (bs : List Int) (hb : F4 bs) (a : Nat) (h : Int) (hs : a ≤ bs.length) (w : List Int) (hw : w.length ≤ 1048576) (hw1 : 1 ≤ w.length) :
    F6 Tryd.prog 43 [.ref 0 0,.sl 1 1 0 w.length] [some (A4 bs a h),some (Aa w)] (fun o:Nat×Int×Nat=>o.1≤bs.length∧o.2.2<w.length) (fun o=>i64 (w.getD o.2.2 0)) (fun o=>[some (A4 bs o.1 o.2.1),some (Aa w)]):=by
 refine Ik pH rfl ?_;unfold Uk
 refine RN ?_
 refine Bu (Dl bs hb a h hs (w.length:Int)) [0] (by first | rfl | simp) (by simp only [go_sem,↓reduceIte,Nat.reduceEqDiff,Nat.reduceAdd,reduceCtorEq]<;>rfl) (by simp only [go_sem,↓reduceIte,Nat.reduceEqDiff,Nat.reduceAdd,reduceCtorEq]<;>rfl) fun o ho=>?_
 obtain ⟨a', h', k⟩:=o
 obtain ⟨h1,h2,h3⟩:=ho
 dsimp only at h1 h2 h3
 obtain ⟨k,rfl⟩:=Int.eq_ofNat_of_zero_le h2
 have hk:k<w.length:=by omega
 refine RN ?_
 exact ⟨(a', h', k),⟨h1,hk⟩,Ref.gc2 [0,1]⟩
theorem Xi (bs : List Int) (hb : F4 bs) (a : Nat) (h : Int) (hs : a ≤ bs.length) (most : Nat) (hm1 : 8 ≤ most) (hm2 : most ≤ 1000) :
    F6 Tryd.prog 40 [.ref 0 0,i64 (most:Int)] [some (A4 bs a h)] (fun o:Nat×Int×Nat×List (List Int)=>o.1≤bs.length∧1≤o.2.2.1∧o.2.2.1≤most∧1≤o.2.2.2.length∧o.2.2.2.length≤5∧C7 o.2.2.1 o.2.2.2) (fun o=>.agg [.sl 1 1 0 o.2.2.2.length]) (fun o=>[some (A4 bs o.1 o.2.1),some (o.2.2.2.map Af)]):=by
 refine Ik pE rfl ?_;unfold Uh
 refine RN ?_
 refine Bu (kL bs hb a h hs most hm1 hm2) [0] (by first | rfl | simp) (by simp only [go_sem,↓reduceIte,Nat.reduceEqDiff,Nat.reduceAdd,reduceCtorEq]<;>rfl) (by simp only [go_sem,↓reduceIte,Nat.reduceEqDiff,Nat.reduceAdd,reduceCtorEq]<;>rfl) fun o ho=>?_
 obtain ⟨a1,b1,n,L⟩:=o
 obtain ⟨h1,h2,h3,h4,h5,h6⟩:=ho
 dsimp only at h1 h2 h3 h4 h5 h6 ⊢
 have hfl:=J9 L (by omega) (by omega) (by rw [(h6 0 (by omega)).1];omega)
 rw [(h6 0 (by omega)).1] at hfl
 refine RN ?_
 refine Bu (Dl bs hb a1 b1 h1 4) [0] (by first | rfl | simp) (by simp only [go_sem,↓reduceIte,Nat.reduceEqDiff,Nat.reduceAdd,reduceCtorEq]<;>rfl) (by simp only [go_sem,↓reduceIte,Nat.reduceEqDiff,Nat.reduceAdd,reduceCtorEq]<;>rfl) fun o ho=>?_
 obtain ⟨a2,b2,k⟩:=o
 obtain ⟨q1,q2,q3⟩:=ho
 dsimp only at q1 q2 q3
 have hdr:=Xe bs hb a2 b2 q1 n (by omega)
 have hrn:=fun p hp=>kQ n (by omega) L h6 (by omega) p hp
 refine RN ?_
 refine ⟨fun c1=>?_,fun c1=>?_⟩
 ·refine Cf ?_
  refine Px (fun o:Nat×Int×List (List Int)=>o.1≤bs.length∧o.2.2.length=L.length∧C7 n o.2.2) (fun o=>[(4,.ref 1 0)]) (fun o=>[some (A4 bs o.1 o.2.1),some [.sl 2 1 0 o.2.2.length],some (o.2.2.map Af)]) ?_ ?_
  ·repeat' first
     | simp only [go_sem,↓reduceIte,Nat.reduceEqDiff,Nat.reduceAdd,reduceCtorEq]
     | with_reducible refine Fg ?_
     | with_reducible refine Ff ?_
     | with_reducible exact Fh
     | with_reducible refine Fe ?_ ?_
     | (with_reducible refine And.intro ?_ ?_;focus first | assumption | omega | grind)
     | (refine E8 hfl ?_ ?_ ?_;(simp only [go_sem,↓reduceIte,Nat.reduceEqDiff,Nat.reduceAdd,reduceCtorEq,Ey _ _ L L.length rfl]<;>first | done | (simp only [C2,Ae]<;>rfl));(focus first | rfl | simp only [go_sem,↓reduceIte,Nat.reduceEqDiff,Nat.reduceAdd,reduceCtorEq]))
     | refine Bu (hdr) [0] (by first | rfl | simp) (by simp only [go_sem,↓reduceIte,Nat.reduceEqDiff,Nat.reduceAdd,reduceCtorEq]<;>rfl) (by simp only [go_sem,↓reduceIte,Nat.reduceEqDiff,Nat.reduceAdd,reduceCtorEq]<;>rfl) fun o ho=>?_
   all_goals
    have htk:(Aa o.2.2).take n=Aa o.2.2:=List.take_of_length_le (by rw [Ef,ho.2.1];exact Nat.le_refl _)
    have hin:Ad o.2.2 = .slc 1 n (Aa o.2.2):=by rw [Ad,ho.2.1]
    refine B3 (hrn o.2.2 ho.2) (by simp only [go_sem,↓reduceIte,Nat.reduceEqDiff,Nat.reduceAdd,reduceCtorEq,Ey _ _ L L.length rfl,htk,I4,hin]<;>first | done | (simp only [C2,Ae]<;>rfl)) (fun o=>by first | rfl | simp only [go_sem,↓reduceIte,Nat.reduceEqDiff,Nat.reduceAdd,reduceCtorEq]) fun o' ho' => ?_
    (repeat' first | simp only [go_sem,↓reduceIte,Nat.reduceEqDiff,Nat.reduceAdd,reduceCtorEq] | with_reducible refine Fg ?_ | with_reducible refine Pu ?_ | with_reducible refine Ff ?_ | with_reducible exact Fh | with_reducible refine Fe ?_ ?_ | (with_reducible refine And.intro ?_ ?_;focus first | assumption | omega | grind))
    exact ⟨(o.1,o.2.1,o'),⟨ho.1,ho'.1,ho'.2⟩,Ref.gc2 [0,1,5]⟩
  ·rintro ⟨a3,b3,K⟩ ⟨g1,g2,g3⟩
   dsimp only at g1 g2 g3 ⊢
   refine RN ?_
   exact ⟨(a3,b3,n,K),⟨g1,h2,h3,by dsimp only;omega,by dsimp only;omega,g3⟩,Ref.gc1 [0,2]⟩
 ·(refine RN ?_;try with_reducible exact trivial)
  exact ⟨(a2,b2,n,L),⟨q1,h2,h3,h4,h5,h6⟩,Ref.gc1 [0,2]⟩
end
end Go.Proofs.YtfofabbkigonpaaDoor
namespace Go.Gov
variable {P:Program} {N:Nat} {F:Frame} {H:Heap} {M:List Nat} {n0:Nat}
theorem Sz {α:Type}(C:α→Prop)(F1:α→Frame)(H1:α→Heap){t:GT}{y:ACode}{id:Nat}{Q Q' : Exit→Frame→Heap→Prop}(hE:LT P false t (fun F' H' => ∃ o,C o∧Ref n0 F' H' (F1 o) (H1 o)) F H)(hy:∀ o,C o→W P M N n0 y Q (F1 o) (H1 o)):V P M N n0 (.alts t) (G4 id (El (W P M N n0 y Q) Q')) F H:=
 K7 (G1 (fun F' H' ⟨o,ho,h⟩=>D0 h (hy o ho)) t false F H hE)
end Go.Gov
