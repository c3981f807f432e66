/- Texts that belong together. -/
import Derived.Test.YtaekhhaaphgndaaGreatR4
set_option maxHeartbeats 16000000
set_option linter.unusedSimpArgs false
set_option linter.unusedVariables false
set_option maxRecDepth 100000
namespace Go.Gov
def u8s (bs:List Int):List AV:=bs.map fun b=>.val (.int .u8 b)
theorem len_u8s (xs:List Int):(u8s xs).length=xs.length:=by simp [u8s]
theorem map_frz_u8s (H:Heap)(d:Nat)(xs:List Int):(u8s xs).map (frz H (d+1))=u8s xs:=by simp [u8s,frz]
theorem map_shf_u8s (n d:Nat)(xs:List Int):(u8s xs).map (shf n d)=u8s xs:=by cases d<;>simp [u8s,shf]
theorem all_nf_u8s (d:Nat)(xs:List Int):(u8s xs).all (nf (d+1))=true:=by simp [u8s,nf]
theorem getD_u8s (xs:List Int)(i:Nat):(u8s xs).getD i (.val (.int .u8 0)) = .val (.int .u8 (xs.getD i 0)):=by
 simp only [u8s,List.getD_eq_getElem?_getD,List.getElem?_map]
 cases xs[i]? <;> rfl
theorem plain_u8s (xs:List Int)(i:Nat):plainC ((u8s xs).getD i .any)=true:=by
 simp only [u8s,List.getD_eq_getElem?_getD,List.getElem?_map]
 cases xs[i]? <;> rfl
theorem rnmL_u8s (τ:Nat→Option Nat)(xs:List Int):rnmL τ (u8s xs)=u8s xs:=by simp [rnmL_map,u8s,rnm]
theorem map_shr_u8s (σ:Nat→Nat)(d:Nat)(xs:List Int):(u8s xs).map (shr σ d)=u8s xs:=by cases d<;>simp [u8s,shr]
theorem all_nfn_u8s (n d:Nat)(xs:List Int):(u8s xs).all (nfn n (d+1))=true:=by simp [u8s,nfn]
theorem all_plain_u8s (xs:List Int):(u8s xs).all plainC=true:=by simp [u8s,plainC]
theorem take_u8s (xs:List Int):(u8s xs).take xs.length=u8s xs:=List.take_of_length_le (by rw [len_u8s];exact Nat.le_refl _)
attribute [go_sem] len_u8s map_frz_u8s map_shf_u8s all_nf_u8s getD_u8s plain_u8s rnmL_u8s map_shr_u8s all_nfn_u8s all_plain_u8s take_u8s
def bytA' (bs:List Int):AV:=.slc 1 bs.length (u8s bs)
def srcC (bs:List Int)(a:Nat)(h:Int):List AV:=[bytA' bs,.val (.int .i64 (a:Int)),.val (.int .u64 h)]
theorem rnmL_src (τ:Nat→Option Nat)(bs:List Int)(a:Nat)(h:Int):rnmL τ (srcC bs a h)=srcC bs a h:=by simp [srcC,bytA', go_sem]
theorem map_shr_src (σ:Nat→Nat)(d:Nat)(bs:List Int)(a:Nat)(h:Int):(srcC bs a h).map (shr σ (d+1))=srcC bs a h:=by simp [srcC,bytA', shr,map_shr_u8s]
attribute [go_sem] rnmL_src map_shr_src
theorem msk24 (x:Int):0≤bitsV .and .u64 x 16777215∧bitsV .and .u64 x 16777215≤16777215:=by
 have h:(BitVec.ofInt 64 x &&& BitVec.ofInt 64 16777215).toNat≤16777215:=by
  rw [BitVec.toNat_and]
  exact Nat.le_trans Nat.and_le_right (by decide)
 generalize hy:(BitVec.ofInt 64 x &&& BitVec.ofInt 64 16777215).toNat=y at h
 have:bitsV .and .u64 x 16777215=((y:Int)%2^64):=by
  show IntKind.u64.wrap _=_
  rw [show IntKind.u64.bits=64 from rfl,hy]
  simp [IntKind.wrap,IntKind.signed,IntKind.bits]
 omega
end Go.Gov
namespace Go.Proofs.YtaekhhaaphgndaaGreat
section
open Go.Gov Go.Ce
open Classical
structure Byt (bs:List Int):Prop where
 few:bs.length≤1048576
 by8:∀ k,k<bs.length→0≤bs.getD k 0∧bs.getD k 0≤255
theorem l01Next_w (bs : List Int) (hb : Byt bs) (a : Nat) (h : Int) (hs : a ≤ bs.length) (n : Int) :
    WriE Tryz.prog 39 [.ref 0 0,i64 n] [some (srcC bs a h)] (fun o:Nat×Int×Int=>o.1≤bs.length∧0≤o.2.2∧(o.2.2=0∨o.2.2<n)) (fun o=>i64 o.2.2) (fun o=>[some (srcC bs o.1 o.2.1)]):=by
 unfold srcC bytA'
 have hfw:=hb.few
 refine wriREV ok39 rfl ?_;unfold c39
 refine RN ?_
 refine ⟨fun hn=>?_,fun hn=>?_⟩
 ·(refine RN ?_;try with_reducible exact trivial)
  exact ⟨(a,h,0),⟨hs,Int.le_refl _,.inl rfl⟩,Ref.gc2 [0]⟩
 refine V_W ?_
 simp only [go_sem,↓reduceIte,Nat.reduceEqDiff,Nat.reduceAdd,reduceCtorEq]
 refine V_W ?_
 have hm:=msk24 (shV BinOp.shr IntKind.u64 (IntKind.u64.wrap (IntKind.u64.wrap (h*6364136223846793005)+1442695040888963407)) 33)
 simp only [go_sem,↓reduceIte,Nat.reduceEqDiff,Nat.reduceAdd,reduceCtorEq]
 generalize bitsV BinOp.and IntKind.u64 (shV BinOp.shr IntKind.u64 (IntKind.u64.wrap (IntKind.u64.wrap (h*6364136223846793005)+1442695040888963407)) 33) 16777215=x at *
 generalize IntKind.u64.wrap (IntKind.u64.wrap (h*6364136223846793005)+1442695040888963407)=h' at *
 have fin:∀ y:Int,0≤y→0≤y.tmod n∧(y.tmod n=0∨y.tmod n<n):=fun y hy=>⟨Int.tmod_nonneg _ hy,.inr (Int.tmod_lt_of_pos _ (by omega))⟩
 have hby:=hb.by8 a
 refine RN ?_
 refine ⟨fun hc=>?_,fun hc=>?_⟩
 ·have hy:=hby (by omega)
  refine RN ?_
  refine ⟨(a+1,h', (x+bs.getD a 0).tmod n),⟨by dsimp only;omega,fin _ (by omega)⟩,?_⟩
  exact Ref.gc2 [0]
 ·(refine RN ?_;try with_reducible exact trivial)
  refine ⟨(a,h', x.tmod n),⟨by dsimp only;omega,fin _ (by omega)⟩,?_⟩
  exact Ref.gc2 [0]
def Rng (n:Nat)(p:List Int):Prop:=p.length=n∧∀ k,k<n→0≤p.getD k 0∧p.getD k 0<n
theorem l01Unit_p (n:Nat)(hn:n≤1048576):Pure Tryz.prog 88 [i64 (n:Int)] (.sl 0 1 0 n) [some (intsC ((List.range n).map fun (i:Nat)=>(i:Int)))]:=by
 refine pureRV ok88 rfl ?_;unfold c88
 refine RN ?_
 refine V_loop (α:=Nat) (S:=fun i=>([(0,i64 (n:Int)),(3,.sl 0 1 0 i),(4,i64 (i:Int))],[some (intsC ((List.range i).map fun (i:Nat)=>(i:Int)))])) (C:=fun i=>i≤n) (μ:=fun i=>n - i) 0 (Nat.zero_le _) (Ref.to1) ?_
 intro i hi
 refine RN ?_
 refine ⟨fun hc=>?_,fun hc=>?_⟩
 ·have hst:(List.range (i+1)).map (fun (i:Nat)=>(i:Int))=(List.range i).map (fun (i:Nat)=>(i:Int))++[(i:Int)]:=by simp [List.range_succ]
  have hln:((List.range i).map (fun (i:Nat)=>(i:Int))).length=i:=by simp
  refine RN ?_
  refine ⟨i+1,by omega,by omega,?_⟩
  rw [hst]
  generalize (List.range i).map (fun (i:Nat)=>(i:Int))=X at *
  have tk1:(intsC X).take i=intsC X:=List.take_of_length_le (by rw [len_intsC];omega)
  refine Ref.gc [2] rfl ?_ (by simp [sub,fget,go_sem,↓reduceIte,Nat.reduceEqDiff,Nat.reduceAdd,reduceCtorEq])
  simp only [go_sem,↓reduceIte,Nat.reduceEqDiff,Nat.reduceAdd,reduceCtorEq]
  rw [tk1,rnmL_ints]
  simp [intsC]
 ·obtain rfl:i=n:=by omega
  refine RN ?_
  exact Ref.gc2 [0]
theorem rng_unit (n:Nat):Rng n ((List.range n).map fun (i:Nat)=>(i:Int)):=⟨by simp,fun k hk=>by simp [hk]⟩
theorem rng_set {n:Nat}{p:List Int}(h:Rng n p){k:Nat}{x:Int}(hx:0≤x∧x<n):Rng n (p.set k x):=⟨by simp [h.1],fun j hj=>by
 have hl:=h.1
 have:=h.2 j hj
 by_cases e:k=j
 ·subst e
  simpa [hl,hj] using hx
 ·have:(p.set k x).getD j 0=p.getD j 0:=by simp [List.getElem?_set,e]
  rw [this]
  assumption⟩
theorem l01Draw_w (bs : List Int) (hb : Byt bs) (a : Nat) (h : Int) (hs : a ≤ bs.length) (n : Nat) (hn : n ≤ 1048576) :
    WriE Tryz.prog 80 [.ref 0 0,i64 (n:Int)] [some (srcC bs a h)] (fun o:Nat×Int×List Int=>o.1≤bs.length∧Rng n o.2.2) (fun _=>.sl 1 1 0 n) (fun o=>[some (srcC bs o.1 o.2.1),some (intsC o.2.2)]):=by
 have hu:=l01Unit_p n hn
 have hr:=rng_unit n
 generalize (List.range n).map (fun (i:Nat)=>(i:Int))=p0 at *
 refine wriREV ok80 rfl ?_;unfold c80
 refine RN ?_
 refine pureC1 (hu) ?_
 refine RN ?_
 refine V_loop (α:=Nat×Int×List Int×Int) (S:=fun o=>([(0,.ref 0 0),(1,i64 (n:Int)),(5,.sl 1 1 0 n),(6,i64 o.2.2.2)],[some (srcC bs o.1 o.2.1),some (intsC o.2.2.1)])) (C:=fun o=>o.1≤bs.length∧Rng n o.2.2.1 ∧ -1≤o.2.2.2∧o.2.2.2<n) (μ:=fun o=>(o.2.2.2+1).toNat) (a,h,p0,(n:Int) - 1) ⟨hs,hr,by dsimp only;omega,by dsimp only;omega⟩ (Ref.to1) ?_
 rintro ⟨a,h,p,i⟩ ⟨h1,h2,h3,h4⟩
 dsimp only at h1 h2 h3 h4 ⊢
 have hpl:=h2.1
 refine RN ?_
 refine ⟨fun hc=>?_,fun hc=>?_⟩
 ·obtain ⟨i,rfl⟩:=Int.eq_ofNat_of_zero_le (show 0≤i by omega)
  have hp1:=h2.2 i (by omega)
  refine RN ?_
  refine wriEF (l01Next_w bs hb a h h1 ((i:Int)+1)) [0] (by first | rfl | simp) (by simp only [go_sem,↓reduceIte,Nat.reduceEqDiff,Nat.reduceAdd,reduceCtorEq]<;>rfl) (by simp only [go_sem,↓reduceIte,Nat.reduceEqDiff,Nat.reduceAdd,reduceCtorEq]<;>rfl) fun o ho=>?_
  obtain ⟨a', h', k⟩:=o
  obtain ⟨g1,g2,g3⟩:=ho
  dsimp only at g1 g2 g3
  obtain ⟨k,rfl⟩:=Int.eq_ofNat_of_zero_le g2
  have hk:k<n:=by omega
  have hp2:=h2.2 k hk
  refine RN ?_
  exact ⟨(a', h', (p.set i (p.getD k 0)).set k (p.getD i 0),(i:Int) - 1),⟨g1,rng_set (rng_set h2 hp2) hp1,by dsimp only;omega,by dsimp only;omega⟩,by dsimp only;omega,Ref.to1⟩
 ·(refine RN ?_;try with_reducible exact trivial)
  exact ⟨(a,h,p),⟨h1,h2⟩,Ref.gc2 [0,1]⟩
end
section
open Go.Gov Go.Ce
open Classical
def Rgs (n:Nat)(L:List (List Int)):Prop:=∀ k,k<L.length→Rng n (L.getD k [])
theorem l01From_p (bs:List Int)(hb:Byt bs):PureE Tryz.prog 37 [bytA' bs] (fun _:Int=>True) (fun _=>.ref 0 0) (fun h=>[some (srcC bs 0 h)]):=by
 have hfw:=hb.few
 unfold srcC bytA'
 refine pureREV ok37 rfl ?_;unfold c37
 refine RN ?_
 generalize IntKind.u64.wrap (8191+IntKind.u64.wrap (bs.length:Int))=h0
 refine V_loop (α:=Nat×Int) (S:=fun o=>([(0,.slc 1 bs.length (u8s bs)),(3,.ref 0 0),(4,i64 (o.1:Int))],[some [.slc 1 bs.length (u8s bs),.val (.int .i64 0),.val (.int .u64 o.2)]])) (C:=fun o=>o.1≤bs.length) (μ:=fun o=>bs.length - o.1) (0,h0) (Nat.zero_le _) (Ref.to1) ?_
 rintro ⟨i,h⟩ hi
 dsimp only at hi ⊢
 refine RN ?_
 refine ⟨fun hc=>?_,fun hc=>?_⟩
 ·(refine RN ?_;try with_reducible exact trivial)
  exact ⟨(i+1,_),by dsimp only;omega,by dsimp only;omega,Ref.to1⟩
 ·(refine RN ?_;try with_reducible exact trivial)
  exact ⟨h,Ref.gc2 [0]⟩
theorem Ref.row {n0 : Nat} {F : Gov.Frame} {H : Gov.Heap} (o o2 : Nat) {L : List (List Int)} {x : List Int} {n k : Nat} (ho : H[o]? = some (some ((L.map oints).take k ++ [.sl o2 1 0 n]))) (hk : L.length = k) (h2 : H[o2]? = some (some (intsC x))) (hn : x.length = n) (hne : o ≠ o2) :
    Ref n0 F H F ((H.set o (some ((L++[x]).map oints))).set o2 none):=by
 subst hk hn
 have e:(L.map oints).take L.length=L.map oints:=List.take_of_length_le (by simp)
 rw [e] at ho
 have r:=Ref.close (n0:=n0) (F:=F) o L.length o2 (k:=1) (n:=x.length) ho (by rw [List.getElem?_append_right (by simp)];simp) h2 hne (by simp [len_intsC])
 have hs:(L.map oints++[AV.sl o2 1 0 x.length]).set L.length (.osl 1 x.length (intsC x))=(L++[x]).map oints:=by
  rw [List.set_append_right _ _ (by simp)];simp [oints]
 rw [hs] at r
 exact r
theorem bnd_snoc {m:Nat}{c:Int}{x:List Int}(h:∀ j,j<m→0≤x.getD j 0∧x.getD j 0<c)(hl:x.length=m){v:Int}(hv:0≤v∧v<c):∀ j,j<m+1→0≤(x++[v]).getD j 0∧(x++[v]).getD j 0<c:=fun j hj=>by
 by_cases e:j<m
 ·have:(x++[v]).getD j 0=x.getD j 0:=by simp [List.getElem?_append_left (show j<x.length by omega)]
  rw [this];exact h j e
 ·have:j=x.length:=by omega
  subst this
  simpa using hv
theorem rgs_snoc {n:Nat}{L:List (List Int)}{x:List Int}(h:Rgs n L)(hx:Rng n x):Rgs n (L++[x]):=fun k hk=>by
 by_cases e:k<L.length
 ·have:(L++[x]).getD k []=L.getD k []:=by simp [List.getElem?_append_left e]
  rw [this];exact h k e
 ·have:k=L.length:=by simp at hk;omega
  subst this
  simpa using hx
theorem rng_rep (n:Nat):Rng n (List.replicate n 0):=⟨by simp,fun k hk=>by simp [hk];omega⟩
theorem l02Polygon_p (p:Nat)(hp:1≤p)(hp2:p≤1048576):PureE Tryz.prog 85 [i64 (p:Int)] (fun L:List (List Int)=>L.length=2∧Rgs (2*p) L) (fun _=>.agg [.sl 0 1 0 2]) (fun L=>[some (L.map oints)]):=by
 refine pureREV ok85 rfl ?_;unfold c85
 refine RN ?_
 have hm:(2*(p:Int)).toNat=2*p:=by omega
 refine V_altsS [(2,.ref 0 0),(3,i64 (2*(p:Int))),(4,.sl 1 1 0 (2*p)),(5,.sl 2 1 0 (2*p))] [some [nilS],some (intsC (List.replicate (2*p) 0)),some (intsC (List.replicate (2*p) 0))] ?_ ?_
 ·(repeat' first | simp only [go_sem,↓reduceIte,Nat.reduceEqDiff,Nat.reduceAdd,reduceCtorEq] | with_reducible refine LT_reg ?_ | with_reducible refine LT_regz1 ?_ | with_reducible refine LT_fin ?_ | with_reducible exact LT_tt | with_reducible refine LT_alt ?_ ?_ | (with_reducible refine And.intro ?_ ?_;focus first | assumption | omega | grind))
  all_goals rw [hm]
  ·exact Ref.to1
  ·exact Ref.gc2 [0,2,1]
 refine RN ?_
 refine V_loop (α:=Nat×List Int×List Int) (S:=fun o=>([(2,.ref 0 0),(3,i64 (2*(p:Int))),(4,.sl 1 1 0 (2*p)),(5,.sl 2 1 0 (2*p)),(6,i64 (o.1:Int))],[some [nilS],some (intsC o.2.1),some (intsC o.2.2)])) (C:=fun o=>o.1≤2*p∧Rng (2*p) o.2.1∧Rng (2*p) o.2.2) (μ:=fun o=>2*p - o.1) (0,List.replicate (2*p) 0,List.replicate (2*p) 0) ⟨Nat.zero_le _,rng_rep _,rng_rep _⟩ (Ref.to1) ?_
 rintro ⟨i,x,y⟩ ⟨h1,h2,h3⟩
 dsimp only at h1 h2 h3 ⊢
 have hx:=h2.1
 have hy:=h3.1
 refine RN ?_
 refine ⟨fun hc=>?_,fun hc=>?_⟩
 ·(refine RN ?_;try with_reducible exact trivial)
  have e1:((i:Int)+2*p - 1).tmod (2*p)=if i=0 then 2*(p:Int) - 1 else (i:Int) - 1:=by
   rw [Int.tmod_eq_emod_of_nonneg (by omega)]
   split
   ·subst i;rw [Int.emod_eq_of_lt (by omega) (by omega)];omega
   ·rw [show (i:Int)+2*p - 1=(i - 1)+(2*p)*1 by omega,Int.add_mul_emod_self_left,Int.emod_eq_of_lt (by omega) (by omega)]
  have e2:0≤((i:Int)+1).tmod (2*p)∧((i:Int)+1).tmod (2*p)<2*p:=⟨Int.tmod_nonneg _ (by omega),Int.tmod_lt_of_pos _ (by omega)⟩
  have e3:(i:Int).tmod 2=(i:Int)%2:=Int.tmod_eq_emod_of_nonneg (by omega)
  refine ⟨fun hc2=>?_,fun hc2=>?_⟩
  ·(refine RN ?_;try with_reducible exact trivial)
   refine ⟨(i+1,_,_),⟨by dsimp only;omega,rng_set h2 (k:=i) (x:=(i:Int)+1) (by omega),rng_set h3 (k:=i) (x:=((i:Int)+2*p - 1).tmod (2*p)) (by rw [e1];split<;>omega)⟩,by dsimp only;omega,Ref.to1⟩
  ·(refine RN ?_;try with_reducible exact trivial)
   refine ⟨(i+1,_,_),⟨by dsimp only;omega,rng_set h2 (k:=i) (x:=(i:Int) - 1) (by omega),rng_set h3 (k:=i) (x:=((i:Int)+1).tmod (2*p)) (by omega)⟩,by dsimp only;omega,Ref.to1⟩
 ·(refine RN ?_;try with_reducible exact trivial)
  refine ⟨[x,y],⟨rfl,fun k hk=>?_⟩,?_⟩
  ·match k,hk with
   | 0,_=>exact h2
   | 1,_=>exact h3
  refine (Ref.close 3 0 1 (k:=1) (n:=2*p) (cs2:=intsC x) rfl rfl rfl (by decide) (by simp [len_intsC,hx])).trans ((Ref.close 3 1 2 (k:=1) (n:=2*p) (cs2:=intsC y) rfl rfl rfl (by decide) (by simp [len_intsC,hy])).trans ?_)
  exact Ref.gc [3] rfl (by simp only [go_sem,↓reduceIte,Nat.reduceEqDiff,Nat.reduceAdd,reduceCtorEq];simp [oints,hx,hy,go_sem,↓reduceIte,Nat.reduceEqDiff,Nat.reduceAdd,reduceCtorEq]) (by simp [sub,fget,go_sem,↓reduceIte,Nat.reduceEqDiff,Nat.reduceAdd,reduceCtorEq])
theorem l02Renumber_c (n:Nat)(hn:n≤1048576)(M:List (List Int))(hM:Rgs n M)(hl:M.length≤1048576)(p:List Int)(hp:Rng n p):PureE Tryz.prog 79 [maniA M,ints p] (fun L:List (List Int)=>L.length=M.length∧Rgs n L) (fun L=>.agg [.sl 0 1 0 L.length]) (fun L=>[some (L.map oints)]):=by
 have hpl:=hp.1
 refine pureREV ok79 rfl ?_;unfold c79
 refine RN ?_
 refine V_loop (α:=Nat×List (List Int)) (S:=fun o=>([(1,ints p),(2,.ref 0 0),(4,.ref 1 0),(5,.ref 2 0),(6,i64 (o.1:Int))],[some [mat M],some [nilS],some [.sl 3 1 0 o.1],some (o.2.map oints)])) (C:=fun o=>o.1≤M.length∧o.2.length=o.1∧Rgs n o.2) (μ:=fun o=>M.length - o.1) (0,[]) ⟨Nat.zero_le _,rfl,fun k hk=>absurd hk (by simp)⟩ ((Ref.nilC 2 0 1 rfl rfl).trans (Ref.to1)) ?_
 rintro ⟨k,L⟩ ⟨h1,h2,h3⟩
 dsimp only at h1 h2 h3 ⊢
 refine RN ?_
 refine ⟨fun hc=>?_,fun hc=>?_⟩
 ·have hrow:=hM k (by omega)
  have hrl:=hrow.1
  generalize hA:M.getD k []=A at *
  refine RN ?_
  rw [hpl]
  refine V_loop (α:=Nat×List Int) (S:=fun o=>([(1,ints p),(2,.ref 0 0),(4,.ref 1 0),(5,.ref 2 0),(6,i64 (k:Int)),(7,.sl 4 1 0 n),(8,i64 (o.1:Int))],[some [mat M],some [nilS],some [.sl 3 1 0 k],some (L.map oints),some (intsC o.2)])) (C:=fun o=>o.1≤n∧Rng n o.2) (μ:=fun o=>n - o.1) (0,List.replicate n 0) ⟨Nat.zero_le _,rng_rep n⟩ (Ref.to1) ?_
  rintro ⟨f,x⟩ ⟨g1,g2⟩
  dsimp only at g1 g2 ⊢
  have hx:=g2.1
  refine RN ?_
  refine ⟨fun hc2=>?_,fun hc2=>?_⟩
  ·have q1:=hp.2 f (by omega)
   have q2:=hrow.2 f (by omega)
   obtain ⟨y,hy⟩:=Int.eq_ofNat_of_zero_le q2.1
   have q3:=hp.2 y (by omega)
   refine RN ?_
   exact ⟨(f+1,_),⟨by dsimp only;omega,rng_set g2 (k:=(p.getD f 0).toNat) (x:=p.getD ((M.getD k []).getD f 0).toNat 0) (hp.2 _ (by rw [hA];omega))⟩,by dsimp only;omega,Ref.to1⟩
  ·(refine RN ?_;try with_reducible exact trivial)
   refine ⟨(k+1,L++[x]),⟨by dsimp only;omega,by simp [h2],rgs_snoc h3 g2⟩,by dsimp only;omega,?_⟩
   refine (Ref.row 6 4 (L:=L) rfl h2 rfl hx (by decide)).trans ?_
   exact Ref.gc1 [0,1,2,6]
 ·(refine RN ?_;try with_reducible exact trivial)
  exact ⟨L,⟨by omega,h3⟩,Ref.gc [3] rfl (by simp only [go_sem,↓reduceIte,Nat.reduceEqDiff,Nat.reduceAdd,reduceCtorEq]) (by simp [sub,fget,go_sem,↓reduceIte,Nat.reduceEqDiff,Nat.reduceAdd,reduceCtorEq,h2])⟩
theorem l02Beside_c (a b : Nat) (ha : 1 ≤ a) (hb : 1 ≤ b) (hab : a * b ≤ 1048576) (M K : List (List Int)) (hM : Rgs a M) (hK : Rgs b K) (hl : 1 ≤ M.length ∧ M.length ≤ 1024) (hl2 : 1 ≤ K.length ∧ K.length ≤ 1024) :
    PureE Tryz.prog 86 [maniA M,maniA K] (fun L:List (List Int)=>L.length=M.length+K.length∧Rgs (a*b) L) (fun L=>.agg [.sl 0 1 0 L.length]) (fun L=>[some (L.map oints)]):=by
 have ha2:a≤1048576:=Nat.le_trans (Nat.le_mul_of_pos_right a hb) hab
 have hb2:b≤1048576:=Nat.le_trans (Nat.le_mul_of_pos_left b ha) hab
 have hf1:=l02Flags_c M hl.1 (by omega) (by rw [(hM 0 (by omega)).1];exact ha2)
 have hf2:=l02Flags_c K hl2.1 (by omega) (by rw [(hK 0 (by omega)).1];exact hb2)
 rw [(hM 0 (by omega)).1] at hf1
 rw [(hK 0 (by omega)).1] at hf2
 refine pureREV ok86 rfl ?_;unfold c86
 refine RN ?_
 refine pureC1 (hf1) ?_
 refine RN ?_
 refine pureC1 (hf2) ?_
 refine RN ?_
 refine V_loop (α:=Nat×List (List Int)) (S:=fun o=>([(2,.ref 0 0),(3,.ref 1 0),(4,.ref 2 0),(5,i64 (a:Int)),(6,i64 (b:Int)),(7,.ref 3 0),(8,i64 (o.1:Int))],[some [mat M],some [mat K],some [nilS],some [.sl 4 1 0 o.1],some (o.2.map oints)])) (C:=fun o=>o.1≤M.length+K.length∧o.2.length=o.1∧Rgs (a*b) o.2) (μ:=fun o=>M.length+K.length - o.1) (0,[]) ⟨Nat.zero_le _,rfl,fun k hk=>absurd hk (by simp)⟩ ((Ref.nilC 3 0 1 rfl rfl).trans (Ref.to1)) ?_
 rintro ⟨i,L⟩ ⟨h1,h2,h3⟩
 dsimp only at h1 h2 h3 ⊢
 refine RN ?_
 refine ⟨fun hc=>?_,fun hc=>?_⟩
 ·(refine RN ?_;try with_reducible exact trivial)
  refine V_loop (α:=Nat×List Int) (S:=fun o=>([(2,.ref 0 0),(3,.ref 1 0),(4,.ref 2 0),(5,i64 (a:Int)),(6,i64 (b:Int)),(7,.ref 3 0),(8,i64 (i:Int)),(9,.sl 5 1 0 o.1),(10,i64 (o.1:Int))],[some [mat M],some [mat K],some [nilS],some [.sl 4 1 0 i],some (L.map oints),some (intsC o.2)])) (C:=fun o=>o.1≤a*b∧o.2.length=o.1∧∀ j,j<o.1→0≤o.2.getD j 0∧o.2.getD j 0<(a*b:Nat)) (μ:=fun o=>a*b - o.1) (0,[]) ⟨Nat.zero_le _,rfl,fun j hj=>absurd hj (by simp)⟩ (Ref.to1) ?_
  rintro ⟨f,x⟩ ⟨g1,g2,g3⟩
  dsimp only at g1 g2 g3 ⊢
  have hab1:(a:Int)*b=(a*b:Nat):=by simp
  refine RN ?_
  refine ⟨fun hc2=>?_,fun hc2=>?_⟩
  ·have hfb:f<a*b:=by rw [hab1] at hc2;omega
   have e1:(f:Int).tdiv b=((f / b:Nat):Int):=by rw [Int.tdiv_eq_ediv_of_nonneg (by omega)];rfl
   have e2:(f:Int).tmod b=((f%b:Nat):Int):=by rw [Int.tmod_eq_emod_of_nonneg (by omega)];rfl
   have q1:f / b<a:=(Nat.div_lt_iff_lt_mul hb).2 hfb
   have q2:f%b<b:=Nat.mod_lt _ hb
   have q3:(f / b)*b≤f:=Nat.div_mul_le_self f b
   generalize f / b=u at *
   generalize f%b=v at *
   refine RN ?_
   refine ⟨fun hc3=>?_,fun hc3=>?_⟩
   ·have hr:=hM i (by omega)
    have hr1:=hr.1
    have hr2:=hr.2 u q1
    obtain ⟨y,hy⟩:=Int.eq_ofNat_of_zero_le hr2.1
    have hyb:(y+1)*b≤a*b:=Nat.mul_le_mul_right b (by omega)
    have hyc:(y:Int)*b=(y*b:Nat):=by simp
    rw [Nat.add_mul,Nat.one_mul] at hyb
    simp only [go_sem,↓reduceIte,Nat.reduceEqDiff,Nat.reduceAdd,reduceCtorEq,e1,e2,Int.toNat_natCast,hy,hyc]
    refine RN ?_
    refine ⟨(f+1,x++[((y*b:Nat):Int)+v]),⟨by dsimp only;omega,by simp [g2],bnd_snoc g3 g2 (by omega)⟩,by dsimp only;omega,?_⟩
    have tk1:(intsC x).take f=intsC x:=List.take_of_length_le (by rw [len_intsC];omega)
    refine Ref.gc [0,1,2,3,4,7] rfl ?_ (by simp [sub,fget,go_sem,↓reduceIte,Nat.reduceEqDiff,Nat.reduceAdd,reduceCtorEq])
    simp only [go_sem,↓reduceIte,Nat.reduceEqDiff,Nat.reduceAdd,reduceCtorEq]
    rw [tk1,rnmL_ints]
    simp [intsC]
   ·have hr:=hK (i - M.length) (by omega)
    have hr1:=hr.1
    have hr2:=hr.2 v q2
    have hub:(u+1)*b≤a*b:=Nat.mul_le_mul_right b (by omega)
    have huc:(u:Int)*b=(u*b:Nat):=by simp
    have hi:((i:Int) - M.length).toNat=i - M.length:=by omega
    rw [Nat.add_mul,Nat.one_mul] at hub
    simp only [go_sem,↓reduceIte,Nat.reduceEqDiff,Nat.reduceAdd,reduceCtorEq,e1,e2,Int.toNat_natCast,huc,hi]
    refine RN ?_
    refine ⟨(f+1,x++[((u*b:Nat):Int)+(K.getD (i - M.length) []).getD v 0]),⟨by dsimp only;omega,by simp [g2],bnd_snoc g3 g2 (by omega)⟩,by dsimp only;omega,?_⟩
    have tk1:(intsC x).take f=intsC x:=List.take_of_length_le (by rw [len_intsC];omega)
    refine Ref.gc [0,1,2,3,4,7] rfl ?_ (by simp [sub,fget,go_sem,↓reduceIte,Nat.reduceEqDiff,Nat.reduceAdd,reduceCtorEq])
    simp only [go_sem,↓reduceIte,Nat.reduceEqDiff,Nat.reduceAdd,reduceCtorEq]
    rw [tk1,rnmL_ints]
    simp [intsC]
  ·have hfb:f=a*b:=by rw [hab1] at hc2;omega
   refine RN ?_
   refine ⟨(i+1,L++[x]),⟨by dsimp only;omega,by simp [h2],rgs_snoc h3 ⟨by omega,fun j hj=>g3 j (by omega)⟩⟩,by dsimp only;omega,?_⟩
   refine (Ref.row 7 5 (L:=L) rfl h2 rfl g2 (by decide)).trans ?_
   exact Ref.gc1 [0,1,2,3,7]
 ·(refine RN ?_;try with_reducible exact trivial)
  exact ⟨L,⟨by omega,h3⟩,Ref.gc [4] rfl (by simp only [go_sem,↓reduceIte,Nat.reduceEqDiff,Nat.reduceAdd,reduceCtorEq]) (by simp [sub,fget,go_sem,↓reduceIte,Nat.reduceEqDiff,Nat.reduceAdd,reduceCtorEq,h2])⟩
end
end Go.Proofs.YtaekhhaaphgndaaGreat
namespace Go.Gov
variable {P:Program} {N:Nat} {F:Frame} {H:Heap} {M:List Nat} {n0:Nat}
theorem V_altsD {α:Type}(C:α→Prop)(F1:α→Frame)(H1:α→Heap){t:GT}{y:ACode}{Q:Exit→Frame→Heap→Prop}(hE:LT P false t (fun F' H' => ∃ o,C o∧Ref n0 F' H' (F1 o) (H1 o)) F H)(hy:∀ o,C o→W P M N n0 y Q (F1 o) (H1 o)):V P M N n0 (.alts t) (thenA (W P M N n0 y Q) Q) F H:=
 W_alts (EvT_mono (fun F' H' ⟨o,ho,h⟩=>W_ref h (hy o ho)) t false F H hE)
theorem map_vwC_src (ks:List Nat)(H:Heap)(bs:List Int)(a:Nat)(h:Int):(srcC bs a h).map (vwC ks H)=srcC bs a h:=by simp [srcC,bytA', vwC,rnm,rnmL_u8s]
theorem map_vwC_ints (ks:List Nat)(H:Heap)(xs:List Int):(intsC xs).map (vwC ks H)=intsC xs:=by simp [intsC,vwC,rnm]
attribute [go_sem] map_vwC_src map_vwC_ints
theorem xor_small {f k e:Nat}(hf:f<4*e)(he:e≤1048576)(hk:k<4):0≤bitsV .xor .i64 (f:Int) (k:Int)∧bitsV .xor .i64 (f:Int) (k:Int)<(4*e:Nat):=by
 have h2:(f ^^^ k) / 4=f / 4:=by
  have h:=Nat.xor_div_two_pow (a:=f) (b:=k) (n:=2)
  rw [show (2:Nat)^2=4 from rfl,Nat.div_eq_of_lt hk,Nat.xor_zero] at h
  exact h
 have h1:(BitVec.ofInt 64 (f:Int) ^^^ BitVec.ofInt 64 (k:Int)).toNat=f ^^^ k:=by
  rw [BitVec.toNat_xor]
  congr 1
  ·simp [BitVec.toNat_ofInt];omega
  ·simp [BitVec.toNat_ofInt];omega
 have h3:bitsV .xor .i64 (f:Int) (k:Int)=((f ^^^ k:Nat):Int):=by
  show IntKind.i64.wrap _=_
  rw [show IntKind.i64.bits=64 from rfl,h1]
  generalize f ^^^ k=y at *
  show (if (true&&decide ((y:Int)%2^64 ≥ 2^63))=true then (y:Int)%2^64 - 2^64 else (y:Int)%2^64)=(y:Int)
  rw [if_neg (by simp;omega)]
  omega
 rw [h3]
 omega
end Go.Gov
namespace Go.Proofs.YtaekhhaaphgndaaGreat
open Go.Gov Go.Ce
open Classical
theorem l01Orbit_r (n:Nat)(L:List (List Int))(pt:Nat)(hL:∀ p∈L,Rng n p)(hL1:1≤L.length)(hp:pt<n)(hn:n≤1048576)(hl:L.length≤1048576):PureE Tryz.prog 61 [mat L,i64 pt] (fun V:List Nat=>V.Nodup∧pt∈V∧∀ j,j∈V→j<n) (fun V=>.sl 0 1 0 V.length) (fun V=>[some (intsC (nz V))]):=by
 refine pureEV [0] ok61 rfl ?_;unfold c61
 refine RN ?_
 have hI0:OrbI L n pt [pt] [pt] none:=⟨by simp,by simp,fun y hy=>by simp at hy;subst hy;exact ⟨hp,.refl⟩,fun y hy=>hy,fun y hy hno=>absurd hy hno,fun q hq=>(by cases hq),by simp⟩
 refine ⟨fun hcl=>?_,fun hcl=>absurd hcl (by omega)⟩
 ·have hl0:(L.getD 0 []).length=n:=(hL _ (row_mem (k:=0) (by omega))).1
  have hLne:L≠[]:=by intro h;subst h;simp at hcl
  have hm:(((n:Nat):Int)+(pt:Int)+1).toNat=n+pt+1:=by omega
  ·(refine RN ?_;try with_reducible exact trivial)
   simp only [hl0,hm,go_sem,↓reduceIte,Nat.reduceEqDiff,Nat.reduceAdd,reduceCtorEq]
   refine RN ?_
   rw [seenV_nil,seenV_set]
   simp only [List.nil_append]
   refine V_loop (α:=Nat×List Nat) (S:=fun p=>([(0,mat L),(5,.sl 0 1 0 p.2.length),(7,.sl 1 1 0 (n+pt+1)),(8,i64 p.1)],[some (intsC (nz p.2)),some (boolsC (seenV (n+pt+1) p.2))])) (C:=fun p=>p.1≤p.2.length∧OrbI L n pt p.2 (p.2.drop p.1) none∧(L=[]→p.2=[pt])) (μ:=fun p=>n+1 - p.1) (0,[pt]) ⟨Nat.zero_le _,hI0,fun _=>rfl⟩ (Ref.to (by simp [nz,intsC]) (by simp [sub,fget])) ?_
   rintro ⟨q,V⟩ ⟨hq,hI,hLe⟩
   dsimp only at hq hI hLe
   have hnzl:=nz_len V
   have hVn:=nodup_len hI.nd fun y hy=>(hI.reach y hy).1
   refine RN ?_
   refine ⟨fun hc2=>?_,fun hc2=>?_⟩
   ·have hq' : q<V.length:=by omega
    have hdr:V.drop q=V[q] :: V.drop (q+1):=List.drop_eq_getElem_cons hq'
    rw [hdr] at hI
    have hpop:=hI.popH
    have hxV:V[q]∈V:=List.getElem_mem _
    obtain ⟨hxn,hxr⟩:=hI.reach _ hxV
    generalize hx:V[q]=x at hpop hxV hxn hxr
    have hxat:∀ W:List Nat,(nz (V++W)).getD q 0=(x:Int):=fun W=>by simp [nz,hq', List.getElem?_append_left,hx]
    refine RN ?_
    refine V_loop (α:=Nat×List Nat) (S:=fun p=>([(0,mat L),(5,.sl 0 1 0 (V++p.2).length),(7,.sl 1 1 0 (n+pt+1)),(8,i64 q),(9,i64 p.1)],[some (intsC (nz (V++p.2))),some (boolsC (seenV (n+pt+1) (V++p.2)))])) (C:=fun p=>p.1≤L.length∧OrbI L n pt (V++p.2) (V.drop (q+1)++p.2) (some (x,p.1))∧(L=[]→p.2=[])) (μ:=fun p=>L.length - p.1) (0,[]) ⟨Nat.zero_le _,by simpa using hpop,fun _=>rfl⟩ (Ref.to (by simp) (by simp [sub,fget])) ?_
    rintro ⟨k,W⟩ ⟨hk,hI2,hLe2⟩
    dsimp only at hk hI2 hLe2
    have hnzl2:=nz_len (V++W)
    have hat1:=hxat W
    have hVn2:=nodup_len hI2.nd fun y hy=>(hI2.reach y hy).1
    have hsl:=seenV_len (n+pt+1) (V++W)
    have hVW:(V++W).length=V.length+W.length:=List.length_append
    refine RN ?_
    refine ⟨fun hc3=>?_,fun hc3=>?_⟩
    ·have hrm:=row_mem (L:=L) (k:=k) (by omega)
     obtain ⟨hrl,hrb⟩:=hL _ hrm
     obtain ⟨y1,y2⟩:=hrb x hxn
     have hyr:=hxr.step hrm
     have hym:((L.getD k []).getD x 0).toNat<n+pt+1:=by omega
     have hat3:=seenV_at (m:=n+pt+1) (V:=V++W) hym
     generalize hZ:V++W=Z at hnzl2 hat1 hVn2 hsl hI2 hat3 hVW ⊢
     have hxi:(((x:Nat):Int)).toNat=x:=by omega
     refine RN ?_
     simp only [hat1,hxi,go_sem,↓reduceIte,Nat.reduceEqDiff,Nat.reduceAdd,reduceCtorEq]
     refine RN ?_
     refine ⟨fun hc4=>?_,fun hc4=>?_⟩
     ·have hno : ((L.getD k []).getD x 0).toNat ∉ Z := by
        intro hm'
        rw [hat3,decide_eq_true hm'] at hc4
        cases hc4
      have hadd:=hI2.add hno (by omega) hyr
      have hst:=seenV_set (m:=n+pt+1) (V:=Z) (x:=((L.getD k []).getD x 0).toNat)
      have hy3:((((L.getD k []).getD x 0).toNat:Nat):Int)=(L.getD k []).getD x 0:=by omega
      refine RN ?_
      refine ⟨(k+1,W++[((L.getD k []).getD x 0).toNat]),⟨by dsimp only;omega,?_,fun h=>absurd h (by intro h;subst h;simp at hc3;omega)⟩,by dsimp only;omega,?_⟩
      ·dsimp only
       rw [← List.append_assoc,← List.append_assoc,hZ]
       exact hadd
      ·dsimp only
       rw [← List.append_assoc,hZ,← hst,nz_snoc,hy3]
       refine Ref.gc [3,1] rfl ?_ (by simp [sub,fget,go_sem,↓reduceIte,Nat.reduceEqDiff,Nat.reduceAdd,reduceCtorEq,Nat.add_assoc])
       have hVW' : V.length+W.length=(nz Z).length:=by omega
       (try simp only [go_sem,↓reduceIte,Nat.reduceEqDiff,Nat.reduceAdd,reduceCtorEq,hVW', take_lenI,one_intsC,app_intsC])
     ·have hin : ((L.getD k []).getD x 0).toNat ∈ Z := by
        rcases Classical.em (((L.getD k []).getD x 0).toNat∈Z) with h | h
        ·exact h
        ·rw [hat3,decide_eq_false h] at hc4;cases hc4
      refine RN ?_
      refine ⟨(k+1,W),⟨by dsimp only;omega,?_,hLe2⟩,by dsimp only;omega,?_⟩
      ·dsimp only
       rw [hZ]
       exact hI2.skip hin
      ·dsimp only
       rw [hZ]
       exact Ref.frame (by simp [sub,fget])
    ·obtain rfl:k=L.length:=by omega
     refine RN ?_
     refine ⟨(q+1,V++W),⟨by dsimp only;omega,?_,fun h=>by rw [hLe h,hLe2 h];rfl⟩,by dsimp only;omega,by exact Ref.frame (by simp [sub,fget])⟩
     dsimp only
     rw [List.drop_append_of_le_length (by omega)]
     exact hI2.fin
   ·obtain rfl:q=V.length:=by omega
    rw [List.drop_length] at hI
    refine RN ?_
    refine ⟨V,⟨hI.nd,hI.start,fun j h=>(hI.reach j h).1⟩,?_,?_⟩
    ·simp only [go_sem,↓reduceIte,Nat.reduceEqDiff,Nat.reduceAdd,reduceCtorEq]
    ·simp only [go_sem,↓reduceIte,Nat.reduceEqDiff,Nat.reduceAdd,reduceCtorEq]
theorem bnd_set {m:Nat}{c:Int}{x:List Int}(h:∀ j,j<m→0≤x.getD j 0∧x.getD j 0<c)(hl:x.length=m){k:Nat}{v:Int}(hv:0≤v∧v<c):∀ j,j<m→0≤(x.set k v).getD j 0∧(x.set k v).getD j 0<c:=fun j hj=>by
 by_cases e:k=j
 ·subst e
  have:(x.set k v).getD k 0=v:=by simp [hl,hj]
  rw [this];exact hv
 ·have:(x.set k v).getD j 0=x.getD j 0:=by simp [List.getElem?_set,e]
  rw [this];exact h j hj
theorem l01Matching_w (bs : List Int) (hb : Byt bs) (a : Nat) (h : Int) (hs : a ≤ bs.length) (n : Nat) (hn : n ≤ 1048576) :
    WriE Tryz.prog 72 [.ref 0 0,i64 (n:Int)] [some (srcC bs a h)] (fun o:Nat×Int×List Int=>o.1≤bs.length∧Rng n o.2.2) (fun _=>.sl 1 1 0 n) (fun o=>[some (srcC bs o.1 o.2.1),some (intsC o.2.2)]):=by
 have hd:=l01Draw_w bs hb a h hs n hn
 refine wriREV ok72 rfl ?_;unfold c72
 refine RN ?_
 refine V_altsD (fun o:Nat×Int×List Int=>o.1≤bs.length∧Rng n o.2.2) (fun o=>[(0,.ref 0 0),(1,i64 (n:Int)),(5,.sl 1 1 0 n),(6,.sl 2 1 0 n)]) (fun o=>[some (srcC bs o.1 o.2.1),some (intsC o.2.2),some (intsC (List.replicate n 0))]) ?_ ?_
 ·repeat' first
    | simp only [go_sem,↓reduceIte,Nat.reduceEqDiff,Nat.reduceAdd,reduceCtorEq]
    | with_reducible refine LT_reg ?_
    | with_reducible refine LT_fin ?_
    | with_reducible exact LT_tt
    | with_reducible refine LT_alt ?_ ?_
    | (with_reducible refine And.intro ?_ ?_;focus first | assumption | omega | grind)
    | refine wriEF (hd) [0] (by first | rfl | simp) (by simp only [go_sem,↓reduceIte,Nat.reduceEqDiff,Nat.reduceAdd,reduceCtorEq]<;>rfl) (by simp only [go_sem,↓reduceIte,Nat.reduceEqDiff,Nat.reduceAdd,reduceCtorEq]<;>rfl) fun o ho=>?_
  all_goals refine ⟨o,ho,?_⟩
  ·exact Ref.to1
  ·exact Ref.gc2 [0,2,1]
 rintro ⟨a,h,p⟩ ⟨h1,h2⟩
 dsimp only at h1 h2 ⊢
 have hpl:=h2.1
 refine RN ?_
 refine V_loop (α:=Nat×List Int) (S:=fun o=>([(0,.ref 0 0),(1,i64 (n:Int)),(5,.sl 1 1 0 n),(6,.sl 2 1 0 n),(7,i64 (o.1:Int))],[some (srcC bs a h),some (intsC p),some (intsC o.2)])) (C:=fun o=>o.1≤n+1∧Rng n o.2) (μ:=fun o=>n+1 - o.1) (0,List.replicate n 0) ⟨Nat.zero_le _,rng_rep n⟩ (Ref.to1) ?_
 rintro ⟨i,x⟩ ⟨g1,g2⟩
 dsimp only at g1 g2 ⊢
 have hx:=g2.1
 refine RN ?_
 refine ⟨fun hc=>?_,fun hc=>?_⟩
 ·have q1:=h2.2 i (by omega)
  have q2:=h2.2 (i+1) (by omega)
  have e1:((i:Int)+1).toNat=i+1:=by omega
  refine RN ?_
  exact ⟨(i+2,_),⟨by dsimp only;omega,rng_set (rng_set g2 (k:=(p.getD i 0).toNat) q2) (k:=(p.getD (i+1) 0).toNat) q1⟩,by dsimp only;omega,Ref.to1⟩
 ·(refine RN ?_;try with_reducible exact trivial)
  exact ⟨(a,h,x),⟨h1,g2⟩,Ref.gc1 [0,2]⟩
theorem l02Map_w (bs : List Int) (hb : Byt bs) (a : Nat) (h : Int) (hs : a ≤ bs.length) (e : Nat) (he1 : 1 ≤ e) (he : e ≤ 100000) :
    WriE Tryz.prog 87 [.ref 0 0,i64 (e:Int)] [some (srcC bs a h)] (fun o:Nat×Int×Nat×List (List Int)=>o.1≤bs.length∧1≤o.2.2.1∧o.2.2.1≤4*e∧o.2.2.2.length=3∧Rgs o.2.2.1 o.2.2.2) (fun _=>.agg [.sl 1 1 0 3]) (fun o=>[some (srcC bs o.1 o.2.1),some (o.2.2.2.map oints)]):=by
 have hd:=l01Matching_w bs hb a h hs (4*e) (by omega)
 refine wriREV ok87 rfl ?_;unfold c87
 refine RN ?_
 refine wriEF (hd) [0] (by first | rfl | simp) (by simp only [go_sem,↓reduceIte,Nat.reduceEqDiff,Nat.reduceAdd,reduceCtorEq]<;>rfl) (by simp only [go_sem,↓reduceIte,Nat.reduceEqDiff,Nat.reduceAdd,reduceCtorEq]<;>rfl) fun o ho=>?_
 obtain ⟨a', h', w⟩:=o
 obtain ⟨h1,h2⟩:=ho
 dsimp only at h1 h2
 have hwl:=h2.1
 refine RN ?_
 refine V_loop (α:=Nat×List Int×List Int) (S:=fun o=>([(0,.ref 0 0),(4,.ref 1 0),(5,i64 (4*(e:Int))),(6,.sl 2 1 0 o.1),(7,.sl 3 1 0 o.1),(8,.sl 4 1 0 (4*e)),(9,i64 (o.1:Int))],[some (srcC bs a' h'),some [nilS],some (intsC o.2.1),some (intsC o.2.2),some (intsC w)])) (C:=fun o=>o.1≤4*e∧o.2.1.length=o.1∧o.2.2.length=o.1∧(∀ j,j<o.1→0≤o.2.1.getD j 0∧o.2.1.getD j 0<(4*e:Nat))∧(∀ j,j<o.1→0≤o.2.2.getD j 0∧o.2.2.getD j 0<(4*e:Nat))) (μ:=fun o=>4*e - o.1) (0,[],[]) ⟨Nat.zero_le _,rfl,rfl,fun j hj=>absurd hj (by simp),fun j hj=>absurd hj (by simp)⟩ (Ref.to1) ?_
 rintro ⟨f,z,t⟩ ⟨g1,g2,g3,g4,g5⟩
 dsimp only at g1 g2 g3 g4 g5 ⊢
 refine RN ?_
 refine ⟨fun hc=>?_,fun hc=>?_⟩
 ·have x1:=xor_small (f:=f) (k:=1) (e:=e) (by omega) (by omega) (by decide)
  have x2:=xor_small (f:=f) (k:=2) (e:=e) (by omega) (by omega) (by decide)
  simp only [Int.cast_ofNat_Int] at x1 x2
  refine RN ?_
  refine ⟨(f+1,z++[_],t++[_]),⟨by dsimp only;omega,by simp [g2],by simp [g3],bnd_snoc g4 g2 x1,bnd_snoc g5 g3 x2⟩,by dsimp only;omega,?_⟩
  have tk1:(intsC z).take f=intsC z:=List.take_of_length_le (by rw [len_intsC];omega)
  have tk2:(intsC t).take f=intsC t:=List.take_of_length_le (by rw [len_intsC];omega)
  refine Ref.gc [0,1,6,8,4] rfl ?_ (by simp [sub,fget,go_sem,↓reduceIte,Nat.reduceEqDiff,Nat.reduceAdd,reduceCtorEq])
  simp only [go_sem,↓reduceIte,Nat.reduceEqDiff,Nat.reduceAdd,reduceCtorEq]
  rw [tk1,tk2,rnmL_ints,rnmL_ints]
  simp [intsC]
 ·obtain rfl:f=4*e:=by omega
  have rz:Rng (4*e) z:=⟨g2,g4⟩
  have rt:Rng (4*e) t:=⟨g3,g5⟩
  have tk1:(intsC z).take (4*e)=intsC z:=List.take_of_length_le (by rw [len_intsC];omega)
  have tk2:(intsC t).take (4*e)=intsC t:=List.take_of_length_le (by rw [len_intsC];omega)
  have tk3:(intsC w).take (4*e)=intsC w:=List.take_of_length_le (by rw [len_intsC];omega)
  have hM:mat [z,w,t] = .slc 1 3 [.slc 1 (4*e) (intsC z),.slc 1 (4*e) (intsC w),.slc 1 (4*e) (intsC t)]:=by simp [mat,ints,intsC,g2,g3,hwl]
  have hRs:∀ k,k<3→Rng (4*e) ([z,w,t].getD k []):=fun k hk=>by
   match k,hk with
   | 0,_=>exact rz
   | 1,_=>exact h2
   | 2,_=>exact rt
  have hor:=l01Orbit_r (4*e) [z,w,t] 0 (by intro p hp;simp at hp;rcases hp with rfl | rfl | rfl<;>assumption) (by simp) (by omega) (by omega) (by simp)
  have hMl:[z,w,t].length=3:=rfl
  generalize [z,w,t]=Mv at hM hRs hor hMl
  have hc4:(4*(e:Int)).toNat=4*e:=by omega
  refine RN ?_
  refine pureEC hor (by simp only [go_sem,↓reduceIte,Nat.reduceEqDiff,Nat.reduceAdd,reduceCtorEq,tk1,tk2,tk3,hM]<;>rfl) (by simp only [go_sem,↓reduceIte,Nat.reduceEqDiff,Nat.reduceAdd,reduceCtorEq]<;>rfl) fun V hV=>?_
  obtain ⟨v1,v2,v3⟩:=hV
  have hVn:=nodup_len v1 v3
  have hV1:1≤V.length:=List.length_pos_of_mem v2
  have hzl:=nz_len V
  have hat:∀ i,i<V.length→(nz V).getD i 0=(V.getD i 0:Nat)∧V.getD i 0<4*e:=fun i hi=>by
   refine ⟨by simp [nz,hi],?_⟩
   have:V.getD i 0∈V:=by simp [hi]
   exact v3 _ this
  generalize nz V=O at *
  generalize V.length=n at *
  simp only [go_sem,↓reduceIte,Nat.reduceEqDiff,Nat.reduceAdd,reduceCtorEq]
  refine W_ref (Ref.sel [0,1,6] (F' := [(0,.ref 0 0),(4,.ref 1 0),(5,i64 (4*(e:Int))),(10,mat Mv),(11,.sl 2 1 0 n)]) (H' := [some (srcC bs a' h'),some [nilS],some (intsC O)]) rfl ?_ ?_) ?_
  ·simp only [go_sem,↓reduceIte,Nat.reduceEqDiff,Nat.reduceAdd,reduceCtorEq]
  ·simp only [sub,List.all_cons,List.all_nil,go_sem,↓reduceIte,Nat.reduceEqDiff,Nat.reduceAdd,reduceCtorEq]
   rw [tk1,tk2,tk3,map_frz_ints,map_frz_ints,map_frz_ints,← hM]
  refine RN ?_
  rw [hc4]
  refine V_loop (α:=Nat×List Int) (S:=fun o=>([(0,.ref 0 0),(4,.ref 1 0),(10,mat Mv),(11,.sl 2 1 0 n),(12,.sl 3 1 0 (4*e)),(13,i64 (o.1:Int))],[some (srcC bs a' h'),some [nilS],some (intsC O),some (intsC o.2)])) (C:=fun o=>o.1≤n∧o.2.length=4*e∧∀ j,j<4*e→0≤o.2.getD j 0∧o.2.getD j 0<n) (μ:=fun o=>n - o.1) (0,List.replicate (4*e) 0) ⟨Nat.zero_le _,by simp,fun j hj=>by simp [hj];omega⟩ (Ref.to1) ?_
  rintro ⟨i,x⟩ ⟨d1,d2,d3⟩
  dsimp only at d1 d2 d3 ⊢
  refine RN ?_
  refine ⟨fun hc5=>?_,fun hc5=>?_⟩
  ·obtain ⟨a1,a2⟩:=hat i (by omega)
   have hsx:=bnd_set (k:=(O.getD i 0).toNat) (v:=(i:Int)) d3 d2 (by omega)
   refine RN ?_
   exact ⟨(i+1,_),⟨by dsimp only;omega,by simp [d2],hsx⟩,by dsimp only;omega,Ref.to1⟩
  obtain rfl:i=n:=by omega
  refine RN ?_
  refine V_loop (α:=Nat×List (List Int)) (S:=fun o=>([(4,.ref 1 0),(10,mat Mv),(11,.sl 2 1 0 i),(12,.sl 3 1 0 (4*e)),(14,.ref 4 0),(15,i64 (o.1:Int))],[some (srcC bs a' h'),some [nilS],some (intsC O),some (intsC x),some [.sl 5 1 0 o.1],some (o.2.map oints)])) (C:=fun o=>o.1≤3∧o.2.length=o.1∧Rgs i o.2) (μ:=fun o=>3 - o.1) (0,[]) ⟨Nat.zero_le _,rfl,fun k hk=>absurd hk (by simp)⟩ ((Ref.nilC 4 0 1 rfl rfl).trans (Ref.to1)) ?_
  rintro ⟨k,L⟩ ⟨m1,m2,m3⟩
  dsimp only at m1 m2 m3 ⊢
  refine RN ?_
  refine ⟨fun hc6=>?_,fun hc6=>?_⟩
  ·have hrow:=hRs k (by omega)
   have hrl:=hrow.1
   refine RN ?_
   refine V_loop (α:=Nat×List Int) (S:=fun o=>([(4,.ref 1 0),(10,mat Mv),(11,.sl 2 1 0 i),(12,.sl 3 1 0 (4*e)),(14,.ref 4 0),(15,i64 (k:Int)),(16,.sl 6 1 0 o.1),(17,i64 (o.1:Int))],[some (srcC bs a' h'),some [nilS],some (intsC O),some (intsC x),some [.sl 5 1 0 k],some (L.map oints),some (intsC o.2)])) (C:=fun o=>o.1≤i∧o.2.length=o.1∧∀ j,j<o.1→0≤o.2.getD j 0∧o.2.getD j 0<i) (μ:=fun o=>i - o.1) (0,[]) ⟨Nat.zero_le _,rfl,fun j hj=>absurd hj (by simp)⟩ (Ref.to1) ?_
   rintro ⟨f,y⟩ ⟨r1,r2,r3⟩
   dsimp only at r1 r2 r3 ⊢
   refine RN ?_
   refine ⟨fun hc7=>?_,fun hc7=>?_⟩
   ·obtain ⟨a1,a2⟩:=hat f (by omega)
    have b1:=hrow.2 (O.getD f 0).toNat (by omega)
    have b2:=d3 ((Mv.getD k []).getD (O.getD f 0).toNat 0).toNat (by omega)
    refine RN ?_
    refine ⟨(f+1,y++[x.getD ((Mv.getD k []).getD (O.getD f 0).toNat 0).toNat 0]),⟨by dsimp only;omega,by simp [r2],bnd_snoc r3 r2 b2⟩,by dsimp only;omega,?_⟩
    have tk1:(intsC y).take f=intsC y:=List.take_of_length_le (by rw [len_intsC];omega)
    refine Ref.gc [0,1,2,3,4,5,8] rfl ?_ (by simp [sub,fget,go_sem,↓reduceIte,Nat.reduceEqDiff,Nat.reduceAdd,reduceCtorEq])
    simp only [go_sem,↓reduceIte,Nat.reduceEqDiff,Nat.reduceAdd,reduceCtorEq]
    rw [tk1,rnmL_ints]
    simp [intsC]
   obtain rfl:f=i:=by omega
   refine RN ?_
   refine ⟨(k+1,L++[y]),⟨by dsimp only;omega,by simp [m2],rgs_snoc m3 ⟨r2,r3⟩⟩,by dsimp only;omega,?_⟩
   refine (Ref.row 8 6 (L:=L) rfl m2 rfl r2 (by decide)).trans ?_
   exact Ref.gc1 [0,1,2,3,4,8]
  obtain rfl:k=3:=by omega
  refine RN ?_
  exact ⟨(a', h', i,L),⟨h1,hV1,by dsimp only;omega,m2,m3⟩,Ref.gc1 [0,5]⟩
end Go.Proofs.YtaekhhaaphgndaaGreat
namespace Go.Gov
variable {P:Program} {N:Nat} {F:Frame} {H:Heap} {M:List Nat} {n0:Nat}
theorem W_joinQ {x z:ACode}{Q:Exit→Frame→Heap→Prop}{α:Type}(C:α→Prop)(F1:α→Frame)(H1:α→Heap)(hx:W P M N n0 x (thenA (fun F' H' => ∃ o,C o∧Ref n0 F' H' (F1 o) (H1 o)) Q) F H)(hn:∀ o,C o→W P M N n0 z Q (F1 o) (H1 o)):W P M N n0 x (thenA (W P M N n0 z Q) Q) F H:=
 W_mono hx fun e F' H' h=>by
  cases e with
  | normal=>obtain ⟨o,ho,hr⟩:=h;exact W_ref hr (hn o ho)
  | _=>exact h
end Go.Gov
namespace Go.Proofs.YtaekhhaaphgndaaGreat
section
open Go.Gov Go.Ce
open Classical
theorem rgs_edge:Rgs 2 [[1,0]]:=fun k hk=>by
 obtain rfl:k=0:=by simp at hk;omega
 refine ⟨rfl,fun j hj=>?_⟩
 match j,hj with
 | 0,_=>decide
 | 1,_=>decide
theorem l02Any_w (bs : List Int) (hb : Byt bs) (a : Nat) (h : Int) (hs : a ≤ bs.length) (most : Nat) (hm1 : 16 ≤ most) (hm2 : most ≤ 1000) :
    WriE Tryz.prog 78 [.ref 0 0,i64 (most:Int)] [some (srcC bs a h)] (fun o:Nat×Int×Nat×List (List Int)=>o.1≤bs.length∧1≤o.2.2.1∧o.2.2.1≤most∧1≤o.2.2.2.length∧o.2.2.2.length≤5∧Rgs o.2.2.1 o.2.2.2) (fun o=>.agg [.sl 1 1 0 o.2.2.2.length]) (fun o=>[some (srcC bs o.1 o.2.1),some (o.2.2.2.map oints)]):=by
 refine wriREV ok78 rfl ?_;unfold c78
 refine RN ?_
 refine wriEF (l01Next_w bs hb a h hs 7) [0] (by first | rfl | simp) (by simp only [go_sem,↓reduceIte,Nat.reduceEqDiff,Nat.reduceAdd,reduceCtorEq]<;>rfl) (by simp only [go_sem,↓reduceIte,Nat.reduceEqDiff,Nat.reduceAdd,reduceCtorEq]<;>rfl) fun o ho=>?_
 obtain ⟨a1,b1,k⟩:=o
 obtain ⟨h1,h2,h3⟩:=ho
 dsimp only at h1 h2 h3
 obtain ⟨k,rfl⟩:=Int.eq_ofNat_of_zero_le h2
 simp only [go_sem,↓reduceIte,Nat.reduceEqDiff,Nat.reduceAdd,reduceCtorEq]
 have eq2:(most:Int).tdiv 2=((most / 2:Nat):Int):=by rw [Int.tdiv_eq_ediv_of_nonneg (by omega)];rfl
 have eq4:(most:Int).tdiv 4=((most / 4:Nat):Int):=by rw [Int.tdiv_eq_ediv_of_nonneg (by omega)];rfl
 have hcl:Ref 1 [(13,AV.val (Value.int IntKind.i64 k)),(6,AV.ref 5 0),(5,AV.ref 4 0),(4,AV.ref 1 0),(0,AV.ref 0 0),(1,i64 most)]
  [some (srcC bs a1 b1),some [nilS],some (intsC [1,0]),some [AV.sl 2 1 0 2],some [AV.sl 3 1 0 1],some [AV.sl 3 1 0 1]]
  [(13,AV.val (Value.int IntKind.i64 k)),(6,AV.ref 4 0),(5,AV.ref 3 0),(4,AV.ref 1 0),(0,AV.ref 0 0),(1,i64 most)]
  [some (srcC bs a1 b1),some [nilS],some ([[1,0]].map oints),some [AV.sl 2 1 0 1],some [AV.sl 2 1 0 1]]:=by
  refine (Ref.close 3 0 2 (k:=1) (n:=2) (cs2:=intsC [1,0]) rfl rfl rfl (by decide) rfl).trans ?_
  exact Ref.gc2 [0,1,3,4,5]
 refine W_ref ((Ref.to1).trans hcl) ?_
 refine W_joinQ (fun o:Nat×Int×Nat×List (List Int)=>o.1≤bs.length∧1≤o.2.2.1∧o.2.2.1≤most∧1≤o.2.2.2.length∧o.2.2.2.length≤5∧Rgs o.2.2.1 o.2.2.2) (fun o=>[(0,.ref 0 0),(1,i64 (most:Int)),(4,.ref 1 0),(5,.ref 3 0),(6,.ref 4 0)]) (fun o=>[some (srcC bs o.1 o.2.1),some [nilS],some ([[1,0]].map oints),some [.sl 2 1 0 1],some [.sl 5 1 0 o.2.2.2.length],some (o.2.2.2.map oints)]) ?_ ?_
 ·(refine RN ?_;try with_reducible exact trivial)
  simp only [eq2,eq4]
  refine ⟨fun c0=>?_,fun c0=>?_⟩
  ·(refine RN ?_;try with_reducible exact trivial)
   (try simp only [eq2,eq4])
   refine wriEF (l01Next_w bs hb a1 b1 h1 ((most / 2:Nat):Int)) [0] (by first | rfl | simp) (by simp only [go_sem,↓reduceIte,Nat.reduceEqDiff,Nat.reduceAdd,reduceCtorEq]<;>rfl) (by simp only [go_sem,↓reduceIte,Nat.reduceEqDiff,Nat.reduceAdd,reduceCtorEq]<;>rfl) fun o ho=>?_
   obtain ⟨a2,b2,p⟩:=o
   obtain ⟨q1,q2,q3⟩:=ho
   dsimp only at q1 q2 q3
   obtain ⟨p,rfl⟩:=Int.eq_ofNat_of_zero_le q2
   have hp:=l02Polygon_p (1+p) (by omega) (by omega)
   rw [show ((1+p:Nat):Int)=1+(p:Int) from by omega] at hp
   refine RN ?_
   refine pureEC (hp) (by simp only [go_sem,↓reduceIte,Nat.reduceEqDiff,Nat.reduceAdd,reduceCtorEq]<;>rfl) (fun o=>by first | rfl | simp only [go_sem,↓reduceIte,Nat.reduceEqDiff,Nat.reduceAdd,reduceCtorEq]) fun o ho=>?_
   obtain ⟨o1,o2⟩:=ho
   refine RN ?_
   exact ⟨(a2,b2,2*(1+p),o),⟨q1,by dsimp only;omega,by dsimp only;omega,by dsimp only;omega,by dsimp only;omega,o2⟩,Ref.to (by simp [o1]) (by simp [sub,fget])⟩
  ·(refine RN ?_;try with_reducible exact trivial)
   refine ⟨fun c1=>?_,fun c1=>?_⟩
   ·(refine RN ?_;try with_reducible exact trivial)
    refine ⟨(a1,b1,2,[[1,0]]),⟨h1,by dsimp only;omega,by dsimp only;omega,by simp,by simp,rgs_edge⟩,?_⟩
    exact Ref.gc2 [0,2]
   ·(refine RN ?_;try with_reducible exact trivial)
    refine ⟨fun c2=>?_,fun c2=>?_⟩
    ·(refine RN ?_;try with_reducible exact trivial)
     (try simp only [eq2,eq4])
     refine wriEF (l01Next_w bs hb a1 b1 h1 ((most / 4:Nat):Int)) [0] (by first | rfl | simp) (by simp only [go_sem,↓reduceIte,Nat.reduceEqDiff,Nat.reduceAdd,reduceCtorEq]<;>rfl) (by simp only [go_sem,↓reduceIte,Nat.reduceEqDiff,Nat.reduceAdd,reduceCtorEq]<;>rfl) fun o ho=>?_
     obtain ⟨a2,b2,p⟩:=o
     obtain ⟨q1,q2,q3⟩:=ho
     dsimp only at q1 q2 q3
     obtain ⟨p,rfl⟩:=Int.eq_ofNat_of_zero_le q2
     have hp:=l02Polygon_p (1+p) (by omega) (by omega)
     rw [show ((1+p:Nat):Int)=1+(p:Int) from by omega] at hp
     refine RN ?_
     refine pureEC (hp) (by simp only [go_sem,↓reduceIte,Nat.reduceEqDiff,Nat.reduceAdd,reduceCtorEq]<;>rfl) (fun o=>by first | rfl | simp only [go_sem,↓reduceIte,Nat.reduceEqDiff,Nat.reduceAdd,reduceCtorEq]) fun o ho=>?_
     obtain ⟨o1,o2⟩:=ho
     have hbe:=l02Beside_c (2*(1+p)) 2 (by omega) (by omega) (by omega) o [[1,0]] o2 rgs_edge (by omega) (by decide)
     refine RN ?_
     refine pureEC hbe (by simp only [go_sem,↓reduceIte,Nat.reduceEqDiff,Nat.reduceAdd,reduceCtorEq,frz_im _ _ o 2 o1]<;>first | done | (simp only [maniA,mat,o1]<;>rfl)) (fun o=>by first | rfl | simp only [go_sem,↓reduceIte,Nat.reduceEqDiff,Nat.reduceAdd,reduceCtorEq]) fun o' ho' => ?_
     obtain ⟨o3,o4⟩:=ho'
     have o5:o'.length=3:=by rw [o3,o1];rfl
     refine RN ?_
     exact ⟨(a2,b2,2*(1+p)*2,o'),⟨q1,by dsimp only;omega,by dsimp only;omega,by dsimp only;omega,by dsimp only;omega,o4⟩,Ref.gc2 [0,1,2,3,4,6]⟩
    ·(refine RN ?_;try with_reducible exact trivial)
     refine ⟨fun c3=>?_,fun c3=>?_⟩
     ·(refine RN ?_;try with_reducible exact trivial)
      refine wriEF (l01Next_w bs hb a1 b1 h1 4) [0] (by first | rfl | simp) (by simp only [go_sem,↓reduceIte,Nat.reduceEqDiff,Nat.reduceAdd,reduceCtorEq]<;>rfl) (by simp only [go_sem,↓reduceIte,Nat.reduceEqDiff,Nat.reduceAdd,reduceCtorEq]<;>rfl) fun o ho=>?_
      obtain ⟨a2,b2,p⟩:=o
      obtain ⟨q1,q2,q3⟩:=ho
      dsimp only at q1 q2 q3
      obtain ⟨p,rfl⟩:=Int.eq_ofNat_of_zero_le q2
      have hp:=l02Polygon_p (1+p) (by omega) (by omega)
      rw [show ((1+p:Nat):Int)=1+(p:Int) from by omega] at hp
      have eq5:(most:Int).tdiv (4*(1+(p:Int)))=((most / (4*(1+p)):Nat):Int):=by
       rw [Int.tdiv_eq_ediv_of_nonneg (by omega)]
       have:(4*(1+(p:Int)))=((4*(1+p):Nat):Int):=by omega
       rw [this];rfl
      have hD:(4*(1+p))*(most / (4*(1+p)))≤most:=Nat.mul_div_le _ _
      have hD1:1≤most / (4*(1+p)):=(Nat.le_div_iff_mul_le (by omega)).2 (by omega)
      generalize most / (4*(1+p))=D at eq5 hD hD1
      refine RN ?_
      intro _
      refine RN ?_
      refine pureEC (hp) (by simp only [go_sem,↓reduceIte,Nat.reduceEqDiff,Nat.reduceAdd,reduceCtorEq]<;>rfl) (fun o=>by first | rfl | simp only [go_sem,↓reduceIte,Nat.reduceEqDiff,Nat.reduceAdd,reduceCtorEq]) fun o ho=>?_
      obtain ⟨o1,o2⟩:=ho
      simp only [go_sem,↓reduceIte,Nat.reduceEqDiff,Nat.reduceAdd,reduceCtorEq,eq5]
      refine RN ?_
      refine wriEF (l01Next_w bs hb a2 b2 q1 (D:Int)) [0] (by first | rfl | simp) (by simp only [go_sem,↓reduceIte,Nat.reduceEqDiff,Nat.reduceAdd,reduceCtorEq]<;>rfl) (by simp only [go_sem,↓reduceIte,Nat.reduceEqDiff,Nat.reduceAdd,reduceCtorEq]<;>rfl) fun o' ho' => ?_
      obtain ⟨a3,b3,r⟩:=o'
      obtain ⟨y1,y2,y3⟩:=ho'
      dsimp only at y1 y2 y3
      obtain ⟨r,rfl⟩:=Int.eq_ofNat_of_zero_le y2
      have hrD:(4*(1+p))*(1+r)≤most:=Nat.le_trans (Nat.mul_le_mul_left _ (by omega)) hD
      have hrr:2*(1+p)*(2*(1+r))=(4*(1+p))*(1+r):=by
       rw [show 2*(1+p)*(2*(1+r))=(2*(1+p)*2)*(1+r) by rw [Nat.mul_assoc,Nat.mul_assoc,Nat.mul_assoc]]
       congr 1
       omega
      have hp2:=l02Polygon_p (1+r) (by omega) (by
       have:1+r≤(4*(1+p))*(1+r):=Nat.le_mul_of_pos_left _ (by omega)
       omega)
      rw [show ((1+r:Nat):Int)=1+(r:Int) from by omega] at hp2
      have hr1:1+r≤(4*(1+p))*(1+r):=Nat.le_mul_of_pos_left _ (by omega)
      refine RN ?_
      refine pureEC hp2 (by simp only [go_sem,↓reduceIte,Nat.reduceEqDiff,Nat.reduceAdd,reduceCtorEq]<;>rfl) (fun o=>by first | rfl | simp only [go_sem,↓reduceIte,Nat.reduceEqDiff,Nat.reduceAdd,reduceCtorEq]) fun o' ho' => ?_
      obtain ⟨o3,o4⟩:=ho'
      have hbe:=l02Beside_c (2*(1+p)) (2*(1+r)) (by omega) (by omega) (by omega) o o' o2 o4 (by omega) (by omega)
      refine RN ?_
      refine pureEC hbe (by simp only [go_sem,↓reduceIte,Nat.reduceEqDiff,Nat.reduceAdd,reduceCtorEq,frz_im _ _ o 2 o1,frz_im _ _ o' 2 o3]<;>first | done | (simp only [maniA,mat,o1,o3]<;>rfl)) (fun o=>by first | rfl | simp only [go_sem,↓reduceIte,Nat.reduceEqDiff,Nat.reduceAdd,reduceCtorEq]) fun o2' ho2' => ?_
      obtain ⟨o5,o6⟩:=ho2'
      have o7:o2'.length=4:=by rw [o5,o1,o3]
      refine RN ?_
      exact ⟨(a3,b3,2*(1+p)*(2*(1+r)),o2'),⟨y1,by dsimp only;omega,by dsimp only;omega,by dsimp only;omega,by dsimp only;omega,o6⟩,Ref.gc2 [0,1,2,3,4,7]⟩
     ·(refine RN ?_;try with_reducible exact trivial)
      (try simp only [eq2,eq4])
      refine wriEF (l01Next_w bs hb a1 b1 h1 ((most / 4:Nat):Int)) [0] (by first | rfl | simp) (by simp only [go_sem,↓reduceIte,Nat.reduceEqDiff,Nat.reduceAdd,reduceCtorEq]<;>rfl) (by simp only [go_sem,↓reduceIte,Nat.reduceEqDiff,Nat.reduceAdd,reduceCtorEq]<;>rfl) fun o ho=>?_
      obtain ⟨a2,b2,p⟩:=o
      obtain ⟨q1,q2,q3⟩:=ho
      dsimp only at q1 q2 q3
      obtain ⟨p,rfl⟩:=Int.eq_ofNat_of_zero_le q2
      have hp:=l02Map_w bs hb a2 b2 q1 (1+p) (by omega) (by omega)
      rw [show ((1+p:Nat):Int)=1+(p:Int) from by omega] at hp
      refine RN ?_
      refine wriEF (hp) [0] (by first | rfl | simp) (by simp only [go_sem,↓reduceIte,Nat.reduceEqDiff,Nat.reduceAdd,reduceCtorEq]<;>rfl) (by simp only [go_sem,↓reduceIte,Nat.reduceEqDiff,Nat.reduceAdd,reduceCtorEq]<;>rfl) fun o ho=>?_
      obtain ⟨a3,b3,n,L⟩:=o
      obtain ⟨t1,t2,t3,t4,t5⟩:=ho
      dsimp only at t1 t2 t3 t4 t5 ⊢
      refine RN ?_
      exact ⟨(a3,b3,n,L),⟨t1,t2,by dsimp only;omega,by dsimp only;omega,by dsimp only;omega,t5⟩,Ref.to (by simp [t4]) (by simp [sub,fget])⟩
 ·rintro ⟨a2,b2,n,L⟩ ⟨g1,g2,g3,g4,g5,g6⟩
  dsimp only at g1 g2 g3 g4 g5 g6 ⊢
  refine RN ?_
  refine V_loop (α:=Nat×Int×Nat×List (List Int)) (S:=fun o=>([(0,.ref 0 0),(1,i64 (most:Int)),(4,.ref 1 0),(5,.ref 3 0),(6,.ref 4 0)],[some (srcC bs o.1 o.2.1),some [nilS],some [oints [1,0]],some [.sl 2 1 0 1],some [.sl 5 1 0 o.2.2.2.length],some (o.2.2.2.map oints)])) (C:=fun o=>o.1≤bs.length∧1≤o.2.2.1∧o.2.2.1≤most∧1≤o.2.2.2.length∧o.2.2.2.length≤5∧Rgs o.2.2.1 o.2.2.2) (μ:=fun o=>5 - o.2.2.2.length) (a2,b2,n,L) ⟨g1,g2,g3,g4,g5,g6⟩ (Ref.to1) ?_
  clear g1 g2 g3 g4 g5 g6
  clear a2 b2 n L
  rintro ⟨a2,b2,n,L⟩ ⟨g1,g2,g3,g4,g5,g6⟩
  dsimp only at g1 g2 g3 g4 g5 g6 ⊢
  have hfl:=l02Flags_c L (by omega) (by omega) (by rw [(g6 0 (by omega)).1];omega)
  rw [(g6 0 (by omega)).1] at hfl
  by_cases hA:L.length<5
  ·have pA:((L.length:Int)<5)=True:=eq_true (by omega)
   have dA:decide ((L.length:Int)<5)=true:=decide_eq_true (by omega)
   by_cases hB:n*2≤most
   ·have pB:((n:Int)*2≤most)=True:=eq_true (by omega)
    have dB:decide ((n:Int)*2≤most)=true:=decide_eq_true (by omega)
    refine RN ?_
    rw [dA]
    refine GCall.on rfl ⟨by first | trivial | omega | simp,?_⟩
    refine pureC hfl (by simp only [go_sem,↓reduceIte,Nat.reduceEqDiff,Nat.reduceAdd,reduceCtorEq,frz_im _ _ L L.length rfl]<;>first | done | (simp only [maniA,mat]<;>rfl)) (by first | rfl | simp only [go_sem,↓reduceIte,Nat.reduceEqDiff,Nat.reduceAdd,reduceCtorEq]) ?_
    simp only [go_sem,↓reduceIte,Nat.reduceEqDiff,Nat.reduceAdd,reduceCtorEq,pA,pB,dA,dB,true_implies]
    refine RN ?_
    refine GCall.on rfl ?_
    refine wriEF (l01Next_w bs hb a2 b2 g1 3) [0] (by first | rfl | simp) (by simp only [go_sem,↓reduceIte,Nat.reduceEqDiff,Nat.reduceAdd,reduceCtorEq]<;>rfl) (by simp only [go_sem,↓reduceIte,Nat.reduceEqDiff,Nat.reduceAdd,reduceCtorEq]<;>rfl) fun o ho=>?_
    obtain ⟨a3,b3,r⟩:=o
    obtain ⟨y1,y2,y3⟩:=ho
    dsimp only at y1 y2 y3
    simp only [go_sem,↓reduceIte,Nat.reduceEqDiff,Nat.reduceAdd,reduceCtorEq,pA,pB,dA,dB,true_implies]
    refine RN ?_
    refine ⟨fun c6=>?_,fun c6=>?_⟩
    ·have hb1:=l02Beside_c n 2 g2 (by decide) (by omega) L [[1,0]] g6 rgs_edge (by omega) (by decide)
     have hb2:=l02Beside_c 2 n (by decide) g2 (by omega) [[1,0]] L rgs_edge g6 (by decide) (by omega)
     refine RN ?_
     refine wriEF (l01Next_w bs hb a3 b3 y1 2) [0] (by first | rfl | simp) (by simp only [go_sem,↓reduceIte,Nat.reduceEqDiff,Nat.reduceAdd,reduceCtorEq]<;>rfl) (by simp only [go_sem,↓reduceIte,Nat.reduceEqDiff,Nat.reduceAdd,reduceCtorEq]<;>rfl) fun o ho=>?_
     obtain ⟨a4,b4,r2⟩:=o
     obtain ⟨z1,z2,z3⟩:=ho
     dsimp only at z1 z2 z3
     refine RN ?_
     refine ⟨fun c7=>?_,fun c7=>?_⟩
     ·(refine RN ?_;try with_reducible exact trivial)
      refine pureEC hb1 (by simp only [go_sem,↓reduceIte,Nat.reduceEqDiff,Nat.reduceAdd,reduceCtorEq,frz_im _ _ L L.length rfl]<;>first | done | (simp only [maniA,mat]<;>rfl)) (fun o=>by first | rfl | simp only [go_sem,↓reduceIte,Nat.reduceEqDiff,Nat.reduceAdd,reduceCtorEq]) fun o' ho' => ?_
      obtain ⟨o3,o4⟩:=ho'
      have o5:o'.length=L.length+1:=o3
      refine RN ?_
      exact ⟨(a4,b4,n*2,o'),⟨z1,by dsimp only;omega,by dsimp only;omega,by dsimp only;omega,by dsimp only;omega,o4⟩,by dsimp only;omega,Ref.gc2 [0,1,2,3,4,6]⟩
     ·(refine RN ?_;try with_reducible exact trivial)
      refine pureEC hb2 (by simp only [go_sem,↓reduceIte,Nat.reduceEqDiff,Nat.reduceAdd,reduceCtorEq,frz_im _ _ L L.length rfl]<;>first | done | (simp only [maniA,mat]<;>rfl)) (fun o=>by first | rfl | simp only [go_sem,↓reduceIte,Nat.reduceEqDiff,Nat.reduceAdd,reduceCtorEq]) fun o' ho' => ?_
      obtain ⟨o3,o4⟩:=ho'
      have o5:o'.length=1+L.length:=o3
      refine RN ?_
      exact ⟨(a4,b4,2*n,o'),⟨z1,by dsimp only;omega,by dsimp only;omega,by dsimp only;omega,by dsimp only;omega,o4⟩,by dsimp only;omega,Ref.gc2 [0,1,2,3,4,6]⟩
    ·(refine RN ?_;try with_reducible exact trivial)
     exact ⟨(a3,b3,n,L),⟨y1,g2,g3,g4,g5,g6⟩,Ref.gc1 [0,5]⟩
   ·have nB:((n:Int)*2≤most)=False:=eq_false (by omega)
    have dB:decide ((n:Int)*2≤most)=false:=decide_eq_false (by omega)
    refine RN ?_
    rw [dA]
    refine GCall.on rfl ⟨by first | trivial | omega | simp,?_⟩
    refine pureC hfl (by simp only [go_sem,↓reduceIte,Nat.reduceEqDiff,Nat.reduceAdd,reduceCtorEq,frz_im _ _ L L.length rfl]<;>first | done | (simp only [maniA,mat]<;>rfl)) (by first | rfl | simp only [go_sem,↓reduceIte,Nat.reduceEqDiff,Nat.reduceAdd,reduceCtorEq]) ?_
    simp only [go_sem,↓reduceIte,Nat.reduceEqDiff,Nat.reduceAdd,reduceCtorEq,pA,nB,dA,dB,true_implies]
    refine RN ?_
    refine GCall_no (i64 0) rfl ?_
    simp only [go_sem,↓reduceIte,Nat.reduceEqDiff,Nat.reduceAdd,reduceCtorEq,pA,nB,dA,dB,true_implies,false_implies]
    refine RN ?_
    exact ⟨(a2,b2,n,L),⟨g1,g2,g3,g4,g5,g6⟩,Ref.gc1 [0,5]⟩
  ·have dA:decide ((L.length:Int)<5)=false:=decide_eq_false (by omega)
   refine RN ?_
   rw [dA]
   refine GCall_no (i64 0) rfl ?_
   have nA:((L.length:Int)<5)=False:=eq_false (by omega)
   simp only [go_sem,↓reduceIte,Nat.reduceEqDiff,Nat.reduceAdd,reduceCtorEq,nA,dA,false_implies]
   refine RN ?_
   refine GCall_no (i64 0) rfl ?_
   simp only [go_sem,↓reduceIte,Nat.reduceEqDiff,Nat.reduceAdd,reduceCtorEq,nA,dA,false_implies]
   refine RN ?_
   exact ⟨(a2,b2,n,L),⟨g1,g2,g3,g4,g5,g6⟩,Ref.gc1 [0,5]⟩
end
section
open Go.Gov Go.Ce
open Classical
theorem l01Pick_w2 (bs : List Int) (hb : Byt bs) (a : Nat) (h : Int) (hs : a ≤ bs.length) (w : List Int) (hw : w.length ≤ 1048576) (hw1 : 1 ≤ w.length) :
    WriE Tryz.prog 71 [.ref 0 0,.sl 1 1 0 w.length] [some (srcC bs a h),some (intsC w)] (fun o:Nat×Int×Nat=>o.1≤bs.length∧o.2.2<w.length) (fun o=>i64 (w.getD o.2.2 0)) (fun o=>[some (srcC bs o.1 o.2.1),some (intsC w)]):=by
 refine wriREV ok71 rfl ?_;unfold c71
 refine RN ?_
 refine wriEF (l01Next_w bs hb a h hs (w.length:Int)) [0] (by first | rfl | simp) (by simp only [go_sem,↓reduceIte,Nat.reduceEqDiff,Nat.reduceAdd,reduceCtorEq]<;>rfl) (by simp only [go_sem,↓reduceIte,Nat.reduceEqDiff,Nat.reduceAdd,reduceCtorEq]<;>rfl) fun o ho=>?_
 obtain ⟨a', h', k⟩:=o
 obtain ⟨h1,h2,h3⟩:=ho
 dsimp only at h1 h2 h3
 obtain ⟨k,rfl⟩:=Int.eq_ofNat_of_zero_le h2
 have hk:k<w.length:=by omega
 refine RN ?_
 exact ⟨(a', h', k),⟨h1,hk⟩,Ref.gc2 [0,1]⟩
theorem l02Draw_w (bs : List Int) (hb : Byt bs) (a : Nat) (h : Int) (hs : a ≤ bs.length) (most : Nat) (hm1 : 16 ≤ most) (hm2 : most ≤ 1000) :
    WriE Tryz.prog 70 [.ref 0 0,i64 (most:Int)] [some (srcC bs a h)] (fun o:Nat×Int×Nat×List (List Int)=>o.1≤bs.length∧1≤o.2.2.1∧o.2.2.1≤most∧1≤o.2.2.2.length∧o.2.2.2.length≤5∧Rgs o.2.2.1 o.2.2.2) (fun o=>.agg [.sl 1 1 0 o.2.2.2.length]) (fun o=>[some (srcC bs o.1 o.2.1),some (o.2.2.2.map oints)]):=by
 refine wriREV ok70 rfl ?_;unfold c70
 refine RN ?_
 refine wriEF (l02Any_w bs hb a h hs most hm1 hm2) [0] (by first | rfl | simp) (by simp only [go_sem,↓reduceIte,Nat.reduceEqDiff,Nat.reduceAdd,reduceCtorEq]<;>rfl) (by simp only [go_sem,↓reduceIte,Nat.reduceEqDiff,Nat.reduceAdd,reduceCtorEq]<;>rfl) fun o ho=>?_
 obtain ⟨a1,b1,n,L⟩:=o
 obtain ⟨h1,h2,h3,h4,h5,h6⟩:=ho
 dsimp only at h1 h2 h3 h4 h5 h6 ⊢
 have hfl:=l02Flags_c L (by omega) (by omega) (by rw [(h6 0 (by omega)).1];omega)
 rw [(h6 0 (by omega)).1] at hfl
 refine RN ?_
 refine wriEF (l01Next_w bs hb a1 b1 h1 4) [0] (by first | rfl | simp) (by simp only [go_sem,↓reduceIte,Nat.reduceEqDiff,Nat.reduceAdd,reduceCtorEq]<;>rfl) (by simp only [go_sem,↓reduceIte,Nat.reduceEqDiff,Nat.reduceAdd,reduceCtorEq]<;>rfl) fun o ho=>?_
 obtain ⟨a2,b2,k⟩:=o
 obtain ⟨q1,q2,q3⟩:=ho
 dsimp only at q1 q2 q3
 have hdr:=l01Draw_w bs hb a2 b2 q1 n (by omega)
 have hrn:=fun p hp=>l02Renumber_c n (by omega) L h6 (by omega) p hp
 refine RN ?_
 refine ⟨fun c1=>?_,fun c1=>?_⟩
 ·refine V_W ?_
  refine V_altsD (fun o:Nat×Int×List (List Int)=>o.1≤bs.length∧o.2.2.length=L.length∧Rgs n o.2.2) (fun o=>[(4,.ref 1 0)]) (fun o=>[some (srcC bs o.1 o.2.1),some [.sl 2 1 0 o.2.2.length],some (o.2.2.map oints)]) ?_ ?_
  ·repeat' first
     | simp only [go_sem,↓reduceIte,Nat.reduceEqDiff,Nat.reduceAdd,reduceCtorEq]
     | with_reducible refine LT_reg ?_
     | with_reducible refine LT_fin ?_
     | with_reducible exact LT_tt
     | with_reducible refine LT_alt ?_ ?_
     | (with_reducible refine And.intro ?_ ?_;focus first | assumption | omega | grind)
     | (refine pureC hfl ?_ ?_ ?_;(simp only [go_sem,↓reduceIte,Nat.reduceEqDiff,Nat.reduceAdd,reduceCtorEq,frz_im _ _ L L.length rfl]<;>first | done | (simp only [maniA,mat]<;>rfl));(focus first | rfl | simp only [go_sem,↓reduceIte,Nat.reduceEqDiff,Nat.reduceAdd,reduceCtorEq]))
     | refine wriEF (hdr) [0] (by first | rfl | simp) (by simp only [go_sem,↓reduceIte,Nat.reduceEqDiff,Nat.reduceAdd,reduceCtorEq]<;>rfl) (by simp only [go_sem,↓reduceIte,Nat.reduceEqDiff,Nat.reduceAdd,reduceCtorEq]<;>rfl) fun o ho=>?_
   all_goals
    have htk:(intsC o.2.2).take n=intsC o.2.2:=List.take_of_length_le (by rw [len_intsC,ho.2.1];exact Nat.le_refl _)
    have hin:ints o.2.2 = .slc 1 n (intsC o.2.2):=by rw [ints,ho.2.1]
    refine pureEC (hrn o.2.2 ho.2) (by simp only [go_sem,↓reduceIte,Nat.reduceEqDiff,Nat.reduceAdd,reduceCtorEq,frz_im _ _ L L.length rfl,htk,map_frz_ints,hin]<;>first | done | (simp only [maniA,mat]<;>rfl)) (fun o=>by first | rfl | simp only [go_sem,↓reduceIte,Nat.reduceEqDiff,Nat.reduceAdd,reduceCtorEq]) fun o' ho' => ?_
    (repeat' first | simp only [go_sem,↓reduceIte,Nat.reduceEqDiff,Nat.reduceAdd,reduceCtorEq] | with_reducible refine LT_reg ?_ | with_reducible refine LT_regz1 ?_ | with_reducible refine LT_fin ?_ | with_reducible exact LT_tt | with_reducible refine LT_alt ?_ ?_ | (with_reducible refine And.intro ?_ ?_;focus first | assumption | omega | grind))
    exact ⟨(o.1,o.2.1,o'),⟨ho.1,ho'.1,ho'.2⟩,Ref.gc2 [0,1,5]⟩
  ·rintro ⟨a3,b3,K⟩ ⟨g1,g2,g3⟩
   dsimp only at g1 g2 g3 ⊢
   refine RN ?_
   exact ⟨(a3,b3,n,K),⟨g1,h2,h3,by dsimp only;omega,by dsimp only;omega,g3⟩,Ref.gc1 [0,2]⟩
 ·(refine RN ?_;try with_reducible exact trivial)
  exact ⟨(a2,b2,n,L),⟨q1,h2,h3,h4,h5,h6⟩,Ref.gc1 [0,2]⟩
end
end Go.Proofs.YtaekhhaaphgndaaGreat
namespace Go.Gov
variable {P:Program} {N:Nat} {F:Frame} {H:Heap} {M:List Nat} {n0:Nat}
theorem V_altsDB {α:Type}(C:α→Prop)(F1:α→Frame)(H1:α→Heap){t:GT}{y:ACode}{id:Nat}{Q Q' : Exit→Frame→Heap→Prop}(hE:LT P false t (fun F' H' => ∃ o,C o∧Ref n0 F' H' (F1 o) (H1 o)) F H)(hy:∀ o,C o→W P M N n0 y Q (F1 o) (H1 o)):V P M N n0 (.alts t) (blockA id (thenA (W P M N n0 y Q) Q')) F H:=
 W_alts (EvT_mono (fun F' H' ⟨o,ho,h⟩=>W_ref h (hy o ho)) t false F H hE)
end Go.Gov
namespace Go.Proofs.YtaekhhaaphgndaaGreat
open Go.Gov Go.Ce
open Classical
def Gd (most:Nat)(M:List (List Int)):Prop:=M.length≤6∧∀ p∈M,p.length≤most+1
theorem l02Spoil_w (bs : List Int) (hb : Byt bs) (a : Nat) (h : Int) (hs : a ≤ bs.length) (most : Nat) (hm1 : 16 ≤ most) (hm2 : most ≤ 1000) :
    WriE Tryz.prog 63 [.ref 0 0,i64 (most:Int)] [some (srcC bs a h)] (fun o:Nat×Int×List (List Int)=>o.1≤bs.length∧Gd most o.2.2) (fun o=>maniA o.2.2) (fun o=>[some (srcC bs o.1 o.2.1)]):=by
 refine wriREV ok63 rfl ?_;unfold c63
 refine RN ?_
 refine wriEF (l02Draw_w bs hb a h hs most hm1 hm2) [0] (by first | rfl | simp) (by simp only [go_sem,↓reduceIte,Nat.reduceEqDiff,Nat.reduceAdd,reduceCtorEq]<;>rfl) (by simp only [go_sem,↓reduceIte,Nat.reduceEqDiff,Nat.reduceAdd,reduceCtorEq]<;>rfl) fun o ho=>?_
 obtain ⟨a1,b1,n,L⟩:=o
 obtain ⟨h1,h2,h3,h4,h5,h6⟩:=ho
 dsimp only at h1 h2 h3 h4 h5 h6 ⊢
 have hfl:=l02Flags_c L (by omega) (by omega) (by rw [(h6 0 (by omega)).1];omega)
 rw [(h6 0 (by omega)).1] at hfl
 refine RN ?_
 refine pureC hfl (by simp only [go_sem,↓reduceIte,Nat.reduceEqDiff,Nat.reduceAdd,reduceCtorEq,frz_im _ _ L L.length rfl]<;>first | done | (simp only [maniA,mat]<;>rfl)) (by first | rfl | simp only [go_sem,↓reduceIte,Nat.reduceEqDiff,Nat.reduceAdd,reduceCtorEq]) ?_
 refine RN ?_
 refine wriEF (l01Next_w bs hb a1 b1 h1 40) [0] (by first | rfl | simp) (by simp only [go_sem,↓reduceIte,Nat.reduceEqDiff,Nat.reduceAdd,reduceCtorEq]<;>rfl) (by simp only [go_sem,↓reduceIte,Nat.reduceEqDiff,Nat.reduceAdd,reduceCtorEq]<;>rfl) fun o ho=>?_
 obtain ⟨a2,b2,k⟩:=o
 obtain ⟨q1,q2,q3⟩:=ho
 dsimp only at q1 q2 q3
 obtain ⟨r0,J,rfl⟩:∃ r0 J,L=r0 :: J:=by
  cases L with
  | nil=>simp at h4
  | cons a J=>exact ⟨a,J,rfl⟩
 have hr0:r0.length=n:=by simpa using (h6 0 (by simp)).1
 simp only [go_sem,↓reduceIte,Nat.reduceEqDiff,Nat.reduceAdd,reduceCtorEq]
 have hJ:∀ p∈J,p.length≤most+1:=fun p hp=>by
  obtain ⟨j,hj,rfl⟩:=List.mem_iff_getElem.1 hp
  have:=(h6 (j+1) (by simpa using hj)).1
  rw [show (r0 :: J).getD (j+1) []=J[j] by simp [hj]] at this
  omega
 have hJl:J.length≤4:=by simp at h5;exact h5
 refine W_ref ((Ref.open 2 0 (cs:=(r0 :: J).map oints) (cs2:=intsC r0) (k:=1) (n:=r0.length) rfl rfl).trans (Ref.to (F' := [(0,.ref 0 0),(13,i64 k),(4,.ref 1 0),(5,.ref 3 0),(6,i64 (n:Int))]) (H' := [some (srcC bs a2 b2),some [nilS],some (.sl 4 1 0 n :: J.map oints),some [.sl 2 1 0 (J.length+1)],some (intsC r0)]) (by rw [hr0];rfl) (by simp [sub,fget]))) ?_
 refine RN ?_
 refine ⟨fun c0=>?_,fun c0=>?_⟩
 ·refine V_W ?_
  refine V_altsDB (fun o:Nat×Int×List Int=>o.1≤bs.length∧o.2.2.length=n) (fun o=>[(0,.ref 0 0),(4,.ref 1 0),(5,.ref 3 0)]) (fun o=>[some (srcC bs o.1 o.2.1),some [nilS],some (.sl 4 1 0 n :: J.map oints),some [.sl 2 1 0 (J.length+1)],some (intsC o.2.2)]) ?_ ?_
  ·repeat' first
     | simp only [go_sem,↓reduceIte,Nat.reduceEqDiff,Nat.reduceAdd,reduceCtorEq]
     | with_reducible refine LT_reg ?_
     | with_reducible refine LT_fin ?_
     | with_reducible exact LT_tt
     | with_reducible refine LT_alt ?_ ?_
     | (with_reducible refine And.intro ?_ ?_;focus first | assumption | omega | grind)
     | refine wriEF (l01Next_w bs hb a2 b2 q1 (n:Int)) [0] (by first | rfl | simp) (by simp only [go_sem,↓reduceIte,Nat.reduceEqDiff,Nat.reduceAdd,reduceCtorEq]<;>rfl) (by simp only [go_sem,↓reduceIte,Nat.reduceEqDiff,Nat.reduceAdd,reduceCtorEq]<;>rfl) fun o ho=>?_
     | refine wriEF (l01Pick_w2 bs hb _ _ ho.1 [-1,(n:Int),0] (by simp) (by simp)) [0,5] (by first | rfl | simp) (by simp only [go_sem,↓reduceIte,Nat.reduceEqDiff,Nat.reduceAdd,reduceCtorEq]<;>rfl) (by simp only [go_sem,↓reduceIte,Nat.reduceEqDiff,Nat.reduceAdd,reduceCtorEq]<;>rfl) fun o ho=>?_
   all_goals
    rename_i o1 ho1
    exact ⟨(o.1,o.2.1,r0.set o1.2.2.toNat ([-1,(n:Int),0].getD o.2.2 0)),⟨ho.1,by simp [hr0]⟩,Ref.gc2 [0,1,2,3,4]⟩
  ·rintro ⟨a3,b3,r⟩ ⟨g1,g2⟩
   dsimp only at g1 g2 ⊢
   refine RN ?_
   refine ⟨(a3,b3,r :: J),⟨g1,by simp;omega,fun p hp=>?_⟩,?_⟩
   ·rcases List.mem_cons.1 hp with rfl | hp
    ·omega
    ·exact hJ p hp
   ·refine Ref.sel [0] rfl (by simp only [go_sem,↓reduceIte,Nat.reduceEqDiff,Nat.reduceAdd,reduceCtorEq]) ?_
    simp only [sub,List.all_cons,List.all_nil,go_sem,↓reduceIte,Nat.reduceEqDiff,Nat.reduceAdd,reduceCtorEq]
    rw [List.take_of_length_le (show (intsC r).length≤n by rw [len_intsC];omega),map_frz_ints]
    simp [maniA,mat,ints,g2]
 ·(refine RN ?_;try with_reducible exact trivial)
  refine ⟨fun c1=>?_,fun c1=>?_⟩
  ·refine V_W ?_
   refine V_altsDB (fun o:Nat×Int×List Int=>o.1≤bs.length∧o.2.2.length=n) (fun o=>[(0,.ref 0 0),(4,.ref 1 0),(5,.ref 2 0)]) (fun o=>[some (srcC bs o.1 o.2.1),some [nilS],some [.sl 3 1 0 (J.length+2)],some ((.sl 4 1 0 n :: J.map oints)++[.sl 5 1 0 n]),some (intsC r0),some (intsC o.2.2)]) ?_ ?_
   ·repeat' first
      | simp only [go_sem,↓reduceIte,Nat.reduceEqDiff,Nat.reduceAdd,reduceCtorEq]
      | with_reducible refine LT_reg ?_
      | with_reducible refine LT_fin ?_
      | with_reducible exact LT_tt
      | with_reducible refine LT_alt ?_ ?_
      | (with_reducible refine And.intro ?_ ?_;focus first | assumption | omega | grind)
      | refine wriEF (l01Matching_w bs hb a2 b2 q1 n (by omega)) [0] (by first | rfl | simp) (by simp only [go_sem,↓reduceIte,Nat.reduceEqDiff,Nat.reduceAdd,reduceCtorEq]<;>rfl) (by simp only [go_sem,↓reduceIte,Nat.reduceEqDiff,Nat.reduceAdd,reduceCtorEq]<;>rfl) fun o ho=>?_
    all_goals
     exact ⟨(o.1,o.2.1,o.2.2),⟨ho.1,ho.2.1⟩,Ref.gc2 [0,1,3,7,4,5]⟩
   ·rintro ⟨a3,b3,r⟩ ⟨g1,g2⟩
    dsimp only at g1 g2 ⊢
    refine RN ?_
    refine ⟨(a3,b3,r0 :: (J++[r])),⟨g1,by simp;omega,fun p hp=>?_⟩,?_⟩
    ·rcases List.mem_cons.1 hp with rfl | hp
     ·omega
     ·rcases List.mem_append.1 hp with hp | hp
      ·exact hJ p hp
      ·have:p=r:=by simpa using hp
       subst this;omega
    ·refine Ref.sel [0] rfl (by simp only [go_sem,↓reduceIte,Nat.reduceEqDiff,Nat.reduceAdd,reduceCtorEq]) ?_
     simp only [sub,List.all_cons,List.all_nil,go_sem,↓reduceIte,Nat.reduceEqDiff,Nat.reduceAdd,reduceCtorEq]
     rw [List.take_of_length_le (show (intsC r0).length≤n by rw [len_intsC];omega),map_frz_ints,List.take_of_length_le (show (List.map oints J++[AV.sl 5 1 0 n]).length≤J.length+1 by simp),List.map_append,map_frz_orows]
     have tk2:(intsC r).take n=intsC r:=List.take_of_length_le (by rw [len_intsC];omega)
     simp [maniA,mat,ints,hr0,g2,frz,tk2,map_frz_ints]
  ·(refine RN ?_;try with_reducible exact trivial)
   refine ⟨fun c2=>?_,fun c2=>?_⟩
   ·(refine RN ?_;try with_reducible exact trivial)
    refine ⟨(a2,b2,[]),⟨q1,by simp,fun p hp=>by simp at hp⟩,?_⟩
    refine Ref.sel [0] rfl (by simp only [go_sem,↓reduceIte,Nat.reduceEqDiff,Nat.reduceAdd,reduceCtorEq]) ?_
    simp only [sub,List.all_cons,List.all_nil,go_sem,↓reduceIte,Nat.reduceEqDiff,Nat.reduceAdd,reduceCtorEq]
    rfl
   ·(refine RN ?_;try with_reducible exact trivial)
    refine ⟨fun c3=>?_,fun c3=>?_⟩
    ·refine V_W ?_
     refine V_altsDB (fun o:Unit=>True) (fun o=>[(0,.ref 0 0),(4,.ref 1 0),(5,.ref 3 0)]) (fun o=>[some (srcC bs a2 b2),some [nilS],some (.sl 4 1 0 (n+1) :: J.map oints),some [.sl 2 1 0 (J.length+1)],some (intsC (r0++[(n:Int)]))]) ?_ ?_
     ·have tk1:(intsC r0).take n=intsC r0:=List.take_of_length_le (by rw [len_intsC];omega)
      (repeat' first | simp only [go_sem,↓reduceIte,Nat.reduceEqDiff,Nat.reduceAdd,reduceCtorEq] | with_reducible refine LT_reg ?_ | with_reducible refine LT_regz1 ?_ | with_reducible refine LT_fin ?_ | with_reducible exact LT_tt | with_reducible refine LT_alt ?_ ?_ | (with_reducible refine And.intro ?_ ?_;focus first | assumption | omega | grind))
      all_goals
       refine ⟨(),Ref.gc [0,1,2,3,6] rfl ?_ (by simp [sub,fget,go_sem,↓reduceIte,Nat.reduceEqDiff,Nat.reduceAdd,reduceCtorEq])⟩
       simp only [go_sem,↓reduceIte,Nat.reduceEqDiff,Nat.reduceAdd,reduceCtorEq]
       rw [tk1,rnmL_ints]
       simp [intsC]
     ·rintro _ _
      refine RN ?_
      refine ⟨(a2,b2,(r0++[(n:Int)]) :: J),⟨q1,by simp;omega,fun p hp=>?_⟩,?_⟩
      ·rcases List.mem_cons.1 hp with rfl | hp
       ·simp;omega
       ·exact hJ p hp
      ·refine Ref.sel [0] rfl (by simp only [go_sem,↓reduceIte,Nat.reduceEqDiff,Nat.reduceAdd,reduceCtorEq]) ?_
       simp only [sub,List.all_cons,List.all_nil,go_sem,↓reduceIte,Nat.reduceEqDiff,Nat.reduceAdd,reduceCtorEq]
       rw [List.take_of_length_le (show (intsC (r0++[(n:Int)])).length≤n+1 by rw [len_intsC];simp;omega),map_frz_ints]
       simp [maniA,mat,ints,hr0]
    ·(refine RN ?_;try with_reducible exact trivial)
     refine ⟨fun c4=>?_,fun c4=>?_⟩
     ·(refine RN ?_;try with_reducible exact trivial)
      refine ⟨(a2,b2,J),⟨q1,by simp;omega,hJ⟩,?_⟩
      refine Ref.sel [0] rfl (by simp only [go_sem,↓reduceIte,Nat.reduceEqDiff,Nat.reduceAdd,reduceCtorEq]) ?_
      simp only [sub,List.all_cons,List.all_nil,go_sem,↓reduceIte,Nat.reduceEqDiff,Nat.reduceAdd,reduceCtorEq]
      rw [List.take_of_length_le (show (List.map oints J).length≤J.length+1 - 1 by simp),map_frz_orows]
      simp [maniA,mat]
     ·(refine RN ?_;try with_reducible exact trivial)
      refine ⟨(a2,b2,r0 :: J),⟨q1,by simp;omega,fun p hp=>?_⟩,?_⟩
      ·rcases List.mem_cons.1 hp with rfl | hp
       ·omega
       ·exact hJ p hp
      ·refine Ref.sel [0] rfl (by simp only [go_sem,↓reduceIte,Nat.reduceEqDiff,Nat.reduceAdd,reduceCtorEq]) ?_
       simp only [sub,List.all_cons,List.all_nil,go_sem,↓reduceIte,Nat.reduceEqDiff,Nat.reduceAdd,reduceCtorEq]
       rw [List.take_of_length_le (show (intsC r0).length≤n by rw [len_intsC];omega),map_frz_ints]
       simp [maniA,mat,ints,hr0]
end Go.Proofs.YtaekhhaaphgndaaGreat
namespace Go.Gov
variable {P:Program} {N:Nat} {F:Frame} {H:Heap} {M:List Nat} {n0:Nat}
theorem Ref.nilA (j k:Nat)(h:fget F j = .agg [nilS]):Ref n0 F H ((j,.agg [.slc k 0 []]) :: F) H:=fun N g a w hR=>by
 refine ⟨g,⟨fun i=>?_,hR.hp,hR.size,hR.defers⟩,.refl hR.hp⟩
 simp only [get_put]
 by_cases e:j=i
 ·subst e
  rw [if_pos rfl]
  have h1:=hR.fr j
  rw [h] at h1
  generalize a.tmps.getD j undef=v at h1 ⊢
  cases h1 with
  | agg hl hr=>
   refine .agg (by simpa using hl) fun m hm=>?_
   obtain rfl:m=0:=by simp at hm;omega
   have h2:=hr 0 (by simp)
   simp only [List.getElem_cons_zero] at h2 ⊢
   rw [h2.val_inv.1]
   exact .slc0 (by unfold maxLen;omega)
 ·rw [if_neg e];exact hR.fr i
end Go.Gov
namespace Go.Proofs.YtaekhhaaphgndaaGreat
section
open Go.Gov Go.Ce
open Classical
theorem l14DrawRotation_w (bs : List Int) (hb : Byt bs) (a : Nat) (h : Int) (hs : a ≤ bs.length) (most : Nat) (hm1 : 1 ≤ most) (hm2 : most ≤ 1000) :
    WriE Tryz.prog 38 [.ref 0 0,i64 (most:Int)] [some (srcC bs a h)] (fun o:Nat×Int×List Int=>o.1≤bs.length∧o.2.2.length≤2*most) (fun o=>.sl 1 1 0 o.2.2.length) (fun o=>[some (srcC bs o.1 o.2.1),some (intsC o.2.2)]):=by
 refine wriREV ok38 rfl ?_;unfold c38
 refine RN ?_
 have hmx:(if (1:Int)<(most:Int) then (most:Int) else 1)=most:=by split<;>omega
 (try simp only [hmx])
 refine wriEF (l01Next_w bs hb a h hs (most:Int)) [0] (by first | rfl | simp) (by simp only [go_sem,↓reduceIte,Nat.reduceEqDiff,Nat.reduceAdd,reduceCtorEq]<;>rfl) (by simp only [go_sem,↓reduceIte,Nat.reduceEqDiff,Nat.reduceAdd,reduceCtorEq]<;>rfl) fun o ho=>?_
 obtain ⟨a1,b1,p⟩:=o
 obtain ⟨q1,q2,q3⟩:=ho
 dsimp only at q1 q2 q3
 obtain ⟨p,rfl⟩:=Int.eq_ofNat_of_zero_le q2
 refine RN ?_
 refine V_loop (α:=Nat×Int×List Int) (S:=fun o=>([(0,.ref 0 0),(5,i64 (2*(1+(p:Int)))),(6,.sl 1 1 0 o.2.2.length),(7,i64 (o.2.2.length:Int))],[some (srcC bs o.1 o.2.1),some (intsC o.2.2)])) (C:=fun o=>o.1≤bs.length∧o.2.2.length≤2*(1+p)) (μ:=fun o=>2*(1+p) - o.2.2.length) (a1,b1,[]) ⟨q1,Nat.zero_le _⟩ (Ref.to1) ?_
 rintro ⟨a2,b2,x⟩ ⟨h1,h2⟩
 dsimp only at h1 h2 ⊢
 refine RN ?_
 refine ⟨fun hc=>?_,fun hc=>?_⟩
 ·(refine RN ?_;try with_reducible exact trivial)
  refine wriEF (l01Next_w bs hb a2 b2 h1 ((x.length:Int)+1)) [0] (by first | rfl | simp) (by simp only [go_sem,↓reduceIte,Nat.reduceEqDiff,Nat.reduceAdd,reduceCtorEq]<;>rfl) (by simp only [go_sem,↓reduceIte,Nat.reduceEqDiff,Nat.reduceAdd,reduceCtorEq]<;>rfl) fun o ho=>?_
  obtain ⟨a3,b3,k⟩:=o
  obtain ⟨r1,r2,r3⟩:=ho
  dsimp only at r1 r2 r3
  obtain ⟨k,rfl⟩:=Int.eq_ofNat_of_zero_le r2
  refine RN ?_
  have e1:((x.length:Int) - k).toNat=x.length - k:=by omega
  have tk1:((intsC x).drop k).take (x.length - k)=intsC (x.drop k):=by rw [drop_intsC];exact List.take_of_length_le (by rw [len_intsC,List.length_drop];exact Nat.le_refl _)
  simp only [e1,tk1,go_sem,↓reduceIte,Nat.reduceEqDiff,Nat.reduceAdd,reduceCtorEq]
  refine RN ?_
  have e2:((k:Int) - 0).toNat=k:=by omega
  have tk2:(intsC x).take k=intsC (x.take k):=take_intsC x k
  have tk3:(i64 (x.length:Int) :: intsC (x.drop k)).take (1+(x.length - k))=intsC ((x.length:Int) :: x.drop k):=by
   rw [List.take_of_length_le (by simp [len_intsC];omega)];simp [intsC]
  simp only [e2,tk2,tk3,go_sem,↓reduceIte,Nat.reduceEqDiff,Nat.reduceAdd,reduceCtorEq]
  refine RN ?_
  have hkx:k≤x.length:=by omega
  have hln:(x.take k++((x.length:Int) :: x.drop k)).length=x.length+1:=by simp;omega
  have tk4:(intsC (x.take k)).take k=intsC (x.take k):=List.take_of_length_le (by rw [len_intsC];simp;omega)
  refine ⟨(a3,b3,x.take k++((x.length:Int) :: x.drop k)),⟨r1,by dsimp only;rw [hln];omega⟩,by dsimp only;rw [hln];omega,?_⟩
  dsimp only
  rw [hln]
  refine Ref.gc [0,6] rfl ?_ ?_
  ·simp only [go_sem,↓reduceIte,Nat.reduceEqDiff,Nat.reduceAdd,reduceCtorEq]
   rw [tk4,rnmL_ints,app_intsC]
  ·have e3:k+(1+(x.length - k))=x.length+1:=by omega
   simp [sub,fget,go_sem,↓reduceIte,Nat.reduceEqDiff,Nat.reduceAdd,reduceCtorEq,e3]
 ·(refine RN ?_;try with_reducible exact trivial)
  exact ⟨(a2,b2,x),⟨h1,by dsimp only;omega⟩,Ref.gc1 [0,1]⟩
def IsRot (r:List Int):Prop:=2≤r.length∧r.length%2=0∧r.length≤200∧IsPrm r
theorem isRotation_c (r:List Int)(hl:r.length≤1048576):Pure Tryz.prog 10 [ints r] (bl (decide (IsRot r))) []:=by
 have hp:=l01Perm_c r (by omega)
 have e3:((r.length:Int)).tmod 2=((r.length%2:Nat):Int):=by rw [Int.tmod_eq_emod_of_nonneg (by omega)];rfl
 refine pureV0 ok10 rfl rfl ?_;unfold c10
 (refine RN ?_;try with_reducible exact trivial)
 (try simp only [e3,go_sem,↓reduceIte,Nat.reduceEqDiff,Nat.reduceAdd,reduceCtorEq])
 refine GC1 (bl (decide (IsPrm r)) ) (fun hg =>  hp) ?_
 refine RN ?_
 congr 2
 rw [Bool.eq_iff_iff,decide_eq_true_eq]
 simp only [IsRot,Bool.and_eq_true,decide_eq_true_eq,beq_iff_eq]
 constructor
 ·rintro ⟨⟨⟨h1,h2⟩,h3⟩,h4⟩
  exact ⟨by omega,by omega,by omega,h4⟩
 ·rintro ⟨h1,h2,h3,h4⟩
  exact ⟨⟨⟨by omega,by omega⟩,by omega⟩,h4⟩
theorem mapOfRotation_c (r:List Int)(hl:r.length≤1048576):PureE Tryz.prog 7 [ints r] (fun o:List (List Int)×Int=>(o.2=0→o.1.length=3∧∀ p∈o.1,p.length=2*r.length)) (fun o=>.tup [if o.2=0 then maniA o.1 else .agg [nilS],i64 o.2]) (fun _=>[]):=by
 have hi:=isRotation_c r hl
 refine pureREV ok7 rfl ?_;unfold c7
 refine RN ?_
 refine pureC1 (hi) ?_
 refine RN ?_
 refine ⟨fun hr=>?_,fun hr=>?_⟩
 ·(refine RN ?_;try with_reducible exact trivial)
  exact ⟨([],1),fun h=>absurd h (by decide),Ref.gc1 []⟩
 ·obtain ⟨h2,hev,h200,hprm⟩:=hr
  have hc2:(2*(r.length:Int)).toNat=2*r.length:=by omega
  refine RN ?_
  refine V_altsS [(0,ints r),(2,.ref 0 0),(3,i64 0),(4,i64 (r.length:Int)),(5,.ref 1 0)] [some [nilS],some [.sl 5 1 0 3],some (intsC (List.replicate (2*r.length) 0)),some (intsC (List.replicate (2*r.length) 0)),some (intsC (List.replicate (2*r.length) 0)),some [.sl 2 1 0 (2*r.length),.sl 3 1 0 (2*r.length),.sl 4 1 0 (2*r.length)]] ?_ ?_
  ·(repeat' first | simp only [go_sem,↓reduceIte,Nat.reduceEqDiff,Nat.reduceAdd,reduceCtorEq] | with_reducible refine LT_reg ?_ | with_reducible refine LT_regz1 ?_ | with_reducible refine LT_fin ?_ | with_reducible exact LT_tt | with_reducible refine LT_alt ?_ ?_ | (with_reducible refine And.intro ?_ ?_;focus first | assumption | omega | grind))
   all_goals rw [hc2]
   all_goals first
    | (refine Ref.gc [0,1,2,3,4,5] rfl ?_ ?_;(focus simp only [go_sem,↓reduceIte,Nat.reduceEqDiff,Nat.reduceAdd,reduceCtorEq]<;>rfl);(simp [sub,fget,go_sem,↓reduceIte,Nat.reduceEqDiff,Nat.reduceAdd,reduceCtorEq];done))
    | (refine Ref.gc [0,1,2,4,3,5] rfl ?_ ?_;(focus simp only [go_sem,↓reduceIte,Nat.reduceEqDiff,Nat.reduceAdd,reduceCtorEq]<;>rfl);(simp [sub,fget,go_sem,↓reduceIte,Nat.reduceEqDiff,Nat.reduceAdd,reduceCtorEq];done))
    | (refine Ref.gc [0,1,3,2,4,5] rfl ?_ ?_;(focus simp only [go_sem,↓reduceIte,Nat.reduceEqDiff,Nat.reduceAdd,reduceCtorEq]<;>rfl);(simp [sub,fget,go_sem,↓reduceIte,Nat.reduceEqDiff,Nat.reduceAdd,reduceCtorEq];done))
    | (refine Ref.gc [0,1,3,4,2,5] rfl ?_ ?_;(focus simp only [go_sem,↓reduceIte,Nat.reduceEqDiff,Nat.reduceAdd,reduceCtorEq]<;>rfl);(simp [sub,fget,go_sem,↓reduceIte,Nat.reduceEqDiff,Nat.reduceAdd,reduceCtorEq];done))
    | (refine Ref.gc [0,1,4,2,3,5] rfl ?_ ?_;(focus simp only [go_sem,↓reduceIte,Nat.reduceEqDiff,Nat.reduceAdd,reduceCtorEq]<;>rfl);(simp [sub,fget,go_sem,↓reduceIte,Nat.reduceEqDiff,Nat.reduceAdd,reduceCtorEq];done))
    | (refine Ref.gc [0,1,4,3,2,5] rfl ?_ ?_;(focus simp only [go_sem,↓reduceIte,Nat.reduceEqDiff,Nat.reduceAdd,reduceCtorEq]<;>rfl);(simp [sub,fget,go_sem,↓reduceIte,Nat.reduceEqDiff,Nat.reduceAdd,reduceCtorEq];done))
    | (refine Ref.gc [0,2,1,3,4,5] rfl ?_ ?_;(focus simp only [go_sem,↓reduceIte,Nat.reduceEqDiff,Nat.reduceAdd,reduceCtorEq]<;>rfl);(simp [sub,fget,go_sem,↓reduceIte,Nat.reduceEqDiff,Nat.reduceAdd,reduceCtorEq];done))
    | (refine Ref.gc [0,2,1,4,3,5] rfl ?_ ?_;(focus simp only [go_sem,↓reduceIte,Nat.reduceEqDiff,Nat.reduceAdd,reduceCtorEq]<;>rfl);(simp [sub,fget,go_sem,↓reduceIte,Nat.reduceEqDiff,Nat.reduceAdd,reduceCtorEq];done))
    | (refine Ref.gc [0,2,3,1,4,5] rfl ?_ ?_;(focus simp only [go_sem,↓reduceIte,Nat.reduceEqDiff,Nat.reduceAdd,reduceCtorEq]<;>rfl);(simp [sub,fget,go_sem,↓reduceIte,Nat.reduceEqDiff,Nat.reduceAdd,reduceCtorEq];done))
    | (refine Ref.gc [0,2,3,4,1,5] rfl ?_ ?_;(focus simp only [go_sem,↓reduceIte,Nat.reduceEqDiff,Nat.reduceAdd,reduceCtorEq]<;>rfl);(simp [sub,fget,go_sem,↓reduceIte,Nat.reduceEqDiff,Nat.reduceAdd,reduceCtorEq];done))
    | (refine Ref.gc [0,2,4,1,3,5] rfl ?_ ?_;(focus simp only [go_sem,↓reduceIte,Nat.reduceEqDiff,Nat.reduceAdd,reduceCtorEq]<;>rfl);(simp [sub,fget,go_sem,↓reduceIte,Nat.reduceEqDiff,Nat.reduceAdd,reduceCtorEq];done))
    | (refine Ref.gc [0,2,4,3,1,5] rfl ?_ ?_;(focus simp only [go_sem,↓reduceIte,Nat.reduceEqDiff,Nat.reduceAdd,reduceCtorEq]<;>rfl);(simp [sub,fget,go_sem,↓reduceIte,Nat.reduceEqDiff,Nat.reduceAdd,reduceCtorEq];done))
    | (refine Ref.gc [0,3,1,2,4,5] rfl ?_ ?_;(focus simp only [go_sem,↓reduceIte,Nat.reduceEqDiff,Nat.reduceAdd,reduceCtorEq]<;>rfl);(simp [sub,fget,go_sem,↓reduceIte,Nat.reduceEqDiff,Nat.reduceAdd,reduceCtorEq];done))
    | (refine Ref.gc [0,3,1,4,2,5] rfl ?_ ?_;(focus simp only [go_sem,↓reduceIte,Nat.reduceEqDiff,Nat.reduceAdd,reduceCtorEq]<;>rfl);(simp [sub,fget,go_sem,↓reduceIte,Nat.reduceEqDiff,Nat.reduceAdd,reduceCtorEq];done))
    | (refine Ref.gc [0,3,2,1,4,5] rfl ?_ ?_;(focus simp only [go_sem,↓reduceIte,Nat.reduceEqDiff,Nat.reduceAdd,reduceCtorEq]<;>rfl);(simp [sub,fget,go_sem,↓reduceIte,Nat.reduceEqDiff,Nat.reduceAdd,reduceCtorEq];done))
    | (refine Ref.gc [0,3,2,4,1,5] rfl ?_ ?_;(focus simp only [go_sem,↓reduceIte,Nat.reduceEqDiff,Nat.reduceAdd,reduceCtorEq]<;>rfl);(simp [sub,fget,go_sem,↓reduceIte,Nat.reduceEqDiff,Nat.reduceAdd,reduceCtorEq];done))
    | (refine Ref.gc [0,3,4,1,2,5] rfl ?_ ?_;(focus simp only [go_sem,↓reduceIte,Nat.reduceEqDiff,Nat.reduceAdd,reduceCtorEq]<;>rfl);(simp [sub,fget,go_sem,↓reduceIte,Nat.reduceEqDiff,Nat.reduceAdd,reduceCtorEq];done))
    | (refine Ref.gc [0,3,4,2,1,5] rfl ?_ ?_;(focus simp only [go_sem,↓reduceIte,Nat.reduceEqDiff,Nat.reduceAdd,reduceCtorEq]<;>rfl);(simp [sub,fget,go_sem,↓reduceIte,Nat.reduceEqDiff,Nat.reduceAdd,reduceCtorEq];done))
    | (refine Ref.gc [0,4,1,2,3,5] rfl ?_ ?_;(focus simp only [go_sem,↓reduceIte,Nat.reduceEqDiff,Nat.reduceAdd,reduceCtorEq]<;>rfl);(simp [sub,fget,go_sem,↓reduceIte,Nat.reduceEqDiff,Nat.reduceAdd,reduceCtorEq];done))
    | (refine Ref.gc [0,4,1,3,2,5] rfl ?_ ?_;(focus simp only [go_sem,↓reduceIte,Nat.reduceEqDiff,Nat.reduceAdd,reduceCtorEq]<;>rfl);(simp [sub,fget,go_sem,↓reduceIte,Nat.reduceEqDiff,Nat.reduceAdd,reduceCtorEq];done))
    | (refine Ref.gc [0,4,2,1,3,5] rfl ?_ ?_;(focus simp only [go_sem,↓reduceIte,Nat.reduceEqDiff,Nat.reduceAdd,reduceCtorEq]<;>rfl);(simp [sub,fget,go_sem,↓reduceIte,Nat.reduceEqDiff,Nat.reduceAdd,reduceCtorEq];done))
    | (refine Ref.gc [0,4,2,3,1,5] rfl ?_ ?_;(focus simp only [go_sem,↓reduceIte,Nat.reduceEqDiff,Nat.reduceAdd,reduceCtorEq]<;>rfl);(simp [sub,fget,go_sem,↓reduceIte,Nat.reduceEqDiff,Nat.reduceAdd,reduceCtorEq];done))
    | (refine Ref.gc [0,4,3,1,2,5] rfl ?_ ?_;(focus simp only [go_sem,↓reduceIte,Nat.reduceEqDiff,Nat.reduceAdd,reduceCtorEq]<;>rfl);(simp [sub,fget,go_sem,↓reduceIte,Nat.reduceEqDiff,Nat.reduceAdd,reduceCtorEq];done))
    | (refine Ref.gc [0,4,3,2,1,5] rfl ?_ ?_;(focus simp only [go_sem,↓reduceIte,Nat.reduceEqDiff,Nat.reduceAdd,reduceCtorEq]<;>rfl);(simp [sub,fget,go_sem,↓reduceIte,Nat.reduceEqDiff,Nat.reduceAdd,reduceCtorEq];done))
    | (refine Ref.gc [0,5,1,2,3,4] rfl ?_ ?_;(focus simp only [go_sem,↓reduceIte,Nat.reduceEqDiff,Nat.reduceAdd,reduceCtorEq]<;>rfl);(simp [sub,fget,go_sem,↓reduceIte,Nat.reduceEqDiff,Nat.reduceAdd,reduceCtorEq];done))
    | (refine Ref.gc [0,5,1,3,2,4] rfl ?_ ?_;(focus simp only [go_sem,↓reduceIte,Nat.reduceEqDiff,Nat.reduceAdd,reduceCtorEq]<;>rfl);(simp [sub,fget,go_sem,↓reduceIte,Nat.reduceEqDiff,Nat.reduceAdd,reduceCtorEq];done))
    | (refine Ref.gc [0,5,2,1,3,4] rfl ?_ ?_;(focus simp only [go_sem,↓reduceIte,Nat.reduceEqDiff,Nat.reduceAdd,reduceCtorEq]<;>rfl);(simp [sub,fget,go_sem,↓reduceIte,Nat.reduceEqDiff,Nat.reduceAdd,reduceCtorEq];done))
    | (refine Ref.gc [0,5,2,3,1,4] rfl ?_ ?_;(focus simp only [go_sem,↓reduceIte,Nat.reduceEqDiff,Nat.reduceAdd,reduceCtorEq]<;>rfl);(simp [sub,fget,go_sem,↓reduceIte,Nat.reduceEqDiff,Nat.reduceAdd,reduceCtorEq];done))
    | (refine Ref.gc [0,5,3,1,2,4] rfl ?_ ?_;(focus simp only [go_sem,↓reduceIte,Nat.reduceEqDiff,Nat.reduceAdd,reduceCtorEq]<;>rfl);(simp [sub,fget,go_sem,↓reduceIte,Nat.reduceEqDiff,Nat.reduceAdd,reduceCtorEq];done))
    | (refine Ref.gc [0,5,3,2,1,4] rfl ?_ ?_;(focus simp only [go_sem,↓reduceIte,Nat.reduceEqDiff,Nat.reduceAdd,reduceCtorEq]<;>rfl);(simp [sub,fget,go_sem,↓reduceIte,Nat.reduceEqDiff,Nat.reduceAdd,reduceCtorEq];done))
  refine RN ?_
  refine V_loop (α:=Nat×List Int×List Int×List Int) (S:=fun o=>([(0,ints r),(2,.ref 0 0),(3,i64 0),(4,i64 (r.length:Int)),(5,.ref 1 0),(6,i64 (o.1:Int))],[some [nilS],some [.sl 5 1 0 3],some (intsC o.2.1),some (intsC o.2.2.1),some (intsC o.2.2.2),some [.sl 2 1 0 (2*r.length),.sl 3 1 0 (2*r.length),.sl 4 1 0 (2*r.length)]])) (C:=fun o=>o.1≤r.length∧o.2.1.length=2*r.length∧o.2.2.1.length=2*r.length∧o.2.2.2.length=2*r.length) (μ:=fun o=>r.length - o.1) (0,List.replicate (2*r.length) 0,List.replicate (2*r.length) 0,List.replicate (2*r.length) 0) ⟨Nat.zero_le _,by simp,by simp,by simp⟩ (Ref.to1) ?_
  rintro ⟨d,A,B,C⟩ ⟨g1,g2,g3,g4⟩
  dsimp only at g1 g2 g3 g4 ⊢
  refine RN ?_
  refine ⟨fun hc=>?_,fun hc=>?_⟩
  ·have hat:=hprm.at (k:=d) (by omega)
   have e3:(d:Int).tmod 2=(d:Int)%2:=Int.tmod_eq_emod_of_nonneg (by omega)
   have e4:((2*(d:Int)+1)).toNat=2*d+1:=by omega
   have e5:((2*(d:Int))).toNat=2*d:=by omega
   refine RN ?_
   exact ⟨(d+1,_,_,_),⟨by dsimp only;omega,by simp [g2],by simp [g3],by simp [g4]⟩,by dsimp only;omega,Ref.to (rfl) (by simp [sub,fget])⟩
  ·obtain rfl:d=r.length:=by omega
   have tA:(intsC A).take (2*r.length)=intsC A:=List.take_of_length_le (by rw [len_intsC];omega)
   have tB:(intsC B).take (2*r.length)=intsC B:=List.take_of_length_le (by rw [len_intsC];omega)
   have tC:(intsC C).take (2*r.length)=intsC C:=List.take_of_length_le (by rw [len_intsC];omega)
   have hM:AV.agg [.slc 1 3 [.slc 1 (2*r.length) (intsC A),.slc 1 (2*r.length) (intsC B),.slc 1 (2*r.length) (intsC C)]]=maniA [A,B,C]:=by simp [maniA,mat,ints,intsC,g2,g3,g4]
   refine RN ?_
   refine pureC2 (l14Is_c [A,B,C] (by simp) (by intro p hp;simp at hp;rcases hp with rfl | rfl | rfl<;>omega)) (by simp only [go_sem,↓reduceIte,Nat.reduceEqDiff,Nat.reduceAdd,reduceCtorEq,tA,tB,tC,hM]<;>rfl) ?_
   refine RN ?_
   refine ⟨fun hm=>?_,fun hm=>?_⟩
   ·(refine RN ?_;try with_reducible exact trivial)
    exact ⟨([],5),fun h=>absurd h (by decide),Ref.gc1 []⟩
   ·(refine RN ?_;try with_reducible exact trivial)
    refine ⟨([A,B,C],0),fun _=>⟨rfl,by intro p hp;simp at hp;rcases hp with rfl | rfl | rfl<;>omega⟩,Ref.sel [] rfl (by simp only [go_sem,↓reduceIte,Nat.reduceEqDiff,Nat.reduceAdd,reduceCtorEq]) ?_⟩
    simp [sub,fget,go_sem,↓reduceIte,Nat.reduceEqDiff,Nat.reduceAdd,reduceCtorEq,tA,tB,tC,hM]
end
section
open Go.Gov Go.Ce
open Classical
theorem Gd.mono {m n:Nat}{M:List (List Int)}(h:Gd m M)(hn:m≤n):Gd n M:=⟨h.1,fun p hp=>Nat.le_trans (h.2 p hp) (by omega)⟩
theorem Gd.nil (n:Nat):Gd n []:=⟨by simp,fun p hp=>by simp at hp⟩
theorem gd_man {M:List (List Int)}(h:IsMan M):Gd 400 M:=by
 refine ⟨by have:=h.r5;omega,fun p hp=>?_⟩
 obtain ⟨k,hk,rfl⟩:=List.mem_iff_getElem.1 hp
 have h1:=(h.rows k hk).1
 rw [show M.getD k []=M[k] by simp [hk]] at h1
 have:=h.f4
 omega
theorem up_gd {a b:Nat}(h:uniC a b=0):IsMan (uniT a b):=by
 unfold uniC at h
 split at h
 ·split at h
  ·rename_i h2;exact h2
  ·cases h
 ·cases h
theorem up_ex (a b:Nat)(ha:2≤a∧a≤32)(hb:2≤b∧b≤32):∃ (M:List (List Int)) (c:Int),(c=0→IsMan M)∧Pure Tryz.prog 73 [ints [(a:Int),(b:Int)],nilS] (.tup [if c=0 then maniA M else .agg [nilS],i64 c]) []:=
 ⟨uniT a b,uniC a b,up_gd,universalPolytope_p a b ha hb⟩
theorem l14DrawSolid_w (bs : List Int) (hb : Byt bs) (a : Nat) (h : Int) (hs : a ≤ bs.length) (most : Nat) (hm1 : 16 ≤ most) (hm2 : most ≤ 400) :
    WriE Tryz.prog 64 [.ref 0 0,i64 (most:Int)] [some (srcC bs a h)] (fun o:Nat×Int×List (List Int)=>o.1≤bs.length∧Gd 400 o.2.2) (fun o=>maniA o.2.2) (fun o=>[some (srcC bs o.1 o.2.1)]):=by
 refine wriREV ok64 rfl ?_;unfold c64
 refine RN ?_
 refine wriEF (l01Next_w bs hb a h hs 4) [0] (by first | rfl | simp) (by simp only [go_sem,↓reduceIte,Nat.reduceEqDiff,Nat.reduceAdd,reduceCtorEq]<;>rfl) (by simp only [go_sem,↓reduceIte,Nat.reduceEqDiff,Nat.reduceAdd,reduceCtorEq]<;>rfl) fun o ho=>?_
 obtain ⟨a1,b1,k⟩:=o
 obtain ⟨h1,h2,h3⟩:=ho
 dsimp only at h1 h2 h3
 obtain ⟨k,rfl⟩:=Int.eq_ofNat_of_zero_le h2
 simp only [go_sem,↓reduceIte,Nat.reduceEqDiff,Nat.reduceAdd,reduceCtorEq]
 refine W_joinQ (fun o:Nat×Int=>o.1≤bs.length) (fun o=>[(0,.ref 0 0),(1,i64 (most:Int)),(4,.ref 1 0)]) (fun o=>[some (srcC bs o.1 o.2),some [nilS]]) ?_ ?_
 ·(refine RN ?_;try with_reducible exact trivial)
  refine ⟨fun c0=>?_,fun c0=>?_⟩
  ·(refine RN ?_;try with_reducible exact trivial)
   refine wriEF (l01Next_w bs hb a1 b1 h1 8) [0] (by first | rfl | simp) (by simp only [go_sem,↓reduceIte,Nat.reduceEqDiff,Nat.reduceAdd,reduceCtorEq]<;>rfl) (by simp only [go_sem,↓reduceIte,Nat.reduceEqDiff,Nat.reduceAdd,reduceCtorEq]<;>rfl) fun o ho=>?_
   obtain ⟨a2,b2,j⟩:=o
   obtain ⟨q1,q2,q3⟩:=ho
   dsimp only at q1 q2 q3
   obtain ⟨j,rfl⟩:=Int.eq_ofNat_of_zero_le q2
   have hj:j=0∨j=1∨j=2∨j=3∨j=4∨j=5∨j=6∨j=7:=by omega
   rcases hj with rfl | rfl | rfl | rfl | rfl | rfl | rfl | rfl
   all_goals (refine RN ?_;try with_reducible exact trivial)
   all_goals first
    | (obtain ⟨M,c,hMc,hu⟩:=up_ex 3 3 (by decide) (by decide);refine CallsX.ice 2 ?_;refine call_pureG hu ?_ ?_;(focus (simp only [go_sem,↓reduceIte,Nat.reduceEqDiff,Nat.reduceAdd,reduceCtorEq]<;>rfl)))
    | (obtain ⟨M,c,hMc,hu⟩:=up_ex 3 3 (by decide) (by decide);refine CallsX.ice 3 ?_;refine call_pureG hu ?_ ?_;(focus (simp only [go_sem,↓reduceIte,Nat.reduceEqDiff,Nat.reduceAdd,reduceCtorEq]<;>rfl)))
    | (obtain ⟨M,c,hMc,hu⟩:=up_ex 4 3 (by decide) (by decide);refine CallsX.ice 4 ?_;refine call_pureG hu ?_ ?_;(focus (simp only [go_sem,↓reduceIte,Nat.reduceEqDiff,Nat.reduceAdd,reduceCtorEq]<;>rfl)))
    | (obtain ⟨M,c,hMc,hu⟩:=up_ex 3 4 (by decide) (by decide);refine CallsX.ice 5 ?_;refine call_pureG hu ?_ ?_;(focus (simp only [go_sem,↓reduceIte,Nat.reduceEqDiff,Nat.reduceAdd,reduceCtorEq]<;>rfl)))
    | (obtain ⟨M,c,hMc,hu⟩:=up_ex 2 3 (by decide) (by decide);refine CallsX.ice 6 ?_;refine call_pureG hu ?_ ?_;(focus (simp only [go_sem,↓reduceIte,Nat.reduceEqDiff,Nat.reduceAdd,reduceCtorEq]<;>rfl)))
    | (obtain ⟨M,c,hMc,hu⟩:=up_ex 4 2 (by decide) (by decide);refine CallsX.ice 7 ?_;refine call_pureG hu ?_ ?_;(focus (simp only [go_sem,↓reduceIte,Nat.reduceEqDiff,Nat.reduceAdd,reduceCtorEq]<;>rfl)))
    | (obtain ⟨M,c,hMc,hu⟩:=up_ex 5 2 (by decide) (by decide);refine CallsX.ice 8 ?_;refine call_pureG hu ?_ ?_;(focus (simp only [go_sem,↓reduceIte,Nat.reduceEqDiff,Nat.reduceAdd,reduceCtorEq]<;>rfl)))
    | (obtain ⟨M,c,hMc,hu⟩:=up_ex 2 6 (by decide) (by decide);refine CallsX.ice 9 ?_;refine call_pureG hu ?_ ?_;(focus (simp only [go_sem,↓reduceIte,Nat.reduceEqDiff,Nat.reduceAdd,reduceCtorEq]<;>rfl)))
   all_goals
    rcases Classical.em (c=0) with e | e
    ·have hman:=hMc e
     rw [if_pos e,e]
     have m1:=hman.r1
     have m5:=hman.r5
     have f4:=hman.f4
     unfold fl at f4
     have hf:=l02Flags_c M (by omega) (by omega) (by omega)
     refine RN ?_
     refine GCall.on rfl ?_
     refine pureC1 (hf) ?_
     refine RN ?_
     refine ⟨fun c9=>?_,fun c9=>?_⟩
     ·(refine RN ?_;try with_reducible exact trivial)
      exact ⟨(a2,b2,M),⟨q1,gd_man hman⟩,Ref.gc2 [0]⟩
     ·(refine RN ?_;try with_reducible exact trivial)
      exact ⟨(a2,b2),q1,Ref.gc2 [0,1]⟩
    ·rw [if_neg e]
     have dc:(c == 0)=false:=by simp [e]
     have nc:(c=0)=False:=eq_false e
     refine RN ?_
     simp only [dc]
     refine GCall_no (i64 0) rfl ?_
     simp only [go_sem,↓reduceIte,Nat.reduceEqDiff,Nat.reduceAdd,reduceCtorEq,dc,nc,false_implies]
     refine RN ?_
     exact ⟨(a2,b2),q1,Ref.gc2 [0,1]⟩
  ·(refine RN ?_;try with_reducible exact trivial)
   refine ⟨fun c1=>?_,fun c1=>?_⟩
   ·have hq : ∃ q : Nat, 1 ≤ q ∧ q ≤ 8 ∧ (if (8 : Int) < (most : Int).tdiv 4 then 8 else (most : Int).tdiv 4) = (q : Int) := by
      have eq4:(most:Int).tdiv 4=((most / 4:Nat):Int):=by rw [Int.tdiv_eq_ediv_of_nonneg (by omega)];rfl
      rw [eq4]
      split
      ·exact ⟨8,by omega,by omega,rfl⟩
      ·exact ⟨most / 4,by omega,by omega,rfl⟩
    obtain ⟨q,q1,q2,hq⟩:=hq
    refine RN ?_
    simp only [hq]
    refine wriEF (l14DrawRotation_w bs hb a1 b1 h1 q q1 (by omega)) [0] (by first | rfl | simp) (by simp only [go_sem,↓reduceIte,Nat.reduceEqDiff,Nat.reduceAdd,reduceCtorEq]<;>rfl) (by simp only [go_sem,↓reduceIte,Nat.reduceEqDiff,Nat.reduceAdd,reduceCtorEq]<;>rfl) fun o ho=>?_
    obtain ⟨a2,b2,x⟩:=o
    obtain ⟨r1,r2⟩:=ho
    dsimp only at r1 r2
    refine RN ?_
    refine CallsX.ice 2 ?_
    have hxl:(intsC x).take x.length=intsC x:=List.take_of_length_le (by rw [len_intsC];omega)
    refine pureEG (mapOfRotation_c x (by omega)) (by simp only [go_sem,↓reduceIte,Nat.reduceEqDiff,Nat.reduceAdd,reduceCtorEq,hxl]<;>rfl) fun o ho=>?_
    obtain ⟨M,c⟩:=o
    dsimp only at ho ⊢
    rcases Classical.em (c=0) with e | e
    ·subst e
     obtain ⟨m3,mr⟩:=ho rfl
     rw [if_pos rfl]
     refine RN ?_
     refine ⟨(a2,b2,M),⟨r1,by dsimp only;omega,fun p hp=>?_⟩,Ref.gc2 [0]⟩
     have:=mr p hp
     omega
    ·have dc:(c == 0)=false:=by simp [e]
     have nc:(c=0)=False:=eq_false e
     rw [if_neg e]
     refine RN ?_
     simp only [dc,nc]
     refine RN ?_
     exact ⟨(a2,b2),r1,Ref.gc2 [0,1]⟩
   ·(refine RN ?_;try with_reducible exact trivial)
    exact ⟨(a1,b1),h1,Ref.to1⟩
 ·rintro ⟨a2,b2⟩ q1
  dsimp only at q1 ⊢
  refine RN ?_
  refine V_loop (α:=Nat×Nat×Int) (S:=fun o=>([(0,.ref 0 0),(1,i64 (most:Int)),(4,.ref 1 0),(11,i64 (o.1:Int))],[some (srcC bs o.2.1 o.2.2),some [nilS]])) (C:=fun o=>o.1≤20∧o.2.1≤bs.length) (μ:=fun o=>20 - o.1) (0,a2,b2) ⟨Nat.zero_le _,q1⟩ (Ref.to1) ?_
  clear a2 b2 q1
  rintro ⟨i,a2,b2⟩ ⟨h4,q1⟩
  dsimp only at h4 q1 ⊢
  refine RN ?_
  refine ⟨fun hc=>?_,fun hc=>?_⟩
  ·(refine RN ?_;try with_reducible exact trivial)
   refine wriEF (l02Draw_w bs hb a2 b2 q1 most hm1 (by omega)) [0] (by first | rfl | simp) (by simp only [go_sem,↓reduceIte,Nat.reduceEqDiff,Nat.reduceAdd,reduceCtorEq]<;>rfl) (by simp only [go_sem,↓reduceIte,Nat.reduceEqDiff,Nat.reduceAdd,reduceCtorEq]<;>rfl) fun o ho=>?_
   obtain ⟨a3,b3,n,L⟩:=o
   obtain ⟨g1,g2,g3,g4,g5,g6⟩:=ho
   dsimp only at g1 g2 g3 g4 g5 g6 ⊢
   have hrow:∀ p∈L,p.length=n:=fun p hp=>by
    obtain ⟨k,hk,rfl⟩:=List.mem_iff_getElem.1 hp
    have:=(g6 k hk).1
    rwa [show L.getD k []=L[k] by simp [hk]] at this
   have his:=l14Is_c L (by omega) (fun p hp=>by rw [hrow p hp];omega)
   refine RN ?_
   refine pureC his (by simp only [go_sem,↓reduceIte,Nat.reduceEqDiff,Nat.reduceAdd,reduceCtorEq,frz_im _ _ L L.length rfl]<;>first | done | (simp only [maniA,mat]<;>rfl)) (by first | rfl | simp only [go_sem,↓reduceIte,Nat.reduceEqDiff,Nat.reduceAdd,reduceCtorEq]) ?_
   refine RN ?_
   refine ⟨fun hm=>?_,fun hm=>?_⟩
   ·(refine RN ?_;try with_reducible exact trivial)
    refine ⟨(a3,b3,L),⟨g1,by dsimp only;omega,fun p hp=>by rw [hrow p hp];omega⟩,Ref.sel [0] rfl (by simp only [go_sem,↓reduceIte,Nat.reduceEqDiff,Nat.reduceAdd,reduceCtorEq]) ?_⟩
    simp only [sub,List.all_cons,List.all_nil,go_sem,↓reduceIte,Nat.reduceEqDiff,Nat.reduceAdd,reduceCtorEq]
    (try rw [List.take_of_length_le (show (List.map oints L).length≤L.length by simp),map_frz_orows])
    (try simp [maniA,mat])
   ·(refine RN ?_;try with_reducible exact trivial)
    exact ⟨(i+1,a3,b3),⟨by dsimp only;omega,g1⟩,by dsimp only;omega,Ref.gc2 [0,1]⟩
  ·(refine RN ?_;try with_reducible exact trivial)
   have hu:=universalPolytope_p 2 2 (by decide) (by decide)
   refine CallsX.ice 2 ?_
   refine call_pureG (hu) (by simp only [go_sem,↓reduceIte,Nat.reduceEqDiff,Nat.reduceAdd,reduceCtorEq]<;>rfl) ?_
   rcases Classical.em (uniC 2 2=0) with e | e
   ·have hman:=up_gd e
    rw [if_pos e]
    refine RN ?_
    exact ⟨(a2,b2,uniT 2 2),⟨q1,gd_man hman⟩,Ref.gc2 [0]⟩
   ·rw [if_neg e]
    refine RN ?_
    refine ⟨(a2,b2,[]),⟨q1,Gd.nil _⟩,(Ref.nilA 0 1 rfl).trans (Ref.gc [0] rfl (by simp only [go_sem,↓reduceIte,Nat.reduceEqDiff,Nat.reduceAdd,reduceCtorEq]<;>rfl) ?_)⟩
    simp [sub,fget,go_sem,↓reduceIte,Nat.reduceEqDiff,Nat.reduceAdd,reduceCtorEq,maniA,mat]
theorem l14Draw_w (bs : List Int) (hb : Byt bs) (a : Nat) (h : Int) (hs : a ≤ bs.length) (most : Nat) (hm1 : 16 ≤ most) (hm2 : most ≤ 400) :
    WriE Tryz.prog 52 [.ref 0 0,i64 (most:Int)] [some (srcC bs a h)] (fun o:Nat×Int×List (List Int)=>o.1≤bs.length∧Gd 401 o.2.2) (fun o=>maniA o.2.2) (fun o=>[some (srcC bs o.1 o.2.1)]):=by
 refine wriREV ok52 rfl ?_;unfold c52
 refine RN ?_
 refine wriEF (l01Next_w bs hb a h hs 12) [0] (by first | rfl | simp) (by simp only [go_sem,↓reduceIte,Nat.reduceEqDiff,Nat.reduceAdd,reduceCtorEq]<;>rfl) (by simp only [go_sem,↓reduceIte,Nat.reduceEqDiff,Nat.reduceAdd,reduceCtorEq]<;>rfl) fun o ho=>?_
 obtain ⟨a1,b1,k⟩:=o
 obtain ⟨h1,h2,h3⟩:=ho
 dsimp only at h1 h2 h3
 refine RN ?_
 refine ⟨fun c0=>?_,fun c0=>?_⟩
 ·(refine RN ?_;try with_reducible exact trivial)
  refine wriEF (l02Spoil_w bs hb a1 b1 h1 most hm1 (by omega)) [0] (by first | rfl | simp) (by simp only [go_sem,↓reduceIte,Nat.reduceEqDiff,Nat.reduceAdd,reduceCtorEq]<;>rfl) (by simp only [go_sem,↓reduceIte,Nat.reduceEqDiff,Nat.reduceAdd,reduceCtorEq]<;>rfl) fun o ho=>?_
  obtain ⟨a2,b2,M⟩:=o
  obtain ⟨g1,g2⟩:=ho
  dsimp only at g1 g2
  refine RN ?_
  exact ⟨(a2,b2,M),⟨g1,g2.mono (by omega)⟩,Ref.gc2 [0]⟩
 ·(refine RN ?_;try with_reducible exact trivial)
  refine wriEF (l14DrawSolid_w bs hb a1 b1 h1 most hm1 hm2) [0] (by first | rfl | simp) (by simp only [go_sem,↓reduceIte,Nat.reduceEqDiff,Nat.reduceAdd,reduceCtorEq]<;>rfl) (by simp only [go_sem,↓reduceIte,Nat.reduceEqDiff,Nat.reduceAdd,reduceCtorEq]<;>rfl) fun o ho=>?_
  obtain ⟨a2,b2,M⟩:=o
  obtain ⟨g1,g2⟩:=ho
  dsimp only at g1 g2
  refine RN ?_
  exact ⟨(a2,b2,M),⟨g1,g2.mono (by omega)⟩,Ref.gc2 [0]⟩
theorem drawIsMap_e (bs:List Int)(hb:Byt bs):PureE Tryz.prog 32 [bytA' bs] (fun M:List (List Int)=>Gd 401 M) (fun M=>maniA M) (fun _=>[]):=by
 have hl:=l01From_p bs hb
 unfold bytA' at *
 refine pureREV ok32 rfl ?_;unfold c32
 refine RN ?_
 refine pureEG hl (by simp only [bytA', go_sem,↓reduceIte,Nat.reduceEqDiff,Nat.reduceAdd,reduceCtorEq]) fun o ho=>?_
 refine RN ?_
 have hd:=l14Draw_w bs hb 0 o (Nat.zero_le _) 48 (by decide) (by decide)
 simp only [Int.cast_ofNat_Int] at hd
 refine wriEF (hd) [1] (by first | rfl | simp) (by simp only [go_sem,↓reduceIte,Nat.reduceEqDiff,Nat.reduceAdd,reduceCtorEq]<;>rfl) (by simp only [go_sem,↓reduceIte,Nat.reduceEqDiff,Nat.reduceAdd,reduceCtorEq]<;>rfl) fun o ho=>?_
 obtain ⟨a2,b2,M⟩:=o
 obtain ⟨g1,g2⟩:=ho
 dsimp only at g1 g2
 refine RN ?_
 exact ⟨M,g2,Ref.gc2 []⟩
end
end Go.Proofs.YtaekhhaaphgndaaGreat
