/- Texts that belong together. -/
import Derived.Test.YtnompobcofhkpaaGreatDoorZq
import Derived.Test.YtnompobcofhkpaaGreatDoorX2
import Derived.Test.YtnompobcofhkpaaGreatDoorR4
import Derived.Test.YtnompobcofhkpaaGreatDoorRn
set_option linter.unusedSimpArgs false
set_option linter.unusedVariables false
set_option maxRecDepth 100000
namespace Go.Proofs.YtnompobcofhkpaaGreatDoor
section
open Go.Gov
open Classical
theorem vU (n:Nat)(hn:n≤1048576):Pure Tryz.prog 165 [Ai,i64 n] (.sl 0 1 0 0) [some []]:=by
 intro g w vals hp hl1 hr
 have h0:=hr 0 (by simp)
 have h1:=hr 1 (by simp)
 simp only [List.getElem_cons_zero,List.getElem_cons_succ] at h0 h1
 have hv:vals = #[.slice none 0 0,.int .i64 n]:=by
  refine Array.ext (by simpa using hl1) fun i h2 h3=>?_
  have e0:=h0.val_inv.1
  have e1:=h1.val_inv.1
  simp only [List.length_cons,List.length_nil] at hl1
  match i,h3 with
  | 0,_=>simpa [h2] using e0
  | 1,_=>simpa [h2] using e1
 subst hv
 have hsl:∀ (g' : Gh) (w' : World) (l:Go.Gov.Loc) (v:Value),g'.ρ 0=l→Ly l 1 0 0 v→v.oneCell' = true→Rd w' (g'.tr [some []]) g'.G (.sl 0 1 0 0) v []:=fun g' w' l v hl hS h1=>by
  have e1:g'.tr [some ([]:List AV)] 0=some (some (l,0)):=by rw [Gh.tr_some (cs:=[]) rfl,hl];rfl
  refine .sl (by rw [e1];rfl) h1 fun l' hl' => ?_
  rw [e1] at hl'
  obtain rfl:=Option.some.inj (Option.some.inj hl')
  exact ⟨by dsimp only;omega,hS⟩
 rcases Nat.eq_zero_or_pos n with rfl | hpos
 ·refine (Any8.slices_Grow_room Tryz.growR none 0 0 0 w (by omega) (by omega) (by omega) (by omega)).mono ?_
  rintro e w' ⟨rfl,rfl⟩
  have hm2:=Sf hp
  exact ⟨_,_,_,_,rfl,hm2,hsl _ _ none _ (by simp [Gh.add]) ⟨rfl,none,rfl⟩ rfl,fun _ _ _=>rfl,rfl,rfl⟩
 ·have hinfo:(Tryz.prog.info? (Tryz.growR_ren.t 25)).bind (fun i=>i.zero.map fun z=>(i.size,i.bytes,z.cells.toList))=some (1,24,[.slice none 0 0]):=by kernel_rfl
  simp only [Option.bind_eq_some_iff,Option.map_eq_some_iff,Prod.mk.injEq] at hinfo
  obtain ⟨i0,hi,z,hz,hsz,hby,hzc⟩:=hinfo
  have hzs:z.cells.size=1:=by rw [← Array.length_toList,hzc];rfl
  refine (Any8.slices_Grow_grow Tryz.growR i0 z hi hz (by omega) none 0 0 n [] w (by omega) (by omega) (by rw [hby];omega) (by omega) (by simp) (fun _=>rfl) (by simp)).mono ?_
  rintro e w' ⟨rfl,rfl⟩
  obtain ⟨ha1,ha2,ha3⟩:=T4 w (.cells (([]:List Value).toArray++Builtin.zeroCells z.cells (0+n - 0)++Builtin.zeroCells z.cells (grownCap w (0+n) 0 (Tryz.growR_ren.t 25) - (0+n))) (Tryz.growR_ren.t 25))
  obtain ⟨g', hm', hρ⟩:=jS hp ha3 (by omega) rfl ⟨rfl,by first | exact Nat.le_refl _ | exact Nat.le_succ _⟩ rfl (fun a=>Q6 w.drew _ _ a) (Nat.le_refl _) (cs:=[]) (fun _=>undef) ha2 (by simp) (fun m hm=>by simp at hm) (fun m hm=>by simp at hm)
  refine ⟨_,g', _,_,rfl,hm', hsl g' _ _ _ hρ ⟨grownCap w (0+n) 0 (Tryz.growR_ren.t 25),by omega,grownCap_le_maxLen w (0+n) 0 _ (by unfold maxLen;omega),?_,.inl (by simp)⟩ rfl,fun _ k hk=>ha3 k hk,rfl,rfl⟩
  have hge:=grownCap_ge w (0+n) 0 (Tryz.growR_ren.t 25)
  simp only [Array.size_append,List.size_toArray,List.length_nil,size_zeroCells,hzs]
  omega
theorem Agm (M:List (List Int)):(M.map Ad).all Bp=true:=List.all_eq_true.2 fun x hx=>by
 obtain ⟨y,_,rfl⟩:=List.mem_map.1 hx
 rfl
theorem Afi (M:List (List Int)):(M.map Ad).all Cq=true:=List.all_eq_true.2 fun x hx=>by
 obtain ⟨y,_,rfl⟩:=List.mem_map.1 hx
 rfl
theorem tJ (M:List (List Int))(hl:M.length≤1048576):Pure Tryz.prog 137 [.slc 1 2 [Ae M,Ai]] (.sl 0 1 0 M.length) [some (M.map Ad)]:=by
 have hg:=vU M.length hl
 refine Bh Ack rfl ?_;unfold Y5
 refine RN ?_
 refine Ah (α:=Nat) (S:=fun k=>([(0,.slc 1 2 [Ae M,Ai]),(9,.slc 1 2 [Ae M,Ai]),(10,i64 2),(11,i64 (k:Int)),(3,i64 (if k=0 then 0 else (M.length:Int)))],[])) (C:=fun k=>k≤2) (μ:=fun k=>2 - k) 0 (by omega) (Ref.to1) ?_
 intro k hk
 have hk3:k=0∨k=1∨k=2:=by omega
 rcases hk3 with rfl | rfl | rfl
 ·(refine RN ?_;try with_reducible exact trivial)
  refine ⟨fun _=>?_,fun h=>absurd h (by omega)⟩
  (refine RN ?_;try with_reducible exact trivial)
  (try intro _)
  refine RN ?_
  exact ⟨1,by omega,by omega,Ref.to1⟩
 ·(refine RN ?_;try with_reducible exact trivial)
  refine ⟨fun _=>?_,fun h=>absurd h (by omega)⟩
  (refine RN ?_;try with_reducible exact trivial)
  (try intro _)
  refine RN ?_
  exact ⟨2,by omega,by omega,Ref.to1⟩
 ·(refine RN ?_;try with_reducible exact trivial)
  intro _
  refine RN ?_
  refine Ag (hg) ?_
  refine RN ?_
  refine Ah (α:=Nat) (S:=fun k=>([(25,.slc 1 2 [Ae M,Ai]),(26,i64 2),(27,i64 (k:Int)),(6,.sl 0 1 0 (if k=0 then 0 else M.length))],[some (if k=0 then [] else M.map Ad)])) (C:=fun k=>k≤2) (μ:=fun k=>2 - k) 0 (by omega) (Ref.to1) ?_
  intro k hk
  have hk3:k=0∨k=1∨k=2:=by omega
  rcases hk3 with rfl | rfl | rfl
  ·(refine RN ?_;try with_reducible exact trivial)
   refine ⟨fun _=>?_,fun h=>absurd h (by omega)⟩
   refine RN ?_
   rw [Agm]
   refine ⟨Afi M,by omega,by omega,?_⟩
   refine RN ?_
   exact ⟨1,by omega,by omega,Ref.gc1 [1]⟩
  ·(refine RN ?_;try with_reducible exact trivial)
   refine ⟨fun _=>?_,fun h=>absurd h (by omega)⟩
   refine RN ?_
   exact ⟨2,by omega,by omega,Ref.gc1 [1]⟩
  ·(refine RN ?_;try with_reducible exact trivial)
   intro _
   refine RN ?_
   exact Ref.to1
theorem Wx (w:List Int)(h0:0<w.length):∀ (k i:Nat),i<k*w.length→(Av w k)[i]? = w[i%w.length]?
 | 0,i,h=>by simp at h
 | k+1,i,h=>by
  rw [show Av w (k+1)=w++Av w k by simp [Av,List.replicate_succ]]
  by_cases e:i<w.length
  ·rw [List.getElem?_append_left e,Nat.mod_eq_of_lt e]
  ·rw [List.getElem?_append_right (by omega),Wx w h0 k (i - w.length) (by rw [Nat.succ_mul] at h;omega),Nat.mod_eq_sub_mod (a:=i) (by omega)]
theorem Ahe (w:List Int)(h0:0<w.length)(k m q:Nat)(hd:m%w.length=0)(hm:m+q≤k*w.length):(Av w k).take (m+q)=(Av w k).take m++(Av w k).take q:=by
 have hl:=Jh w k
 refine List.ext_getElem? fun i=>?_
 by_cases hi:i<m
 ·rw [List.getElem?_append_left (by rw [List.length_take];omega),List.getElem?_take_of_lt (by omega),List.getElem?_take_of_lt hi]
 ·rw [List.getElem?_append_right (by rw [List.length_take];omega),List.length_take,Nat.min_eq_left (by omega)]
  by_cases hq:i<m+q
  ·rw [List.getElem?_take_of_lt hq,List.getElem?_take_of_lt (by omega),Wx w h0 k i (by omega),Wx w h0 k (i - m) (by omega)]
   congr 1
   conv=>lhs;rw [show i=i - m+m by omega,Nat.add_mod,hd,Nat.add_zero,Nat.mod_mod]
  ·rw [List.getElem?_eq_none (by rw [List.length_take];omega),List.getElem?_eq_none (by rw [List.length_take];omega)]
theorem Wz (w:List Int)(k:Nat)(hw:w.length=2)(h1:1≤k)(hk:k≤64):Pure Tryz.prog 123 [Ad w,i64 (k:Int)] (.sl 0 1 0 (Av w k).length) [some (Aa (Av w k))]:=by
 have e1:IntKind.wrap .u64 ((2:Nat):Int)=((2:Nat):Int):=Tp 2 (by omega)
 have e2:=Tp k (by omega)
 have hpl:=Jh w k
 rw [hw] at hpl
 refine Cu kM rfl ?_;unfold Uf
 refine RN ?_
 refine fun _=>?_
 refine RN ?_
 rw [hw,e1,e2]
 have e3:2*k / 18446744073709551616=0:=by omega
 have e4:2*k%18446744073709551616=k*2:=by omega
 have e5:=pD (k*2) (by omega)
 have hm:=jM 2 k (by omega) (by omega)
 rw [e3,e4] at hm
 refine Ag (hm) ?_
 refine RN ?_
 refine fun _=>?_
 refine RN ?_
 have hmin:Nat.min w.length (k*2)=2:=by rw [hw];exact Nat.min_eq_left (by omega)
 rw [hmin]
 have hw2:(Av w k).take 2=w:=by
  obtain ⟨j,rfl⟩:∃ j,k=j+1:=⟨k - 1,by omega⟩
  rw [show Av w (j+1)=w++Av w j by simp [Av,List.replicate_succ],List.take_left' hw]
 have hc0:List.take 2 (Aa w)++List.drop 2 (Aa (List.replicate (k*2) 0))=Aa ((Av w k).take 2++List.replicate (k*2 - 2) 0):=by
  rw [hw2,Lp,L9,Fb,List.take_of_length_le (by omega),List.drop_replicate]
 rw [hc0]
 refine Ah (α:=Nat) (S:=fun m=>([(7,.sl 0 1 0 (k*2)),(8,i64 m)],[some (Aa ((Av w k).take m++List.replicate (k*2 - m) 0))])) (C:=fun m=>m≤k*2∧2≤m∧m%2=0) (μ:=fun m=>k*2 - m) 2 ⟨by omega,by omega,by omega⟩ (by exact Ref.frame (by simp [sub,Ab])) ?_
 rintro m ⟨hm1,hm2,hm3⟩
 have hlen:((Av w k).take m++List.replicate (k*2 - m) (0:Int)).length=k*2:=by simp;omega
 refine RN ?_
 refine ⟨fun hc=>?_,fun hc=>?_⟩
 ·(refine RN ?_;try with_reducible exact trivial)
  refine Nq ?_
  refine RN ?_
  have t1:((m:Int) - 0).toNat=m:=by omega
  have t2:Int.toNat 0=0:=rfl
  have t3:(((k*2:Nat):Int) - (m:Int)).toNat=k*2 - m:=by omega
  have hq1:Nat.min m (k*2 - m)≤k*2 - m:=Nat.min_le_right _ _
  have hq3:Nat.min m (k*2 - m)≤m:=Nat.min_le_left _ _
  have hq2:0<Nat.min m (k*2 - m):=Nat.lt_min.2 ⟨by omega,by omega⟩
  have hq4:Nat.min m (k*2 - m)%2=0:=by
   rcases Nat.le_total m (k*2 - m) with h | h
   ·rw [show Nat.min m (k*2 - m)=m from Nat.min_eq_left h];exact hm3
   ·rw [show Nat.min m (k*2 - m)=k*2 - m from Nat.min_eq_right h];omega
  simp only [t1,t2,t3,List.drop_zero,Lp,T3,Tz,L9,Fb,true_and]
  generalize Nat.min m (k*2 - m)=q at hq1 hq2 hq3 hq4
  refine ⟨by omega,m+q,⟨by omega,by omega,by omega⟩,by omega,Ref.to ?_ (by simp [sub,Ab])⟩
  have u1:((Av w k).take m++List.replicate (k*2 - m) (0:Int)).take m=(Av w k).take m:=by rw [List.take_append_of_le_length (by simp;omega),List.take_of_length_le (by simp;omega)]
  have u2:((Av w k).take m).take q=(Av w k).take q:=by rw [List.take_take,Nat.min_eq_left hq3]
  have u3:((Av w k).take m++List.replicate (k*2 - m) (0:Int)).drop (m+q)=List.replicate (k*2 - (m+q)) 0:=by
   rw [List.drop_append,List.drop_of_length_le (by simp;omega),List.nil_append,List.drop_replicate,List.length_take,hpl]
   congr 1;omega
  rw [u1,u2,u3,Ahe w (by omega) k m q (by rw [hw];exact hm3) (by rw [hw];omega)]
 ·obtain rfl:m=k*2:=by omega
  refine RN ?_
  have:(Av w k).take (k*2)=Av w k:=List.take_of_length_le (by omega)
  simp [hpl,this]
end
section
open Go.Gov
open Classical
theorem vL {X:List (List Int)}{i:Nat}(h:i<X.length):X.getD i []∈X:=by
 rw [List.getD_eq_getElem?_getD,List.getElem?_eq_getElem h]
 exact List.getElem_mem h
def Lg (p:List Int→Bool)(X:List (List Int)):Int:=if X.any p then X.findIdx p else -1
theorem Ah7 {p:List Int→Bool}{X:List (List Int)}{i:Nat}(h:∀ j,j<i→p (X.getD j [])=false)(hi:i<X.length)(he:p (X.getD i [])=true):Lg p X=i:=by
 have he' : p X[i]=true:=by simpa [hi] using he
 unfold Lg
 rw [if_pos (List.any_eq_true.2 ⟨_,List.getElem_mem hi,he'⟩)]
 congr 1
 refine (List.findIdx_eq hi).2 ⟨he', fun j hj=>?_⟩
 have:=h j hj
 simpa [show j<X.length by omega] using this
theorem Ah9 {p:List Int→Bool}{X:List (List Int)}(h:∀ j,j<X.length→p (X.getD j [])=false):Lg p X = -1:=by
 unfold Lg
 rw [if_neg]
 intro ha
 obtain ⟨x,hx,hp⟩:=List.any_eq_true.1 ha
 obtain ⟨j,hj,rfl⟩:=List.mem_iff_getElem.1 hx
 have:=h j hj
 simp [hj,hp] at this
theorem Ah8 (p:List Int→Bool)(X:List (List Int)):decide (0≤Lg p X)=X.any p:=by
 unfold Lg
 by_cases h:X.any p=true<;>simp [h]
theorem wJ (X:List (List Int))(f:FuncId)(fs cs:List AV)(p:List Int→Bool)(hl:X.length≤1099511627776)(hf:∀ x∈X,Pure Tryz.prog f (fs++[Ad x]++cs) (bl (p x)) [])(hk:Fz Tryz.prog f=true)(h1:fs.map (Aj [] 6)=fs)(h2:cs.map (Aj [] 6)=cs):Pure Tryz.prog 163 [Ae X,.clo f fs cs] (i64 (Lg p X)) []:=by
 refine Cu kR rfl ?_;unfold Uk
 refine RN ?_
 refine Ah (α:=Nat) (S:=fun i=>([(0,Ae X),(1,.clo f fs cs),(6,Ae X),(7,i64 X.length),(8,i64 i)],[])) (C:=fun i=>i≤X.length∧∀ j,j<i→p (X.getD j [])=false) (μ:=fun i=>X.length - i) 0 ⟨by omega,by omega⟩ (by exact Ref.frame (by simp [sub,Ab])) ?_
 rintro i ⟨hi,hall⟩
 refine RN ?_
 refine ⟨fun hc=>?_,fun hc=>?_⟩
 ·(refine RN ?_;try with_reducible exact trivial)
  refine Jw (args:=fs++[Ad (X.getD i [])]++cs) (hf _ (vL (by omega))) (by simp only [List.map_append,h1,h2,go_sem,↓reduceIte,Nat.reduceEqDiff,Nat.reduceAdd,reduceCtorEq,go_sem,↓reduceIte,Nat.reduceEqDiff,Nat.reduceAdd,reduceCtorEq]) rfl rfl ?_
  (try simp only [go_sem,↓reduceIte,Nat.reduceEqDiff,Nat.reduceAdd,reduceCtorEq,go_sem,↓reduceIte,Nat.reduceEqDiff,Nat.reduceAdd,reduceCtorEq])
  refine RN ?_
  refine ⟨fun hc2=>?_,fun hc2=>?_⟩
  ·(refine RN ?_;try with_reducible exact trivial)
   rw [Ah7 hall (by omega) hc2]
  ·(refine RN ?_;try with_reducible exact trivial)
   refine ⟨i+1,⟨by omega,fun j hj=>?_⟩,by omega,by exact Ref.frame (by simp [sub,Ab])⟩
   rcases Nat.lt_or_ge j i with h | h
   ·exact hall j h
   ·obtain rfl:j=i:=by omega
    exact hc2
 ·(refine RN ?_;try with_reducible exact trivial)
  rw [Ah9 (fun j hj=>hall j (by omega))]
theorem tO (X:List (List Int))(f:FuncId)(fs cs:List AV)(p:List Int→Bool)(hl:X.length≤1099511627776)(hf:∀ x∈X,Pure Tryz.prog f (fs++[Ad x]++cs) (bl (p x)) [])(hk:Fz Tryz.prog f=true)(h1:fs.map (Aj [] 6)=fs)(h2:cs.map (Aj [] 6)=cs)(h3:fs.map (Aj [] 5)=fs)(h4:cs.map (Aj [] 5)=cs):Pure Tryz.prog 134 [Ae X,.clo f fs cs] (bl (X.any p)) []:=by
 refine Cu kO rfl ?_;unfold Uh
 refine RN ?_
 refine Jw (wJ X f fs cs p hl hf hk h1 h2) (by simp only [h3,h4,go_sem,↓reduceIte,Nat.reduceEqDiff,Nat.reduceAdd,reduceCtorEq,go_sem,↓reduceIte,Nat.reduceEqDiff,Nat.reduceAdd,reduceCtorEq]) rfl rfl ?_
 (try simp only [go_sem,↓reduceIte,Nat.reduceEqDiff,Nat.reduceAdd,reduceCtorEq,go_sem,↓reduceIte,Nat.reduceEqDiff,Nat.reduceAdd,reduceCtorEq])
 refine RN ?_
 rw [Ah8]
end
section
open Go.Gov Go.Ce
open Classical
theorem tV (a b:Nat)(ha:2≤a∧a≤32)(hb:2≤b∧b≤32):Pure Tryz.prog 97 [Ad [(a:Int),(b:Int)]] (.agg [i64 3,.sl 0 1 0 3]) [some ((An a b).map Ac)]:=by
 have hsz:=Pq [(a:Int),(b:Int)] (by simp)
 refine Bh Ae9 rfl ?_;unfold bZ
 refine RN ?_
 refine Ag (hsz) ?_
 refine RN ?_
 refine Ah (α:=Nat) (S:=fun i=>([(0,Ad [(a:Int),(b:Int)]),(2,.ref 0 0),(3,i64 3),(4,.ref 1 0),(13,i64 3),(14,i64 (i:Int))],[some [i64 0,Ai],some [i64 3,.sl 2 1 0 (if i=0 then 0 else if i=1 then 2 else 3)],some (((An a b).take (if i=0 then 0 else if i=1 then 2 else 3)).map Ac)]))
  (C:=fun i=>i≤3) (μ:=fun i=>3 - i) 0 (Nat.zero_le _) ((Ref.nilC 1 1 1 rfl rfl).trans (Ref.to (by simp) (by simp [sub,Ab]))) ?_
 intro i hi
 refine RN ?_
 refine ⟨fun hc=>?_,fun hc=>?_⟩
 ·(refine RN ?_;try with_reducible exact trivial)
  refine Ah (α:=Nat) (S:=fun k=>([(0,Ad [(a:Int),(b:Int)]),(2,.ref 0 0),(3,i64 3),(4,.ref 1 0),(13,i64 3),(14,i64 (i:Int)),(5,i64 (i:Int)),(6,i64 (k:Int))],[some [i64 0,Ai],some [i64 3,.sl 2 1 0 ((if i=0 then 0 else if i=1 then 2 else 3)+(k - (i+1)))],some (((An a b).take ((if i=0 then 0 else if i=1 then 2 else 3)+(k - (i+1)))).map Ac)]))
   (C:=fun k=>i+1≤k∧k≤3) (μ:=fun k=>3 - k) (i+1) ⟨Nat.le_refl _,by omega⟩ (Ref.to (by simp) (by simp [sub,Ab])) ?_
  rintro k ⟨hk1,hk2⟩
  by_cases hk3:k<3
  ·have hik:(i=0∧k=1)∨(i=0∧k=2)∨(i=1∧k=2):=by omega
   rcases hik with ⟨rfl,rfl⟩ | ⟨rfl,rfl⟩ | ⟨rfl,rfl⟩
   ·-- 0, 1
    have hpw:=Wz [0,1] a rfl (by omega) (by omega)
    have hts:(An a b).take (0+1)=(An a b).take 0++[Av [0,1] a]:=rfl
    have hml:((An a b).take 0).length=0:=M0 a b 0 (by omega)
    refine RN ?_
    refine ⟨fun _=>?_,fun h=>absurd h (by omega)⟩
    refine RN ?_
    refine ⟨fun _=>⟨by omega,?_⟩,fun h=>absurd (by omega) h⟩
    refine RN ?_
    refine ⟨fun _=>?_,fun h=>absurd h (by simp;omega)⟩
    refine RN ?_
    refine Ag (hpw) ?_
    refine RN ?_
    refine ⟨2,⟨by omega,by omega⟩,by omega,?_⟩
    show Ref 0 _ _ [(0,Ad [(a:Int),(b:Int)]),(2,.ref 0 0),(3,i64 3),(4,.ref 1 0),(13,i64 3),(14,i64 0),(5,i64 0),(6,i64 2)] [some [i64 0,Ai],some [i64 3,.sl 2 1 0 1],some (((An a b).take (0+1)).map Ac)]
    rw [hts]
    generalize hX:(An a b).take 0=X at *
    have tk1:(X.map Ac).take 0=X.map Ac:=List.take_of_length_le (by simp [hml])
    have hset:∀ x y:AV,(X.map Ac++[x]).set 0 y=X.map Ac++[y]:=fun x y=>by
     rw [List.set_append_right _ _ (by simp [hml])];simp [hml]
    simp only [Nat.reduceSub,Nat.reduceAdd,tk1]
    refine (Ref.close 6 0 4 (k:=1) (n:=(Av [0,1] a).length) (cs2:=Aa (Av [0,1] a)) rfl (by rw [List.getElem?_append_right (by simp [hml])];simp [hml]) rfl (by decide) (by simp [Aa])).trans (Ref.gc [0,1,6] rfl ?_ (by simp [sub,Ab,go_sem,↓reduceIte,Nat.reduceEqDiff,Nat.reduceAdd,reduceCtorEq]))
    simp only [go_sem,↓reduceIte,Nat.reduceEqDiff,Nat.reduceAdd,reduceCtorEq]
    rw [hset]
    simp
   ·-- 0, 2
    have hpw:=Wz [0,2] 2 rfl (by omega) (by omega)
    have hts:(An a b).take (1+1)=(An a b).take 1++[Av [0,2] 2]:=rfl
    have hml:((An a b).take 1).length=1:=M0 a b 1 (by omega)
    refine RN ?_
    refine ⟨fun _=>?_,fun h=>absurd h (by omega)⟩
    refine RN ?_
    intro _
    refine RN ?_
    refine ⟨fun _=>?_,fun h=>absurd h (by omega)⟩
    refine RN ?_
    refine Ag (hpw) ?_
    refine RN ?_
    refine ⟨3,⟨by omega,by omega⟩,by omega,?_⟩
    show Ref 0 _ _ [(0,Ad [(a:Int),(b:Int)]),(2,.ref 0 0),(3,i64 3),(4,.ref 1 0),(13,i64 3),(14,i64 0),(5,i64 0),(6,i64 3)] [some [i64 0,Ai],some [i64 3,.sl 2 1 0 2],some (((An a b).take (1+1)).map Ac)]
    rw [hts]
    generalize hX:(An a b).take 1=X at *
    have tk1:(X.map Ac).take 1=X.map Ac:=List.take_of_length_le (by simp [hml])
    have hset:∀ x y:AV,(X.map Ac++[x]).set 1 y=X.map Ac++[y]:=fun x y=>by
     rw [List.set_append_right _ _ (by simp [hml])];simp [hml]
    simp only [Nat.reduceSub,Nat.reduceAdd,tk1]
    refine (Ref.close 6 1 4 (k:=1) (n:=(Av [0,2] 2).length) (cs2:=Aa (Av [0,2] 2)) rfl (by rw [List.getElem?_append_right (by simp [hml])];simp [hml]) rfl (by decide) (by simp [Aa])).trans (Ref.gc [0,1,6] rfl ?_ (by simp [sub,Ab,go_sem,↓reduceIte,Nat.reduceEqDiff,Nat.reduceAdd,reduceCtorEq]))
    simp only [go_sem,↓reduceIte,Nat.reduceEqDiff,Nat.reduceAdd,reduceCtorEq]
    rw [hset]
    simp
   ·-- 1, 2
    have hpw:=Wz [1,2] b rfl (by omega) (by omega)
    have hts:(An a b).take (2+1)=(An a b).take 2++[Av [1,2] b]:=rfl
    have hml:((An a b).take 2).length=2:=M0 a b 2 (by omega)
    refine RN ?_
    refine ⟨fun _=>?_,fun h=>absurd h (by omega)⟩
    refine RN ?_
    refine ⟨fun _=>⟨by omega,?_⟩,fun h=>absurd (by omega) h⟩
    refine RN ?_
    refine ⟨fun _=>?_,fun h=>absurd h (by simp;omega)⟩
    refine RN ?_
    refine Ag (hpw) ?_
    refine RN ?_
    refine ⟨3,⟨by omega,by omega⟩,by omega,?_⟩
    show Ref 0 _ _ [(0,Ad [(a:Int),(b:Int)]),(2,.ref 0 0),(3,i64 3),(4,.ref 1 0),(13,i64 3),(14,i64 1),(5,i64 1),(6,i64 3)] [some [i64 0,Ai],some [i64 3,.sl 2 1 0 3],some (((An a b).take (2+1)).map Ac)]
    rw [hts]
    generalize hX:(An a b).take 2=X at *
    have tk1:(X.map Ac).take 2=X.map Ac:=List.take_of_length_le (by simp [hml])
    have hset:∀ x y:AV,(X.map Ac++[x]).set 2 y=X.map Ac++[y]:=fun x y=>by
     rw [List.set_append_right _ _ (by simp [hml])];simp [hml]
    simp only [Nat.reduceSub,Nat.reduceAdd,tk1]
    refine (Ref.close 6 2 4 (k:=1) (n:=(Av [1,2] b).length) (cs2:=Aa (Av [1,2] b)) rfl (by rw [List.getElem?_append_right (by simp [hml])];simp [hml]) rfl (by decide) (by simp [Aa])).trans (Ref.gc [0,1,6] rfl ?_ (by simp [sub,Ab,go_sem,↓reduceIte,Nat.reduceEqDiff,Nat.reduceAdd,reduceCtorEq]))
    simp only [go_sem,↓reduceIte,Nat.reduceEqDiff,Nat.reduceAdd,reduceCtorEq]
    rw [hset]
    simp
  ·obtain rfl:k=3:=by omega
   refine RN ?_
   intro _
   refine RN ?_
   refine ⟨i+1,by omega,by omega,?_⟩
   have:i=0∨i=1∨i=2:=by omega
   rcases this with rfl | rfl | rfl<;>exact Ref.to1
 ·obtain rfl:i=3:=by omega
  refine RN ?_
  exact Ref.gc2 [2]
def Mw (G least:Nat)(M:List (List Int)):Prop:=∀ k,k<M.length→Ca G (M.getD k [])∧(M.getD k []).length≤64∧least≤(M.getD k []).length
theorem wO (G:Nat)(hG:G≤5)(w:List Int)(hw:Ca G w)(hl:w.length≤64):Pure Tryz.prog 136 [Ad w,i64 (G:Int)] (bl true) []:=by
 have haw:=qY w 0 ((G:Int) - 1) (by omega)
 have:(w.all fun n=>decide (0≤n)&&decide (n≤(G:Int) - 1))=true:=by
  rw [List.all_eq_true]
  intro x hx
  obtain ⟨k,hk,rfl⟩:=List.mem_iff_getElem.1 hx
  have:=hw k hk
  rw [List.getD_eq_getElem?_getD,List.getElem?_eq_getElem hk,Option.getD_some] at this
  simp only [Bool.and_eq_true,decide_eq_true_eq]
  omega
 rw [this] at haw
 refine Ao Acj rfl rfl ?_;unfold Y4
 refine RN ?_
 refine C9 (bl true ) (fun hg =>  haw) ?_
 refine RN ?_
 rw [decide_eq_true (show (w.length:Int)≤64 by omega)]
theorem wR (G:Nat)(hG:G≤5)(M:List (List Int))(w:List Int)(hw:Ca G w)(hl:w.length≤64)(h1:1≤w.length):Pure Tryz.prog 162 [Ad w,.pto [i64 (G:Int),Ae M] 0] (bl false) []:=by
 have hil:=wO G hG w hw hl
 refine Ao Ac2 rfl rfl ?_;unfold Zm
 refine RN ?_
 rw [beq_eq_false_iff_ne.2 (fun h:(w.length:Int)=0=>by omega)]
 refine C9 (bl true ) (fun hg =>  hil) ?_
 (refine RN ?_;try with_reducible exact trivial)
theorem wS (G:Nat)(hG1:1≤G)(hG:G≤5)(M:List (List Int))(hM:Mw G 1 M)(hl:M.length≤24):Pure Tryz.prog 133 [Dq G M] (bl true) []:=by
 have hwi:=Lr (G:Int) 1 5
 rw [decide_eq_true (show (1:Int)≤G by omega),decide_eq_true (show (G:Int)≤5 by omega)] at hwi
 have hany:M.any (fun _=>false)=false:=by simp
 have hcf:=tO M 162 [] [.pto [i64 (G:Int),Ae M] 0] (fun _=>false) (by omega) (fun x hx=>by
  obtain ⟨k,hk,rfl⟩:=List.mem_iff_getElem.1 hx
  have:=hM k hk
  rw [List.getD_eq_getElem?_getD,List.getElem?_eq_getElem hk,Option.getD_some] at this
  exact wR G hG M _ this.1 this.2.1 this.2.2) (by kernel_rfl) rfl (by simp only [go_sem,↓reduceIte,Nat.reduceEqDiff,Nat.reduceAdd,reduceCtorEq];first | done | simp [Aj,Ae]) rfl (by simp only [go_sem,↓reduceIte,Nat.reduceEqDiff,Nat.reduceAdd,reduceCtorEq];first | done | simp [Aj,Ae])
 rw [hany] at hcf
 refine Ao Aci rfl rfl ?_;unfold Y3
 refine RN ?_
 refine Ag (hwi) ?_
 refine RN ?_
 rw [decide_eq_true (show (M.length:Int)≤24 by omega)]
 refine C9 (bl false ) (fun hg =>  hcf) ?_
 (refine RN ?_;try with_reducible exact trivial)
theorem wI (f:FuncId)(fs cs:List AV):Pure Tryz.prog 163 [Ai,.clo f fs cs] (i64 (-1)) []:=by
 refine Ao kR rfl rfl ?_;unfold Uk
 refine RN ?_
 refine Ah (α:=Unit) (S:=fun _=>([(6,Ai),(7,i64 0),(8,i64 0)],[])) (C:=fun _=>True) (μ:=fun _=>0) () trivial (Ref.to1) ?_
 rintro _ _
 refine RN ?_
 intro _
 (refine RN ?_;try with_reducible exact trivial)
theorem tN (f:FuncId)(fs cs:List AV)(h3:fs.map (Aj [] 5)=fs)(h4:cs.map (Aj [] 5)=cs):Pure Tryz.prog 134 [Ai,.clo f fs cs] (bl false) []:=by
 refine Cu kO rfl ?_;unfold Uh
 refine RN ?_
 refine Jw (wI f fs cs) (by simp only [h3,h4,go_sem,↓reduceIte,Nat.reduceEqDiff,Nat.reduceAdd,reduceCtorEq,go_sem,↓reduceIte,Nat.reduceEqDiff,Nat.reduceAdd,reduceCtorEq]) rfl rfl ?_
 (try simp only [go_sem,↓reduceIte,Nat.reduceEqDiff,Nat.reduceAdd,reduceCtorEq,go_sem,↓reduceIte,Nat.reduceEqDiff,Nat.reduceAdd,reduceCtorEq])
 refine RN ?_
 rfl
theorem Akq (G:Nat)(hG1:1≤G)(hG:G≤5)(M:List (List Int))(hM:Mw G 1 M)(hl:M.length≤24):Pure Tryz.prog 98 [Dq G M,Ai] (i64 0) []:=by
 have hip:=wS G hG1 hG M hM hl
 have hcn:=tN 135 [] [.pto [i64 (G:Int),Ae M] 0] rfl (by simp only [go_sem,↓reduceIte,Nat.reduceEqDiff,Nat.reduceAdd,reduceCtorEq])
 refine Ao Afa rfl rfl ?_;unfold cA
 refine RN ?_
 refine Ag (hip) ?_
 refine RN ?_
 refine C9 (bl false ) (fun hg =>  hcn) ?_
 refine RN ?_
 intro _
 (refine RN ?_;try with_reducible exact trivial)
theorem Alq (G : Nat) (M : List (List Int)) (hM : Mw G 1 M) (hl : M.length ≤ 24) :
    Pure Tryz.prog 99 [Dq G M,Ai] (.tup [.agg [i64 (G:Int),.sl 0 1 0 M.length],i64 0]) [some (M.map Ac)]:=by
 have hcc:=tJ M (by omega)
 refine Bh Afb rfl ?_;unfold cB
 refine RN ?_
 refine CallsX.ice 3 ?_
 refine D4 hcc (by simp only [go_sem,↓reduceIte,Nat.reduceEqDiff,Nat.reduceAdd,reduceCtorEq]<;>rfl) ?_
 refine RN ?_
 refine Ah (α:=Nat) (S:=fun k=>([(4,.ref 0 0),(6,.ref 1 0),(16,.sl 3 1 0 M.length),(17,i64 (M.length:Int)),(18,i64 (k:Int))],[some [i64 0,Ai],some [i64 (G:Int),.sl 2 1 0 k],some ((M.take k).map Ac),some (M.map Ad)])) (C:=fun k=>k≤M.length) (μ:=fun k=>M.length - k) 0 (Nat.zero_le _) ?_ ?_
 ·refine (Ref.nilC 2 1 1 rfl rfl).trans (Ref.gc2 [1,2,5,4])
 intro k hk
 have hml:(M.take k).length=k:=by simp;omega
 refine RN ?_
 refine ⟨fun hc=>?_,fun hc=>?_⟩
 ·obtain ⟨w1,w2,w3⟩:=hM k (by omega)
  have hcl:=sR (M.getD k []) (by omega) (by omega)
  have hts:M.take (k+1)=M.take k++[M.getD k []]:=by rw [List.take_succ_eq_append_getElem (by omega)];simp [show k<M.length by omega]
  refine RN ?_
  refine ⟨fun _=>?_,fun h=>absurd h (by omega)⟩
  refine RN ?_
  refine Ag (hcl) ?_
  refine RN ?_
  refine ⟨k+1,by omega,by omega,?_⟩
  rw [hts]
  generalize M.take k=X at *
  generalize M.getD k []=Y at *
  have tk1:(X.map Ac).take k=X.map Ac:=List.take_of_length_le (by simp [hml])
  have hset:∀ x y:AV,(X.map Ac++[x]).set k y=X.map Ac++[y]:=fun x y=>by
   rw [List.set_append_right _ _ (by simp [hml])];simp [hml]
  rw [tk1]
  refine (Ref.close 6 k 4 (k:=1) (n:=Y.length) (cs2:=Aa Y) rfl (by rw [List.getElem?_append_right (by simp [hml])];simp [hml]) rfl (by decide) (by simp [Aa])).trans (Ref.gc [0,1,6,3] rfl ?_ (by simp [sub,Ab,go_sem,↓reduceIte,Nat.reduceEqDiff,Nat.reduceAdd,reduceCtorEq]))
  simp only [go_sem,↓reduceIte,Nat.reduceEqDiff,Nat.reduceAdd,reduceCtorEq]
  rw [hset]
  simp
 ·obtain rfl:k=M.length:=by omega
  rw [List.take_length]
  refine RN ?_
  intro _
  refine RN ?_
  exact Ref.gc2 [2]
theorem tR (G : Nat) (hG1 : 1 ≤ G) (hG : G ≤ 5) (M : List (List Int)) (hM : Mw G 0 M) (hl : M.length ≤ 24) (hb : Km G M) :
    Pure Tryz.prog 100 [Dq G M,Ai] (.tup [.sl 0 1 0 G,i64 0]) [some ((D1 G (Ba G M)).map Ac)]:=by
 have ht:=uI G hG1 hG M (by omega) (fun k hk=>⟨(hM k hk).1,by have:=(hM k hk).2;omega⟩)
 have hbn:¬ (Ba G M).bad=true:=by rw [hb.1];decide
 rw [show Qw G (Ba G M) = .tup [.sl 0 1 0 G,bl true] from if_neg hbn,show Qx G (Ba G M)=[some ((D1 G (Ba G M)).map Ac)] from if_neg hbn] at ht
 have htl:=Na G (Ba G M)
 have htr:=Lq (G:=G) (S:=Ba G M) (g:=0) (by omega)
 have h4:=hb.2
 generalize D1 G (Ba G M)=T at *
 generalize B7 G (Ba G M)=O at *
 obtain ⟨r0,J,rfl⟩:∃ r0 J,T=r0 :: J:=by
  cases T with
  | nil=>simp at htl;omega
  | cons a J=>exact ⟨a,J,rfl⟩
 have hr0:r0.length=O.length:=by simpa using htr
 refine Bh Abv rfl ?_;unfold Yi
 refine RN ?_
 refine Ag (ht) ?_
 simp only [go_sem,↓reduceIte,Nat.reduceEqDiff,Nat.reduceAdd,reduceCtorEq]
 refine E0 ((Ref.open 1 0 (cs:=(r0 :: J).map Ac) (cs2:=Aa r0) (k:=1) (n:=r0.length) rfl rfl).trans (Ref.to (F' := [(6,.sl 1 1 0 G),(7,bl true),(5,i64 0),(4,Ai)]) (H' := [some [i64 (G:Int),Ae M],some (.sl 2 1 0 r0.length :: J.map Ac),some (Aa r0)]) rfl (by simp [sub,Ab]))) ?_
 refine RN ?_
 intro _
 refine RN ?_
 refine (Ref.close 1 0 2 (k:=1) (n:=r0.length) (cs2:=Aa r0) rfl rfl rfl (by decide) (by simp [Aa])).trans ?_
 exact Ref.gc2 [1]
theorem fL (p:Int)(h:2≤p∧p≤32):Pure Tryz.prog 132 [i64 p] (bl false) []:=by
 have hw:=Lr p 2 32
 rw [decide_eq_true h.1,decide_eq_true h.2] at hw
 have hne:(p != 0)=true:=bne_iff_ne.2 (by omega)
 refine Ao Ach rfl rfl ?_;unfold Y2
 refine RN ?_
 rw [hne]
 refine C9 (bl true ) (fun hg =>  hw) ?_
 (refine RN ?_;try with_reducible exact trivial)
theorem wM (a b:Nat)(ha:2≤a∧a≤32)(hb:2≤b∧b≤32):Pure Tryz.prog 96 [Ad [(a:Int),(b:Int)]] (bl true) []:=by
 have hcf:=tM [(a:Int),(b:Int)] 132 [] [] (fun _=>false) (by simp) (fun i hi=>by
  have:i=0∨i=1:=by simp at hi;omega
  rcases this with rfl | rfl
  ·exact fL (a:Int) (by omega)
  ·exact fL (b:Int) (by omega)) (by kernel_rfl) rfl rfl rfl rfl
 rw [show ([(a:Int),(b:Int)].any fun _=>false)=false by simp] at hcf
 refine Ao Ae8 rfl rfl ?_;unfold bY
 refine RN ?_
 rw [show decide (((2:Nat):Int)<5)=true from rfl]
 refine C9 (bl false ) (fun hg =>  hcf) ?_
 (refine RN ?_;try with_reducible exact trivial)
end
section
open Go.Gov Go.Ce
open Classical
theorem Alf (a b : Nat) (ha : 2 ≤ a ∧ a ≤ 32) (hb : 2 ≤ b ∧ b ≤ 32) (hs : Km 3 (An a b)) (hm : IsMan (Ch a b)) :
    Pure Tryz.prog 56 [Ad [(a:Int),(b:Int)],Ai] (.tup [.agg [.sl 0 1 0 3],i64 0]) [some ((Ch a b).map Ac)]:=by
 have hls:=wM a b ha hb
 have hpr:=tV a b ha hb
 have hrr:=W1 a b ha.2 hb.2
 have hr3:(An a b).length=3:=rfl
 have hpw1:Mw 3 1 (An a b):=fun k hk=>⟨(hrr k hk).1,(hrr k hk).2.1,(hrr k hk).2.2 ha.1 hb.1⟩
 have hpw0:Mw 3 0 (An a b):=fun k hk=>⟨(hrr k hk).1,(hrr k hk).2.1,Nat.zero_le _⟩
 have hsc:=Akq 3 (by omega) (by omega) (An a b) hpw1 (by omega)
 have hwr:=Alq 3 (An a b) hpw1 (by omega)
 have hsm:=tR 3 (by omega) (by omega) (An a b) hpw0 (by omega) hs
 have htl:(Ch a b).length=3:=Na 3 (Ba 3 (An a b))
 have htr:∀ g,g<3→((Ch a b).getD g []).length=(B7 3 (Ba 3 (An a b))).length:=fun g hg=>Lq (G:=3) (S:=Ba 3 (An a b)) (g:=g) hg
 have h4:=hs.2
 change Gov.Pure _ _ _ _ [some ((Ch a b).map Ac)] at hsm
 generalize Ch a b=T at *
 generalize B7 3 (Ba 3 (An a b))=O at *
 have hi:=Rk T (by omega) (fun p hp=>by
  obtain ⟨k,hk,rfl⟩:=List.mem_iff_getElem.1 hp
  have:=htr k (by omega)
  rw [show T.getD k []=T[k] by simp [hk]] at this
  omega)
 rw [decide_eq_true hm] at hi
 generalize An a b=X at *
 refine Bh Aeb rfl ?_;unfold aP
 refine RN ?_
 refine Ag (hls) ?_
 refine RN ?_
 refine Ag (hpr) ?_
 refine RN ?_
 refine A9 hsc (by simp only [go_sem,↓reduceIte,Nat.reduceEqDiff,Nat.reduceAdd,reduceCtorEq,Bl _ _ X 3 hr3];first | done | (simp only [Dq,Ae,hr3];done) | (simp only [Dq,Ae,hr3];rfl)) (by first | rfl | simp only [go_sem,↓reduceIte,Nat.reduceEqDiff,Nat.reduceAdd,reduceCtorEq]) ?_
 refine RN ?_
 refine A9 hwr (by simp only [go_sem,↓reduceIte,Nat.reduceEqDiff,Nat.reduceAdd,reduceCtorEq,Bl _ _ X 3 hr3];first | done | (simp only [Dq,Ae,hr3];done) | (simp only [Dq,Ae,hr3];rfl)) (by first | rfl | simp only [go_sem,↓reduceIte,Nat.reduceEqDiff,Nat.reduceAdd,reduceCtorEq]) ?_
 refine RN ?_
 refine A9 hsm (by simp only [go_sem,↓reduceIte,Nat.reduceEqDiff,Nat.reduceAdd,reduceCtorEq,Bl _ _ X X.length rfl]) (by first | rfl | simp only [go_sem,↓reduceIte,Nat.reduceEqDiff,Nat.reduceAdd,reduceCtorEq]) ?_
 refine RN ?_
 refine A9 hi (by simp only [go_sem,↓reduceIte,Nat.reduceEqDiff,Nat.reduceAdd,reduceCtorEq,Bl _ _ T 3 htl];first | done | (simp only [Ak,Ae,htl];done) | (simp only [Ak,Ae,htl];rfl)) (by first | rfl | simp only [go_sem,↓reduceIte,Nat.reduceEqDiff,Nat.reduceAdd,reduceCtorEq]) ?_
 refine RN ?_
 exact Ref.gc2 [4]
end
end Go.Proofs.YtnompobcofhkpaaGreatDoor
