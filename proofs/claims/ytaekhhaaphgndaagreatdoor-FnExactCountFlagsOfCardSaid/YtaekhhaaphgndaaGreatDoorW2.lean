/- Texts that belong together. -/
import Derived.Test.YtaekhhaaphgndaaGreatDoorY8
import Derived.Test.YtaekhhaaphgndaaGreatDoorX8
import Derived.Test.YtaekhhaaphgndaaGreatDoorW1
set_option linter.unusedSimpArgs false
set_option linter.unusedVariables false
set_option maxRecDepth 100000
namespace Go.Proofs.YtaekhhaaphgndaaGreatDoor
open Go.Gov Go.Fl
open Classical
theorem l03Differ_c (x y:List Int)(hl:x.length=y.length)(hn:x.length≤1048576):Pure Tryz.prog 95 [ints x,ints y] (i64 (difK x y x.length)) []:=by
 refine pureV0 ok95 rfl rfl ?_;unfold c95
 refine RN ?_
 refine V_loop (α:=Nat) (S:=fun k=>([(0,ints x),(1,ints y),(5,i64 (difK x y k:Int)),(6,i64 (k:Int))],[])) (C:=fun k=>k≤x.length) (μ:=fun k=>x.length - k) 0 (Nat.zero_le _) (Ref.to rfl (by simp [sub,fget,difK])) ?_
 intro k hk
 have hd:=difK_le x y k
 refine RN ?_
 refine ⟨fun hc=>?_,fun hc=>?_⟩
 ·have hst:difK x y (k+1)=difK x y k+if x.getD k 0≠y.getD k 0 then 1 else 0:=rfl
  refine RN ?_
  refine ⟨fun hc2=>?_,fun hc2=>?_⟩
  ·rw [if_pos hc2] at hst
   refine RN ?_
   exact ⟨k+1,by omega,by omega,Ref.to rfl (by simp [sub,fget,hst])⟩
  ·rw [if_neg (fun h=>h hc2)] at hst
   refine RN ?_
   exact ⟨k+1,by omega,by omega,Ref.to rfl (by simp [sub,fget,hst])⟩
 ·obtain rfl:k=x.length:=by omega
  (refine RN ?_;try with_reducible exact trivial)
noncomputable def neL (X:List (List Int))(i a k:Nat):List Int:=((List.range k).filter fun b=>decide (Adj (rowD X a) (rowD X b) i)).map fun b:Nat=>(b:Int)
theorem neL_succ (X:List (List Int))(i a k:Nat):neL X i a (k+1)=neL X i a k++if Adj (rowD X a) (rowD X k) i then [(k:Int)] else []:=by
 unfold neL
 rw [List.range_succ,List.filter_append,List.map_append]
 congr 1
 by_cases h:Adj (rowD X a) (rowD X k) i
 ·rw [if_pos h,List.filter_cons_of_pos (by simpa using h)];rfl
 ·rw [if_neg h,List.filter_cons_of_neg (by simpa using h)];rfl
theorem neL_len (X:List (List Int))(i a k:Nat):(neL X i a k).length≤k:=by
 unfold neL
 rw [List.length_map]
 have:=List.length_filter_le (fun b=>decide (Adj (rowD X a) (rowD X b) i)) (List.range k)
 rwa [List.length_range] at this
theorem neL_mem {X:List (List Int)}{i a k:Nat}{z:Int}:z∈neL X i a k ↔ ∃ b:Nat,z=b∧b<k∧Adj (rowD X a) (rowD X b) i:=by
 unfold neL
 simp only [List.mem_map,List.mem_filter,List.mem_range,decide_eq_true_eq]
 constructor
 ·rintro ⟨b,⟨h1,h2⟩,rfl⟩;exact ⟨b,rfl,h1,h2⟩
 ·rintro ⟨b,rfl,h1,h2⟩;exact ⟨b,⟨h1,h2⟩,rfl⟩
def cub (r N:Nat)(f:Nat→Nat→List Int):List AV:=(List.range r).map fun i=>.osl 1 N ((List.range N).map fun a=>oints (f i a))
theorem cub_len (r N:Nat)(f:Nat→Nat→List Int):(cub r N f).length=r:=by simp [cub]
theorem cub_at {r N:Nat}{f:Nat→Nat→List Int}{i:Nat}(h:i<r):(cub r N f)[i]? = some (.osl 1 N ((List.range N).map fun a=>oints (f i a))):=by simp [cub,h]
theorem cub_set {r N:Nat}{f:Nat→Nat→List Int}{i a:Nat}(hi:i<r)(ha:a<N)(L:List Int):(cub r N f).set i (.osl 1 N (((List.range N).map fun a=>oints (f i a)).set a (oints L)))=cub r N (fun i' a' => if i' = i∧a' = a then L else f i' a'):=by
 refine List.ext_getElem (by simp [cub]) fun k h1 h2=>?_
 rw [List.getElem_set]
 simp only [cub,List.getElem_map,List.getElem_range]
 by_cases e:i=k
 ·subst e
  rw [if_pos rfl]
  congr 1
  refine List.ext_getElem (by simp) fun m h3 h4=>?_
  rw [List.getElem_set]
  simp only [List.getElem_map,List.getElem_range]
  by_cases e2:a=m
  ·subst e2;simp
  ·have e3:¬ m=a:=fun h=>e2 h.symm
   simp [e2,e3]
 ·have e3:¬ k=i:=fun h=>e h.symm
  simp [e,e3]
theorem cub_congr {r N:Nat}{f g:Nat→Nat→List Int}(h:∀ i a,i<r→a<N→f i a=g i a):cub r N f=cub r N g:=by
 unfold cub
 refine List.map_congr_left fun i hi=>?_
 have hi:=List.mem_range.1 hi
 congr 1
 exact List.map_congr_left fun a ha=>by rw [h i a hi (List.mem_range.1 ha)]
theorem cub_new (N:Nat):(List.range N).map (fun _=>oints [])=List.replicate N (.osl 1 0 []):=by
 refine List.ext_getElem (by simp) fun k h1 h2=>by simp [intsC]
theorem cub_snoc (r N:Nat):cub (r+1) N (fun _ _=>[])=cub r N (fun _ _=>[])++[.osl 1 N (List.replicate N (.osl 1 0 []))]:=by
 unfold cub
 rw [List.range_succ,List.map_append,← cub_new]
 rfl
theorem oints_rnm (τ:Nat→Option Nat)(L:List Int):rnm τ (oints L)=oints L:=by simp [rnm,rnmL_ints]
theorem cub_rnm (τ:Nat→Option Nat)(r N:Nat)(f:Nat→Nat→List Int):rnmL τ (cub r N f)=cub r N f:=by
 rw [rnmL_map]
 unfold cub
 rw [List.map_map]
 refine List.map_congr_left fun i _=>?_
 simp only [Function.comp,rnm,rnmL_map,List.map_map]
 congr 1
 exact List.map_congr_left fun a _=>oints_rnm τ _
theorem cub_frz (H:Heap)(d:Nat)(r N:Nat)(f:Nat→Nat→List Int):(cub r N f).map (frz H (d+3))=(List.range r).map fun i=>.slc 1 N ((List.range N).map fun a=>ints (f i a)):=by
 unfold cub
 rw [List.map_map]
 refine List.map_congr_left fun i _=>?_
 simp only [Function.comp,frz,List.map_map]
 congr 1
 refine List.map_congr_left fun a _=>?_
 simp [frz,intsC]
theorem cub_nf (d:Nat)(r N:Nat)(f:Nat→Nat→List Int):(cub r N f).all (nf (d+3))=true:=List.all_eq_true.2 fun x hx=>by
 obtain ⟨i,_,rfl⟩:=List.mem_map.1 hx
 simp only [nf]
 refine List.all_eq_true.2 fun y hy=>?_
 obtain ⟨a,_,rfl⟩:=List.mem_map.1 hy
 simp only [nf]
 refine List.all_eq_true.2 fun z hz=>?_
 obtain ⟨n,_,rfl⟩:=List.mem_map.1 hz
 rfl
theorem cub_shf (n d:Nat)(r N:Nat)(f:Nat→Nat→List Int):(cub r N f).map (shf n (d+3))=cub r N f:=by
 unfold cub
 rw [List.map_map]
 refine List.map_congr_left fun i _=>?_
 simp only [Function.comp,shf,List.map_map]
 congr 1
 refine List.map_congr_left fun a _=>?_
 simp [shf,intsC]
attribute [go_sem] cub_len cub_rnm cub_frz cub_nf cub_shf
noncomputable def nrF (X:List (List Int))(a b j:Nat)(i a' : Nat):List Int:=if a' < a then neL X i a' X.length else if a' = a then neL X i a b++(if i<j∧Adj (rowD X a) (rowD X b) i then [(b:Int)] else []) else []
theorem nrF_start (X:List (List Int)):(fun i a' => nrF X 0 0 0 i a')=fun _ _=>[]:=by
 funext i a'
 unfold nrF
 rw [if_neg (by omega)]
 split
 ·simp [neL]
 ·rfl
theorem nrF_next {X:List (List Int)}{a b r:Nat}(i a' : Nat)(hi:i<r):nrF X a b r i a' = nrF X a (b+1) 0 i a' := by
 unfold nrF
 split
 ·rfl
 ·split
  ·rw [if_neg (c:=i<0∧Adj (rowD X a) (rowD X (b+1)) i) (by omega),List.append_nil,neL_succ]
   by_cases h:Adj (rowD X a) (rowD X b) i
   ·rw [if_pos ⟨hi,h⟩,if_pos h]
   ·rw [if_neg (fun h2=>h h2.2),if_neg h]
  ·rfl
theorem nrF_row {X:List (List Int)}{a:Nat}(i a' : Nat):nrF X a X.length 0 i a' = nrF X (a+1) 0 0 i a' := by
 unfold nrF
 rw [if_neg (c:=i<0∧Adj (rowD X a) (rowD X X.length) i) (by omega),if_neg (c:=i<0∧Adj (rowD X (a+1)) (rowD X 0) i) (by omega),List.append_nil,List.append_nil]
 by_cases h:a' < a
 ·rw [if_pos h,if_pos (by omega)]
 ·rw [if_neg h]
  by_cases h2:a' = a
  ·subst h2;rw [if_pos rfl,if_pos (by omega)]
  ·rw [if_neg h2,if_neg (by omega)]
   split
   ·simp [neL]
   ·rfl
theorem nrF_same {X:List (List Int)}{a b j:Nat}(h:¬ Adj (rowD X a) (rowD X b) j)(i a' : Nat):nrF X a b (j+1) i a' = nrF X a b j i a' := by
 unfold nrF
 split
 ·rfl
 ·split
  ·congr 1
   by_cases e:i=j
   ·subst e;rw [if_neg (fun h2=>h h2.2),if_neg (fun h2=>h h2.2)]
   ·by_cases h2:i<j∧Adj (rowD X a) (rowD X b) i
    ·rw [if_pos h2,if_pos ⟨by omega,h2.2⟩]
    ·rw [if_neg h2,if_neg (fun h3=>h2 ⟨by omega,h3.2⟩)]
  ·rfl
theorem nrF_at {X:List (List Int)}{a b j:Nat}:nrF X a b j j a=neL X j a b:=by
 unfold nrF
 rw [if_neg (by omega),if_pos rfl,if_neg (by omega),List.append_nil]
theorem nrF_new {X:List (List Int)}{a b j:Nat}(h:Adj (rowD X a) (rowD X b) j)(i a' : Nat):nrF X a b (j+1) i a' = if i=j∧a' = a then neL X j a b++[(b:Int)] else nrF X a b j i a' := by
 unfold nrF
 by_cases e:i=j∧a' = a
 ·obtain ⟨rfl,rfl⟩:=e
  rw [if_pos (c:=i=i∧a' = a') ⟨rfl,rfl⟩,if_neg (c:=a' < a') (by omega),if_pos (c:=a' = a') rfl,if_pos (c:=i<i+1∧Adj (rowD X a') (rowD X b) i) ⟨by omega,h⟩]
 ·rw [if_neg e]
  split
  ·rfl
  ·split
   ·rename_i h2
    have e2:i≠j:=fun h3=>e ⟨h3,h2⟩
    congr 1
    by_cases h3:i<j∧Adj (rowD X a) (rowD X b) i
    ·rw [if_pos h3,if_pos ⟨by omega,h3.2⟩]
    ·rw [if_neg h3,if_neg (fun h4=>h3 ⟨by omega,h4.2⟩)]
   ·rfl
theorem nrF_none {X:List (List Int)}{a b r:Nat}(h:∀ i,i<r→¬ Adj (rowD X a) (rowD X b) i)(i a' : Nat)(hi:i<r):nrF X a b 0 i a' = nrF X a (b+1) 0 i a' := by
 rw [← nrF_next i a' hi]
 unfold nrF
 split
 ·rfl
 ·split
  ·rw [if_neg (by omega),if_neg (fun h2=>h i hi h2.2)]
  ·rfl
noncomputable def neF (X:List (List Int))(i a:Nat):List Int:=neL X i a X.length
theorem nrF_end {X:List (List Int)}(i a' : Nat)(ha:a' < X.length):nrF X X.length 0 0 i a' = neF X i a' := by
 unfold nrF neF
 rw [if_pos ha]
set_option maxHeartbeats 8000000 in
theorem l03Near_p (X:List (List Int))(r:Nat)(hX:Fs r X)(hr:r≤5)(hN:X.length≤400)(h0:0<X.length):Pure Tryz.prog 80 [mat X] (.sl 0 1 0 r) [some (cub r X.length (neF X))]:=by
 have hrow:∀ a:Nat,a<X.length→(X.getD a []).length=r:=fun a ha=>hX.at_len ha
 have hrow0:=hrow 0 h0
 refine pureRV ok80 rfl ?_;unfold c80
 refine RN ?_
 refine V_loop (α:=Nat) (S:=fun i=>([(0,mat X),(3,.sl 0 1 0 i),(4,i64 (i:Int))],[some (cub i X.length fun _ _=>[])])) (C:=fun i=>i≤r) (μ:=fun i=>r - i) 0 (Nat.zero_le _) (Ref.to1) ?_
 intro i hi
 have hsn:=cub_snoc i X.length
 refine RN ?_
 refine ⟨fun hc=>?_,fun hc=>?_⟩
 ·(refine RN ?_;try with_reducible exact trivial)
  have hcl:=cub_len i X.length fun _ _=>[]
  obtain ⟨C,hC⟩:∃ C,C=cub i X.length fun _ _=>[]:=⟨_,rfl⟩
  have hCn:∀ τ,rnmL τ C=C:=fun τ=>by rw [hC];exact cub_rnm τ _ _ _
  rw [← hC] at hcl hsn ⊢
  rw [List.take_of_length_le (by omega:C.length≤i)]
  refine ⟨i+1,by omega,by omega,(Ref.nils 1 1 X.length rfl).trans ((Ref.close 3 i 1 (k:=1) (n:=X.length) (cs:=C++[.sl 1 1 0 X.length]) (cs2:=List.replicate X.length (.osl 1 0 [])) rfl (by rw [List.getElem?_append_right (by omega),hcl,Nat.sub_self];rfl) rfl (by decide) (by simp)).trans (Ref.gc [3] rfl ?_ (by simp [sub,fget,go_sem,↓reduceIte,Nat.reduceEqDiff,Nat.reduceAdd,reduceCtorEq])))⟩
  have hse:(C++[AV.sl 1 1 0 X.length]).set i (.osl 1 X.length (List.replicate X.length (.osl 1 0 [])))=C++[.osl 1 X.length (List.replicate X.length (.osl 1 0 []))]:=by
   rw [List.set_append_right _ _ (by omega),hcl,Nat.sub_self]
   rfl
  have hfix:rnmL (gcT [3] 0) (C++[.osl 1 X.length (List.replicate X.length (.osl 1 0 []))])=C++[.osl 1 X.length (List.replicate X.length (.osl 1 0 []))]:=by
   rw [← hsn];exact cub_rnm _ _ _ _
  rw [hsn]
  simp only [gcH,hse]
  exact congrArg (fun z=>[some z]) hfix
 ·have hir:i=r:=by grind
  subst hir
  refine RN ?_
  refine V_loop (α:=Nat) (S:=fun a=>([(0,mat X),(3,.sl 0 1 0 i),(5,i64 (a:Int))],[some (cub i X.length (nrF X a 0 0))])) (C:=fun a=>a≤X.length) (μ:=fun a=>X.length - a) 0 (Nat.zero_le _) (Ref.to (by rw [← nrF_start X]) (by simp [sub,fget])) ?_
  intro a ha
  refine RN ?_
  refine ⟨fun hc1=>?_,fun hc1=>?_⟩
  ·have hra:=hrow a (by omega)
   refine RN ?_
   refine V_loop (α:=Nat) (S:=fun b=>([(0,mat X),(3,.sl 0 1 0 i),(5,i64 (a:Int)),(6,i64 (b:Int))],[some (cub i X.length (nrF X a b 0))])) (C:=fun b=>b≤X.length) (μ:=fun b=>X.length - b) 0 (Nat.zero_le _) (Ref.to1) ?_
   intro b hb
   refine RN ?_
   refine ⟨fun hc2=>?_,fun hc2=>?_⟩
   ·have hrb:=hrow b (by omega)
    have hdf:=l03Differ_c (X.getD a []) (X.getD b []) (by omega) (by omega)
    have hdle:=difK_le (X.getD a []) (X.getD b []) (X.getD a []).length
    refine RN ?_
    refine pureC1 (hdf) ?_
    refine RN ?_
    refine ⟨fun hc3=>?_,fun hc3=>?_⟩
    ·have hno : ∀ k, k < i → ¬ Adj (rowD X a) (rowD X b) k := fun k hk h => hc3 (by
       have:=(dif_adj (a:=rowD X a) (b:=rowD X b) h.1 h.2.1).2 h
       unfold rowD at this
       rw [this];rfl)
     refine RN ?_
     exact ⟨b+1,by omega,by omega,Ref.to (by rw [cub_congr fun k c hk _=>nrF_none hno k c hk]) (by simp [sub,fget])⟩
    ·have hone:difK (X.getD a []) (X.getD b []) (X.getD a []).length=1:=by omega
     refine RN ?_
     refine V_loop (α:=Nat) (S:=fun j=>([(0,mat X),(3,.sl 0 1 0 i),(5,i64 (a:Int)),(6,i64 (b:Int)),(7,i64 (j:Int))],[some (cub i X.length (nrF X a b j))])) (C:=fun j=>j≤i) (μ:=fun j=>i - j) 0 (Nat.zero_le _) (Ref.to1) ?_
     intro j hj
     refine RN ?_
     refine ⟨fun hc4=>?_,fun hc4=>?_⟩
     ·have hja:j<i:=by omega
      refine RN ?_
      refine ⟨fun hc5=>?_,fun hc5=>?_⟩
      ·have hadj:Adj (rowD X a) (rowD X b) j:=(dif_adj (a:=rowD X a) (b:=rowD X b) (by unfold rowD;omega) hc5).1 hone
       have hnew:=cub_congr (r:=i) (N:=X.length) fun k c (_:k<i) (_:c<X.length)=>nrF_new hadj k c
       have hset:=cub_set (f:=nrF X a b j) hja (show a<X.length by omega) (neL X j a b++[(b:Int)])
       rw [← hnew] at hset
       have hG:=cub_at (N:=X.length) (f:=nrF X a b j) hja
       have hGl:=cub_len i X.length (nrF X a b j)
       have hfix:=fun τ=>cub_rnm τ i X.length (nrF X a b (j+1))
       have hLl:=neL_len X j a b
       obtain ⟨G,hGe⟩:∃ G,G=cub i X.length (nrF X a b j):=⟨_,rfl⟩
       obtain ⟨W,hWe⟩:∃ W,W=(List.range X.length).map fun c=>oints (nrF X a b j j c):=⟨_,rfl⟩
       have hWl:W.length=X.length:=by rw [hWe];simp
       have hW:W[a]? = some (oints (neL X j a b)):=by
        rw [hWe,← nrF_at (X:=X) (a:=a) (b:=b) (j:=j)]
        simp [show a<X.length by omega]
       rw [← hGe,← hWe] at hset hG
       rw [← hGe] at hGl ⊢
       obtain ⟨L,hL⟩:∃ L,L=neL X j a b:=⟨_,rfl⟩
       rw [← hL] at hW hset hLl
       obtain ⟨D,hD⟩:∃ D,D=cub i X.length (nrF X a b (j+1)):=⟨_,rfl⟩
       rw [← hD] at hset hfix
       refine V_ref ((Ref.open 0 j (cs:=G) (cs2:=W) (k:=1) (n:=X.length) rfl hG).trans ((Ref.open 1 a (cs:=W) (cs2:=intsC L) (k:=1) (n:=L.length) rfl hW).trans (Ref.to (F' := [(0,mat X),(3,.sl 0 1 0 i),(5,i64 (a:Int)),(6,i64 (b:Int)),(7,i64 (j:Int))]) (H' := [some (G.set j (.sl 1 1 0 X.length)),some (W.set a (.sl 2 1 0 L.length)),some (intsC L)]) rfl (by simp [sub,fget])))) ?_
       have g1:∀ d,(G.set j (AV.sl 1 1 0 X.length)).getD j d = .sl 1 1 0 X.length:=fun d=>by simp [hGl,hja]
       have g2:∀ d,(W.set a (AV.sl 2 1 0 L.length)).getD a d = .sl 2 1 0 L.length:=fun d=>by simp [hWl,show a<X.length by omega]
       have g3:((j:Int)).toNat=j:=by omega
       have g4:((a:Int)).toNat=a:=by omega
       have q1:∀ o:Nat,((W.set a (AV.sl 2 1 0 L.length)).set a (AV.sl o 1 0 (L.length+1)))[a]? = some (.sl o 1 0 (L.length+1)):=fun o=>by simp [hWl,show a<X.length by omega]
       have q2:(G.set j (AV.sl 1 1 0 X.length))[j]? = some (.sl 1 1 0 X.length):=by simp [hGl,hja]
       have q3:(intsC L++[i64 (b:Int)]).length=(L.length+1)*1:=by simp [intsC]
       have q4:∀ o:Nat,(((W.set a (AV.sl 2 1 0 L.length)).set a (AV.sl o 1 0 (L.length+1))).set a (.osl 1 (L.length+1) (intsC L++[i64 (b:Int)])))=W.set a (oints (L++[(b:Int)])):=fun o=>by
        rw [List.set_set,List.set_set]
        simp [oints,intsC,i64]
       have q5:((G.set j (AV.sl 1 1 0 X.length)).set j (.osl 1 X.length (W.set a (oints (L++[(b:Int)])))))=D:=by
        rw [List.set_set];exact hset
       have q6:(W.set a (oints (L++[(b:Int)]))).length=X.length*1:=by simp [hWl]
       refine V_altsB [(0,mat X),(3,.sl 0 1 0 i),(5,i64 (a:Int)),(6,i64 (b:Int)),(7,i64 (j:Int))] [some D] ?_ ?_
       ·repeat' first
          | simp only [g1,g2,g3,g4,List.length_set,hGl,hWl,go_sem,↓reduceIte,Nat.reduceEqDiff,Nat.reduceAdd,reduceCtorEq]
          | with_reducible refine LT_reg ?_
          | with_reducible refine LT_fin ?_
          | with_reducible exact LT_tt
          | with_reducible refine LT_alt ?_ ?_
          | (with_reducible refine And.intro ?_ ?_;focus first | assumption | omega | grind | decide)
        all_goals first
         | (refine (Ref.close 1 a 4 (k := 1) (n := L.length + 1) (cs2 := intsC L ++ [i64 (b : Int)]) rfl (q1 4) rfl (by decide) q3).trans ?_
            rw [q4]
            refine (Ref.close 0 j 1 (k:=1) (n:=X.length) (cs2:=W.set a (oints (L++[(b:Int)]))) rfl q2 rfl (by decide) q6).trans ?_
            rw [q5]
            exact Ref.gc [0] rfl (by simp only [gcH];exact congrArg (fun z=>[some z]) (hfix _)) (by simp [sub,fget,go_sem,↓reduceIte,Nat.reduceEqDiff,Nat.reduceAdd,reduceCtorEq]))
         | (refine (Ref.close 1 a 3 (k := 1) (n := L.length + 1) (cs2 := intsC L ++ [i64 (b : Int)]) rfl (q1 3) rfl (by decide) q3).trans ?_
            rw [q4]
            refine (Ref.close 0 j 1 (k:=1) (n:=X.length) (cs2:=W.set a (oints (L++[(b:Int)]))) rfl q2 rfl (by decide) q6).trans ?_
            rw [q5]
            exact Ref.gc [0] rfl (by simp only [gcH];exact congrArg (fun z=>[some z]) (hfix _)) (by simp [sub,fget,go_sem,↓reduceIte,Nat.reduceEqDiff,Nat.reduceAdd,reduceCtorEq]))
         | (refine (Ref.close 1 a 4 (k := 1) (n := L.length + 1) (cs2 := intsC L ++ [i64 (b : Int)]) rfl (q1 4) rfl (by decide) q3).trans ?_
            rw [q4]
            refine (Ref.close 0 j 1 (k:=1) (n:=X.length) (cs2:=W.set a (oints (L++[(b:Int)]))) rfl q2 rfl (by decide) q6).trans ?_
            rw [q5]
            refine Ref.gc [0] rfl ?_ ?_)
       refine RN ?_
       exact ⟨j+1,by omega,by omega,Ref.to (by rw [hD]) (by simp [sub,fget])⟩
      ·have hadj:¬ Adj (rowD X a) (rowD X b) j:=fun h=>h.2.1 (by unfold rowD;exact hc5)
       refine RN ?_
       exact ⟨j+1,by omega,by omega,Ref.to (by rw [cub_congr fun k c _ _=>(nrF_same hadj k c)]) (by simp [sub,fget])⟩
     ·obtain rfl:j=i:=by omega
      refine RN ?_
      exact ⟨b+1,by omega,by omega,Ref.to (by rw [cub_congr fun k c hk _=>nrF_next k c hk]) (by simp [sub,fget])⟩
   ·obtain rfl:b=X.length:=by omega
    refine RN ?_
    exact ⟨a+1,by omega,by omega,Ref.to (by rw [cub_congr fun k c _ _=>nrF_row k c]) (by simp [sub,fget])⟩
  ·obtain rfl:a=X.length:=by omega
   refine RN ?_
   exact Ref.to (by rw [cub_congr fun k c _ hc=>nrF_end k c hc]) (by simp [sub,fget])
end Go.Proofs.YtaekhhaaphgndaaGreatDoor
namespace Go.Fl
open Go.Proofs.YtaekhhaaphgndaaGreatDoor
open Classical
def PdA (V:List Nat)(x:Nat)(z _y:Nat):Prop:=∃ k,x≤k∧V[k]? = some z
def PdB (X:List (List Int))(m:Nat→Bool)(V:List Nat)(x t:Nat)(z y:Nat):Prop:=(∃ k,x<k∧V[k]? = some z)∨(V[x]? = some z∧∃ s,t≤s∧m s=false∧Adj (rowD X z) (rowD X y) s)
def PdC (X:List (List Int))(m:Nat→Bool)(V:List Nat)(x t:Nat)(L:List Int)(j:Nat)(z y:Nat):Prop:=(∃ k,x<k∧V[k]? = some z)∨(V[x]? = some z∧((∃ s,t<s∧m s=false∧Adj (rowD X z) (rowD X y) s)∨∃ c,j≤c∧L[c]? = some (y:Int)))
section
variable {r:Nat} {X:List (List Int)} {m:Nat→Bool} {i:Nat} {V:List Nat}
theorem FI.a0 (hi:i<X.length):FI (Em X m) X.length i [i] (PdA [i] 0):=FI.start hi fun y _=>⟨0,Nat.le_refl _,rfl⟩
theorem FI.ab {x:Nat}(h:FI (Em X m) X.length i V (PdA V x)):FI (Em X m) X.length i V (PdB X m V x 0):=h.mono fun z _ y he hp=>by
 obtain ⟨k,hk,hz⟩:=hp
 obtain ⟨_,_,s,h1,h2⟩:=he
 by_cases e:k=x
 ·subst e;exact .inr (.inr ⟨hz,s,Nat.zero_le _,h1,h2⟩)
 ·exact .inr (.inl ⟨k,by omega,hz⟩)
theorem FI.bskip {x t:Nat}(h:FI (Em X m) X.length i V (PdB X m V x t))(ht:m t=true):FI (Em X m) X.length i V (PdB X m V x (t+1)):=h.mono fun z _ y _ hp=>by
 rcases hp with hp | ⟨hz,s,h1,h2,h3⟩
 ·exact .inr (.inl hp)
 ·refine .inr (.inr ⟨hz,s,?_,h2,h3⟩)
  have:s≠t:=fun e=>by rw [e,ht] at h2;cases h2
  omega
theorem FI.bc {x t z:Nat}(h:FI (Em X m) X.length i V (PdB X m V x t))(hz:V[x]? = some z):FI (Em X m) X.length i V (PdC X m V x t (neF X t z) 0):=h.mono fun u _ y he hp=>by
 rcases hp with hp | ⟨hu,s,h1,h2,h3⟩
 ·exact .inr (.inl hp)
 ·by_cases e:s=t
  ·subst e
   rw [hz] at hu
   cases hu
   have hm:(y:Int)∈neF X s z:=neL_mem.2 ⟨y,rfl,he.2.1,h3⟩
   obtain ⟨c,hc⟩:=List.mem_iff_getElem?.1 hm
   exact .inr (.inr ⟨hz,.inr ⟨c,Nat.zero_le _,hc⟩⟩)
  ·exact .inr (.inr ⟨hu,.inl ⟨s,by omega,h2,h3⟩⟩)
theorem FI.chave {x t:Nat}{L:List Int}{j y:Nat}(h:FI (Em X m) X.length i V (PdC X m V x t L j))(hj:L[j]? = some (y:Int))(hy:y∈V):FI (Em X m) X.length i V (PdC X m V x t L (j+1)):=h.mono fun z _ u _ hp=>by
 rcases hp with hp | ⟨hz,hp | ⟨c,h1,h2⟩⟩
 ·exact .inr (.inl hp)
 ·exact .inr (.inr ⟨hz,.inl hp⟩)
 ·by_cases e:c=j
  ·subst e
   rw [hj] at h2
   have:y=u:=by have:=Option.some.inj h2;omega
   exact .inl (this ▸ hy)
  ·exact .inr (.inr ⟨hz,.inr ⟨c,by omega,h2⟩⟩)
theorem FI.cadd {x t z:Nat}{L:List Int}{j y:Nat}(h:FI (Em X m) X.length i V (PdC X m V x t L j))(hx:V[x]? = some z)(hj:L[j]? = some (y:Int))(he:Em X m z y)(hn:y∉V):FI (Em X m) X.length i (V++[y]) (PdC X m (V++[y]) x t L (j+1)):=by
 have hxl:=(List.getElem?_eq_some_iff.1 hx).1
 have up:∀ {k w:Nat},V[k]? = some w→(V++[y])[k]? = some w:=fun {k w} hk=>by
  rw [List.getElem?_append_left (List.getElem?_eq_some_iff.1 hk).1];exact hk
 refine h.add (List.mem_iff_getElem?.2 ⟨x,hx⟩) he he.2.1 hn (fun u _ w _ hp=>?_) fun w _=>.inr (.inl ⟨V.length,hxl,by simp⟩)
 rcases hp with ⟨k,hk,hz⟩ | ⟨hz,hp | ⟨c,h1,h2⟩⟩
 ·exact .inr (.inl ⟨k,hk,up hz⟩)
 ·exact .inr (.inr ⟨up hz,.inl hp⟩)
 ·by_cases e:c=j
  ·subst e
   rw [hj] at h2
   have:y=w:=by have:=Option.some.inj h2;omega
   exact .inl (by rw [← this];simp)
  ·exact .inr (.inr ⟨up hz,.inr ⟨c,by omega,h2⟩⟩)
theorem FI.cb {x t:Nat}{L:List Int}(h:FI (Em X m) X.length i V (PdC X m V x t L L.length)):FI (Em X m) X.length i V (PdB X m V x (t+1)):=h.mono fun z _ y _ hp=>by
 rcases hp with hp | ⟨hz,⟨s,h1,h2,h3⟩ | ⟨c,h1,h2⟩⟩
 ·exact .inr (.inl hp)
 ·exact .inr (.inr ⟨hz,s,by omega,h2,h3⟩)
 ·have:=(List.getElem?_eq_some_iff.1 h2).1
  omega
theorem FI.ba {x:Nat}(h:FI (Em X m) X.length i V (PdB X m V x r))(hX:Fs r X):FI (Em X m) X.length i V (PdA V (x+1)):=h.mono fun z _ y he hp=>by
 rcases hp with ⟨k,hk,hz⟩ | ⟨hz,s,h1,h2,h3⟩
 ·exact .inr ⟨k,by omega,hz⟩
 ·have:=h3.1
  rw [hX.at_len he.1] at this
  omega
theorem FI.ad (h:FI (Em X m) X.length i V (PdA V V.length)):∀ j,j∈V ↔ Rt (Em X m) i j:=h.done fun z _ y _ hp=>by
 obtain ⟨k,hk,hz⟩:=hp
 have:=(List.getElem?_eq_some_iff.1 hz).1
 omega
end
end Go.Fl
namespace Go.Proofs.YtaekhhaaphgndaaGreatDoor
section
open Go.Gov Go.Fl
open Classical
def rwC (N:Nat)(g:Nat→List Int):List AV:=(List.range N).map fun a=>ints (g a)
def cubC (r N:Nat)(f:Nat→Nat→List Int):List AV:=(List.range r).map fun i=>.slc 1 N (rwC N (f i))
theorem ints_rnm' (τ:Nat→Option Nat)(L:List Int):rnm τ (ints L)=ints L:=by simp [rnm,ints,rnmL_ints]
theorem rwC_len (N:Nat)(g:Nat→List Int):(rwC N g).length=N:=by simp [rwC]
theorem cubC_len (r N:Nat)(f:Nat→Nat→List Int):(cubC r N f).length=r:=by simp [cubC]
theorem rwC_rnm (τ:Nat→Option Nat)(N:Nat)(g:Nat→List Int):rnmL τ (rwC N g)=rwC N g:=by
 rw [rnmL_map]
 unfold rwC
 rw [List.map_map]
 exact List.map_congr_left fun i _=>ints_rnm' τ _
theorem cubC_rnm (τ:Nat→Option Nat)(r N:Nat)(f:Nat→Nat→List Int):rnmL τ (cubC r N f)=cubC r N f:=by
 rw [rnmL_map]
 unfold cubC
 rw [List.map_map]
 exact List.map_congr_left fun i _=>by simp only [Function.comp,rnm,rwC_rnm]
theorem rwC_frz (H:Heap)(d N:Nat)(g:Nat→List Int):(rwC N g).map (frz H (d+2))=rwC N g:=by
 unfold rwC
 rw [List.map_map]
 exact List.map_congr_left fun i _=>by simp [Function.comp,frz,ints,intsC]
theorem cubC_frz (H:Heap)(d r N:Nat)(f:Nat→Nat→List Int):(cubC r N f).map (frz H (d+3))=cubC r N f:=by
 unfold cubC
 rw [List.map_map]
 exact List.map_congr_left fun i _=>by simp only [Function.comp,frz,rwC_frz]
theorem rwC_at {N a:Nat}(g:Nat→List Int)(h:a<N):(rwC N g)[a]? = some (ints (g a)):=by simp [rwC,h]
theorem cubC_at {r t:Nat}(N:Nat)(f:Nat→Nat→List Int)(h:t<r):(cubC r N f)[t]? = some (.slc 1 N (rwC N (f t))):=by simp [cubC,h]
theorem rwC_getD {N a:Nat}(g:Nat→List Int)(d:AV)(h:a<N):(rwC N g).getD a d=ints (g a):=by rw [List.getD_eq_getElem?_getD,rwC_at g h];rfl
theorem cubC_getD {r t:Nat}(N:Nat)(f:Nat→Nat→List Int)(d:AV)(h:t<r):(cubC r N f).getD t d = .slc 1 N (rwC N (f t)):=by rw [List.getD_eq_getElem?_getD,cubC_at N f h];rfl
attribute [go_sem] rwC_len cubC_len rwC_rnm cubC_rnm rwC_frz cubC_frz
def nI (V:List Nat):List Int:=V.map fun x:Nat=>(x:Int)
theorem nI_len (V:List Nat):(nI V).length=V.length:=by simp [nI]
theorem nI_at {V:List Nat}{k:Nat}(h:k<V.length):(nI V).getD k 0=(V.getD k 0:Nat):=by simp [nI,h]
theorem nI_app (V:List Nat)(y:Nat):nI (V++[y])=nI V++[(y:Int)]:=by simp [nI]
abbrev Al:Nat→Prop:=fun _=>True
def mB (mask i:Nat):Bool:=mask.testBit i
theorem mB_bit:∀ mask,mask<32→∀ t,t<5→(bitsV .and .i64 (shV .shr .i64 ((mask:Nat):Int) (IntKind.u64.wrap ((t:Nat):Int))) 1=1 ↔ mB mask t=true):=by decide +kernel
theorem l03Linked_p (X:List (List Int))(r mask:Nat)(hX:Fs r X)(hr:r≤5)(hN:X.length≤400)(hm:mask<32):Pure Tryz.prog 81 [.slc 1 r (cubC r X.length (neF X)),i64 (X.length:Int),i64 (mask:Int)] (.sl 0 1 0 X.length) [some (intsC (lbl (Em X (mB mask)) Al X.length X.length []))]:=by
 have hE:∀ x y,Em X (mB mask) x y→Em X (mB mask) y x:=fun x y=>Em.symm hX x y
 obtain ⟨N,hNe⟩:∃ N,N=X.length:=⟨_,rfl⟩
 have hll:=fun i V=>lbl_len (E:=Em X (mB mask)) Al X.length i V
 refine pureRV ok81 rfl ?_;unfold c81
 refine RN ?_
 refine V_loop (α:=Nat) (S:=fun i=>([(0,.slc 1 r (cubC r X.length (neF X))),(1,i64 (X.length:Int)),(2,i64 (mask:Int)),(7,.sl 0 1 0 i),(8,i64 (i:Int))],[some (intsC (List.replicate i (-1)))])) (C:=fun i=>i≤X.length) (μ:=fun i=>X.length - i) 0 (Nat.zero_le _) (Ref.to1) ?_
 intro i hi
 refine RN ?_
 refine ⟨fun hc=>?_,fun hc=>?_⟩
 ·(refine RN ?_;try with_reducible exact trivial)
  have hrp:List.take i (intsC (List.replicate i (-1)))++[.val (.int .i64 (-1))]=intsC (List.replicate (i+1) (-1)):=by simp [intsC,i64,List.replicate_succ']
  exact ⟨i+1,by omega,by omega,Ref.gc [2] rfl (by rw [hrp];simp only [gcH,go_sem,↓reduceIte,Nat.reduceEqDiff,Nat.reduceAdd,reduceCtorEq]) (by simp [sub,fget,go_sem,↓reduceIte,Nat.reduceEqDiff,Nat.reduceAdd,reduceCtorEq])⟩
 ·obtain rfl:i=X.length:=by omega
  refine RN ?_
  refine V_loop (α:=Nat) (S:=fun i=>([(0,.slc 1 r (cubC r X.length (neF X))),(1,i64 (X.length:Int)),(2,i64 (mask:Int)),(7,.sl 0 1 0 X.length),(9,i64 (i:Int))],[some (intsC (lbl (Em X (mB mask)) Al X.length i []))])) (C:=fun i=>i≤X.length) (μ:=fun i=>X.length - i) 0 (Nat.zero_le _) (Ref.to (by rw [lbl_start]) (by simp [sub,fget])) ?_
  intro i hi
  have hl:=hll i []
  refine RN ?_
  refine ⟨fun hc=>?_,fun hc=>?_⟩
  ·have hfr:=lbl_free (E:=Em X (mB mask)) (D:=Al) (n:=X.length) (i:=i) (by omega) trivial
   refine RN ?_
   refine ⟨fun hc1=>?_,fun hc1=>?_⟩
   ·have hsk:=lbl_skip (E:=Em X (mB mask)) (D:=Al) (n:=X.length) (i:=i) hE (.inr (by have:=(lst_spec (Em X (mB mask)) i).1;have:lst (Em X (mB mask)) i≠i:=fun e=>(by have:=hfr.2 e;omega);omega)) fun _ _ _ _=>trivial
    refine RN ?_
    exact ⟨i+1,by omega,by omega,Ref.to (by rw [hsk]) (by simp [sub,fget])⟩
   ·have hls:lst (Em X (mB mask)) i=i:=hfr.1 hc1
    have hst:=lbl_set (E:=Em X (mB mask)) (D:=Al) (n:=X.length) (i:=i) (V:=[]) (j:=i) (by omega)
    have hfi:=FI.a0 (X:=X) (m:=mB mask) (i:=i) (by omega)
    refine RN ?_
    refine V_loop (α:=List Nat×Nat) (S:=fun p=>([(0,.slc 1 r (cubC r X.length (neF X))),(1,i64 (X.length:Int)),(2,i64 (mask:Int)),(7,.sl 0 1 0 X.length),(9,i64 (i:Int)),(10,.sl 1 1 0 p.1.length),(11,i64 (p.2:Int))],[some (intsC (lbl (Em X (mB mask)) Al X.length i p.1)),some (intsC (nI p.1))])) (C:=fun p=>p.2≤p.1.length∧FI (Em X (mB mask)) X.length i p.1 (PdA p.1 p.2)) (μ:=fun p=>X.length - p.2) ([i],0) ⟨Nat.zero_le _,hfi⟩ (Ref.to (by rw [hst];rfl) (by simp [sub,fget])) ?_
    rintro ⟨V,x⟩ ⟨hx,hf⟩
    dsimp only at hx hf ⊢
    have hVn:=hf.len
    have hVl:=nI_len V
    have hl:=hll i V
    refine RN ?_
    refine ⟨fun hc2=>?_,fun hc2=>?_⟩
    ·obtain ⟨z,hz⟩:∃ z,V[x]? = some z:=⟨_,List.getElem?_eq_getElem (by omega)⟩
     have hzN:z<X.length:=(hf.ok z (List.mem_iff_getElem?.2 ⟨x,hz⟩)).1
     refine RN ?_
     refine V_loop (α:=List Nat×Nat) (S:=fun p=>([(0,.slc 1 r (cubC r X.length (neF X))),(1,i64 (X.length:Int)),(2,i64 (mask:Int)),(7,.sl 0 1 0 X.length),(9,i64 (i:Int)),(10,.sl 1 1 0 p.1.length),(11,i64 (x:Int)),(12,i64 (p.2:Int))],[some (intsC (lbl (Em X (mB mask)) Al X.length i p.1)),some (intsC (nI p.1))])) (C:=fun p=>p.2≤r∧p.1[x]? = some z∧FI (Em X (mB mask)) X.length i p.1 (PdB X (mB mask) p.1 x p.2)) (μ:=fun p=>r - p.2) (V,0) ⟨Nat.zero_le _,hz,hf.ab⟩ (Ref.to1) ?_
     clear hf hVn hVl hl hz hc2 hx
     rintro ⟨V,t⟩ ⟨ht,hz,hf⟩
     dsimp only at ht hz hf ⊢
     have hxV:=(List.getElem?_eq_some_iff.1 hz).1
     have hVn:=hf.len
     have hVl:=nI_len V
     have hl:=hll i V
     refine RN ?_
     refine ⟨fun hc3=>?_,fun hc3=>?_⟩
     ·have hbit:=mB_bit mask hm t (by omega)
      refine RN ?_
      refine ⟨fun hc4=>?_,fun hc4=>?_⟩
      ·(refine RN ?_;try with_reducible exact trivial)
       exact ⟨(V,t+1),⟨by dsimp only;omega,hz,hf.bskip (hbit.1 hc4)⟩,by dsimp only;omega,Ref.to1⟩
      ·have hmt : mB mask t = false := by
         cases h:mB mask t with
         | false=>rfl
         | true=>exact absurd (hbit.2 h) hc4
       have hVa:(nI V).getD x 0=(z:Int):=by
        rw [nI_at hxV,List.getD_eq_getElem?_getD,hz];rfl
       have hg1:=fun d=>cubC_getD (r:=r) (t:=t) X.length (neF X) d (by omega)
       have hg2:=fun d=>rwC_getD (N:=X.length) (a:=z) (neF X t) d hzN
       have hLn:(neF X t z).length≤X.length:=neL_len X t z X.length
       have hLm:∀ j,j<(neF X t z).length→∃ y:Nat,(neF X t z)[j]? = some (y:Int)∧(neF X t z).getD j 0=(y:Int)∧y<X.length∧Em X (mB mask) z y:=fun j hj=>by
        have h1:(neF X t z)[j]∈neF X t z:=List.getElem_mem hj
        obtain ⟨y,h2,h3,h4⟩:=neL_mem.1 h1
        refine ⟨y,by rw [List.getElem?_eq_getElem hj,h2],by rw [List.getD_eq_getElem?_getD,List.getElem?_eq_getElem hj];exact h2,h3,hzN,h3,t,hmt,h4⟩
       have hbc:=hf.bc hz
       refine RN ?_
       simp only [hg1,hVa,go_sem,↓reduceIte,Nat.reduceEqDiff,Nat.reduceAdd,reduceCtorEq]
       refine RN ?_
       simp only [hg2,hVa,go_sem,↓reduceIte,Nat.reduceEqDiff,Nat.reduceAdd,reduceCtorEq]
       refine RN ?_
       generalize neF X t z=L at hLn hLm hbc ⊢
       refine V_loop (α:=List Nat×Nat) (S:=fun p=>([(0,.slc 1 r (cubC r X.length (neF X))),(1,i64 (X.length:Int)),(2,i64 (mask:Int)),(7,.sl 0 1 0 X.length),(9,i64 (i:Int)),(10,.sl 1 1 0 p.1.length),(11,i64 (x:Int)),(12,i64 (t:Int)),(13,ints L),(14,i64 (p.2:Int))],[some (intsC (lbl (Em X (mB mask)) Al X.length i p.1)),some (intsC (nI p.1))])) (C:=fun p=>p.2≤L.length∧p.1[x]? = some z∧FI (Em X (mB mask)) X.length i p.1 (PdC X (mB mask) p.1 x t L p.2)) (μ:=fun p=>L.length - p.2) (V,0) ⟨Nat.zero_le _,hz,hbc⟩ (Ref.to1) ?_
       clear hf hVn hVl hl hz hVa hxV hbc
       rintro ⟨V,j⟩ ⟨hj,hz,hf⟩
       dsimp only at hj hz hf ⊢
       have hVn:=hf.len
       have hVl:=nI_len V
       have hl:=hll i V
       refine RN ?_
       refine ⟨fun hc5=>?_,fun hc5=>?_⟩
       ·obtain ⟨y,hy1,hy2,hyN,hyE⟩:=hLm j (by omega)
        have hly:=lbl_neg (E:=Em X (mB mask)) (D:=Al) (n:=X.length) (i:=i) (V:=V) hyN
        have hls2:¬ (Al y∧lst (Em X (mB mask)) y<i):=fun h=>by
         have h1:Rt (Em X (mB mask)) i y:=.step (hf.ok z (List.mem_iff_getElem?.2 ⟨x,hz⟩)).2 hyE
         have:=lst_eq hE h1
         rw [hls] at this
         omega
        refine RN ?_
        simp only [hy2,go_sem,↓reduceIte,Nat.reduceEqDiff,Nat.reduceAdd,reduceCtorEq]
        refine RN ?_
        refine ⟨fun hc6=>?_,fun hc6=>?_⟩
        ·have hnV:y∉V:=(hly.1 hc6).2
         have hst:=lbl_set (E:=Em X (mB mask)) (D:=Al) (n:=X.length) (i:=i) (V:=V) (j:=y) hls2
         have hadd:=hf.cadd hz hy1 hyE hnV
         have hna:=nI_app V y
         refine RN ?_
         simp only [hy2,go_sem,↓reduceIte,Nat.reduceEqDiff,Nat.reduceAdd,reduceCtorEq]
         refine RN ?_
         have hup:(V++[y])[x]? = some z:=by
          rw [List.getElem?_append_left (List.getElem?_eq_some_iff.1 hz).1];exact hz
         have happ:List.take V.length (intsC (nI V))++[i64 (y:Int)]=intsC (nI (V++[y])):=by
          rw [hna,List.take_of_length_le (by simp [intsC,hVl])];simp [intsC]
         have hlen:(V++[y]).length=V.length+1:=by simp
         exact ⟨(V++[y],j+1),⟨by dsimp only;omega,hup,hadd⟩,by dsimp only;omega,Ref.gc [0,3] rfl (by rw [hst,happ];simp only [gcH,go_sem,↓reduceIte,Nat.reduceEqDiff,Nat.reduceAdd,reduceCtorEq]) (by simp [sub,fget,go_sem,↓reduceIte,Nat.reduceEqDiff,Nat.reduceAdd,reduceCtorEq])⟩
        ·have hyV:y∈V:=Classical.byContradiction fun h=>by have:=hly.2 ⟨hls2,h⟩;omega
         refine RN ?_
         exact ⟨(V,j+1),⟨by dsimp only;omega,hz,hf.chave hy1 hyV⟩,by dsimp only;omega,Ref.to1⟩
       ·obtain rfl:j=L.length:=by omega
        refine RN ?_
        exact ⟨(V,t+1),⟨by dsimp only;omega,hz,hf.cb⟩,by dsimp only;omega,Ref.to1⟩
     ·obtain rfl:t=r:=by omega
      refine RN ?_
      exact ⟨(V,x+1),⟨by dsimp only;omega,hf.ba hX⟩,by dsimp only;omega,Ref.to1⟩
    ·obtain rfl:x=V.length:=by omega
     have hfill:=lbl_fill (E:=Em X (mB mask)) (D:=Al) (n:=X.length) (i:=i) (V:=V) hE hls trivial (fun _ _ _ _=>trivial) hf.ad
     refine RN ?_
     exact ⟨i+1,by omega,by omega,Ref.gc [0] rfl (by rw [hfill];simp only [gcH,go_sem,↓reduceIte,Nat.reduceEqDiff,Nat.reduceAdd,reduceCtorEq]) (by simp [sub,fget,go_sem,↓reduceIte,Nat.reduceEqDiff,Nat.reduceAdd,reduceCtorEq])⟩
  ·obtain rfl:i=X.length:=by omega
   refine RN ?_
   exact Ref.to1
end
section
open Go.Gov Go.Fl
open Classical
theorem Em_congr {r:Nat}{X:List (List Int)}{m m' : Nat→Bool}(hX:Fs r X)(h:∀ i,i<r→m i=m' i)(a b:Nat)(e:Em X m a b):Em X m' a b:=by
 obtain ⟨h1,h2,i,h3,h4⟩:=e
 exact ⟨h1,h2,i,by rw [← h i (by have:=h4.1;rw [hX.at_len h1] at this;exact this)];exact h3,h4⟩
def mkA (f:Nat→Bool):Nat→Nat
 | 0=>0
 | t+1=>mkA f t+if f t=true then 2^t else 0
theorem mkA_lt (f:Nat→Bool):∀ t,mkA f t<2^t
 | 0=>Nat.one_pos
 | t+1=>by
  have:=mkA_lt f t
  unfold mkA
  rw [Nat.pow_succ]
  split<;>omega
theorem mkA_bit (f:Nat→Bool):∀ t i,i<t→(mkA f t).testBit i=f i
 | t+1,i,h=>by
  have h1:=mkA_lt f t
  unfold mkA
  by_cases e:i=t
  ·subst e
   cases hf:f i with
   | false=>rw [if_neg (by simp),Nat.add_zero,Nat.testBit_lt_two_pow h1]
   | true=>
    rw [if_pos rfl,Nat.add_comm,Nat.testBit_two_pow_add_eq,Nat.testBit_lt_two_pow h1]
    rfl
  ·have ih:=mkA_bit f t i (by omega)
   cases hf:f t with
   | false=>rw [if_neg (by simp),Nat.add_zero,ih]
   | true=>rw [if_pos rfl,Nat.add_comm,Nat.testBit_two_pow_add_gt (by omega),ih]
noncomputable def lT (X:List (List Int))(m:Nat):List (List Int):=(List.range m).map fun q=>lbl (Em X (mB q)) Al X.length X.length []
theorem lT_len (X:List (List Int))(m:Nat):(lT X m).length=m:=by simp [lT]
theorem lT_at {X:List (List Int)}{m q:Nat}(h:q<m):(lT X m).getD q []=lbl (Em X (mB q)) Al X.length X.length []:=by simp [lT,h]
theorem lT_succ (X:List (List Int))(m:Nat):lT X (m+1)=lT X m++[lbl (Em X (mB m)) Al X.length X.length []]:=by simp [lT,List.range_succ]
theorem lT_same {r : Nat} {X : List (List Int)} (hX : Fs r X) (hr : r ≤ 5) {a b : Nat} (ha : a < X.length) (hb : b < X.length) :
    (((lT X (2^r)).getD (mkA (agr X a b) r) []).getD a 0=((lT X (2^r)).getD (mkA (agr X a b) r) []).getD b 0) ↔ Rt (Em X (agr X a b)) a b:=by
 have hE:∀ x y,Em X (mB (mkA (agr X a b) r)) x y→Em X (mB (mkA (agr X a b) r)) y x:=fun x y=>Em.symm hX x y
 rw [lT_at (mkA_lt _ r),lbl_end X.length ha trivial,lbl_end X.length hb trivial]
 rw [Int.natCast_inj,lst_iff hE]
 have hbit:∀ i,i<r→mB (mkA (agr X a b) r) i=agr X a b i:=fun i hi=>mkA_bit _ r i hi
 exact ⟨Rt.mono (Em_congr hX hbit),Rt.mono (Em_congr hX fun i hi=>(hbit i hi).symm)⟩
theorem shl_pow:∀ r,r≤5→shV .shl .i64 1 (IntKind.u64.wrap ((r:Nat):Int))=((2^r:Nat):Int):=by decide +kernel
theorem l03Parted_e (X:List (List Int))(r:Nat)(hX:Fs r X)(hr:r≤5)(hN:X.length≤400)(h0:0<X.length):PureE Tryz.prog 62 [mat X] (fun L:List Int=>L.length≤2∧(L=[] ↔ Lnk X)) (fun L=>.sl 0 1 0 L.length) (fun L=>[some (intsC L)]):=by
 have hnear:=l03Near_p X r hX hr hN h0
 have hrow:∀ a:Nat,a<X.length→(X.getD a []).length=r:=fun a ha=>hX.at_len ha
 have hsh:=shl_pow r hr
 have hpw:2^r≤32:=Nat.le_trans (Nat.pow_le_pow_right (by decide) hr) (by decide)
 obtain ⟨P,hP⟩:∃ P,P=2^r:=⟨_,rfl⟩
 rw [← hP] at hsh hpw
 refine pureREV ok62 rfl ?_;unfold c62
 refine RN ?_
 refine pureC1 (hnear) ?_
 refine RN ?_
 refine V_loop (α:=Nat) (S:=fun m=>([(0,mat X),(3,.slc 1 r (cubC r X.length (neF X))),(4,.sl 0 1 0 m),(5,i64 (m:Int))],[some ((lT X m).map oints)])) (C:=fun m=>m≤P) (μ:=fun m=>P - m) 0 (Nat.zero_le _) ?_ ?_
 ·have hcf : ∀ H : Heap, ((cub r X.length (neF X)).take r).map (frz H 5) = cubC r X.length (neF X) := fun H => by
    rw [List.take_of_length_le (by rw [cub_len];exact Nat.le_refl _)]
    exact cub_frz H 2 r X.length (neF X)
  refine (Ref.ice 0 (F' := [(0,mat X),(3,.slc 1 r (cubC r X.length (neF X))),(4,.sl 1 1 0 0),(5,i64 0)]) (H' := [none,some []]) rfl ?_).trans (Ref.gc [1] rfl rfl (by simp [sub,fget,go_sem,↓reduceIte,Nat.reduceEqDiff,Nat.reduceAdd,reduceCtorEq]))
  simp [sub,fget,iceF,ice,frz,sole_at,hcf,go_sem,↓reduceIte,Nat.reduceEqDiff,Nat.reduceAdd,reduceCtorEq]
 intro m hm
 have hTl:=lT_len X m
 refine RN ?_
 rw [hsh]
 refine ⟨fun hc=>?_,fun hc=>?_⟩
 ·have hln:=l03Linked_p X r m hX hr hN (by omega)
  refine RN ?_
  refine pureC1 (hln) ?_
  refine RN ?_
  have hl1:=lbl_len (E:=Em X (mB m)) Al X.length X.length []
  have hsn:=lT_succ X m
  obtain ⟨D,hD⟩:∃ D,D=lbl (Em X (mB m)) Al X.length X.length []:=⟨_,rfl⟩
  rw [← hD] at hl1 hsn ⊢
  have hcs:((lT X m).map oints++[AV.sl 1 1 0 X.length])[m]? = some (.sl 1 1 0 X.length):=by
   rw [List.getElem?_append_right (by simp [hTl])];simp [hTl]
  have hse:((lT X m).map oints++[AV.sl 1 1 0 X.length]).set m (.osl 1 X.length (intsC D))=(lT X (m+1)).map oints:=by
   rw [List.set_append_right _ _ (by simp [hTl]),hsn]
   simp [hTl,hl1]
  rw [List.take_of_length_le (by simp [hTl])]
  refine ⟨m+1,by omega,by omega,(Ref.close 3 m 1 (k:=1) (n:=X.length) (cs2:=intsC D) rfl hcs rfl (by decide) (by simp [intsC,hl1])).trans ?_⟩
  rw [hse]
  exact Ref.gc [3] rfl (by simp only [gcH,go_sem,↓reduceIte,Nat.reduceEqDiff,Nat.reduceAdd,reduceCtorEq]) (by simp [sub,fget,go_sem,↓reduceIte,Nat.reduceEqDiff,Nat.reduceAdd,reduceCtorEq])
 ·obtain rfl:m=P:=by omega
  have hlk:∀ a b,a<X.length→b<X.length→(((lT X m).getD (mkA (agr X a b) r) []).getD a 0=((lT X m).getD (mkA (agr X a b) r) []).getD b 0 ↔ Rt (Em X (agr X a b)) a b):=fun a b ha hb=>by
   have:=lT_same hX hr ha hb
   rwa [← hP] at this
  have hmk:∀ a b,mkA (agr X a b) r<m:=fun a b=>by rw [hP];exact mkA_lt _ r
  have hTr:∀ q,q<m→((lT X m).getD q []).length=X.length:=fun q hq=>by rw [lT_at hq];exact lbl_len Al X.length X.length []
  generalize lT X m=T at hTl hlk hTr ⊢
  have hTf:∀ H:Heap,List.take m (List.map (frz H 5 ∘ oints) T)=T.map ints:=fun H=>by
   rw [List.take_of_length_le (by simp [hTl])]
   exact List.map_congr_left fun x _=>by simp [frz,intsC]
  refine RN ?_
  refine V_ref ((Ref.ice 0 (F' := [(0,mat X),(4,mat T),(6,i64 0)]) (H' := [none]) rfl (by simp [sub,fget,iceF,ice,frz,sole_at,hTl,hTf,go_sem,↓reduceIte,Nat.reduceEqDiff,Nat.reduceAdd,reduceCtorEq])).trans (Ref.gc [] (F' := [(0,mat X),(4,mat T),(6,i64 0)]) (H' := []) rfl rfl (by simp [sub,fget,go_sem,↓reduceIte,Nat.reduceEqDiff,Nat.reduceAdd,reduceCtorEq]))) ?_
  refine RN ?_
  refine V_loop (α:=Nat) (S:=fun i=>([(0,mat X),(4,mat T),(6,i64 (i:Int))],[])) (C:=fun i=>i≤X.length∧∀ a,a<i→∀ b,a<b→b<X.length→Rt (Em X (agr X a b)) a b) (μ:=fun i=>X.length - i) 0 ⟨Nat.zero_le _,fun a ha=>by omega⟩ (Ref.to1) ?_
  rintro i ⟨hi,hi2⟩
  refine RN ?_
  refine ⟨fun hc1=>?_,fun hc1=>?_⟩
  ·(refine RN ?_;try with_reducible exact trivial)
   refine V_loop (α:=Nat) (S:=fun j=>([(0,mat X),(4,mat T),(6,i64 (i:Int)),(7,i64 (j:Int))],[])) (C:=fun j=>i<j∧j≤X.length∧∀ b,i<b→b<j→Rt (Em X (agr X i b)) i b) (μ:=fun j=>X.length - j) (i+1) ⟨by omega,by omega,fun b h1 h2=>by omega⟩ (Ref.to1) ?_
   rintro j ⟨hij,hj,hj2⟩
   refine RN ?_
   refine ⟨fun hc2=>?_,fun hc2=>?_⟩
   ·have hri:=hrow i (by omega)
    have hrj:=hrow j (by omega)
    have hlij:=hlk i j (by omega) (by omega)
    have hmij:=hmk i j
    have hTm:=hTr _ hmij
    refine RN ?_
    refine V_loop (α:=Nat) (S:=fun k=>([(0,mat X),(4,mat T),(6,i64 (i:Int)),(7,i64 (j:Int)),(8,i64 (mkA (agr X i j) k:Nat)),(9,i64 (k:Int))],[])) (C:=fun k=>k≤r) (μ:=fun k=>r - k) 0 (Nat.zero_le _) (Ref.to rfl (by simp [sub,fget,mkA])) ?_
    intro k hk
    have hmkk:=mkA_lt (agr X i j) k
    refine RN ?_
    refine ⟨fun hc3=>?_,fun hc3=>?_⟩
    ·have hshk:=shl_pow k (by omega)
     have hp2:2^k≤32:=Nat.le_trans (Nat.pow_le_pow_right (by decide) (show k≤5 by omega)) (by decide)
     refine RN ?_
     refine ⟨fun hc4=>?_,fun hc4=>?_⟩
     ·have hag : mkA (agr X i j) (k + 1) = mkA (agr X i j) k + 2 ^ k := by
        show mkA (agr X i j) k+(if agr X i j k=true then 2^k else 0)=_
        rw [if_pos (by simp only [agr,rowD];exact decide_eq_true hc4)]
      generalize 2^k=q at hshk hp2 hag hmkk
      refine RN ?_
      rw [hshk]
      refine RN ?_
      exact ⟨k+1,by omega,by omega,Ref.to rfl (by simp [sub,fget,hag])⟩
     ·have hag : mkA (agr X i j) (k + 1) = mkA (agr X i j) k := by
        show mkA (agr X i j) k+(if agr X i j k=true then 2^k else 0)=_
        rw [if_neg (by simp only [agr,rowD];exact fun h=>hc4 (of_decide_eq_true h))];rfl
      refine RN ?_
      exact ⟨k+1,by omega,by omega,Ref.to rfl (by simp [sub,fget,hag])⟩
    ·obtain rfl:k=r:=by omega
     refine RN ?_
     refine ⟨fun hc4=>?_,fun hc4=>?_⟩
     ·(refine RN ?_;try with_reducible exact trivial)
      refine ⟨[(i:Int),(j:Int)],⟨by simp,fun h=>(by cases h),fun h=>absurd (hlij.2 (h i j (by omega) (by omega))) hc4⟩,?_⟩
      exact Ref.to1
     ·(refine RN ?_;try with_reducible exact trivial)
      exact ⟨j+1,⟨by omega,by omega,fun b h1 h2=>by
       by_cases e:b=j
       ·subst e;exact hlij.1 (by omega)
       ·exact hj2 b h1 (by omega)⟩,by omega,Ref.to1⟩
   ·obtain rfl:j=X.length:=by omega
    refine RN ?_
    exact ⟨i+1,⟨by omega,fun a ha b h1 h2=>by
     by_cases e:a=i
     ·subst e;exact hj2 b h1 h2
     ·exact hi2 a (by omega) b h1 h2⟩,by omega,Ref.to1⟩
  ·obtain rfl:i=X.length:=by omega
   refine RN ?_
   refine ⟨[],⟨by simp,fun _ a b h1 h2=>hi2 a (by omega) b h1 h2,fun _=>rfl⟩,?_⟩
   exact Ref.to1
end
end Go.Proofs.YtaekhhaaphgndaaGreatDoor
