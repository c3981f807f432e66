/- Texts that belong together. -/
import Derived.Test.YtaekhhaaphgndaaGreatZw
import Derived.Test.YtaekhhaaphgndaaGreatR2
set_option linter.unusedSimpArgs false
set_option linter.unusedVariables false
set_option maxRecDepth 100000
namespace Go.Proofs.YtaekhhaaphgndaaGreat
section
open Go.Gov Go.Ce
open Classical
def pwr (w:List Int)(k:Nat):List Int:=(List.replicate k w).flatten
theorem pwr_len (w:List Int)(k:Nat):(pwr w k).length=k*w.length:=by simp [pwr]
theorem pwr_succ (w:List Int)(k:Nat):pwr w (k+1)=pwr w k++w:=by simp [pwr,List.replicate_succ']
theorem pwr_mem {w:List Int}{k:Nat}{x:Int}(h:x∈pwr w k):x∈w:=by
 unfold pwr at h
 obtain ⟨y,hy,hx⟩:=List.mem_flatten.1 h
 rw [(List.mem_replicate.1 hy).2] at hx
 exact hx
def rls2 (a b:Nat):List (List Int):=[pwr [0,1] a,pwr [0,2] 2,pwr [1,2] b]
theorem l11Power_p (w:List Int)(k:Nat)(hw:w.length≤4)(hk:k≤64):Pure Tryz.prog 93 [ints w,i64 (k:Int)] (.sl 0 1 0 (pwr w k).length) [some (intsC (pwr w k))]:=by
 refine pureRV ok93 rfl ?_;unfold c93
 refine RN ?_
 refine V_loop (α:=Nat) (S:=fun j=>([(0,ints w),(1,i64 ((k:Int) - j)),(5,.sl 0 1 0 (pwr w j).length)],[some (intsC (pwr w j))])) (C:=fun j=>j≤k) (μ:=fun j=>k - j) 0 (Nat.zero_le _) (Ref.to (by simp [pwr,intsC]) (by simp [sub,fget,pwr])) ?_
 intro j hj
 have hl:=pwr_len w j
 have hl2:j*w.length≤64*4:=Nat.mul_le_mul (by omega) hw
 have hsu:=pwr_succ w j
 obtain ⟨V,hV⟩:∃ V,V=pwr w j:=⟨_,rfl⟩
 rw [← hV] at hl hsu ⊢
 refine RN ?_
 refine ⟨fun hc=>?_,fun hc=>?_⟩
 ·(refine RN ?_;try with_reducible exact trivial)
  refine ⟨j+1,by omega,by omega,?_⟩
  rw [hsu,show (k:Int) - ((j+1:Nat):Int)=(k:Int) - j - 1 by omega]
  refine Ref.gc [1] rfl ?_ (by simp [sub,fget,go_sem,↓reduceIte,Nat.reduceEqDiff,Nat.reduceAdd,reduceCtorEq])
  simp only [go_sem,↓reduceIte,Nat.reduceEqDiff,Nat.reduceAdd,reduceCtorEq]
  simp [intsC]
 ·obtain rfl:j=k:=by omega
  rw [← hV]
  refine RN ?_
  exact Ref.to1
theorem two_at {a b:Nat}{i:Nat}(hi:i<2):[(a:Int),(b:Int)].getD i 0=if i=0 then (a:Int) else b:=by
 match i,hi with
 | 0,_=>rfl
 | 1,_=>rfl
theorem l12Is_c (a b:Nat)(ha:2≤a∧a≤32)(hb:2≤b∧b≤32):Pure Tryz.prog 81 [ints [(a:Int),(b:Int)]] (bl true) []:=by
 have hat:=fun i=>two_at (a:=a) (b:=b) (i:=i)
 have hlen:[(a:Int),(b:Int)].length=2:=rfl
 generalize [(a:Int),(b:Int)]=L at *
 refine pureV0 ok81 rfl rfl ?_;unfold c81
 refine RN ?_
 refine V_loop (α:=Nat) (S:=fun i=>([(0,ints L),(2,bl false),(3,i64 (i:Int))],[])) (C:=fun i=>i≤2) (μ:=fun i=>2 - i) 0 (Nat.zero_le _) (Ref.to1) ?_
 intro i hi
 refine RN ?_
 refine ⟨fun hc=>?_,fun hc=>?_⟩
 ·have hx:=hat i (by omega)
  have hx2:2≤L.getD i 0∧L.getD i 0≤32:=by
   rw [hx]
   have:i=0∨i=1:=by omega
   rcases this with rfl | rfl<;>simp<;>omega
  have hin:=l01In_c (L.getD i 0) 2 32
  rw [decide_eq_true hx2.1,decide_eq_true hx2.2] at hin
  have hne:((L.getD i 0 != 0))=true:=bne_iff_ne.2 (by omega)
  refine RN ?_
  rw [hne]
  refine GC1 (bl true ) (fun hg =>  hin) ?_
  refine RN ?_
  exact ⟨i+1,by omega,by omega,Ref.to1⟩
 ·(refine RN ?_;try with_reducible exact trivial)
  rw [hlen]
  rfl
theorem l12Rank_c (L:List Int)(h:L.length=2):Pure Tryz.prog 92 [ints L] (i64 3) []:=by
 refine pureV0 ok92 rfl rfl ?_;unfold c92
 refine RN ?_
 rw [h]
 rfl
theorem l01Own_p (xs:List Int)(hl:xs.length≤1048576):Pure Tryz.prog 91 [ints xs] (.sl 0 1 0 xs.length) [some (intsC xs)]:=by
 refine pureRV ok91 rfl ?_;unfold c91
 refine RN ?_
 exact Ref.gc1 [1]
theorem l01Own2_p (M:List (List Int))(hl:M.length≤1048576)(hr:∀ i:Nat,(M.getD i []).length≤1048576):Pure Tryz.prog 90 [mat M] (.sl 0 1 0 M.length) [some (M.map oints)]:=by
 refine pureRV ok90 rfl ?_;unfold c90
 refine RN ?_
 refine V_loop (α:=Nat) (S:=fun i=>([(0,mat M),(3,.sl 0 1 0 i),(4,i64 (i:Int))],[some ((M.take i).map oints)])) (C:=fun i=>i≤M.length) (μ:=fun i=>M.length - i) 0 (Nat.zero_le _) (Ref.to1) ?_
 intro i hi
 have hml:(M.take i).length=i:=by simp;omega
 refine RN ?_
 refine ⟨fun hc=>?_,fun hc=>?_⟩
 ·have hown:=l01Own_p (M.getD i []) (hr i)
  have hts:M.take (i+1)=M.take i++[M.getD i []]:=by rw [List.take_succ_eq_append_getElem (by omega)];simp [show i<M.length by omega]
  refine RN ?_
  refine pureC1 (hown) ?_
  refine RN ?_
  refine ⟨i+1,by omega,by omega,?_⟩
  rw [hts]
  generalize M.take i=X at *
  generalize M.getD i []=Y at *
  refine (Ref.close 3 i 1 (k:=1) (n:=Y.length) (cs2:=intsC Y) rfl (by rw [List.getElem?_append_right (by simp;omega)];simp [hml]) rfl (by decide) (by simp [intsC])).trans (Ref.gc [3] rfl ?_ (by simp [sub,fget,go_sem,↓reduceIte,Nat.reduceEqDiff,Nat.reduceAdd,reduceCtorEq]))
  have hset:∀ x y:AV,(X.map oints++[x]).set i y=X.map oints++[y]:=fun x y=>by
   rw [List.set_append_right _ _ (by simp [hml])];simp [hml]
  have tk1:(X.map oints).take i=X.map oints:=List.take_of_length_le (by simp [hml])
  simp only [go_sem,↓reduceIte,Nat.reduceEqDiff,Nat.reduceAdd,reduceCtorEq]
  rw [tk1,rnmL_orows,hset]
  simp
 ·obtain rfl:i=M.length:=by omega
  refine RN ?_
  exact Ref.to (by simp) (by simp [sub,fget])
theorem rls2_len (a b n:Nat)(h:n≤3):((rls2 a b).take n).length=n:=by simp [rls2];omega
theorem rls2_rows (a b:Nat)(ha:a≤32)(hb:b≤32):∀ k,k<3→Let 3 ((rls2 a b).getD k [])∧((rls2 a b).getD k []).length≤64∧(2≤a→2≤b→1≤((rls2 a b).getD k []).length):=fun k hk=>by
 have hl:∀ (w:List Int) (n:Nat),(∀ x∈w,0≤x∧x<3)→Let 3 (pwr w n):=fun w n h j hj=>by
  have:(pwr w n).getD j 0∈pwr w n:=by
   rw [List.getD_eq_getElem?_getD,List.getElem?_eq_getElem hj]
   exact List.getElem_mem hj
  exact h _ (pwr_mem this)
 match k,hk with
 | 0,_=>exact ⟨hl _ _ (by simp),by simp [rls2,pwr_len];omega,fun h1 h2=>by simp [rls2,pwr_len];omega⟩
 | 1,_=>exact ⟨hl _ _ (by simp),by simp [rls2,pwr_len],fun h1 h2=>by simp [rls2,pwr_len]⟩
 | 2,_=>exact ⟨hl _ _ (by simp),by simp [rls2,pwr_len];omega,fun h1 h2=>by simp [rls2,pwr_len];omega⟩
set_option maxHeartbeats 2000000 in
theorem l12Presentation_p (a b:Nat)(ha:2≤a∧a≤32)(hb:2≤b∧b≤32):Pure Tryz.prog 83 [ints [(a:Int),(b:Int)]] (.agg [i64 3,.sl 0 1 0 3]) [some ((rls2 a b).map oints)]:=by
 have hlen:[(a:Int),(b:Int)].length=2:=rfl
 have hrk:=l12Rank_c [(a:Int),(b:Int)] hlen
 refine pureRV ok83 rfl ?_;unfold c83
 refine RN ?_
 refine pureC1 (hrk) ?_
 refine RN ?_
 refine V_loop (α:=Nat) (S:=fun i=>([(0,ints [(a:Int),(b:Int)]),(2,.ref 0 0),(3,.ref 1 0),(4,i64 (i:Int))],[some [i64 0,nilS],some [i64 3,.sl 2 1 0 (if i=0 then 0 else if i=1 then 2 else 3)],some (((rls2 a b).take (if i=0 then 0 else if i=1 then 2 else 3)).map oints)]))
  (C:=fun i=>i≤3) (μ:=fun i=>3 - i) 0 (Nat.zero_le _) ((Ref.nilC 1 1 1 rfl rfl).trans (Ref.to (by simp) (by simp [sub,fget]))) ?_
 intro i hi
 refine RN ?_
 refine ⟨fun hc=>?_,fun hc=>?_⟩
 ·(refine RN ?_;try with_reducible exact trivial)
  refine V_loop (α:=Nat) (S:=fun k=>([(0,ints [(a:Int),(b:Int)]),(2,.ref 0 0),(3,.ref 1 0),(4,i64 (i:Int)),(5,i64 (k:Int))],[some [i64 0,nilS],some [i64 3,.sl 2 1 0 ((if i=0 then 0 else if i=1 then 2 else 3)+(k - (i+1)))],some (((rls2 a b).take ((if i=0 then 0 else if i=1 then 2 else 3)+(k - (i+1)))).map oints)]))
   (C:=fun k=>i+1≤k∧k≤3) (μ:=fun k=>3 - k) (i+1) ⟨Nat.le_refl _,by omega⟩ (Ref.to (by simp) (by simp [sub,fget])) ?_
  rintro k ⟨hk1,hk2⟩
  refine RN ?_
  refine ⟨fun hc1=>?_,fun hc1=>?_⟩
  ·have hik:(i=0∧k=1)∨(i=0∧k=2)∨(i=1∧k=2):=by omega
   rcases hik with ⟨rfl,rfl⟩ | ⟨rfl,rfl⟩ | ⟨rfl,rfl⟩
   ·-- 0, 1
    have hpw:=l11Power_p [0,1] a (by decide) (by omega)
    have hts:(rls2 a b).take (0+1)=(rls2 a b).take 0++[pwr [0,1] a]:=rfl
    have hml:((rls2 a b).take 0).length=0:=rls2_len a b 0 (by omega)
    refine V_W ?_
    refine RN ?_
    refine ⟨fun _=>⟨by omega,?_⟩,fun h=>absurd (by omega) h⟩
    refine RN ?_
    refine ⟨fun _=>⟨by decide,?_⟩,fun h=>absurd h (by omega)⟩
    refine pureC1 (hpw) ?_
    refine RN ?_
    refine ⟨2,⟨by omega,by omega⟩,by omega,?_⟩
    show Ref 0 _ _ [(0,ints [(a:Int),(b:Int)]),(2,.ref 0 0),(3,.ref 1 0),(4,i64 0),(5,i64 2)] [some [i64 0,nilS],some [i64 3,.sl 2 1 0 1],some (((rls2 a b).take (0+1)).map oints)]
    rw [hts]
    generalize hX:(rls2 a b).take 0=X at *
    have tk1:(X.map oints).take 0=X.map oints:=List.take_of_length_le (by simp [hml])
    have hset:∀ x y:AV,(X.map oints++[x]).set 0 y=X.map oints++[y]:=fun x y=>by
     rw [List.set_append_right _ _ (by simp [hml])];simp [hml]
    simp only [Nat.reduceSub,Nat.reduceAdd,tk1]
    refine (Ref.close 6 0 4 (k:=1) (n:=(pwr [0,1] a).length) (cs2:=intsC (pwr [0,1] a)) rfl (by rw [List.getElem?_append_right (by simp [hml])];simp [hml]) rfl (by decide) (by simp [intsC])).trans (Ref.gc [0,1,6] rfl ?_ (by simp [sub,fget,go_sem,↓reduceIte,Nat.reduceEqDiff,Nat.reduceAdd,reduceCtorEq]))
    simp only [go_sem,↓reduceIte,Nat.reduceEqDiff,Nat.reduceAdd,reduceCtorEq]
    rw [hset]
    simp
   ·-- 0, 2
    have hpw:=l11Power_p [0,2] 2 (by decide) (by omega)
    have hts:(rls2 a b).take (1+1)=(rls2 a b).take 1++[pwr [0,2] 2]:=rfl
    have hml:((rls2 a b).take 1).length=1:=rls2_len a b 1 (by omega)
    refine V_W ?_
    refine RN ?_
    intro _
    refine RN ?_
    refine ⟨fun _=>⟨by decide,?_⟩,fun h=>absurd h (by omega)⟩
    refine pureC1 (hpw) ?_
    refine RN ?_
    refine ⟨3,⟨by omega,by omega⟩,by omega,?_⟩
    show Ref 0 _ _ [(0,ints [(a:Int),(b:Int)]),(2,.ref 0 0),(3,.ref 1 0),(4,i64 0),(5,i64 3)] [some [i64 0,nilS],some [i64 3,.sl 2 1 0 2],some (((rls2 a b).take (1+1)).map oints)]
    rw [hts]
    generalize hX:(rls2 a b).take 1=X at *
    have tk1:(X.map oints).take 1=X.map oints:=List.take_of_length_le (by simp [hml])
    have hset:∀ x y:AV,(X.map oints++[x]).set 1 y=X.map oints++[y]:=fun x y=>by
     rw [List.set_append_right _ _ (by simp [hml])];simp [hml]
    simp only [Nat.reduceSub,Nat.reduceAdd,tk1]
    refine (Ref.close 6 1 4 (k:=1) (n:=(pwr [0,2] 2).length) (cs2:=intsC (pwr [0,2] 2)) rfl (by rw [List.getElem?_append_right (by simp [hml])];simp [hml]) rfl (by decide) (by simp [intsC])).trans (Ref.gc [0,1,6] rfl ?_ (by simp [sub,fget,go_sem,↓reduceIte,Nat.reduceEqDiff,Nat.reduceAdd,reduceCtorEq]))
    simp only [go_sem,↓reduceIte,Nat.reduceEqDiff,Nat.reduceAdd,reduceCtorEq]
    rw [hset]
    simp
   ·-- 1, 2
    have hpw:=l11Power_p [1,2] b (by decide) (by omega)
    have hts:(rls2 a b).take (2+1)=(rls2 a b).take 2++[pwr [1,2] b]:=rfl
    have hml:((rls2 a b).take 2).length=2:=rls2_len a b 2 (by omega)
    refine V_W ?_
    refine RN ?_
    refine ⟨fun _=>⟨by omega,?_⟩,fun h=>absurd (by omega) h⟩
    refine RN ?_
    refine ⟨fun _=>⟨by decide,?_⟩,fun h=>absurd h (by omega)⟩
    refine pureC1 (hpw) ?_
    refine RN ?_
    refine ⟨3,⟨by omega,by omega⟩,by omega,?_⟩
    show Ref 0 _ _ [(0,ints [(a:Int),(b:Int)]),(2,.ref 0 0),(3,.ref 1 0),(4,i64 1),(5,i64 3)] [some [i64 0,nilS],some [i64 3,.sl 2 1 0 3],some (((rls2 a b).take (2+1)).map oints)]
    rw [hts]
    generalize hX:(rls2 a b).take 2=X at *
    have tk1:(X.map oints).take 2=X.map oints:=List.take_of_length_le (by simp [hml])
    have hset:∀ x y:AV,(X.map oints++[x]).set 2 y=X.map oints++[y]:=fun x y=>by
     rw [List.set_append_right _ _ (by simp [hml])];simp [hml]
    simp only [Nat.reduceSub,Nat.reduceAdd,tk1]
    refine (Ref.close 6 2 4 (k:=1) (n:=(pwr [1,2] b).length) (cs2:=intsC (pwr [1,2] b)) rfl (by rw [List.getElem?_append_right (by simp [hml])];simp [hml]) rfl (by decide) (by simp [intsC])).trans (Ref.gc [0,1,6] rfl ?_ (by simp [sub,fget,go_sem,↓reduceIte,Nat.reduceEqDiff,Nat.reduceAdd,reduceCtorEq]))
    simp only [go_sem,↓reduceIte,Nat.reduceEqDiff,Nat.reduceAdd,reduceCtorEq]
    rw [hset]
    simp
  ·obtain rfl:k=3:=by omega
   refine RN ?_
   refine ⟨i+1,by omega,by omega,?_⟩
   have:i=0∨i=1∨i=2:=by omega
   rcases this with rfl | rfl | rfl<;>exact Ref.to1
 ·obtain rfl:i=3:=by omega
  refine RN ?_
  exact Ref.gc2 [2]
end
section
open Go.Gov Go.Ce
open Classical
theorem l11Word_c (G:Nat)(hG:G≤5)(w:List Int)(hw:Let G w)(hl:w.length≤64):Pure Tryz.prog 99 [i64 (G:Int),ints w] (bl true) []:=by
 refine pureV0 ok99 rfl rfl ?_;unfold c99
 refine RN ?_
 refine V_loop (α:=Nat) (S:=fun i=>([(0,i64 (G:Int)),(1,ints w),(4,bl false),(5,i64 (i:Int))],[])) (C:=fun i=>i≤w.length) (μ:=fun i=>w.length - i) 0 (Nat.zero_le _) (Ref.to1) ?_
 intro i hi
 refine RN ?_
 refine ⟨fun hc=>?_,fun hc=>?_⟩
 ·have hx:=hw i (by omega)
  have hin:=l01In_c (w.getD i 0) 0 ((G:Int) - 1)
  rw [decide_eq_true hx.1,decide_eq_true (show w.getD i 0≤(G:Int) - 1 by omega)] at hin
  refine RN ?_
  refine pureC1 (hin) ?_
  refine RN ?_
  exact ⟨i+1,by omega,by omega,Ref.to1⟩
 ·have:decide ((w.length:Int)≤64)=true:=decide_eq_true (by omega)
  refine RN ?_
  rw [this]
theorem l11Words_c (G:Nat)(hG:G≤5)(M:List (List Int))(least:Nat)(hM:∀ k,k<M.length→Let G (M.getD k [])∧(M.getD k []).length≤64∧least≤(M.getD k []).length)(hl:M.length≤24):Pure Tryz.prog 96 [i64 (G:Int),mat M,i64 (least:Int)] (bl true) []:=by
 refine pureV0 ok96 rfl rfl ?_;unfold c96
 refine RN ?_
 refine V_loop (α:=Nat) (S:=fun i=>([(0,i64 (G:Int)),(1,mat M),(2,i64 (least:Int)),(6,bl false),(7,i64 (i:Int))],[])) (C:=fun i=>i≤M.length) (μ:=fun i=>M.length - i) 0 (Nat.zero_le _) (Ref.to1) ?_
 intro i hi
 refine RN ?_
 refine ⟨fun hc=>?_,fun hc=>?_⟩
 ·obtain ⟨w1,w2,w3⟩:=hM i (by omega)
  have hwd:=l11Word_c G hG (M.getD i []) w1 w2
  refine RN ?_
  refine pureC1 (hwd) ?_
  refine RN ?_
  intro _
  refine RN ?_
  exact ⟨i+1,by omega,by omega,Ref.to1⟩
 ·have:decide ((M.length:Int)≤24)=true:=decide_eq_true (by omega)
  refine RN ?_
  rw [this]
theorem l11Words_nil (G:Nat):Pure Tryz.prog 96 [i64 (G:Int),nilS,i64 0] (bl true) []:=by
 refine pureV0 ok96 rfl rfl ?_;unfold c96
 refine RN ?_
 refine V_loop (α:=Unit) (S:=fun _=>([(0,i64 (G:Int)),(1,nilS),(2,i64 0),(6,bl false),(7,i64 0)],[])) (C:=fun _=>True) (μ:=fun _=>0) () trivial (Ref.to1) ?_
 rintro _ _
 refine RN ?_
 intro _
 refine RN ?_
 rfl
theorem l11Is_c (G:Nat)(hG1:1≤G)(hG:G≤5)(M:List (List Int))(hM:∀ k,k<M.length→Let G (M.getD k [])∧(M.getD k []).length≤64∧1≤(M.getD k []).length)(hl:M.length≤24):Pure Tryz.prog 95 [preA G M] (bl true) []:=by
 have hin:=l01In_c (G:Int) 1 5
 rw [decide_eq_true (show (1:Int)≤G by omega),decide_eq_true (show (G:Int)≤5 by omega)] at hin
 have hws:=l11Words_c G hG M 1 hM hl
 refine pureV0 ok95 rfl rfl ?_;unfold c95
 refine RN ?_
 refine pureC1 (hin) ?_
 refine RN ?_
 refine GC1 (bl true ) (fun hg =>  hws) ?_
 (refine RN ?_;try with_reducible exact trivial)
theorem l11Code_c (G:Nat)(hG1:1≤G)(hG:G≤5)(M:List (List Int))(hM:∀ k,k<M.length→Let G (M.getD k [])∧(M.getD k []).length≤64∧1≤(M.getD k []).length)(hl:M.length≤24):Pure Tryz.prog 89 [preA G M,nilS] (i64 0) []:=by
 have his:=l11Is_c G hG1 hG M hM hl
 have hws:=l11Words_nil G
 refine pureV0 ok89 rfl rfl ?_;unfold c89
 refine RN ?_
 refine pureC1 (his) ?_
 refine RN ?_
 refine GC1 (bl true ) (fun hg =>  hws) ?_
 (refine RN ?_;try with_reducible exact trivial)
theorem withRelators_p (G : Nat) (hG1 : 1 ≤ G) (hG : G ≤ 5) (M : List (List Int)) (hM : ∀ k, k < M.length → Let G (M.getD k []) ∧ (M.getD k []).length ≤ 64 ∧ 1 ≤ (M.getD k []).length) (hl : M.length ≤ 24) :
    Pure Tryz.prog 82 [preA G M,nilS] (.tup [.agg [i64 (G:Int),.sl 0 1 0 M.length],i64 0]) [some (M.map oints)]:=by
 have hcd:=l11Code_c G hG1 hG M hM hl
 have hrow:∀ i:Nat,(M.getD i []).length≤1048576:=fun i=>by
  by_cases h:i<M.length
  ·have:=(hM i h).2.1;omega
  ·simp [h]
 have hown:=l01Own2_p M (by omega) hrow
 refine pureRV ok82 rfl ?_;unfold c82
 refine RN ?_
 refine pureC1 (hcd) ?_
 refine RN ?_
 refine V_altsS [(1,nilS),(2,.ref 0 0),(4,.ref 1 0),(5,i64 0),(7,.ref 3 0)] [some [i64 (G:Int),mat M],some [i64 0,nilS],some (M.map oints),some [i64 (G:Int),.sl 2 1 0 M.length]] ?_ ?_
 ·repeat' first
    | simp only [go_sem,↓reduceIte,Nat.reduceEqDiff,Nat.reduceAdd,reduceCtorEq]
    | with_reducible refine LT_reg ?_
    | with_reducible refine LT_fin ?_
    | with_reducible exact LT_tt
    | with_reducible refine LT_alt ?_ ?_
    | (with_reducible refine And.intro ?_ ?_;focus first | assumption | omega | grind)
    | (refine pureC (hown) ?_ ?_ ?_;(focus (simp only [go_sem,↓reduceIte,Nat.reduceEqDiff,Nat.reduceAdd,reduceCtorEq]<;>rfl));(focus first | rfl | simp only [go_sem,↓reduceIte,Nat.reduceEqDiff,Nat.reduceAdd,reduceCtorEq]))
  all_goals first
   | exact Ref.to1
   | (refine Ref.gc [0,1,3,2] rfl ?_ ?_<;>first | (simp only [go_sem,↓reduceIte,Nat.reduceEqDiff,Nat.reduceAdd,reduceCtorEq];done) | (simp only [go_sem,↓reduceIte,Nat.reduceEqDiff,Nat.reduceAdd,reduceCtorEq];rfl) | (simp [sub,fget,go_sem,↓reduceIte,Nat.reduceEqDiff,Nat.reduceAdd,reduceCtorEq];done))
   | (refine Ref.gc [0,1,2,3] rfl ?_ ?_<;>first | (simp only [go_sem,↓reduceIte,Nat.reduceEqDiff,Nat.reduceAdd,reduceCtorEq];done) | (simp only [go_sem,↓reduceIte,Nat.reduceEqDiff,Nat.reduceAdd,reduceCtorEq];rfl) | (simp [sub,fget,go_sem,↓reduceIte,Nat.reduceEqDiff,Nat.reduceAdd,reduceCtorEq];done))
 ·(refine RN ?_;try with_reducible exact trivial)
  refine V_loop (α:=Unit) (S:=fun _=>([(1,nilS),(2,.ref 0 0),(4,.ref 1 0),(5,i64 0),(7,.ref 3 0),(8,i64 0)],[some [i64 (G:Int),mat M],some [i64 0,nilS],some (M.map oints),some [i64 (G:Int),.sl 2 1 0 M.length]])) (C:=fun _=>True) (μ:=fun _=>0) () trivial (Ref.to1) ?_
  rintro _ _
  refine RN ?_
  intro _
  refine RN ?_
  intro _
  refine RN ?_
  exact Ref.gc1 [2]
def SmOk (G:Nat)(M:List (List Int)):Prop:=(enum G M).bad=false∧(ord G (enum G M)).length≤400
theorem l11Small_p (G : Nat) (hG1 : 1 ≤ G) (hG : G ≤ 5) (M : List (List Int)) (hM : ∀ k, k < M.length → Let G (M.getD k []) ∧ (M.getD k []).length ≤ 64) (hl : M.length ≤ 24) (hb : SmOk G M) :
    Pure Tryz.prog 84 [preA G M,nilS] (.tup [.sl 0 1 0 G,i64 0]) [some ((tbl G (enum G M)).map oints)]:=by
 have ht:=l11Table_p G hG1 hG M (by omega) (fun k hk=>⟨(hM k hk).1,by have:=(hM k hk).2;omega⟩) hb.1
 have htl:=tbl_len G (enum G M)
 have htr:=tbl_row (G:=G) (S:=enum G M) (g:=0) (by omega)
 have h4:=hb.2
 generalize tbl G (enum G M)=T at *
 generalize ord G (enum G M)=O at *
 obtain ⟨r0,J,rfl⟩:∃ r0 J,T=r0 :: J:=by
  cases T with
  | nil=>simp at htl;omega
  | cons a J=>exact ⟨a,J,rfl⟩
 have hr0:r0.length=O.length:=by simpa using htr
 refine pureRV ok84 rfl ?_;unfold c84
 refine RN ?_
 refine pureC1 (ht) ?_
 simp only [go_sem,↓reduceIte,Nat.reduceEqDiff,Nat.reduceAdd,reduceCtorEq]
 refine V_ref ((Ref.open 1 0 (cs:=(r0 :: J).map oints) (cs2:=intsC r0) (k:=1) (n:=r0.length) rfl rfl).trans (Ref.to (F' := [(2,.ref 0 0),(6,.sl 1 1 0 G),(7,bl true),(5,i64 0)]) (H' := [some [i64 (G:Int),mat M],some (.sl 2 1 0 r0.length :: J.map oints),some (intsC r0)]) rfl (by simp [sub,fget]))) ?_
 refine RN ?_
 intro _
 refine RN ?_
 refine (Ref.close 1 0 2 (k:=1) (n:=r0.length) (cs2:=intsC r0) rfl rfl rfl (by decide) (by simp [intsC])).trans ?_
 exact Ref.gc2 [1]
theorem l11Small_b (G : Nat) (hG1 : 1 ≤ G) (hG : G ≤ 5) (M : List (List Int)) (hM : ∀ k, k < M.length → Let G (M.getD k []) ∧ (M.getD k []).length ≤ 64) (hl : M.length ≤ 24) (hb : ¬ SmOk G M) :
    Pure Tryz.prog 84 [preA G M,nilS] (.tup [nilS,i64 3]) []:=by
 by_cases hbd:(enum G M).bad=true
 ·have ht:=l11Table_bad G hG1 hG M (by omega) (fun k hk=>⟨(hM k hk).1,by have:=(hM k hk).2;omega⟩) hbd
  refine pureV0 ok84 rfl rfl ?_;unfold c84
  refine RN ?_
  refine pureC1 (ht) ?_
  simp only [go_sem,↓reduceIte,Nat.reduceEqDiff,Nat.reduceAdd,reduceCtorEq]
  refine V_ref ((Ref.nil 6 1 rfl).trans (Ref.to (F' := [(2,.ref 0 0),(6,.sl 1 1 0 0),(7,bl false),(5,i64 0)]) (H' := [some [i64 (G:Int),mat M],some []]) rfl (by simp [sub,fget]))) ?_
  refine RN ?_
  rw [show (([]:List AV).getD 0 (AV.slc 1 0 []))=AV.slc 1 0 [] from rfl]
  (refine RN ?_;try with_reducible exact trivial)
 ·have hbf:(enum G M).bad=false:=by simpa using hbd
  have ht:=l11Table_p G hG1 hG M (by omega) (fun k hk=>⟨(hM k hk).1,by have:=(hM k hk).2;omega⟩) hbf
  have htl:=tbl_len G (enum G M)
  have htr:=tbl_row (G:=G) (S:=enum G M) (g:=0) (by omega)
  have h4:¬ (ord G (enum G M)).length≤400:=fun h=>hb ⟨hbf,h⟩
  generalize tbl G (enum G M)=T at *
  generalize ord G (enum G M)=O at *
  obtain ⟨r0,J,rfl⟩:∃ r0 J,T=r0 :: J:=by
   cases T with
   | nil=>simp at htl;omega
   | cons a J=>exact ⟨a,J,rfl⟩
  have hr0:r0.length=O.length:=by simpa using htr
  refine pureV0 ok84 rfl rfl ?_;unfold c84
  refine RN ?_
  refine pureC1 (ht) ?_
  simp only [go_sem,↓reduceIte,Nat.reduceEqDiff,Nat.reduceAdd,reduceCtorEq]
  refine V_ref ((Ref.open 1 0 (cs:=(r0 :: J).map oints) (cs2:=intsC r0) (k:=1) (n:=r0.length) rfl rfl).trans (Ref.to (F' := [(2,.ref 0 0),(6,.sl 1 1 0 G),(7,bl true),(5,i64 0)]) (H' := [some [i64 (G:Int),mat M],some (.sl 2 1 0 r0.length :: J.map oints),some (intsC r0)]) rfl (by simp [sub,fget]))) ?_
  refine RN ?_
  refine ⟨fun _=>?_,fun h=>absurd h (by omega)⟩
  (refine RN ?_;try with_reducible exact trivial)
end
section
open Go.Gov Go.Ce
open Classical
noncomputable def uniT (a b:Nat):List (List Int):=tbl 3 (enum 3 (rls2 a b))
noncomputable def uniC (a b:Nat):Int:=if SmOk 3 (rls2 a b) then (if IsMan (uniT a b) then 0 else 5) else 3
theorem universalPolytope_p (a b : Nat) (ha : 2 ≤ a ∧ a ≤ 32) (hb : 2 ≤ b ∧ b ≤ 32) :
    Pure Tryz.prog 73 [ints [(a:Int),(b:Int)],nilS] (.tup [if uniC a b=0 then maniA (uniT a b) else .agg [nilS],i64 (uniC a b)]) []:=by
 have hls:=l12Is_c a b ha hb
 have hpr:=l12Presentation_p a b ha hb
 have hrr:=rls2_rows a b ha.2 hb.2
 have hr3:(rls2 a b).length=3:=rfl
 have hwr:=withRelators_p 3 (by omega) (by omega) (rls2 a b) (fun k hk=>⟨(hrr k hk).1,(hrr k hk).2.1,(hrr k hk).2.2 ha.1 hb.1⟩) (by omega)
 by_cases hs:SmOk 3 (rls2 a b)
 ·have hsm:=l11Small_p 3 (by omega) (by omega) (rls2 a b) (fun k hk=>⟨(hrr k hk).1,(hrr k hk).2.1⟩) (by omega) hs
  have hUe:uniC a b=if IsMan (uniT a b) then 0 else 5:=by unfold uniC;rw [if_pos hs]
  have htl:(uniT a b).length=3:=tbl_len 3 (enum 3 (rls2 a b))
  have htr:∀ g,g<3→((uniT a b).getD g []).length=(ord 3 (enum 3 (rls2 a b))).length:=fun g hg=>tbl_row (G:=3) (S:=enum 3 (rls2 a b)) (g:=g) hg
  have h4:=hs.2
  change Gov.Pure _ _ _ _ [some ((uniT a b).map oints)] at hsm
  generalize uniT a b=T at *
  generalize ord 3 (enum 3 (rls2 a b))=O at *
  have hi:=l02Is_c T (by omega) (fun p hp=>by
   obtain ⟨k,hk,rfl⟩:=List.mem_iff_getElem.1 hp
   have:=htr k (by omega)
   rw [show T.getD k []=T[k] by simp [hk]] at this
   omega)
  obtain ⟨r0,J,rfl⟩:∃ r0 J,T=r0 :: J:=by
   cases T with
   | nil=>simp at htl
   | cons a J=>exact ⟨a,J,rfl⟩
  have hr0:r0.length=O.length:=by simpa using htr 0 (by omega)
  generalize rls2 a b=X at *
  rw [hUe]
  clear hUe
  refine pureRV ok73 rfl ?_;unfold c73
  refine RN ?_
  refine pureC1 (hls) ?_
  refine RN ?_
  refine pureC1 (hpr) ?_
  refine RN ?_
  refine pureC hwr (by simp only [go_sem,↓reduceIte,Nat.reduceEqDiff,Nat.reduceAdd,reduceCtorEq,frz_im _ _ X 3 hr3];first | done | (simp only [preA,mat,hr3];done) | (simp only [preA,mat,hr3];rfl)) (by first | rfl | simp only [go_sem,↓reduceIte,Nat.reduceEqDiff,Nat.reduceAdd,reduceCtorEq]) ?_
  refine RN ?_
  refine pureC hsm (by simp only [go_sem,↓reduceIte,Nat.reduceEqDiff,Nat.reduceAdd,reduceCtorEq,frz_im _ _ X X.length rfl]) (by first | rfl | simp only [go_sem,↓reduceIte,Nat.reduceEqDiff,Nat.reduceAdd,reduceCtorEq]) ?_
  simp only [go_sem,↓reduceIte,Nat.reduceEqDiff,Nat.reduceAdd,reduceCtorEq]
  refine V_ref ((Ref.gc [0,4] (F' := [(4,.ref 0 0),(8,.sl 1 1 0 3),(9,i64 0),(5,i64 0)]) (H' := [some [nilS],some ((r0 :: J).map oints)]) rfl (by simp only [go_sem,↓reduceIte,Nat.reduceEqDiff,Nat.reduceAdd,reduceCtorEq]<;>rfl) (by simp [sub,fget,go_sem,↓reduceIte,Nat.reduceEqDiff,Nat.reduceAdd,reduceCtorEq])).trans ((Ref.open 1 0 (cs:=(r0 :: J).map oints) (cs2:=intsC r0) (k:=1) (n:=r0.length) rfl rfl).trans (Ref.to (F' := [(4,.ref 0 0),(8,.sl 1 1 0 3),(9,i64 0),(5,i64 0)]) (H' := [some [nilS],some (.sl 2 1 0 r0.length :: J.map oints),some (intsC r0)]) rfl (by simp [sub,fget])))) ?_
  refine RN ?_
  intro _
  have tk1:((r0 :: J).map oints).take 3=(r0 :: J).map oints:=List.take_of_length_le (by simp only [List.length_map];omega)
  refine W_ref ((Ref.close 1 0 2 (k:=1) (n:=r0.length) (cs2:=intsC r0) rfl rfl rfl (by decide) (by simp [intsC])).trans (Ref.sel [0] (F' := [(4,.ref 0 0),(8,mat (r0 :: J)),(5,i64 0)]) (H' := [some [nilS]]) rfl ?_ ?_)) ?_
  ·simp only [go_sem,↓reduceIte,Nat.reduceEqDiff,Nat.reduceAdd,reduceCtorEq]
  ·simp only [sub,List.all_cons,List.all_nil,go_sem,↓reduceIte,Nat.reduceEqDiff,Nat.reduceAdd,reduceCtorEq]
   have h1:(List.map oints J).take 2=List.map oints J:=List.take_of_length_le (by simp at htl ⊢;omega)
   rw [h1]
   have h2:=frz_im [none,some (AV.osl 1 r0.length (intsC r0) :: List.map oints J),none] 3 J J.length rfl
   rw [List.take_of_length_le (by simp)] at h2
   rw [h2]
   simp [frz_oints,mat,htl]
  refine RN ?_
  refine pureC1 (hi) ?_
  refine RN ?_
  refine ⟨fun h=>?_,fun h=>?_⟩
  ·rw [if_neg h,if_neg (by decide)]
   refine RN ?_
   exact Ref.gc2 []
  ·rw [if_pos h,if_pos rfl]
   refine RN ?_
   exact Ref.gc2 []
 ·have hsm:=l11Small_b 3 (by omega) (by omega) (rls2 a b) (fun k hk=>⟨(hrr k hk).1,(hrr k hk).2.1⟩) (by omega) hs
  have hUe:uniC a b=3:=by unfold uniC;rw [if_neg hs]
  generalize rls2 a b=X at *
  rw [hUe]
  clear hUe
  refine pureRV ok73 rfl ?_;unfold c73
  refine RN ?_
  refine pureC1 (hls) ?_
  refine RN ?_
  refine pureC1 (hpr) ?_
  refine RN ?_
  refine pureC hwr (by simp only [go_sem,↓reduceIte,Nat.reduceEqDiff,Nat.reduceAdd,reduceCtorEq,frz_im _ _ X 3 hr3];first | done | (simp only [preA,mat,hr3];done) | (simp only [preA,mat,hr3];rfl)) (by first | rfl | simp only [go_sem,↓reduceIte,Nat.reduceEqDiff,Nat.reduceAdd,reduceCtorEq]) ?_
  refine RN ?_
  refine pureC hsm (by simp only [go_sem,↓reduceIte,Nat.reduceEqDiff,Nat.reduceAdd,reduceCtorEq,frz_im _ _ X X.length rfl]) (by first | rfl | simp only [go_sem,↓reduceIte,Nat.reduceEqDiff,Nat.reduceAdd,reduceCtorEq]) ?_
  simp only [go_sem,↓reduceIte,Nat.reduceEqDiff,Nat.reduceAdd,reduceCtorEq]
  refine V_ref ((Ref.gc [0] (F' := [(4,.ref 0 0),(8,nilS),(9,i64 3),(5,i64 0)]) (H' := [some [nilS]]) rfl (by simp only [go_sem,↓reduceIte,Nat.reduceEqDiff,Nat.reduceAdd,reduceCtorEq]<;>rfl) (by simp [sub,fget,go_sem,↓reduceIte,Nat.reduceEqDiff,Nat.reduceAdd,reduceCtorEq])).trans ((Ref.nil 8 1 rfl).trans (Ref.to (F' := [(4,.ref 0 0),(8,.sl 1 1 0 0),(9,i64 3),(5,i64 0)]) (H' := [some [nilS],some []]) rfl (by simp [sub,fget])))) ?_
  refine RN ?_
  simp only [Int.reduceBNe]
  rw [show (([]:List AV).getD 0 (AV.slc 1 0 []))=AV.slc 1 0 [] from rfl]
  refine RN ?_
  rw [if_neg (by decide)]
  exact Ref.gc2 []
end
end Go.Proofs.YtaekhhaaphgndaaGreat
