/- Texts that belong together. -/
import Derived.Test.YtnompobcofhkpaaGreatDoorZw
import Derived.Test.YtnompobcofhkpaaGreatDoorR2
set_option linter.unusedSimpArgs false
set_option linter.unusedVariables false
set_option maxRecDepth 100000
namespace Go.Proofs.YtnompobcofhkpaaGreatDoor
section
open Go.Gov Go.Ce
open Classical
def Av (w:List Int)(k:Nat):List Int:=(List.replicate k w).flatten
theorem Jh (w:List Int)(k:Nat):(Av w k).length=k*w.length:=by simp [Av]
theorem Ahf (w:List Int)(k:Nat):Av w (k+1)=Av w k++w:=by simp [Av,List.replicate_succ']
theorem Ahd {w:List Int}{k:Nat}{x:Int}(h:x∈Av w k):x∈w:=by
 unfold Av at h
 obtain ⟨y,hy,hx⟩:=List.mem_flatten.1 h
 rw [(List.mem_replicate.1 hy).2] at hx
 exact hx
def An (a b:Nat):List (List Int):=[Av [0,1] a,Av [0,2] 2,Av [1,2] b]
theorem Vs (w:List Int)(k:Nat)(hw:w.length≤4)(hk:k≤64):Pure Tryz.prog 116 [Ad w,i64 (k:Int)] (.sl 0 1 0 (Av w k).length) [some (Aa (Av w k))]:=by
 refine Bh Ab5 rfl ?_;unfold Ys
 refine RN ?_
 refine Ah (α:=Nat) (S:=fun j=>([(0,Ad w),(1,i64 ((k:Int) - j)),(5,.sl 0 1 0 (Av w j).length)],[some (Aa (Av w j))])) (C:=fun j=>j≤k) (μ:=fun j=>k - j) 0 (Nat.zero_le _) (Ref.to (by simp [Av,Aa]) (by simp [sub,Ab,Av])) ?_
 intro j hj
 have hl:=Jh w j
 have hl2:j*w.length≤64*4:=Nat.mul_le_mul (by omega) hw
 have hsu:=Ahf w j
 obtain ⟨V,hV⟩:∃ V,V=Av w j:=⟨_,rfl⟩
 rw [← hV] at hl hsu ⊢
 refine RN ?_
 refine ⟨fun hc=>?_,fun hc=>?_⟩
 ·(refine RN ?_;try with_reducible exact trivial)
  refine ⟨j+1,by omega,by omega,?_⟩
  rw [hsu,show (k:Int) - ((j+1:Nat):Int)=(k:Int) - j - 1 by omega]
  refine Ref.gc [1] rfl ?_ (by simp [sub,Ab,go_sem,↓reduceIte,Nat.reduceEqDiff,Nat.reduceAdd,reduceCtorEq])
  simp only [go_sem,↓reduceIte,Nat.reduceEqDiff,Nat.reduceAdd,reduceCtorEq]
  simp [Aa]
 ·obtain rfl:j=k:=by omega
  rw [← hV]
  refine RN ?_
  exact Ref.to1
theorem Alc {a b:Nat}{i:Nat}(hi:i<2):[(a:Int),(b:Int)].getD i 0=if i=0 then (a:Int) else b:=by
 match i,hi with
 | 0,_=>rfl
 | 1,_=>rfl
theorem yK (a b:Nat)(ha:2≤a∧a≤32)(hb:2≤b∧b≤32):Pure Tryz.prog 66 [Ad [(a:Int),(b:Int)]] (bl true) []:=by
 have hat:=fun i=>Alc (a:=a) (b:=b) (i:=i)
 have hlen:[(a:Int),(b:Int)].length=2:=rfl
 generalize [(a:Int),(b:Int)]=L at *
 refine Ao Aeh rfl rfl ?_;unfold aV
 refine RN ?_
 refine Ah (α:=Nat) (S:=fun i=>([(0,Ad L),(2,bl false),(3,i64 (i:Int))],[])) (C:=fun i=>i≤2) (μ:=fun i=>2 - i) 0 (Nat.zero_le _) (Ref.to1) ?_
 intro i hi
 refine RN ?_
 refine ⟨fun hc=>?_,fun hc=>?_⟩
 ·have hx:=hat i (by omega)
  have hx2:2≤L.getD i 0∧L.getD i 0≤32:=by
   rw [hx]
   have:i=0∨i=1:=by omega
   rcases this with rfl | rfl<;>simp<;>omega
  have hin:=Oo (L.getD i 0) 2 32
  rw [decide_eq_true hx2.1,decide_eq_true hx2.2] at hin
  have hne:((L.getD i 0 != 0))=true:=bne_iff_ne.2 (by omega)
  refine RN ?_
  rw [hne]
  refine C9 (bl true ) (fun hg =>  hin) ?_
  refine RN ?_
  exact ⟨i+1,by omega,by omega,Ref.to1⟩
 ·(refine RN ?_;try with_reducible exact trivial)
  rw [hlen]
  rfl
theorem yM (L:List Int)(h:L.length=2):Pure Tryz.prog 115 [Ad L] (i64 3) []:=by
 refine Ao Ab4 rfl rfl ?_;unfold Yr
 refine RN ?_
 rw [h]
 rfl
theorem xL (xs:List Int)(hl:xs.length≤1048576):Pure Tryz.prog 114 [Ad xs] (.sl 0 1 0 xs.length) [some (Aa xs)]:=by
 refine Bh Ab3 rfl ?_;unfold Yq
 refine RN ?_
 exact Ref.gc1 [1]
theorem xK (M:List (List Int))(hl:M.length≤1048576)(hr:∀ i:Nat,(M.getD i []).length≤1048576):Pure Tryz.prog 113 [Ae M] (.sl 0 1 0 M.length) [some (M.map Ac)]:=by
 refine Bh Ab2 rfl ?_;unfold Yp
 refine RN ?_
 refine Ah (α:=Nat) (S:=fun i=>([(0,Ae M),(3,.sl 0 1 0 i),(4,i64 (i:Int))],[some ((M.take i).map Ac)])) (C:=fun i=>i≤M.length) (μ:=fun i=>M.length - i) 0 (Nat.zero_le _) (Ref.to1) ?_
 intro i hi
 have hml:(M.take i).length=i:=by simp;omega
 refine RN ?_
 refine ⟨fun hc=>?_,fun hc=>?_⟩
 ·have hown:=xL (M.getD i []) (hr i)
  have hts:M.take (i+1)=M.take i++[M.getD i []]:=by rw [List.take_succ_eq_append_getElem (by omega)];simp [show i<M.length by omega]
  refine RN ?_
  refine Ag (hown) ?_
  refine RN ?_
  refine ⟨i+1,by omega,by omega,?_⟩
  rw [hts]
  generalize M.take i=X at *
  generalize M.getD i []=Y at *
  refine (Ref.close 3 i 1 (k:=1) (n:=Y.length) (cs2:=Aa Y) rfl (by rw [List.getElem?_append_right (by simp;omega)];simp [hml]) rfl (by decide) (by simp [Aa])).trans (Ref.gc [3] rfl ?_ (by simp [sub,Ab,go_sem,↓reduceIte,Nat.reduceEqDiff,Nat.reduceAdd,reduceCtorEq]))
  have hset:∀ x y:AV,(X.map Ac++[x]).set i y=X.map Ac++[y]:=fun x y=>by
   rw [List.set_append_right _ _ (by simp [hml])];simp [hml]
  have tk1:(X.map Ac).take i=X.map Ac:=List.take_of_length_le (by simp [hml])
  simp only [go_sem,↓reduceIte,Nat.reduceEqDiff,Nat.reduceAdd,reduceCtorEq]
  rw [tk1,Lh,hset]
  simp
 ·obtain rfl:i=M.length:=by omega
  refine RN ?_
  exact Ref.to (by simp) (by simp [sub,Ab])
theorem M0 (a b n:Nat)(h:n≤3):((An a b).take n).length=n:=by simp [An];omega
theorem W1 (a b:Nat)(ha:a≤32)(hb:b≤32):∀ k,k<3→Ca 3 ((An a b).getD k [])∧((An a b).getD k []).length≤64∧(2≤a→2≤b→1≤((An a b).getD k []).length):=fun k hk=>by
 have hl:∀ (w:List Int) (n:Nat),(∀ x∈w,0≤x∧x<3)→Ca 3 (Av w n):=fun w n h j hj=>by
  have:(Av w n).getD j 0∈Av w n:=by
   rw [List.getD_eq_getElem?_getD,List.getElem?_eq_getElem hj]
   exact List.getElem_mem hj
  exact h _ (Ahd this)
 match k,hk with
 | 0,_=>exact ⟨hl _ _ (by simp),by simp [An,Jh];omega,fun h1 h2=>by simp [An,Jh];omega⟩
 | 1,_=>exact ⟨hl _ _ (by simp),by simp [An,Jh],fun h1 h2=>by simp [An,Jh]⟩
 | 2,_=>exact ⟨hl _ _ (by simp),by simp [An,Jh];omega,fun h1 h2=>by simp [An,Jh];omega⟩
set_option maxHeartbeats 2000000 in
theorem yL (a b:Nat)(ha:2≤a∧a≤32)(hb:2≤b∧b≤32):Pure Tryz.prog 68 [Ad [(a:Int),(b:Int)]] (.agg [i64 3,.sl 0 1 0 3]) [some ((An a b).map Ac)]:=by
 have hlen:[(a:Int),(b:Int)].length=2:=rfl
 have hrk:=yM [(a:Int),(b:Int)] hlen
 refine Bh Aej rfl ?_;unfold aX
 refine RN ?_
 refine Ag (hrk) ?_
 refine RN ?_
 refine Ah (α:=Nat) (S:=fun i=>([(0,Ad [(a:Int),(b:Int)]),(2,.ref 0 0),(3,.ref 1 0),(4,i64 (i:Int))],[some [i64 0,Ai],some [i64 3,.sl 2 1 0 (if i=0 then 0 else if i=1 then 2 else 3)],some (((An a b).take (if i=0 then 0 else if i=1 then 2 else 3)).map Ac)]))
  (C:=fun i=>i≤3) (μ:=fun i=>3 - i) 0 (Nat.zero_le _) ((Ref.nilC 1 1 1 rfl rfl).trans (Ref.to (by simp) (by simp [sub,Ab]))) ?_
 intro i hi
 refine RN ?_
 refine ⟨fun hc=>?_,fun hc=>?_⟩
 ·(refine RN ?_;try with_reducible exact trivial)
  refine Ah (α:=Nat) (S:=fun k=>([(0,Ad [(a:Int),(b:Int)]),(2,.ref 0 0),(3,.ref 1 0),(4,i64 (i:Int)),(5,i64 (k:Int))],[some [i64 0,Ai],some [i64 3,.sl 2 1 0 ((if i=0 then 0 else if i=1 then 2 else 3)+(k - (i+1)))],some (((An a b).take ((if i=0 then 0 else if i=1 then 2 else 3)+(k - (i+1)))).map Ac)]))
   (C:=fun k=>i+1≤k∧k≤3) (μ:=fun k=>3 - k) (i+1) ⟨Nat.le_refl _,by omega⟩ (Ref.to (by simp) (by simp [sub,Ab])) ?_
  rintro k ⟨hk1,hk2⟩
  refine RN ?_
  refine ⟨fun hc1=>?_,fun hc1=>?_⟩
  ·have hik:(i=0∧k=1)∨(i=0∧k=2)∨(i=1∧k=2):=by omega
   rcases hik with ⟨rfl,rfl⟩ | ⟨rfl,rfl⟩ | ⟨rfl,rfl⟩
   ·-- 0, 1
    have hpw:=Vs [0,1] a (by decide) (by omega)
    have hts:(An a b).take (0+1)=(An a b).take 0++[Av [0,1] a]:=rfl
    have hml:((An a b).take 0).length=0:=M0 a b 0 (by omega)
    refine Bj ?_
    refine RN ?_
    refine ⟨fun _=>⟨by omega,?_⟩,fun h=>absurd (by omega) h⟩
    refine RN ?_
    refine ⟨fun _=>⟨by decide,?_⟩,fun h=>absurd h (by omega)⟩
    refine Ag (hpw) ?_
    refine RN ?_
    refine ⟨2,⟨by omega,by omega⟩,by omega,?_⟩
    show Ref 0 _ _ [(0,Ad [(a:Int),(b:Int)]),(2,.ref 0 0),(3,.ref 1 0),(4,i64 0),(5,i64 2)] [some [i64 0,Ai],some [i64 3,.sl 2 1 0 1],some (((An a b).take (0+1)).map Ac)]
    rw [hts]
    generalize hX:(An a b).take 0=X at *
    have tk1:(X.map Ac).take 0=X.map Ac:=List.take_of_length_le (by simp [hml])
    have hset:∀ x y:AV,(X.map Ac++[x]).set 0 y=X.map Ac++[y]:=fun x y=>by
     rw [List.set_append_right _ _ (by simp [hml])];simp [hml]
    simp only [Nat.reduceSub,Nat.reduceAdd,tk1]
    refine (Ref.close 6 0 4 (k:=1) (n:=(Av [0,1] a).length) (cs2:=Aa (Av [0,1] a)) rfl (by rw [List.getElem?_append_right (by simp [hml])];simp [hml]) rfl (by decide) (by simp [Aa])).trans (Ref.gc [0,1,6] rfl ?_ (by simp [sub,Ab,go_sem,↓reduceIte,Nat.reduceEqDiff,Nat.reduceAdd,reduceCtorEq]))
    simp only [go_sem,↓reduceIte,Nat.reduceEqDiff,Nat.reduceAdd,reduceCtorEq]
    rw [hset]
    simp
   ·-- 0, 2
    have hpw:=Vs [0,2] 2 (by decide) (by omega)
    have hts:(An a b).take (1+1)=(An a b).take 1++[Av [0,2] 2]:=rfl
    have hml:((An a b).take 1).length=1:=M0 a b 1 (by omega)
    refine Bj ?_
    refine RN ?_
    intro _
    refine RN ?_
    refine ⟨fun _=>⟨by decide,?_⟩,fun h=>absurd h (by omega)⟩
    refine Ag (hpw) ?_
    refine RN ?_
    refine ⟨3,⟨by omega,by omega⟩,by omega,?_⟩
    show Ref 0 _ _ [(0,Ad [(a:Int),(b:Int)]),(2,.ref 0 0),(3,.ref 1 0),(4,i64 0),(5,i64 3)] [some [i64 0,Ai],some [i64 3,.sl 2 1 0 2],some (((An a b).take (1+1)).map Ac)]
    rw [hts]
    generalize hX:(An a b).take 1=X at *
    have tk1:(X.map Ac).take 1=X.map Ac:=List.take_of_length_le (by simp [hml])
    have hset:∀ x y:AV,(X.map Ac++[x]).set 1 y=X.map Ac++[y]:=fun x y=>by
     rw [List.set_append_right _ _ (by simp [hml])];simp [hml]
    simp only [Nat.reduceSub,Nat.reduceAdd,tk1]
    refine (Ref.close 6 1 4 (k:=1) (n:=(Av [0,2] 2).length) (cs2:=Aa (Av [0,2] 2)) rfl (by rw [List.getElem?_append_right (by simp [hml])];simp [hml]) rfl (by decide) (by simp [Aa])).trans (Ref.gc [0,1,6] rfl ?_ (by simp [sub,Ab,go_sem,↓reduceIte,Nat.reduceEqDiff,Nat.reduceAdd,reduceCtorEq]))
    simp only [go_sem,↓reduceIte,Nat.reduceEqDiff,Nat.reduceAdd,reduceCtorEq]
    rw [hset]
    simp
   ·-- 1, 2
    have hpw:=Vs [1,2] b (by decide) (by omega)
    have hts:(An a b).take (2+1)=(An a b).take 2++[Av [1,2] b]:=rfl
    have hml:((An a b).take 2).length=2:=M0 a b 2 (by omega)
    refine Bj ?_
    refine RN ?_
    refine ⟨fun _=>⟨by omega,?_⟩,fun h=>absurd (by omega) h⟩
    refine RN ?_
    refine ⟨fun _=>⟨by decide,?_⟩,fun h=>absurd h (by omega)⟩
    refine Ag (hpw) ?_
    refine RN ?_
    refine ⟨3,⟨by omega,by omega⟩,by omega,?_⟩
    show Ref 0 _ _ [(0,Ad [(a:Int),(b:Int)]),(2,.ref 0 0),(3,.ref 1 0),(4,i64 1),(5,i64 3)] [some [i64 0,Ai],some [i64 3,.sl 2 1 0 3],some (((An a b).take (2+1)).map Ac)]
    rw [hts]
    generalize hX:(An a b).take 2=X at *
    have tk1:(X.map Ac).take 2=X.map Ac:=List.take_of_length_le (by simp [hml])
    have hset:∀ x y:AV,(X.map Ac++[x]).set 2 y=X.map Ac++[y]:=fun x y=>by
     rw [List.set_append_right _ _ (by simp [hml])];simp [hml]
    simp only [Nat.reduceSub,Nat.reduceAdd,tk1]
    refine (Ref.close 6 2 4 (k:=1) (n:=(Av [1,2] b).length) (cs2:=Aa (Av [1,2] b)) rfl (by rw [List.getElem?_append_right (by simp [hml])];simp [hml]) rfl (by decide) (by simp [Aa])).trans (Ref.gc [0,1,6] rfl ?_ (by simp [sub,Ab,go_sem,↓reduceIte,Nat.reduceEqDiff,Nat.reduceAdd,reduceCtorEq]))
    simp only [go_sem,↓reduceIte,Nat.reduceEqDiff,Nat.reduceAdd,reduceCtorEq]
    rw [hset]
    simp
  ·obtain rfl:k=3:=by omega
   refine RN ?_
   refine ⟨i+1,by omega,by omega,?_⟩
   have:i=0∨i=1∨i=2:=by omega
   rcases this with rfl | rfl | rfl<;>exact Ref.to1
 ·obtain rfl:i=3:=by omega
  refine RN ?_
  exact Ref.gc2 [2]
end
section
open Go.Gov Go.Ce
open Classical
theorem yH (G:Nat)(hG:G≤5)(w:List Int)(hw:Ca G w)(hl:w.length≤64):Pure Tryz.prog 180 [i64 (G:Int),Ad w] (bl true) []:=by
 refine Ao Ac7 rfl rfl ?_;unfold Zq
 refine RN ?_
 refine Ah (α:=Nat) (S:=fun i=>([(0,i64 (G:Int)),(1,Ad w),(4,bl false),(5,i64 (i:Int))],[])) (C:=fun i=>i≤w.length) (μ:=fun i=>w.length - i) 0 (Nat.zero_le _) (Ref.to1) ?_
 intro i hi
 refine RN ?_
 refine ⟨fun hc=>?_,fun hc=>?_⟩
 ·have hx:=hw i (by omega)
  have hin:=Oo (w.getD i 0) 0 ((G:Int) - 1)
  rw [decide_eq_true hx.1,decide_eq_true (show w.getD i 0≤(G:Int) - 1 by omega)] at hin
  refine RN ?_
  refine Ag (hin) ?_
  refine RN ?_
  exact ⟨i+1,by omega,by omega,Ref.to1⟩
 ·have:decide ((w.length:Int)≤64)=true:=decide_eq_true (by omega)
  refine RN ?_
  rw [this]
theorem yI (G:Nat)(hG:G≤5)(M:List (List Int))(least:Nat)(hM:∀ k,k<M.length→Ca G (M.getD k [])∧(M.getD k []).length≤64∧least≤(M.getD k []).length)(hl:M.length≤24):Pure Tryz.prog 148 [i64 (G:Int),Ae M,i64 (least:Int)] (bl true) []:=by
 refine Ao kP rfl rfl ?_;unfold Ui
 refine RN ?_
 refine Ah (α:=Nat) (S:=fun i=>([(0,i64 (G:Int)),(1,Ae M),(2,i64 (least:Int)),(6,bl false),(7,i64 (i:Int))],[])) (C:=fun i=>i≤M.length) (μ:=fun i=>M.length - i) 0 (Nat.zero_le _) (Ref.to1) ?_
 intro i hi
 refine RN ?_
 refine ⟨fun hc=>?_,fun hc=>?_⟩
 ·obtain ⟨w1,w2,w3⟩:=hM i (by omega)
  have hwd:=yH G hG (M.getD i []) w1 w2
  refine RN ?_
  refine Ag (hwd) ?_
  refine RN ?_
  intro _
  refine RN ?_
  exact ⟨i+1,by omega,by omega,Ref.to1⟩
 ·have:decide ((M.length:Int)≤24)=true:=decide_eq_true (by omega)
  refine RN ?_
  rw [this]
theorem yJ (G:Nat):Pure Tryz.prog 148 [i64 (G:Int),Ai,i64 0] (bl true) []:=by
 refine Ao kP rfl rfl ?_;unfold Ui
 refine RN ?_
 refine Ah (α:=Unit) (S:=fun _=>([(0,i64 (G:Int)),(1,Ai),(2,i64 0),(6,bl false),(7,i64 0)],[])) (C:=fun _=>True) (μ:=fun _=>0) () trivial (Ref.to1) ?_
 rintro _ _
 refine RN ?_
 intro _
 refine RN ?_
 rfl
theorem yD (G:Nat)(hG1:1≤G)(hG:G≤5)(M:List (List Int))(hM:∀ k,k<M.length→Ca G (M.getD k [])∧(M.getD k []).length≤64∧1≤(M.getD k []).length)(hl:M.length≤24):Pure Tryz.prog 147 [Dq G M] (bl true) []:=by
 have hin:=Oo (G:Int) 1 5
 rw [decide_eq_true (show (1:Int)≤G by omega),decide_eq_true (show (G:Int)≤5 by omega)] at hin
 have hws:=yI G hG M 1 hM hl
 refine Ao Acp rfl rfl ?_;unfold Za
 refine RN ?_
 refine Ag (hin) ?_
 refine RN ?_
 refine C9 (bl true ) (fun hg =>  hws) ?_
 (refine RN ?_;try with_reducible exact trivial)
theorem xZ (G:Nat)(hG1:1≤G)(hG:G≤5)(M:List (List Int))(hM:∀ k,k<M.length→Ca G (M.getD k [])∧(M.getD k []).length≤64∧1≤(M.getD k []).length)(hl:M.length≤24):Pure Tryz.prog 112 [Dq G M,Ai] (i64 0) []:=by
 have his:=yD G hG1 hG M hM hl
 have hws:=yJ G
 refine Ao Ab1 rfl rfl ?_;unfold Yo
 refine RN ?_
 refine Ag (his) ?_
 refine RN ?_
 refine C9 (bl true ) (fun hg =>  hws) ?_
 (refine RN ?_;try with_reducible exact trivial)
theorem Alr (G : Nat) (hG1 : 1 ≤ G) (hG : G ≤ 5) (M : List (List Int)) (hM : ∀ k, k < M.length → Ca G (M.getD k []) ∧ (M.getD k []).length ≤ 64 ∧ 1 ≤ (M.getD k []).length) (hl : M.length ≤ 24) :
    Pure Tryz.prog 67 [Dq G M,Ai] (.tup [.agg [i64 (G:Int),.sl 0 1 0 M.length],i64 0]) [some (M.map Ac)]:=by
 have hcd:=xZ G hG1 hG M hM hl
 have hrow:∀ i:Nat,(M.getD i []).length≤1048576:=fun i=>by
  by_cases h:i<M.length
  ·have:=(hM i h).2.1;omega
  ·simp [h]
 have hown:=xK M (by omega) hrow
 refine Bh Aei rfl ?_;unfold aW
 refine RN ?_
 refine Ag (hcd) ?_
 refine RN ?_
 refine Ho [(1,Ai),(2,.ref 0 0),(4,.ref 1 0),(5,i64 0),(7,.ref 3 0)] [some [i64 (G:Int),Ae M],some [i64 0,Ai],some (M.map Ac),some [i64 (G:Int),.sl 2 1 0 M.length]] ?_ ?_
 ·repeat' first
    | simp only [go_sem,↓reduceIte,Nat.reduceEqDiff,Nat.reduceAdd,reduceCtorEq]
    | with_reducible refine Ck ?_
    | with_reducible refine Cj ?_
    | with_reducible exact Cm
    | with_reducible refine Ci ?_ ?_
    | (with_reducible refine And.intro ?_ ?_;focus first | assumption | omega | grind)
    | (refine A9 (hown) ?_ ?_ ?_;(focus (simp only [go_sem,↓reduceIte,Nat.reduceEqDiff,Nat.reduceAdd,reduceCtorEq]<;>rfl));(focus first | rfl | simp only [go_sem,↓reduceIte,Nat.reduceEqDiff,Nat.reduceAdd,reduceCtorEq]))
  all_goals first
   | exact Ref.to1
   | (refine Ref.gc [0,1,3,2] rfl ?_ ?_<;>first | (simp only [go_sem,↓reduceIte,Nat.reduceEqDiff,Nat.reduceAdd,reduceCtorEq];done) | (simp only [go_sem,↓reduceIte,Nat.reduceEqDiff,Nat.reduceAdd,reduceCtorEq];rfl) | (simp [sub,Ab,go_sem,↓reduceIte,Nat.reduceEqDiff,Nat.reduceAdd,reduceCtorEq];done))
   | (refine Ref.gc [0,1,2,3] rfl ?_ ?_<;>first | (simp only [go_sem,↓reduceIte,Nat.reduceEqDiff,Nat.reduceAdd,reduceCtorEq];done) | (simp only [go_sem,↓reduceIte,Nat.reduceEqDiff,Nat.reduceAdd,reduceCtorEq];rfl) | (simp [sub,Ab,go_sem,↓reduceIte,Nat.reduceEqDiff,Nat.reduceAdd,reduceCtorEq];done))
 ·(refine RN ?_;try with_reducible exact trivial)
  refine Ah (α:=Unit) (S:=fun _=>([(1,Ai),(2,.ref 0 0),(4,.ref 1 0),(5,i64 0),(7,.ref 3 0),(8,i64 0)],[some [i64 (G:Int),Ae M],some [i64 0,Ai],some (M.map Ac),some [i64 (G:Int),.sl 2 1 0 M.length]])) (C:=fun _=>True) (μ:=fun _=>0) () trivial (Ref.to1) ?_
  rintro _ _
  refine RN ?_
  intro _
  refine RN ?_
  intro _
  refine RN ?_
  exact Ref.gc1 [2]
def Km (G:Nat)(M:List (List Int)):Prop:=(Ba G M).bad=false∧(B7 G (Ba G M)).length≤400
theorem yF (G : Nat) (hG1 : 1 ≤ G) (hG : G ≤ 5) (M : List (List Int)) (hM : ∀ k, k < M.length → Ca G (M.getD k []) ∧ (M.getD k []).length ≤ 64) (hl : M.length ≤ 24) (hb : Km G M) :
    Pure Tryz.prog 69 [Dq G M,Ai] (.tup [.sl 0 1 0 G,i64 0]) [some ((D1 G (Ba G M)).map Ac)]:=by
 have ht:=gU G hG1 hG M (by omega) (fun k hk=>⟨(hM k hk).1,by have:=(hM k hk).2;omega⟩) hb.1
 have htl:=Na G (Ba G M)
 have htr:=Lq (G:=G) (S:=Ba G M) (g:=0) (by omega)
 have h4:=hb.2
 generalize D1 G (Ba G M)=T at *
 generalize B7 G (Ba G M)=O at *
 obtain ⟨r0,J,rfl⟩:∃ r0 J,T=r0 :: J:=by
  cases T with
  | nil=>simp at htl;omega
  | cons a J=>exact ⟨a,J,rfl⟩
 have hr0:r0.length=O.length:=by simpa using htr
 refine Bh Wl rfl ?_;unfold Qi
 refine RN ?_
 refine Ag (ht) ?_
 simp only [go_sem,↓reduceIte,Nat.reduceEqDiff,Nat.reduceAdd,reduceCtorEq]
 refine E0 ((Ref.open 1 0 (cs:=(r0 :: J).map Ac) (cs2:=Aa r0) (k:=1) (n:=r0.length) rfl rfl).trans (Ref.to (F' := [(2,.ref 0 0),(6,.sl 1 1 0 G),(7,bl true),(5,i64 0)]) (H' := [some [i64 (G:Int),Ae M],some (.sl 2 1 0 r0.length :: J.map Ac),some (Aa r0)]) rfl (by simp [sub,Ab]))) ?_
 refine RN ?_
 intro _
 refine RN ?_
 refine (Ref.close 1 0 2 (k:=1) (n:=r0.length) (cs2:=Aa r0) rfl rfl rfl (by decide) (by simp [Aa])).trans ?_
 exact Ref.gc2 [1]
theorem yE (G : Nat) (hG1 : 1 ≤ G) (hG : G ≤ 5) (M : List (List Int)) (hM : ∀ k, k < M.length → Ca G (M.getD k []) ∧ (M.getD k []).length ≤ 64) (hl : M.length ≤ 24) (hb : ¬ Km G M) :
    Pure Tryz.prog 69 [Dq G M,Ai] (.tup [Ai,i64 3]) []:=by
 by_cases hbd:(Ba G M).bad=true
 ·have ht:=yG G hG1 hG M (by omega) (fun k hk=>⟨(hM k hk).1,by have:=(hM k hk).2;omega⟩) hbd
  refine Ao Wl rfl rfl ?_;unfold Qi
  refine RN ?_
  refine Ag (ht) ?_
  simp only [go_sem,↓reduceIte,Nat.reduceEqDiff,Nat.reduceAdd,reduceCtorEq]
  refine E0 ((Ref.nil 6 1 rfl).trans (Ref.to (F' := [(2,.ref 0 0),(6,.sl 1 1 0 0),(7,bl false),(5,i64 0)]) (H' := [some [i64 (G:Int),Ae M],some []]) rfl (by simp [sub,Ab]))) ?_
  refine RN ?_
  rw [show (([]:List AV).getD 0 (AV.slc 1 0 []))=AV.slc 1 0 [] from rfl]
  (refine RN ?_;try with_reducible exact trivial)
 ·have hbf:(Ba G M).bad=false:=by simpa using hbd
  have ht:=gU G hG1 hG M (by omega) (fun k hk=>⟨(hM k hk).1,by have:=(hM k hk).2;omega⟩) hbf
  have htl:=Na G (Ba G M)
  have htr:=Lq (G:=G) (S:=Ba G M) (g:=0) (by omega)
  have h4:¬ (B7 G (Ba G M)).length≤400:=fun h=>hb ⟨hbf,h⟩
  generalize D1 G (Ba G M)=T at *
  generalize B7 G (Ba G M)=O at *
  obtain ⟨r0,J,rfl⟩:∃ r0 J,T=r0 :: J:=by
   cases T with
   | nil=>simp at htl;omega
   | cons a J=>exact ⟨a,J,rfl⟩
  have hr0:r0.length=O.length:=by simpa using htr
  refine Ao Wl rfl rfl ?_;unfold Qi
  refine RN ?_
  refine Ag (ht) ?_
  simp only [go_sem,↓reduceIte,Nat.reduceEqDiff,Nat.reduceAdd,reduceCtorEq]
  refine E0 ((Ref.open 1 0 (cs:=(r0 :: J).map Ac) (cs2:=Aa r0) (k:=1) (n:=r0.length) rfl rfl).trans (Ref.to (F' := [(2,.ref 0 0),(6,.sl 1 1 0 G),(7,bl true),(5,i64 0)]) (H' := [some [i64 (G:Int),Ae M],some (.sl 2 1 0 r0.length :: J.map Ac),some (Aa r0)]) rfl (by simp [sub,Ab]))) ?_
  refine RN ?_
  refine ⟨fun _=>?_,fun h=>absurd h (by omega)⟩
  (refine RN ?_;try with_reducible exact trivial)
end
section
open Go.Gov Go.Ce
open Classical
noncomputable def Ch (a b:Nat):List (List Int):=D1 3 (Ba 3 (An a b))
noncomputable def Ey (a b:Nat):Int:=if Km 3 (An a b) then (if IsMan (Ch a b) then 0 else 5) else 3
theorem Xl (a b : Nat) (ha : 2 ≤ a ∧ a ≤ 32) (hb : 2 ≤ b ∧ b ≤ 32) :
    Pure Tryz.prog 33 [Ad [(a:Int),(b:Int)],Ai] (.tup [if Ey a b=0 then Ak (Ch a b) else .agg [Ai],i64 (Ey a b)]) []:=by
 have hls:=yK a b ha hb
 have hpr:=yL a b ha hb
 have hrr:=W1 a b ha.2 hb.2
 have hr3:(An a b).length=3:=rfl
 have hwr:=Alr 3 (by omega) (by omega) (An a b) (fun k hk=>⟨(hrr k hk).1,(hrr k hk).2.1,(hrr k hk).2.2 ha.1 hb.1⟩) (by omega)
 by_cases hs:Km 3 (An a b)
 ·have hsm:=yF 3 (by omega) (by omega) (An a b) (fun k hk=>⟨(hrr k hk).1,(hrr k hk).2.1⟩) (by omega) hs
  have hUe:Ey a b=if IsMan (Ch a b) then 0 else 5:=by unfold Ey;rw [if_pos hs]
  have htl:(Ch a b).length=3:=Na 3 (Ba 3 (An a b))
  have htr:∀ g,g<3→((Ch a b).getD g []).length=(B7 3 (Ba 3 (An a b))).length:=fun g hg=>Lq (G:=3) (S:=Ba 3 (An a b)) (g:=g) hg
  have h4:=hs.2
  change Gov.Pure _ _ _ _ [some ((Ch a b).map Ac)] at hsm
  generalize Ch a b=T at *
  generalize B7 3 (Ba 3 (An a b))=O at *
  have hi:=gG T (by omega) (fun p hp=>by
   obtain ⟨k,hk,rfl⟩:=List.mem_iff_getElem.1 hp
   have:=htr k (by omega)
   rw [show T.getD k []=T[k] by simp [hk]] at this
   omega)
  obtain ⟨r0,J,rfl⟩:∃ r0 J,T=r0 :: J:=by
   cases T with
   | nil=>simp at htl
   | cons a J=>exact ⟨a,J,rfl⟩
  have hr0:r0.length=O.length:=by simpa using htr 0 (by omega)
  generalize An a b=X at *
  rw [hUe]
  clear hUe
  refine Bh kW rfl ?_;unfold Uo
  refine RN ?_
  refine Ag (hls) ?_
  refine RN ?_
  refine Ag (hpr) ?_
  refine RN ?_
  refine A9 hwr (by simp only [go_sem,↓reduceIte,Nat.reduceEqDiff,Nat.reduceAdd,reduceCtorEq,Bl _ _ X 3 hr3];first | done | (simp only [Dq,Ae,hr3];done) | (simp only [Dq,Ae,hr3];rfl)) (by first | rfl | simp only [go_sem,↓reduceIte,Nat.reduceEqDiff,Nat.reduceAdd,reduceCtorEq]) ?_
  refine RN ?_
  refine A9 hsm (by simp only [go_sem,↓reduceIte,Nat.reduceEqDiff,Nat.reduceAdd,reduceCtorEq,Bl _ _ X X.length rfl]) (by first | rfl | simp only [go_sem,↓reduceIte,Nat.reduceEqDiff,Nat.reduceAdd,reduceCtorEq]) ?_
  simp only [go_sem,↓reduceIte,Nat.reduceEqDiff,Nat.reduceAdd,reduceCtorEq]
  refine E0 ((Ref.gc [0,4] (F' := [(4,.ref 0 0),(8,.sl 1 1 0 3),(9,i64 0),(5,i64 0)]) (H' := [some [Ai],some ((r0 :: J).map Ac)]) rfl (by simp only [go_sem,↓reduceIte,Nat.reduceEqDiff,Nat.reduceAdd,reduceCtorEq]<;>rfl) (by simp [sub,Ab,go_sem,↓reduceIte,Nat.reduceEqDiff,Nat.reduceAdd,reduceCtorEq])).trans ((Ref.open 1 0 (cs:=(r0 :: J).map Ac) (cs2:=Aa r0) (k:=1) (n:=r0.length) rfl rfl).trans (Ref.to (F' := [(4,.ref 0 0),(8,.sl 1 1 0 3),(9,i64 0),(5,i64 0)]) (H' := [some [Ai],some (.sl 2 1 0 r0.length :: J.map Ac),some (Aa r0)]) rfl (by simp [sub,Ab])))) ?_
  refine RN ?_
  intro _
  have tk1:((r0 :: J).map Ac).take 3=(r0 :: J).map Ac:=List.take_of_length_le (by simp only [List.length_map];omega)
  refine Fx ((Ref.close 1 0 2 (k:=1) (n:=r0.length) (cs2:=Aa r0) rfl rfl rfl (by decide) (by simp [Aa])).trans (Ref.sel [0] (F' := [(4,.ref 0 0),(8,Ae (r0 :: J)),(5,i64 0)]) (H' := [some [Ai]]) rfl ?_ ?_)) ?_
  ·simp only [go_sem,↓reduceIte,Nat.reduceEqDiff,Nat.reduceAdd,reduceCtorEq]
  ·simp only [sub,List.all_cons,List.all_nil,go_sem,↓reduceIte,Nat.reduceEqDiff,Nat.reduceAdd,reduceCtorEq]
   have h1:(List.map Ac J).take 2=List.map Ac J:=List.take_of_length_le (by simp at htl ⊢;omega)
   rw [h1]
   have h2:=Bl [none,some (AV.osl 1 r0.length (Aa r0) :: List.map Ac J),none] 3 J J.length rfl
   rw [List.take_of_length_le (by simp)] at h2
   rw [h2]
   simp [eK,Ae,htl]
  refine RN ?_
  refine Ag (hi) ?_
  refine RN ?_
  refine ⟨fun h=>?_,fun h=>?_⟩
  ·rw [if_neg h,if_neg (by decide)]
   refine RN ?_
   exact Ref.gc2 []
  ·rw [if_pos h,if_pos rfl]
   refine RN ?_
   exact Ref.gc2 []
 ·have hsm:=yE 3 (by omega) (by omega) (An a b) (fun k hk=>⟨(hrr k hk).1,(hrr k hk).2.1⟩) (by omega) hs
  have hUe:Ey a b=3:=by unfold Ey;rw [if_neg hs]
  generalize An a b=X at *
  rw [hUe]
  clear hUe
  refine Bh kW rfl ?_;unfold Uo
  refine RN ?_
  refine Ag (hls) ?_
  refine RN ?_
  refine Ag (hpr) ?_
  refine RN ?_
  refine A9 hwr (by simp only [go_sem,↓reduceIte,Nat.reduceEqDiff,Nat.reduceAdd,reduceCtorEq,Bl _ _ X 3 hr3];first | done | (simp only [Dq,Ae,hr3];done) | (simp only [Dq,Ae,hr3];rfl)) (by first | rfl | simp only [go_sem,↓reduceIte,Nat.reduceEqDiff,Nat.reduceAdd,reduceCtorEq]) ?_
  refine RN ?_
  refine A9 hsm (by simp only [go_sem,↓reduceIte,Nat.reduceEqDiff,Nat.reduceAdd,reduceCtorEq,Bl _ _ X X.length rfl]) (by first | rfl | simp only [go_sem,↓reduceIte,Nat.reduceEqDiff,Nat.reduceAdd,reduceCtorEq]) ?_
  simp only [go_sem,↓reduceIte,Nat.reduceEqDiff,Nat.reduceAdd,reduceCtorEq]
  refine E0 ((Ref.gc [0] (F' := [(4,.ref 0 0),(8,Ai),(9,i64 3),(5,i64 0)]) (H' := [some [Ai]]) rfl (by simp only [go_sem,↓reduceIte,Nat.reduceEqDiff,Nat.reduceAdd,reduceCtorEq]<;>rfl) (by simp [sub,Ab,go_sem,↓reduceIte,Nat.reduceEqDiff,Nat.reduceAdd,reduceCtorEq])).trans ((Ref.nil 8 1 rfl).trans (Ref.to (F' := [(4,.ref 0 0),(8,.sl 1 1 0 0),(9,i64 3),(5,i64 0)]) (H' := [some [Ai],some []]) rfl (by simp [sub,Ab])))) ?_
  refine RN ?_
  simp only [Int.reduceBNe]
  rw [show (([]:List AV).getD 0 (AV.slc 1 0 []))=AV.slc 1 0 [] from rfl]
  refine RN ?_
  rw [if_neg (by decide)]
  exact Ref.gc2 []
end
end Go.Proofs.YtnompobcofhkpaaGreatDoor
