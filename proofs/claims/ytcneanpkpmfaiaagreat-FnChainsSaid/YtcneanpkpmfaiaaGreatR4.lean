/- Texts that belong together. -/
import Derived.Test.YtcneanpkpmfaiaaGreatZw
import Derived.Test.YtcneanpkpmfaiaaGreatR2
set_option linter.unusedSimpArgs false
set_option linter.unusedVariables false
set_option maxRecDepth 100000
namespace Go.Proofs.YtcneanpkpmfaiaaGreat
section
open Go.Gov Go.Ce
open Classical
def B5 (w:List Int)(k:Nat):List Int:=(List.replicate k w).flatten
theorem Kc (w:List Int)(k:Nat):(B5 w k).length=k*w.length:=by simp [B5]
theorem zV (w:List Int)(k:Nat):B5 w (k+1)=B5 w k++w:=by simp [B5,List.replicate_succ']
theorem zU {w:List Int}{k:Nat}{x:Int}(h:x∈B5 w k):x∈w:=by
 unfold B5 at h
 obtain ⟨y,hy,hx⟩:=List.mem_flatten.1 h
 rw [(List.mem_replicate.1 hy).2] at hx
 exact hx
def Bk (a b:Nat):List (List Int):=[B5 [0,1] a,B5 [0,2] 2,B5 [1,2] b]
theorem Ps (w:List Int)(k:Nat)(hw:w.length≤4)(hk:k≤64):Pure Tryz.prog 117 [Ac w,i64 (k:Int)] (.sl 0 1 0 (B5 w k).length) [some (Aa (B5 w k))]:=by
 refine Au uW rfl ?_;unfold Vx
 refine RN ?_
 refine Aj (α:=Nat) (S:=fun j=>([(0,Ac w),(1,i64 ((k:Int) - j)),(5,.sl 0 1 0 (B5 w j).length)],[some (Aa (B5 w j))])) (C:=fun j=>j≤k) (μ:=fun j=>k - j) 0 (Nat.zero_le _) (Ref.to (by simp [B5,Aa]) (by simp [sub,Ab,B5])) ?_
 intro j hj
 have hl:=Kc w j
 have hl2:j*w.length≤64*4:=Nat.mul_le_mul (by omega) hw
 have hsu:=zV w j
 obtain ⟨V,hV⟩:∃ V,V=B5 w j:=⟨_,rfl⟩
 rw [← hV] at hl hsu ⊢
 refine RN ?_
 refine ⟨fun hc=>?_,fun hc=>?_⟩
 ·(refine RN ?_;try with_reducible exact trivial)
  refine ⟨j+1,by omega,by omega,?_⟩
  rw [hsu,show (k:Int) - ((j+1:Nat):Int)=(k:Int) - j - 1 by omega]
  refine Ref.gc [1] rfl ?_ (by simp [sub,Ab,go_sem,↓reduceIte,Nat.reduceEqDiff,Nat.reduceAdd,reduceCtorEq])
  simp only [go_sem,↓reduceIte,Nat.reduceEqDiff,Nat.reduceAdd,reduceCtorEq]
  simp [Aa]
 ·obtain rfl:j=k:=by omega
  rw [← hV]
  refine RN ?_
  exact Ref.to1
theorem Adr {a b:Nat}{i:Nat}(hi:i<2):[(a:Int),(b:Int)].getD i 0=if i=0 then (a:Int) else b:=by
 match i,hi with
 | 0,_=>rfl
 | 1,_=>rfl
theorem pW (a b:Nat)(ha:2≤a∧a≤32)(hb:2≤b∧b≤32):Pure Tryz.prog 112 [Ac [(a:Int),(b:Int)]] (bl true) []:=by
 have hat:=fun i=>Adr (a:=a) (b:=b) (i:=i)
 have hlen:[(a:Int),(b:Int)].length=2:=rfl
 generalize [(a:Int),(b:Int)]=L at *
 refine Bj cC rfl rfl ?_;unfold Rz
 refine RN ?_
 refine Aj (α:=Nat) (S:=fun i=>([(0,Ac L),(2,bl false),(3,i64 (i:Int))],[])) (C:=fun i=>i≤2) (μ:=fun i=>2 - i) 0 (Nat.zero_le _) (Ref.to1) ?_
 intro i hi
 refine RN ?_
 refine ⟨fun hc=>?_,fun hc=>?_⟩
 ·have hx:=hat i (by omega)
  have hx2:2≤L.getD i 0∧L.getD i 0≤32:=by
   rw [hx]
   have:i=0∨i=1:=by omega
   rcases this with rfl | rfl<;>simp<;>omega
  have hin:=Ey (L.getD i 0) 2 32
  rw [decide_eq_true hx2.1,decide_eq_true hx2.2] at hin
  have hne:((L.getD i 0 != 0))=true:=bne_iff_ne.2 (by omega)
  refine RN ?_
  rw [hne]
  refine G1 (bl true ) (fun hg =>  hin) ?_
  refine RN ?_
  exact ⟨i+1,by omega,by omega,Ref.to1⟩
 ·(refine RN ?_;try with_reducible exact trivial)
  rw [hlen]
  rfl
theorem qC (L:List Int)(h:L.length=2):Pure Tryz.prog 81 [Ac L] (i64 3) []:=by
 refine Bj cT rfl rfl ?_;unfold Sc
 refine RN ?_
 rw [h]
 rfl
theorem Zq (xs:List Int)(hl:xs.length≤1048576):Pure Tryz.prog 132 [Ac xs] (.sl 0 1 0 xs.length) [some (Aa xs)]:=by
 refine Au vH rfl ?_;unfold V8
 refine RN ?_
 exact Ref.gc1 [1]
theorem oX (M:List (List Int))(hl:M.length≤1048576)(hr:∀ i:Nat,(M.getD i []).length≤1048576):Pure Tryz.prog 140 [Ae M] (.sl 0 1 0 M.length) [some (M.map Ad)]:=by
 refine Au vP rfl ?_;unfold Wf
 refine RN ?_
 refine Aj (α:=Nat) (S:=fun i=>([(0,Ae M),(3,.sl 0 1 0 i),(4,i64 (i:Int))],[some ((M.take i).map Ad)])) (C:=fun i=>i≤M.length) (μ:=fun i=>M.length - i) 0 (Nat.zero_le _) (Ref.to1) ?_
 intro i hi
 have hml:(M.take i).length=i:=by simp;omega
 refine RN ?_
 refine ⟨fun hc=>?_,fun hc=>?_⟩
 ·have hown:=Zq (M.getD i []) (hr i)
  have hts:M.take (i+1)=M.take i++[M.getD i []]:=by rw [List.take_succ_eq_append_getElem (by omega)];simp [show i<M.length by omega]
  refine RN ?_
  refine Am (hown) ?_
  refine RN ?_
  refine ⟨i+1,by omega,by omega,?_⟩
  rw [hts]
  generalize M.take i=X at *
  generalize M.getD i []=Y at *
  refine (Ref.close 3 i 1 (k:=1) (n:=Y.length) (cs2:=Aa Y) rfl (by rw [List.getElem?_append_right (by simp;omega)];simp [hml]) rfl (by decide) (by simp [Aa])).trans (Ref.gc [3] rfl ?_ (by simp [sub,Ab,go_sem,↓reduceIte,Nat.reduceEqDiff,Nat.reduceAdd,reduceCtorEq]))
  have hset:∀ x y:AV,(X.map Ad++[x]).set i y=X.map Ad++[y]:=fun x y=>by
   rw [List.set_append_right _ _ (by simp [hml])];simp [hml]
  have tk1:(X.map Ad).take i=X.map Ad:=List.take_of_length_le (by simp [hml])
  simp only [go_sem,↓reduceIte,Nat.reduceEqDiff,Nat.reduceAdd,reduceCtorEq]
  rw [tk1,Eb,hset]
  simp
 ·obtain rfl:i=M.length:=by omega
  refine RN ?_
  exact Ref.to (by simp) (by simp [sub,Ab])
theorem Um (a b n:Nat)(h:n≤3):((Bk a b).take n).length=n:=by simp [Bk];omega
theorem Abd (a b:Nat)(ha:a≤32)(hb:b≤32):∀ k,k<3→C8 3 ((Bk a b).getD k [])∧((Bk a b).getD k []).length≤64∧(2≤a→2≤b→1≤((Bk a b).getD k []).length):=fun k hk=>by
 have hl:∀ (w:List Int) (n:Nat),(∀ x∈w,0≤x∧x<3)→C8 3 (B5 w n):=fun w n h j hj=>by
  have:(B5 w n).getD j 0∈B5 w n:=by
   rw [List.getD_eq_getElem?_getD,List.getElem?_eq_getElem hj]
   exact List.getElem_mem hj
  exact h _ (zU this)
 match k,hk with
 | 0,_=>exact ⟨hl _ _ (by simp),by simp [Bk,Kc];omega,fun h1 h2=>by simp [Bk,Kc];omega⟩
 | 1,_=>exact ⟨hl _ _ (by simp),by simp [Bk,Kc],fun h1 h2=>by simp [Bk,Kc]⟩
 | 2,_=>exact ⟨hl _ _ (by simp),by simp [Bk,Kc];omega,fun h1 h2=>by simp [Bk,Kc];omega⟩
set_option maxHeartbeats 2000000 in
theorem qB (a b:Nat)(ha:2≤a∧a≤32)(hb:2≤b∧b≤32):Pure Tryz.prog 80 [Ac [(a:Int),(b:Int)]] (.agg [i64 3,.sl 0 1 0 3]) [some ((Bk a b).map Ad)]:=by
 have hlen:[(a:Int),(b:Int)].length=2:=rfl
 have hrk:=qC [(a:Int),(b:Int)] hlen
 refine Au cR rfl ?_;unfold Sb
 refine RN ?_
 refine Am (hrk) ?_
 refine RN ?_
 refine Aj (α:=Nat) (S:=fun i=>([(0,Ac [(a:Int),(b:Int)]),(2,.ref 0 0),(3,.ref 1 0),(4,i64 (i:Int))],[some [i64 0,Af],some [i64 3,.sl 2 1 0 (if i=0 then 0 else if i=1 then 2 else 3)],some (((Bk a b).take (if i=0 then 0 else if i=1 then 2 else 3)).map Ad)]))
  (C:=fun i=>i≤3) (μ:=fun i=>3 - i) 0 (Nat.zero_le _) ((Ref.nilC 1 1 1 rfl rfl).trans (Ref.to (by simp) (by simp [sub,Ab]))) ?_
 intro i hi
 refine RN ?_
 refine ⟨fun hc=>?_,fun hc=>?_⟩
 ·(refine RN ?_;try with_reducible exact trivial)
  refine Aj (α:=Nat) (S:=fun k=>([(0,Ac [(a:Int),(b:Int)]),(2,.ref 0 0),(3,.ref 1 0),(4,i64 (i:Int)),(5,i64 (k:Int))],[some [i64 0,Af],some [i64 3,.sl 2 1 0 ((if i=0 then 0 else if i=1 then 2 else 3)+(k - (i+1)))],some (((Bk a b).take ((if i=0 then 0 else if i=1 then 2 else 3)+(k - (i+1)))).map Ad)]))
   (C:=fun k=>i+1≤k∧k≤3) (μ:=fun k=>3 - k) (i+1) ⟨Nat.le_refl _,by omega⟩ (Ref.to (by simp) (by simp [sub,Ab])) ?_
  rintro k ⟨hk1,hk2⟩
  refine RN ?_
  refine ⟨fun hc1=>?_,fun hc1=>?_⟩
  ·have hik:(i=0∧k=1)∨(i=0∧k=2)∨(i=1∧k=2):=by omega
   rcases hik with ⟨rfl,rfl⟩ | ⟨rfl,rfl⟩ | ⟨rfl,rfl⟩
   ·-- 0, 1
    have hpw:=Ps [0,1] a (by decide) (by omega)
    have hts:(Bk a b).take (0+1)=(Bk a b).take 0++[B5 [0,1] a]:=rfl
    have hml:((Bk a b).take 0).length=0:=Um a b 0 (by omega)
    refine Al ?_
    refine RN ?_
    refine ⟨fun _=>⟨by omega,?_⟩,fun h=>absurd (by omega) h⟩
    refine RN ?_
    refine ⟨fun _=>⟨by decide,?_⟩,fun h=>absurd h (by omega)⟩
    refine Am (hpw) ?_
    refine RN ?_
    refine ⟨2,⟨by omega,by omega⟩,by omega,?_⟩
    show Ref 0 _ _ [(0,Ac [(a:Int),(b:Int)]),(2,.ref 0 0),(3,.ref 1 0),(4,i64 0),(5,i64 2)] [some [i64 0,Af],some [i64 3,.sl 2 1 0 1],some (((Bk a b).take (0+1)).map Ad)]
    rw [hts]
    generalize hX:(Bk a b).take 0=X at *
    have tk1:(X.map Ad).take 0=X.map Ad:=List.take_of_length_le (by simp [hml])
    have hset:∀ x y:AV,(X.map Ad++[x]).set 0 y=X.map Ad++[y]:=fun x y=>by
     rw [List.set_append_right _ _ (by simp [hml])];simp [hml]
    simp only [Nat.reduceSub,Nat.reduceAdd,tk1]
    refine (Ref.close 6 0 4 (k:=1) (n:=(B5 [0,1] a).length) (cs2:=Aa (B5 [0,1] a)) rfl (by rw [List.getElem?_append_right (by simp [hml])];simp [hml]) rfl (by decide) (by simp [Aa])).trans (Ref.gc [0,1,6] rfl ?_ (by simp [sub,Ab,go_sem,↓reduceIte,Nat.reduceEqDiff,Nat.reduceAdd,reduceCtorEq]))
    simp only [go_sem,↓reduceIte,Nat.reduceEqDiff,Nat.reduceAdd,reduceCtorEq]
    rw [hset]
    simp
   ·-- 0, 2
    have hpw:=Ps [0,2] 2 (by decide) (by omega)
    have hts:(Bk a b).take (1+1)=(Bk a b).take 1++[B5 [0,2] 2]:=rfl
    have hml:((Bk a b).take 1).length=1:=Um a b 1 (by omega)
    refine Al ?_
    refine RN ?_
    intro _
    refine RN ?_
    refine ⟨fun _=>⟨by decide,?_⟩,fun h=>absurd h (by omega)⟩
    refine Am (hpw) ?_
    refine RN ?_
    refine ⟨3,⟨by omega,by omega⟩,by omega,?_⟩
    show Ref 0 _ _ [(0,Ac [(a:Int),(b:Int)]),(2,.ref 0 0),(3,.ref 1 0),(4,i64 0),(5,i64 3)] [some [i64 0,Af],some [i64 3,.sl 2 1 0 2],some (((Bk a b).take (1+1)).map Ad)]
    rw [hts]
    generalize hX:(Bk a b).take 1=X at *
    have tk1:(X.map Ad).take 1=X.map Ad:=List.take_of_length_le (by simp [hml])
    have hset:∀ x y:AV,(X.map Ad++[x]).set 1 y=X.map Ad++[y]:=fun x y=>by
     rw [List.set_append_right _ _ (by simp [hml])];simp [hml]
    simp only [Nat.reduceSub,Nat.reduceAdd,tk1]
    refine (Ref.close 6 1 4 (k:=1) (n:=(B5 [0,2] 2).length) (cs2:=Aa (B5 [0,2] 2)) rfl (by rw [List.getElem?_append_right (by simp [hml])];simp [hml]) rfl (by decide) (by simp [Aa])).trans (Ref.gc [0,1,6] rfl ?_ (by simp [sub,Ab,go_sem,↓reduceIte,Nat.reduceEqDiff,Nat.reduceAdd,reduceCtorEq]))
    simp only [go_sem,↓reduceIte,Nat.reduceEqDiff,Nat.reduceAdd,reduceCtorEq]
    rw [hset]
    simp
   ·-- 1, 2
    have hpw:=Ps [1,2] b (by decide) (by omega)
    have hts:(Bk a b).take (2+1)=(Bk a b).take 2++[B5 [1,2] b]:=rfl
    have hml:((Bk a b).take 2).length=2:=Um a b 2 (by omega)
    refine Al ?_
    refine RN ?_
    refine ⟨fun _=>⟨by omega,?_⟩,fun h=>absurd (by omega) h⟩
    refine RN ?_
    refine ⟨fun _=>⟨by decide,?_⟩,fun h=>absurd h (by omega)⟩
    refine Am (hpw) ?_
    refine RN ?_
    refine ⟨3,⟨by omega,by omega⟩,by omega,?_⟩
    show Ref 0 _ _ [(0,Ac [(a:Int),(b:Int)]),(2,.ref 0 0),(3,.ref 1 0),(4,i64 1),(5,i64 3)] [some [i64 0,Af],some [i64 3,.sl 2 1 0 3],some (((Bk a b).take (2+1)).map Ad)]
    rw [hts]
    generalize hX:(Bk a b).take 2=X at *
    have tk1:(X.map Ad).take 2=X.map Ad:=List.take_of_length_le (by simp [hml])
    have hset:∀ x y:AV,(X.map Ad++[x]).set 2 y=X.map Ad++[y]:=fun x y=>by
     rw [List.set_append_right _ _ (by simp [hml])];simp [hml]
    simp only [Nat.reduceSub,Nat.reduceAdd,tk1]
    refine (Ref.close 6 2 4 (k:=1) (n:=(B5 [1,2] b).length) (cs2:=Aa (B5 [1,2] b)) rfl (by rw [List.getElem?_append_right (by simp [hml])];simp [hml]) rfl (by decide) (by simp [Aa])).trans (Ref.gc [0,1,6] rfl ?_ (by simp [sub,Ab,go_sem,↓reduceIte,Nat.reduceEqDiff,Nat.reduceAdd,reduceCtorEq]))
    simp only [go_sem,↓reduceIte,Nat.reduceEqDiff,Nat.reduceAdd,reduceCtorEq]
    rw [hset]
    simp
  ·obtain rfl:k=3:=by omega
   refine RN ?_
   refine ⟨i+1,by omega,by omega,?_⟩
   have:i=0∨i=1∨i=2:=by omega
   rcases this with rfl | rfl | rfl<;>exact Ref.to1
 ·obtain rfl:i=3:=by omega
  refine RN ?_
  exact Ref.gc2 [2]
end
section
open Go.Gov Go.Ce
open Classical
theorem pP (G:Nat)(hG:G≤5)(w:List Int)(hw:C8 G w)(hl:w.length≤64):Pure Tryz.prog 156 [i64 (G:Int),Ac w] (bl true) []:=by
 refine Bj vX rfl rfl ?_;unfold Wn
 refine RN ?_
 refine Aj (α:=Nat) (S:=fun i=>([(0,i64 (G:Int)),(1,Ac w),(4,bl false),(5,i64 (i:Int))],[])) (C:=fun i=>i≤w.length) (μ:=fun i=>w.length - i) 0 (Nat.zero_le _) (Ref.to1) ?_
 intro i hi
 refine RN ?_
 refine ⟨fun hc=>?_,fun hc=>?_⟩
 ·have hx:=hw i (by omega)
  have hin:=Ey (w.getD i 0) 0 ((G:Int) - 1)
  rw [decide_eq_true hx.1,decide_eq_true (show w.getD i 0≤(G:Int) - 1 by omega)] at hin
  refine RN ?_
  refine Am (hin) ?_
  refine RN ?_
  exact ⟨i+1,by omega,by omega,Ref.to1⟩
 ·have:decide ((w.length:Int)≤64)=true:=decide_eq_true (by omega)
  refine RN ?_
  rw [this]
theorem pQ (G:Nat)(hG:G≤5)(M:List (List Int))(least:Nat)(hM:∀ k,k<M.length→C8 G (M.getD k [])∧(M.getD k []).length≤64∧least≤(M.getD k []).length)(hl:M.length≤24):Pure Tryz.prog 153 [i64 (G:Int),Ae M,i64 (least:Int)] (bl true) []:=by
 refine Bj cG rfl rfl ?_;unfold R4
 refine RN ?_
 refine Aj (α:=Nat) (S:=fun i=>([(0,i64 (G:Int)),(1,Ae M),(2,i64 (least:Int)),(6,bl false),(7,i64 (i:Int))],[])) (C:=fun i=>i≤M.length) (μ:=fun i=>M.length - i) 0 (Nat.zero_le _) (Ref.to1) ?_
 intro i hi
 refine RN ?_
 refine ⟨fun hc=>?_,fun hc=>?_⟩
 ·obtain ⟨w1,w2,w3⟩:=hM i (by omega)
  have hwd:=pP G hG (M.getD i []) w1 w2
  refine RN ?_
  refine Am (hwd) ?_
  refine RN ?_
  intro _
  refine RN ?_
  exact ⟨i+1,by omega,by omega,Ref.to1⟩
 ·have:decide ((M.length:Int)≤24)=true:=decide_eq_true (by omega)
  refine RN ?_
  rw [this]
theorem pR (G:Nat):Pure Tryz.prog 153 [i64 (G:Int),Af,i64 0] (bl true) []:=by
 refine Bj cG rfl rfl ?_;unfold R4
 refine RN ?_
 refine Aj (α:=Unit) (S:=fun _=>([(0,i64 (G:Int)),(1,Af),(2,i64 0),(6,bl false),(7,i64 0)],[])) (C:=fun _=>True) (μ:=fun _=>0) () trivial (Ref.to1) ?_
 rintro _ _
 refine RN ?_
 intro _
 refine RN ?_
 rfl
theorem pN (G:Nat)(hG1:1≤G)(hG:G≤5)(M:List (List Int))(hM:∀ k,k<M.length→C8 G (M.getD k [])∧(M.getD k []).length≤64∧1≤(M.getD k []).length)(hl:M.length≤24):Pure Tryz.prog 152 [Fl G M] (bl true) []:=by
 have hin:=Ey (G:Int) 1 5
 rw [decide_eq_true (show (1:Int)≤G by omega),decide_eq_true (show (G:Int)≤5 by omega)] at hin
 have hws:=pQ G hG M 1 hM hl
 refine Bj vV rfl rfl ?_;unfold Wl
 refine RN ?_
 refine Am (hin) ?_
 refine RN ?_
 refine G1 (bl true ) (fun hg =>  hws) ?_
 (refine RN ?_;try with_reducible exact trivial)
theorem pJ (G:Nat)(hG1:1≤G)(hG:G≤5)(M:List (List Int))(hM:∀ k,k<M.length→C8 G (M.getD k [])∧(M.getD k []).length≤64∧1≤(M.getD k []).length)(hl:M.length≤24):Pure Tryz.prog 139 [Fl G M,Af] (i64 0) []:=by
 have his:=pN G hG1 hG M hM hl
 have hws:=pR G
 refine Bj vM rfl rfl ?_;unfold Wd
 refine RN ?_
 refine Am (his) ?_
 refine RN ?_
 refine G1 (bl true ) (fun hg =>  hws) ?_
 (refine RN ?_;try with_reducible exact trivial)
theorem Adz (G : Nat) (hG1 : 1 ≤ G) (hG : G ≤ 5) (M : List (List Int)) (hM : ∀ k, k < M.length → C8 G (M.getD k []) ∧ (M.getD k []).length ≤ 64 ∧ 1 ≤ (M.getD k []).length) (hl : M.length ≤ 24) :
    Pure Tryz.prog 120 [Fl G M,Af] (.tup [.agg [i64 (G:Int),.sl 0 1 0 M.length],i64 0]) [some (M.map Ad)]:=by
 have hcd:=pJ G hG1 hG M hM hl
 have hrow:∀ i:Nat,(M.getD i []).length≤1048576:=fun i=>by
  by_cases h:i<M.length
  ·have:=(hM i h).2.1;omega
  ·simp [h]
 have hown:=oX M (by omega) hrow
 refine Au uZ rfl ?_;unfold V0
 refine RN ?_
 refine Am (hcd) ?_
 refine RN ?_
 refine Ji [(1,Af),(2,.ref 0 0),(4,.ref 1 0),(5,i64 0),(7,.ref 3 0)] [some [i64 (G:Int),Ae M],some [i64 0,Af],some (M.map Ad),some [i64 (G:Int),.sl 2 1 0 M.length]] ?_ ?_
 ·repeat' first
    | simp only [go_sem,↓reduceIte,Nat.reduceEqDiff,Nat.reduceAdd,reduceCtorEq]
    | with_reducible refine Ar ?_
    | with_reducible refine Aq ?_
    | with_reducible exact As
    | with_reducible refine Ap ?_ ?_
    | (with_reducible refine And.intro ?_ ?_;focus first | assumption | omega | grind)
    | (refine Bn (hown) ?_ ?_ ?_;(focus (simp only [go_sem,↓reduceIte,Nat.reduceEqDiff,Nat.reduceAdd,reduceCtorEq]<;>rfl));(focus first | rfl | simp only [go_sem,↓reduceIte,Nat.reduceEqDiff,Nat.reduceAdd,reduceCtorEq]))
  all_goals first
   | exact Ref.to1
   | (refine Ref.gc [0,1,3,2] rfl ?_ ?_<;>first | (simp only [go_sem,↓reduceIte,Nat.reduceEqDiff,Nat.reduceAdd,reduceCtorEq];done) | (simp only [go_sem,↓reduceIte,Nat.reduceEqDiff,Nat.reduceAdd,reduceCtorEq];rfl) | (simp [sub,Ab,go_sem,↓reduceIte,Nat.reduceEqDiff,Nat.reduceAdd,reduceCtorEq];done))
   | (refine Ref.gc [0,1,2,3] rfl ?_ ?_<;>first | (simp only [go_sem,↓reduceIte,Nat.reduceEqDiff,Nat.reduceAdd,reduceCtorEq];done) | (simp only [go_sem,↓reduceIte,Nat.reduceEqDiff,Nat.reduceAdd,reduceCtorEq];rfl) | (simp [sub,Ab,go_sem,↓reduceIte,Nat.reduceEqDiff,Nat.reduceAdd,reduceCtorEq];done))
 ·(refine RN ?_;try with_reducible exact trivial)
  refine Aj (α:=Unit) (S:=fun _=>([(1,Af),(2,.ref 0 0),(4,.ref 1 0),(5,i64 0),(7,.ref 3 0),(8,i64 0)],[some [i64 (G:Int),Ae M],some [i64 0,Af],some (M.map Ad),some [i64 (G:Int),.sl 2 1 0 M.length]])) (C:=fun _=>True) (μ:=fun _=>0) () trivial (Ref.to1) ?_
  rintro _ _
  refine RN ?_
  intro _
  refine RN ?_
  intro _
  refine RN ?_
  exact Ref.gc1 [2]
def Im (G:Nat)(M:List (List Int)):Prop:=(Bm G M).bad=false∧(Cx G (Bm G M)).length≤400
theorem Zz (G : Nat) (hG1 : 1 ≤ G) (hG : G ≤ 5) (M : List (List Int)) (hM : ∀ k, k < M.length → C8 G (M.getD k []) ∧ (M.getD k []).length ≤ 64) (hl : M.length ≤ 24) (hb : Im G M) :
    Pure Tryz.prog 79 [Fl G M,Af] (.tup [.sl 0 1 0 G,i64 0]) [some ((Ek G (Bm G M)).map Ad)]:=by
 have ht:=Z0 G hG1 hG M (by omega) (fun k hk=>⟨(hM k hk).1,by have:=(hM k hk).2;omega⟩) hb.1
 have htl:=Qp G (Bm G M)
 have htr:=Uv (G:=G) (S:=Bm G M) (g:=0) (by omega)
 have h4:=hb.2
 generalize Ek G (Bm G M)=T at *
 generalize Cx G (Bm G M)=O at *
 obtain ⟨r0,J,rfl⟩:∃ r0 J,T=r0 :: J:=by
  cases T with
  | nil=>simp at htl;omega
  | cons a J=>exact ⟨a,J,rfl⟩
 have hr0:r0.length=O.length:=by simpa using htr
 refine Au Ue rfl ?_;unfold On
 refine RN ?_
 refine Am (ht) ?_
 simp only [go_sem,↓reduceIte,Nat.reduceEqDiff,Nat.reduceAdd,reduceCtorEq]
 refine Ft ((Ref.open 1 0 (cs:=(r0 :: J).map Ad) (cs2:=Aa r0) (k:=1) (n:=r0.length) rfl rfl).trans (Ref.to (F' := [(2,.ref 0 0),(6,.sl 1 1 0 G),(7,bl true),(5,i64 0)]) (H' := [some [i64 (G:Int),Ae M],some (.sl 2 1 0 r0.length :: J.map Ad),some (Aa r0)]) rfl (by simp [sub,Ab]))) ?_
 refine RN ?_
 intro _
 refine RN ?_
 refine (Ref.close 1 0 2 (k:=1) (n:=r0.length) (cs2:=Aa r0) rfl rfl rfl (by decide) (by simp [Aa])).trans ?_
 exact Ref.gc2 [1]
theorem Zy (G : Nat) (hG1 : 1 ≤ G) (hG : G ≤ 5) (M : List (List Int)) (hM : ∀ k, k < M.length → C8 G (M.getD k []) ∧ (M.getD k []).length ≤ 64) (hl : M.length ≤ 24) (hb : ¬ Im G M) :
    Pure Tryz.prog 79 [Fl G M,Af] (.tup [Af,i64 3]) []:=by
 by_cases hbd:(Bm G M).bad=true
 ·have ht:=pO G hG1 hG M (by omega) (fun k hk=>⟨(hM k hk).1,by have:=(hM k hk).2;omega⟩) hbd
  refine Bj Ue rfl rfl ?_;unfold On
  refine RN ?_
  refine Am (ht) ?_
  simp only [go_sem,↓reduceIte,Nat.reduceEqDiff,Nat.reduceAdd,reduceCtorEq]
  refine Ft ((Ref.nil 6 1 rfl).trans (Ref.to (F' := [(2,.ref 0 0),(6,.sl 1 1 0 0),(7,bl false),(5,i64 0)]) (H' := [some [i64 (G:Int),Ae M],some []]) rfl (by simp [sub,Ab]))) ?_
  refine RN ?_
  rw [show (([]:List AV).getD 0 (AV.slc 1 0 []))=AV.slc 1 0 [] from rfl]
  (refine RN ?_;try with_reducible exact trivial)
 ·have hbf:(Bm G M).bad=false:=by simpa using hbd
  have ht:=Z0 G hG1 hG M (by omega) (fun k hk=>⟨(hM k hk).1,by have:=(hM k hk).2;omega⟩) hbf
  have htl:=Qp G (Bm G M)
  have htr:=Uv (G:=G) (S:=Bm G M) (g:=0) (by omega)
  have h4:¬ (Cx G (Bm G M)).length≤400:=fun h=>hb ⟨hbf,h⟩
  generalize Ek G (Bm G M)=T at *
  generalize Cx G (Bm G M)=O at *
  obtain ⟨r0,J,rfl⟩:∃ r0 J,T=r0 :: J:=by
   cases T with
   | nil=>simp at htl;omega
   | cons a J=>exact ⟨a,J,rfl⟩
  have hr0:r0.length=O.length:=by simpa using htr
  refine Bj Ue rfl rfl ?_;unfold On
  refine RN ?_
  refine Am (ht) ?_
  simp only [go_sem,↓reduceIte,Nat.reduceEqDiff,Nat.reduceAdd,reduceCtorEq]
  refine Ft ((Ref.open 1 0 (cs:=(r0 :: J).map Ad) (cs2:=Aa r0) (k:=1) (n:=r0.length) rfl rfl).trans (Ref.to (F' := [(2,.ref 0 0),(6,.sl 1 1 0 G),(7,bl true),(5,i64 0)]) (H' := [some [i64 (G:Int),Ae M],some (.sl 2 1 0 r0.length :: J.map Ad),some (Aa r0)]) rfl (by simp [sub,Ab]))) ?_
  refine RN ?_
  refine ⟨fun _=>?_,fun h=>absurd h (by omega)⟩
  (refine RN ?_;try with_reducible exact trivial)
end
section
open Go.Gov Go.Ce
open Classical
noncomputable def Hi (a b:Nat):List (List Int):=Ek 3 (Bm 3 (Bk a b))
noncomputable def Hh (a b:Nat):Int:=if Im 3 (Bk a b) then (if IsMan (Hi a b) then 0 else 5) else 3
theorem fE (a b : Nat) (ha : 2 ≤ a ∧ a ≤ 32) (hb : 2 ≤ b ∧ b ≤ 32) :
    Pure Tryz.prog 89 [Ac [(a:Int),(b:Int)],Af] (.tup [if Hh a b=0 then Bw (Hi a b) else .agg [Af],i64 (Hh a b)]) []:=by
 have hls:=pW a b ha hb
 have hpr:=qB a b ha hb
 have hrr:=Abd a b ha.2 hb.2
 have hr3:(Bk a b).length=3:=rfl
 have hwr:=Adz 3 (by omega) (by omega) (Bk a b) (fun k hk=>⟨(hrr k hk).1,(hrr k hk).2.1,(hrr k hk).2.2 ha.1 hb.1⟩) (by omega)
 by_cases hs:Im 3 (Bk a b)
 ·have hsm:=Zz 3 (by omega) (by omega) (Bk a b) (fun k hk=>⟨(hrr k hk).1,(hrr k hk).2.1⟩) (by omega) hs
  have hUe:Hh a b=if IsMan (Hi a b) then 0 else 5:=by unfold Hh;rw [if_pos hs]
  have htl:(Hi a b).length=3:=Qp 3 (Bm 3 (Bk a b))
  have htr:∀ g,g<3→((Hi a b).getD g []).length=(Cx 3 (Bm 3 (Bk a b))).length:=fun g hg=>Uv (G:=3) (S:=Bm 3 (Bk a b)) (g:=g) hg
  have h4:=hs.2
  change Gov.Pure _ _ _ _ [some ((Hi a b).map Ad)] at hsm
  generalize Hi a b=T at *
  generalize Cx 3 (Bm 3 (Bk a b))=O at *
  have hi:=Zu T (by omega) (fun p hp=>by
   obtain ⟨k,hk,rfl⟩:=List.mem_iff_getElem.1 hp
   have:=htr k (by omega)
   rw [show T.getD k []=T[k] by simp [hk]] at this
   omega)
  obtain ⟨r0,J,rfl⟩:∃ r0 J,T=r0 :: J:=by
   cases T with
   | nil=>simp at htl
   | cons a J=>exact ⟨a,J,rfl⟩
  have hr0:r0.length=O.length:=by simpa using htr 0 (by omega)
  generalize Bk a b=X at *
  rw [hUe]
  clear hUe
  refine Au cU rfl ?_;unfold Sd
  refine RN ?_
  refine Am (hls) ?_
  refine RN ?_
  refine Am (hpr) ?_
  refine RN ?_
  refine Bn hwr (by simp only [go_sem,↓reduceIte,Nat.reduceEqDiff,Nat.reduceAdd,reduceCtorEq,C1 _ _ X 3 hr3];first | done | (simp only [Fl,Ae,hr3];done) | (simp only [Fl,Ae,hr3];rfl)) (by first | rfl | simp only [go_sem,↓reduceIte,Nat.reduceEqDiff,Nat.reduceAdd,reduceCtorEq]) ?_
  refine RN ?_
  refine Bn hsm (by simp only [go_sem,↓reduceIte,Nat.reduceEqDiff,Nat.reduceAdd,reduceCtorEq,C1 _ _ X X.length rfl]) (by first | rfl | simp only [go_sem,↓reduceIte,Nat.reduceEqDiff,Nat.reduceAdd,reduceCtorEq]) ?_
  simp only [go_sem,↓reduceIte,Nat.reduceEqDiff,Nat.reduceAdd,reduceCtorEq]
  refine Ft ((Ref.gc [0,4] (F' := [(4,.ref 0 0),(8,.sl 1 1 0 3),(9,i64 0),(5,i64 0)]) (H' := [some [Af],some ((r0 :: J).map Ad)]) rfl (by simp only [go_sem,↓reduceIte,Nat.reduceEqDiff,Nat.reduceAdd,reduceCtorEq]<;>rfl) (by simp [sub,Ab,go_sem,↓reduceIte,Nat.reduceEqDiff,Nat.reduceAdd,reduceCtorEq])).trans ((Ref.open 1 0 (cs:=(r0 :: J).map Ad) (cs2:=Aa r0) (k:=1) (n:=r0.length) rfl rfl).trans (Ref.to (F' := [(4,.ref 0 0),(8,.sl 1 1 0 3),(9,i64 0),(5,i64 0)]) (H' := [some [Af],some (.sl 2 1 0 r0.length :: J.map Ad),some (Aa r0)]) rfl (by simp [sub,Ab])))) ?_
  refine RN ?_
  intro _
  have tk1:((r0 :: J).map Ad).take 3=(r0 :: J).map Ad:=List.take_of_length_le (by simp only [List.length_map];omega)
  refine Df ((Ref.close 1 0 2 (k:=1) (n:=r0.length) (cs2:=Aa r0) rfl rfl rfl (by decide) (by simp [Aa])).trans (Ref.sel [0] (F' := [(4,.ref 0 0),(8,Ae (r0 :: J)),(5,i64 0)]) (H' := [some [Af]]) rfl ?_ ?_)) ?_
  ·simp only [go_sem,↓reduceIte,Nat.reduceEqDiff,Nat.reduceAdd,reduceCtorEq]
  ·simp only [sub,List.all_cons,List.all_nil,go_sem,↓reduceIte,Nat.reduceEqDiff,Nat.reduceAdd,reduceCtorEq]
   have h1:(List.map Ad J).take 2=List.map Ad J:=List.take_of_length_le (by simp at htl ⊢;omega)
   rw [h1]
   have h2:=C1 [none,some (AV.osl 1 r0.length (Aa r0) :: List.map Ad J),none] 3 J J.length rfl
   rw [List.take_of_length_le (by simp)] at h2
   rw [h2]
   simp [Yy,Ae,htl]
  refine RN ?_
  refine Am (hi) ?_
  refine RN ?_
  refine ⟨fun h=>?_,fun h=>?_⟩
  ·rw [if_neg h,if_neg (by decide)]
   refine RN ?_
   exact Ref.gc2 []
  ·rw [if_pos h,if_pos rfl]
   refine RN ?_
   exact Ref.gc2 []
 ·have hsm:=Zy 3 (by omega) (by omega) (Bk a b) (fun k hk=>⟨(hrr k hk).1,(hrr k hk).2.1⟩) (by omega) hs
  have hUe:Hh a b=3:=by unfold Hh;rw [if_neg hs]
  generalize Bk a b=X at *
  rw [hUe]
  clear hUe
  refine Au cU rfl ?_;unfold Sd
  refine RN ?_
  refine Am (hls) ?_
  refine RN ?_
  refine Am (hpr) ?_
  refine RN ?_
  refine Bn hwr (by simp only [go_sem,↓reduceIte,Nat.reduceEqDiff,Nat.reduceAdd,reduceCtorEq,C1 _ _ X 3 hr3];first | done | (simp only [Fl,Ae,hr3];done) | (simp only [Fl,Ae,hr3];rfl)) (by first | rfl | simp only [go_sem,↓reduceIte,Nat.reduceEqDiff,Nat.reduceAdd,reduceCtorEq]) ?_
  refine RN ?_
  refine Bn hsm (by simp only [go_sem,↓reduceIte,Nat.reduceEqDiff,Nat.reduceAdd,reduceCtorEq,C1 _ _ X X.length rfl]) (by first | rfl | simp only [go_sem,↓reduceIte,Nat.reduceEqDiff,Nat.reduceAdd,reduceCtorEq]) ?_
  simp only [go_sem,↓reduceIte,Nat.reduceEqDiff,Nat.reduceAdd,reduceCtorEq]
  refine Ft ((Ref.gc [0] (F' := [(4,.ref 0 0),(8,Af),(9,i64 3),(5,i64 0)]) (H' := [some [Af]]) rfl (by simp only [go_sem,↓reduceIte,Nat.reduceEqDiff,Nat.reduceAdd,reduceCtorEq]<;>rfl) (by simp [sub,Ab,go_sem,↓reduceIte,Nat.reduceEqDiff,Nat.reduceAdd,reduceCtorEq])).trans ((Ref.nil 8 1 rfl).trans (Ref.to (F' := [(4,.ref 0 0),(8,.sl 1 1 0 0),(9,i64 3),(5,i64 0)]) (H' := [some [Af],some []]) rfl (by simp [sub,Ab])))) ?_
  refine RN ?_
  simp only [Int.reduceBNe]
  rw [show (([]:List AV).getD 0 (AV.slc 1 0 []))=AV.slc 1 0 [] from rfl]
  refine RN ?_
  rw [if_neg (by decide)]
  exact Ref.gc2 []
end
end Go.Proofs.YtcneanpkpmfaiaaGreat
