/- Texts that belong together. -/
import Derived.Test.YtnompobcofhkpaaGreatDoorQ1
import Derived.Test.YtnompobcofhkpaaGreatDoorR9
set_option maxHeartbeats 16000000
set_option linter.unusedSimpArgs false
set_option linter.unusedVariables false
set_option maxRecDepth 100000
namespace Go.Proofs.YtnompobcofhkpaaGreatDoor
section
open Go.Gov
open Classical
theorem Of (p:Tg):Ar [p]=[p.1,p.2]:=rfl
theorem W6 {α:Type}(L:List α)(x y:α){n:Nat}(h:L.length=n):(L++[x]).set n y=L++[y]:=by
 subst h
 rw [List.set_append_right _ _ (by simp)];simp
theorem tH (T U:List (List Tg))(hT:Bs T)(hU:Bs U):Pure Tryz.prog 103 [Nd T,Nd U] (.agg [.sl 0 1 0 (T.length*U.length)]) [some ((D5 T U).map Bw)]:=by
 have hT2:=hT.p2
 have hU2:=hU.p2
 have hT1:=hT.p1
 have hU1:=hU.p1
 have hsz:=nR U (by omega)
 refine Ga [4] Abx rfl ?_;unfold Yk
 refine RN ?_
 refine Ag (hsz) ?_
 refine RN ?_
 refine Ah (α:=Nat) (S:=fun j=>([(2,.ref 0 0),(3,.ref 1 0),(4,.ref 2 0),(5,i64 U.length),(6,.ref 3 0),(20,Cv T),(21,i64 T.length),(22,i64 j)],[some [Cv T],some [Cv U],some [Ai],some [.sl 4 1 0 (j*U.length)],some ((Dj T U j).map Bw)])) (C:=fun j=>j≤T.length) (μ:=fun j=>T.length - j) 0 (by omega) ((Ref.nilC 3 0 1 rfl rfl).trans (Ref.to (by simp [Dj]) (by simp [sub,Ab]))) ?_
 intro j hj
 have hkl:=Kr T U j
 have hjU:j*U.length≤12*12:=Nat.mul_le_mul (by omega) hU2
 refine RN ?_
 refine ⟨fun hc=>?_,fun hc=>?_⟩
 ·have hjl:j<T.length:=by omega
  have g1:=Nc T j hjl
  have g2:=Nb T j hjl
  refine RN ?_
  simp only [g1,g2,go_sem,↓reduceIte,Nat.reduceEqDiff,Nat.reduceAdd,reduceCtorEq]
  refine RN ?_
  refine Ah (α:=Nat) (S:=fun k=>([(2,.ref 0 0),(3,.ref 1 0),(4,.ref 2 0),(5,i64 U.length),(6,.ref 3 0),(20,Cv T),(21,i64 T.length),(22,i64 j),(7,i64 j),(8,D8 (T.getD j [])),(28,Cv U),(29,i64 U.length),(30,i64 k)],[some [Cv T],some [Cv U],some [Ai],some [.sl 4 1 0 (j*U.length+k)],some ((Dj T U j++Di T U j k).map Bw)])) (C:=fun k=>k≤U.length) (μ:=fun k=>U.length - k) 0 (by omega) (Ref.to (by simp [Di]) (by simp [sub,Ab])) ?_
  intro k hk
  have hll:(Dj T U j++Di T U j k).length=j*U.length+k:=by rw [List.length_append,hkl];simp [Di]
  have hst:Dj T U j++Di T U j (k+1)=(Dj T U j++Di T U j k)++[B8 T U j k 3]:=by rw [cM,List.append_assoc]
  generalize hL:Dj T U j++Di T U j k=L at *
  refine RN ?_
  refine ⟨fun hc1=>?_,fun hc1=>?_⟩
  ·have hku:k<U.length:=by omega
   have g3:=Nc U k hku
   have g4:=Nb U k hku
   have h3:=hU.len k hku
   have h3T:=hT.len j hjl
   have hl6:(Ar (U.getD k [])).length=6:=by rw [G7,h3]
   have hl6T:(Ar (T.getD j [])).length=6:=by rw [G7,h3T]
   refine RN ?_
   simp only [g3,g4,go_sem,↓reduceIte,Nat.reduceEqDiff,Nat.reduceAdd,reduceCtorEq]
   refine RN ?_
   refine Ah (α:=Nat) (S:=fun i=>([(2,.ref 0 0),(3,.ref 1 0),(4,.ref 2 0),(5,i64 U.length),(6,.ref 3 0),(20,Cv T),(21,i64 T.length),(22,i64 j),(7,i64 j),(8,D8 (T.getD j [])),(28,Cv U),(29,i64 U.length),(30,i64 k),(34,D8 (U.getD k [])),(35,i64 (U.getD k []).length),(36,i64 i),(11,.sl 5 2 0 i)],[some [Cv T],some [Cv U],some [Ai],some [.sl 4 1 0 (j*U.length+k)],some (L.map Bw),some (Aa (Ar (B8 T U j k i)))])) (C:=fun i=>i≤3) (μ:=fun i=>3 - i) 0 (by omega) ((Ref.nil 11 2 rfl).trans (Ref.to (by simp [B8,Ar,Aa]) (by simp [sub,Ab]))) ?_
   intro i hi
   have hrl:(B8 T U j k i).length=i:=by simp [B8]
   have hfl:=G7 (B8 T U j k i)
   refine RN ?_
   refine ⟨fun hc2=>?_,fun hc2=>?_⟩
   ·have hi3:i<3:=by omega
    have g5:(Ar (U.getD k [])).getD (i*2) 0=(tg U k i).1:=Oc (U.getD k []) i
    have g6:(Ar (U.getD k [])).getD (i*2+1) 0=(tg U k i).2:=Oe (U.getD k []) i
    obtain ⟨o1,o2,o3,o4,_⟩:=hU.ok k i hku hi3
    have g7:=Og (U.getD k []) i (by omega)
    rw [show (U.getD k []).getD i T0=tg U k i from rfl] at g7
    have hx2:0≤(tg U k i).2→(tg U k i).2.toNat<3:=fun h=>by omega
    have g8:∀ h:0≤(tg U k i).2,((Aa (Ar (T.getD j []))).drop ((tg U k i).2.toNat*2)).take 2=[i64 (tg T j (tg U k i).2.toNat).1,i64 (tg T j (tg U k i).2.toNat).2]:=fun h=>Og (T.getD j []) _ (by omega)
    have hE:Gj T U j k i=((if 0≤(tg U k i).2 then (tg T j (tg U k i).2.toNat).1 else (j:Int))*U.length+(tg U k i).1,if 0≤(tg U k i).2 then (tg T j (tg U k i).2.toNat).2 else -1):=rfl
    have hok2:0≤(tg U k i).2→Kn T j (tg U k i).2.toNat:=fun h=>hT.ok j _ hjl (by omega)
    have hcs:=cO T U j k i
    have jU:0≤(j:Int)*U.length∧(j:Int)*U.length≤12*12:=⟨Int.mul_nonneg (by omega) (by omega),Int.mul_le_mul (by omega) (by omega) (by omega) (by omega)⟩
    generalize hx:tg U k i=x at *
    refine RN ?_
    refine And.intro ⟨by omega,by rw [g7];rfl⟩ ?_
    refine And.intro (by rw [List.length_drop,A2];omega) ?_
    simp only [g7,go_sem,↓reduceIte,Nat.reduceEqDiff,Nat.reduceAdd,reduceCtorEq]
    refine RN ?_
    refine ⟨fun hc3=>?_,fun hc3=>?_⟩
    ·have h8:=g8 hc3
     have hx3:=hx2 hc3
     obtain ⟨u1,u2,u3,u4,_⟩:=hok2 hc3
     rw [if_pos hc3,if_pos hc3] at hE
     generalize tg T j x.2.toNat=y at *
     have yU:0≤y.1*U.length∧y.1*U.length≤12*12:=⟨Int.mul_nonneg u1 (by omega),Int.mul_le_mul (by omega) (by omega) (by omega) (by omega)⟩
     refine RN ?_
     refine And.intro ⟨by omega,by rw [h8];rfl⟩ ?_
     refine And.intro (by rw [List.length_drop,A2];omega) ?_
     simp only [h8,go_sem,↓reduceIte,Nat.reduceEqDiff,Nat.reduceAdd,reduceCtorEq]
     refine RN ?_
     refine ⟨i+1,by omega,by omega,?_⟩
     rw [hcs,hE,Mb,Of]
     have tk1:(Aa (Ar (B8 T U j k i))).take (i*2)=Aa (Ar (B8 T U j k i)):=List.take_of_length_le (by rw [A2];omega)
     generalize Ar (B8 T U j k i)=R at *
     refine Ref.gc [0,1,2,3,4,10] rfl ?_ (by simp [sub,Ab,go_sem,↓reduceIte,Nat.reduceEqDiff,Nat.reduceAdd,reduceCtorEq])
     simp only [go_sem,↓reduceIte,Nat.reduceEqDiff,Nat.reduceAdd,reduceCtorEq]
     rw [tk1,Cr]
     simp [Aa]
    ·rw [if_neg (by omega),if_neg (by omega)] at hE
     refine RN ?_
     refine ⟨i+1,by omega,by omega,?_⟩
     rw [hcs,hE,Mb,Of]
     have tk1:(Aa (Ar (B8 T U j k i))).take (i*2)=Aa (Ar (B8 T U j k i)):=List.take_of_length_le (by rw [A2];omega)
     generalize Ar (B8 T U j k i)=R at *
     refine Ref.gc [0,1,2,3,4,9] rfl ?_ (by simp [sub,Ab,go_sem,↓reduceIte,Nat.reduceEqDiff,Nat.reduceAdd,reduceCtorEq])
     simp only [go_sem,↓reduceIte,Nat.reduceEqDiff,Nat.reduceAdd,reduceCtorEq]
     rw [tk1,Cr]
     simp [Aa]
   ·obtain rfl:i=3:=by omega
    refine RN ?_
    refine ⟨k+1,by omega,by omega,?_⟩
    rw [hst,← Nat.add_assoc]
    refine (Ref.close 7 (j*U.length+k) 5 (k:=2) (n:=3) (cs2:=Aa (Ar (B8 T U j k 3))) rfl (by rw [List.getElem?_append_right (by simp [hll])];simp [hll]) rfl (by decide) (by rw [A2];omega)).trans (Ref.gc [0,1,2,3,7] rfl ?_ (by simp [sub,Ab,go_sem,↓reduceIte,Nat.reduceEqDiff,Nat.reduceAdd,reduceCtorEq]))
    have hset:∀ x y:AV,(L.map Bw++[x]).set (j*U.length+k) y=L.map Bw++[y]:=fun x y=>W6 _ _ _ (by simp [hll])
    rw [List.take_of_length_le (by simp [hll]),hset]
    simp only [go_sem,↓reduceIte,Nat.reduceEqDiff,Nat.reduceAdd,reduceCtorEq]
    all_goals simp [Bw,hrl]
  ·obtain rfl:k=U.length:=by omega
   refine RN ?_
   refine ⟨j+1,by omega,by omega,?_⟩
   rw [Qn,hL,Nat.add_mul,Nat.one_mul]
   exact Ref.to1
 ·obtain rfl:j=T.length:=by omega
  refine RN ?_
  rfl
end
section
open Go.Gov
open Classical
def B0:Int→List UInt8:=fun n=>if n=100 then [100] else if n=97 then [97] else if n=116 then [116] else if n=99 then [99] else if n=98 then [97,116] else if n=101 then [97,97] else if n=106 then [97,100] else if n=107 then [100,116,100]
 else if n=109 then [97,116,100] else if n=110 then [116,100] else if n=111 then [97,97,100] else if n=122 then [100,116] else []
def Iv:List Int:=[100,97,116,99,98,101,106,107,109,110,111,122]
def bT (b:UInt8):List (List Tg):=if b=100 then tD else if b=97 then tA else if b=116 then tT else tC
def wT:List UInt8→List (List Tg)
 | []=>[]
 | c :: r=>r.foldl (fun T x=>D5 T (bT x)) (bT c)
theorem rE (n:Int)(h:n∈Iv):Pure Tryz.prog 102 [.val (.int .u8 n)] (sV (B0 n)) []:=by
 simp only [Iv,List.mem_cons,List.not_mem_nil,or_false] at h
 rcases h with rfl | rfl | rfl | rfl | rfl | rfl | rfl | rfl | rfl | rfl | rfl | rfl
 all_goals
  refine Ao F8 rfl rfl ?_;unfold Fe
  (iterate 16 ((try (refine RN ?_;try with_reducible exact trivial));(try with_reducible refine fun _=>?_)))
  try rfl
theorem Wa (n:Int)(h:n=100∨n=97∨n=116∨n=99):Pure Tryz.prog 59 [.val (.int .u8 n)] (.agg [.sl 0 1 0 (bT (UInt8.ofNat n.toNat)).length]) [some ((bT (UInt8.ofNat n.toNat)).map Bw)]:=by
 rcases h with rfl | rfl | rfl | rfl
 ·have e:bT (UInt8.ofNat (100:Int).toNat)=tD:=rfl
  rw [e]
  refine Bh Pb rfl ?_;unfold L5
  (iterate 16 ((try (refine RN ?_;try with_reducible exact trivial));(try with_reducible refine fun _=>?_)))
  refine (Ref.close 2 0 1 (k:=2) (n:=3) (cs2:=Aa [0,2,0,1,0,0]) rfl rfl rfl (by decide) rfl).trans ?_
  exact Ref.gc [2] rfl rfl (by simp [sub,Ab,tD,go_sem,↓reduceIte,Nat.reduceEqDiff,Nat.reduceAdd,reduceCtorEq])
 ·have e:bT (UInt8.ofNat (97:Int).toNat)=tA:=rfl
  rw [e]
  refine Bh Pb rfl ?_;unfold L5
  (iterate 16 ((try (refine RN ?_;try with_reducible exact trivial));(try with_reducible refine fun _=>?_)))
  refine (Ref.close 3 0 1 (k:=2) (n:=3) (cs2:=Aa [0,1,0,0,1, -1]) rfl rfl rfl (by decide) rfl).trans ?_
  refine (Ref.close 3 1 2 (k:=2) (n:=3) (cs2:=Aa [1,1,1,2,0, -1]) rfl rfl rfl (by decide) rfl).trans ?_
  exact Ref.gc [3] rfl rfl (by simp [sub,Ab,tA,go_sem,↓reduceIte,Nat.reduceEqDiff,Nat.reduceAdd,reduceCtorEq])
 ·have e:bT (UInt8.ofNat (116:Int).toNat)=tT:=rfl
  rw [e]
  refine Bh Pb rfl ?_;unfold L5
  (iterate 16 ((try (refine RN ?_;try with_reducible exact trivial));(try with_reducible refine fun _=>?_)))
  refine (Ref.close 4 0 1 (k:=2) (n:=3) (cs2:=Aa [0,0,1, -1,0,2]) rfl rfl rfl (by decide) rfl).trans ?_
  refine (Ref.close 4 1 2 (k:=2) (n:=3) (cs2:=Aa [1,1,0, -1,2, -1]) rfl rfl rfl (by decide) rfl).trans ?_
  refine (Ref.close 4 2 3 (k:=2) (n:=3) (cs2:=Aa [2,1,2,2,1, -1]) rfl rfl rfl (by decide) rfl).trans ?_
  exact Ref.gc [4] rfl rfl (by simp [sub,Ab,tT,go_sem,↓reduceIte,Nat.reduceEqDiff,Nat.reduceAdd,reduceCtorEq])
 ·have e:bT (UInt8.ofNat (99:Int).toNat)=tC:=rfl
  rw [e]
  refine Bh Pb rfl ?_;unfold L5
  (iterate 16 ((try (refine RN ?_;try with_reducible exact trivial));(try with_reducible refine fun _=>?_)))
  refine (Ref.close 5 0 1 (k:=2) (n:=3) (cs2:=Aa [1, -1,0,2,0,1]) rfl rfl rfl (by decide) rfl).trans ?_
  refine (Ref.close 5 1 2 (k:=2) (n:=3) (cs2:=Aa [0, -1,2, -1,1,1]) rfl rfl rfl (by decide) rfl).trans ?_
  refine (Ref.close 5 2 3 (k:=2) (n:=3) (cs2:=Aa [2,0,1, -1,3, -1]) rfl rfl rfl (by decide) rfl).trans ?_
  refine (Ref.close 5 3 4 (k:=2) (n:=3) (cs2:=Aa [3,0,3,1,2, -1]) rfl rfl rfl (by decide) rfl).trans ?_
  exact Ref.gc [5] rfl rfl (by simp [sub,Ab,tC,go_sem,↓reduceIte,Nat.reduceEqDiff,Nat.reduceAdd,reduceCtorEq])
theorem Rb (l:List UInt8)(i:Nat)(h:i<l.length):UInt8.ofNat (((l.getD i 0).toNat:Int)).toNat=l.getD i 0:=by simp
theorem Xn {w:List UInt8}(h:1≤w.length):wT (w.take 1)=bT (w.getD 0 0):=by
 cases w with
 | nil=>simp at h
 | cons c r=>simp [wT]
theorem Xo {w:List UInt8}{i:Nat}(h1:1≤i)(h:i<w.length):wT (w.take (i+1))=D5 (wT (w.take i)) (bT (w.getD i 0)):=by
 rw [List.take_succ_eq_append_getElem h]
 cases w with
 | nil=>simp at h
 | cons c r=>
  obtain ⟨k,rfl⟩:∃ k,i=k+1:=⟨i - 1,by omega⟩
  rw [List.take_succ_cons,List.cons_append,wT,wT,List.foldl_append]
  simp at h
  simp [h]
theorem Gi {b:UInt8}(h:b=100∨b=97∨b=116∨b=99):Bs (bT b):=by
 rcases h with rfl | rfl | rfl | rfl
 ·exact nZ
 ·exact nX
 ·exact oA
 ·exact nY
theorem Aa7 (n : Int) (hn : n ≠ 100 ∧ n ≠ 97 ∧ n ≠ 116 ∧ n ≠ 99) (w : List UInt8) (h1 : 1 ≤ w.length) (h3 : w.length ≤ 3) (hw : ∀ i, i < w.length → w.getD i 0 = 100 ∨ w.getD i 0 = 97 ∨ w.getD i 0 = 116 ∨ w.getD i 0 = 99)
    (hok:∀ i,1≤i→i<w.length→Bs (wT (w.take i))) (hb:Pure Tryz.prog 102 [.val (.int .u8 n)] (sV w) []):
    Pure Tryz.prog 59 [.val (.int .u8 n)] (.agg [.sl 0 1 0 (wT w).length]) [some ((wT w).map Bw)]:=by
 obtain ⟨n1,n2,n3,n4⟩:=hn
 refine Bh Pb rfl ?_;unfold L5
 (iterate 16 ((try (refine RN ?_;try with_reducible exact trivial));(try with_reducible refine fun _=>?_)))
 refine Ag (hb) ?_
 refine RN ?_
 have l0:=Wa ((w.getD 0 0).toNat:Int) (by rcases hw 0 (by omega) with e | e | e | e<;>rw [e]<;>decide)
 rw [Rb w 0 (by omega)] at l0
 refine Ag (l0) ?_
 refine RN ?_
 refine Ah (α:=Nat) (S:=fun i=>([(2,.ref 0 0),(3,sV w),(4,.ref 1 0),(5,i64 (i:Int))],[some [Ai],some [.sl 2 1 0 (wT (w.take i)).length],some ((wT (w.take i)).map Bw)])) (C:=fun i=>1≤i∧i≤w.length) (μ:=fun i=>w.length - i) 1 ⟨Nat.le_refl _,h1⟩ ?_ ?_
 ·dsimp only
  rw [Xn h1]
  exact Ref.gc2 [0,2,1]
 rintro i ⟨i1,i2⟩
 refine RN ?_
 refine ⟨fun hc=>?_,fun hc=>?_⟩
 ·have hiw:i<w.length:=by omega
  have li:=Wa ((w.getD i 0).toNat:Int) (by rcases hw i hiw with e | e | e | e<;>rw [e]<;>decide)
  rw [Rb w i hiw] at li
  have hco:=tH (wT (w.take i)) (bT (w.getD i 0)) (hok i i1 hiw) (Gi (hw i hiw))
  have hsu:=Xo i1 hiw
  have hln:(wT (w.take (i+1))).length=(wT (w.take i)).length*(bT (w.getD i 0)).length:=by rw [hsu,Fg]
  refine RN ?_
  refine Ag (li) ?_
  refine RN ?_
  refine Ag (hco) ?_
  refine RN ?_
  refine ⟨i+1,by omega,by omega,?_⟩
  rw [hln,hsu]
  exact Ref.gc2 [0,1,4]
 ·obtain rfl:i=w.length:=by omega
  rw [List.take_length]
  refine RN ?_
  exact Ref.gc2 [2]
theorem Aln (a b:UInt8):wT [a,b]=D5 (bT a) (bT b):=rfl
theorem Alo (a b c:UInt8):wT [a,b,c]=D5 (D5 (bT a) (bT b)) (bT c):=rfl
theorem Nh (n:Int)(h:n∈Iv):Bs (wT (B0 n))∧(wT (B0 n)).length≤6∧1≤(B0 n).length∧(B0 n).length≤3∧(∀ i,i<(B0 n).length→(B0 n).getD i 0=100∨(B0 n).getD i 0=97∨(B0 n).getD i 0=116∨(B0 n).getD i 0=99)∧∀ i,1≤i→i<(B0 n).length→Bs (wT ((B0 n).take i)):=by
 have two:∀ a b:UInt8,(a=100∨a=97∨a=116∨a=99)→(b=100∨b=97∨b=116∨b=99)→(bT a).length*(bT b).length≤6→Bs (wT [a,b])∧(wT [a,b]).length≤6∧1≤[a,b].length∧[a,b].length≤3∧(∀ i,i<[a,b].length→[a,b].getD i 0=100∨[a,b].getD i 0=97∨[a,b].getD i 0=116∨[a,b].getD i 0=99)∧∀ i,1≤i→i<[a,b].length→Bs (wT ([a,b].take i)):=by
  intro a b ha hb hl
  refine ⟨Uy (Gi ha) (Gi hb) (by omega),by rw [Aln,Fg];exact hl,by simp,by simp,fun i hi=>?_,fun i h1 hi=>?_⟩
  ·match i,hi with
   | 0,_=>exact ha
   | 1,_=>exact hb
  ·obtain rfl:i=1:=by simp at hi;omega
   exact Gi ha
 have three:∀ a b c:UInt8,(a=100∨a=97∨a=116∨a=99)→(b=100∨b=97∨b=116∨b=99)→(c=100∨c=97∨c=116∨c=99)→(bT a).length*(bT b).length*(bT c).length≤6→(bT a).length*(bT b).length≤6→Bs (wT [a,b,c])∧(wT [a,b,c]).length≤6∧1≤[a,b,c].length∧[a,b,c].length≤3∧(∀ i,i<[a,b,c].length→[a,b,c].getD i 0=100∨[a,b,c].getD i 0=97∨[a,b,c].getD i 0=116∨[a,b,c].getD i 0=99)∧∀ i,1≤i→i<[a,b,c].length→Bs (wT ([a,b,c].take i)):=by
  intro a b c ha hb hc hl hl2
  have h2:=Uy (Gi ha) (Gi hb) (by omega)
  refine ⟨Uy h2 (Gi hc) (by rw [Fg];omega),by rw [Alo,Fg,Fg];exact hl,by simp,by simp,fun i hi=>?_,fun i h1 hi=>?_⟩
  ·match i,hi with
   | 0,_=>exact ha
   | 1,_=>exact hb
   | 2,_=>exact hc
  ·have hi2:i=1∨i=2:=by simp at hi;omega
   rcases hi2 with rfl | rfl
   ·exact Gi ha
   ·exact h2
 have one:∀ a:UInt8,(a=100∨a=97∨a=116∨a=99)→(bT a).length≤6→Bs (wT [a])∧(wT [a]).length≤6∧1≤[a].length∧[a].length≤3∧(∀ i,i<[a].length→[a].getD i 0=100∨[a].getD i 0=97∨[a].getD i 0=116∨[a].getD i 0=99)∧∀ i,1≤i→i<[a].length→Bs (wT ([a].take i)):=by
  intro a ha hl
  refine ⟨Gi ha,hl,by simp,by simp,fun i hi=>?_,fun i h1 hi=>by simp at hi;omega⟩
  obtain rfl:i=0:=by simp at hi;omega
  exact ha
 simp only [Iv,List.mem_cons,List.not_mem_nil,or_false] at h
 rcases h with rfl | rfl | rfl | rfl | rfl | rfl | rfl | rfl | rfl | rfl | rfl | rfl
 ·exact one 100 (by decide) (by decide)
 ·exact one 97 (by decide) (by decide)
 ·exact one 116 (by decide) (by decide)
 ·exact one 99 (by decide) (by decide)
 ·exact two 97 116 (by decide) (by decide) (by decide)
 ·exact two 97 97 (by decide) (by decide) (by decide)
 ·exact two 97 100 (by decide) (by decide) (by decide)
 ·exact three 100 116 100 (by decide) (by decide) (by decide) (by decide) (by decide)
 ·exact three 97 116 100 (by decide) (by decide) (by decide) (by decide) (by decide)
 ·exact two 116 100 (by decide) (by decide) (by decide)
 ·exact three 97 97 100 (by decide) (by decide) (by decide) (by decide) (by decide)
 ·exact two 100 116 (by decide) (by decide) (by decide)
theorem Aa8 (n:Int)(h:n∈Iv):Pure Tryz.prog 59 [.val (.int .u8 n)] (.agg [.sl 0 1 0 (wT (B0 n)).length]) [some ((wT (B0 n)).map Bw)]:=by
 obtain ⟨_,_,h1,h3,hw,hok⟩:=Nh n h
 have hb:=rE n h
 by_cases hn:n=100∨n=97∨n=116∨n=99
 ·have h1:=Wa n hn
  have e:wT (B0 n)=bT (UInt8.ofNat n.toNat):=by rcases hn with rfl | rfl | rfl | rfl<;>rfl
  rw [e]
  exact h1
 ·exact Aa7 n (by omega) (B0 n) h1 h3 hw hok hb
end
end Go.Proofs.YtnompobcofhkpaaGreatDoor
