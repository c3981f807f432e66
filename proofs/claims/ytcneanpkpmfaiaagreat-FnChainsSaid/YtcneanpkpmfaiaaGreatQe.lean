/- Texts that belong together. -/
import Derived.Test.YtcneanpkpmfaiaaGreatQb
import Derived.Test.YtcneanpkpmfaiaaGreatQd
set_option maxHeartbeats 16000000
set_option linter.unusedSimpArgs false
set_option linter.unusedVariables false
set_option maxRecDepth 100000
namespace Go.Proofs.YtcneanpkpmfaiaaGreat
section
open Go.Gov Go.Ce
open Classical
theorem Pb (l:List (List Int))(i:Nat)(h:i<l.length):l.getD i []=l[i]:=by simp [h]
theorem qG (n:Nat)(T:List (List Int))(m:Int)(hT:RgOk n T)(h1:1≤T.length)(h2:T.length≤5)(hn:n≤1048576):B1 Tryz.prog 82 [Ae T,i64 m] (fun l:List Int=>Ij n n l) (fun l=>.sl 0 1 0 n) (fun l=>[some (Aa l)]):=by
 have hr0:(T.getD 0 []).length=n:=by rw [Pb T 0 (by omega)];exact (hT _ (List.getElem_mem _)).1
 refine E5 xP rfl ?_;unfold Xr
 refine RN ?_
 refine Aj (α:=Nat×List (List Int)) (S:=fun o=>([(0,Ae T),(1,i64 m),(5,.sl 0 1 0 o.2.length),(6,i64 (o.1:Int))],[some (o.2.map Ac)])) (C:=fun o=>o.1≤T.length∧o.2.length≤o.1∧RgOk n o.2) (μ:=fun o=>T.length - o.1) (0,[]) ⟨Nat.zero_le _,Nat.le_refl _,fun p hp=>by cases hp⟩ (Ref.to (by rfl) (by simp [sub,Ab])) ?_
 rintro ⟨g,L⟩ ⟨hg,hl,hL⟩
 dsimp only at hg hl hL ⊢
 have tkL:(L.map Ac).take L.length=L.map Ac:=List.take_of_length_le (by simp)
 refine RN ?_
 refine ⟨fun hc=>?_,fun hc=>?_⟩
 ·have hgT:g<T.length:=by omega
  refine RN ?_
  refine ⟨fun hq=>?_,fun hq=>?_⟩
  ·(refine RN ?_;try with_reducible exact trivial)
   refine ⟨(g+1,L++[T.getD g []]),⟨by dsimp only;omega,by simp;omega,fun p hp=>?_⟩,by dsimp only;omega,?_⟩
   ·rcases List.mem_append.1 hp with h | h
    ·exact hL p h
    ·rw [List.mem_singleton.1 h,Pb T g hgT]
     exact hT _ (List.getElem_mem _)
   ·exact Ref.gc [2] rfl (by simp only [tkL,I6,go_sem,↓reduceIte,Nat.reduceEqDiff,Nat.reduceAdd,reduceCtorEq];simp) (by simp [sub,Ab,go_sem,↓reduceIte,Nat.reduceEqDiff,Nat.reduceAdd,reduceCtorEq])
  ·(refine RN ?_;try with_reducible exact trivial)
   exact ⟨(g+1,L),⟨by dsimp only;omega,by dsimp only;omega,hL⟩,by dsimp only;omega,Ref.to1⟩
 ·have ho:=Zp n L hL hn (by omega)
  refine Df (Ref.sel [] (F' := [(0,Ae T),(5,Ae L)]) (H' := []) (by rfl) ?_ ?_) ?_
  ·simp only [go_sem,↓reduceIte,Nat.reduceEqDiff,Nat.reduceAdd,reduceCtorEq]
  ·simp [sub,Ab,Ae,go_sem,↓reduceIte,Nat.reduceEqDiff,Nat.reduceAdd,reduceCtorEq,tkL]
  refine RN ?_
  refine Bx ho (by simp only [go_sem,↓reduceIte,Nat.reduceEqDiff,Nat.reduceAdd,reduceCtorEq,hr0]<;>rfl) (fun o=>by first | rfl | simp only [go_sem,↓reduceIte,Nat.reduceEqDiff,Nat.reduceAdd,reduceCtorEq]) fun l hl2=>?_
  refine RN ?_
  exact ⟨l,hl2,Ref.to1⟩
theorem qO (V:List Int)(n:Int)(hl:V.length≤1099511627776):B1 Tryz.prog 86 [Ac V,i64 n] (fun y:List Int=>y.length=V.length+1) (fun y=>.sl 0 1 0 y.length) (fun y=>[some (Aa y)]):=by
 refine E5 xR rfl ?_;unfold Xt
 refine RN ?_
 refine Aj (α:=Nat) (S:=fun i=>([(0,Ac V),(1,i64 n),(5,i64 (i:Int))],[])) (C:=fun i=>i≤V.length) (μ:=fun i=>V.length - i) 0 (Nat.zero_le _) (by exact Ref.frame (by simp [sub,Ab])) ?_
 rintro i hi
 refine RN ?_
 refine ⟨fun hc=>?_,fun hc=>?_⟩
 ·(refine RN ?_;try with_reducible exact trivial)
  exact ⟨i+1,by omega,by omega,by exact Ref.frame (by simp [sub,Ab])⟩
 ·have n1:((V.length:Int) - (i:Int)).toNat=V.length - i:=by omega
  have n2:((i:Int) - 0).toNat=i:=by omega
  have ht:List.take (V.length - i) (List.drop i (Aa V))=Aa (V.drop i):=by
   rw [List.take_of_length_le (by simp [Aa])]
   simp [Aa]
  have ht2:List.take i (Aa V)=Aa (V.take i):=by simp [Aa]
  have ht3:List.take (1+(V.length - i)) (i64 n :: Aa (V.drop i))=i64 n :: Aa (V.drop i):=List.take_of_length_le (by simp [Aa];omega)
  refine RN ?_
  simp only [n1,n2,ht,ht2,ht3,go_sem,↓reduceIte,Nat.reduceEqDiff,Nat.reduceAdd,reduceCtorEq]
  refine RN ?_
  simp only [n1,n2,ht,ht2,ht3,go_sem,↓reduceIte,Nat.reduceEqDiff,Nat.reduceAdd,reduceCtorEq]
  refine RN ?_
  have hc4:List.take i (Aa (V.take i))++i64 n :: Aa (V.drop i)=Aa (V.take i++n :: V.drop i):=by
   rw [List.take_of_length_le (by simp [Aa];omega)]
   simp [Aa]
  have hlen:(V.take i++n :: V.drop i).length=i+(1+(V.length - i)):=by
   simp
   omega
  rw [hc4,← hlen]
  exact ⟨V.take i++n :: V.drop i,by rw [hlen];omega,Ref.gc1 [4]⟩
theorem Z2:Pure Tryz.prog 80 [Ac [3]] (Fl 2 [[0,1,0,1,0,1]]) []:=by
 have hp:=Ps [0,1] 3 (by decide) (by decide)
 rw [show B5 [0,1] 3=[0,1,0,1,0,1] by decide] at hp
 refine Au cR rfl ?_;unfold Sb
 (repeat' first | simp only [go_sem,↓reduceIte,Nat.reduceEqDiff,Nat.reduceAdd,reduceCtorEq,List.getD_nil,Ay,Int.cast_ofNat_Int,Int.reduceAdd,Int.reduceSub,Int.reduceMul,Int.reduceNeg,Int.reduceLT,Int.reduceLE,Int.reduceEq,Int.reduceNe,Int.reduceBEq,Int.reduceBNe,Int.reduceToNat,Nat.reduceSub,Nat.reduceMul,Nat.reduceLT,Nat.reduceLeDiff,decide_true,decide_false,Bool.not_true,Bool.not_false,Bool.and_true,Bool.true_and,Bool.or_false,Bool.false_or,Int.reduceTDiv] | with_reducible refine GCall.on rfl ?_ | with_reducible refine Av (bl false) rfl ?_ | with_reducible refine Ar ?_ | with_reducible refine Aq ?_ | with_reducible exact As | with_reducible refine Ap ?_ ?_ | with_reducible refine Al ?_ | with_reducible refine A0 [(),(),(),(),(),(),(),()] ?_ | (with_reducible refine And.intro ?_ ?_;focus first | assumption | omega | decide) | (refine Ah (B3) ?_ ?_;(focus (simp only [go_sem,↓reduceIte,Nat.reduceEqDiff,Nat.reduceAdd,reduceCtorEq]<;>rfl))) | (refine Bn (hp) ?_ ?_ ?_;(focus (simp only [go_sem,↓reduceIte,Nat.reduceEqDiff,Nat.reduceAdd,reduceCtorEq]<;>rfl));(focus first | rfl | simp only [go_sem,↓reduceIte,Nat.reduceEqDiff,Nat.reduceAdd,reduceCtorEq])))
 exact Ref.sel [] rfl (by first | rfl | (simp only [go_sem,↓reduceIte,Nat.reduceEqDiff,Nat.reduceAdd,reduceCtorEq]<;>rfl)) (by simp [sub,Ab,go_sem,↓reduceIte,Nat.reduceEqDiff,Nat.reduceAdd,reduceCtorEq]<;>rfl)
end
section
open Go.Gov Go.Ce
open Classical
theorem Adn {G:Nat}{S:St}(hE:Ed G S):RgOk (Cx G S).length (Ek G S):=fun p hp=>by
 unfold Ek at hp
 obtain ⟨g,hg,rfl⟩:=List.mem_map.1 hp
 have hg:=List.mem_range.1 hg
 refine ⟨Uu _ _ _ _,fun x hx=>?_⟩
 have hlt:=zG ((cW hE).cl x hx g hg)
 have e:(Dw S (Cx G S) g (Cx G S).length).getD x 0=(Ba (Cx G S) (Em S ((Cx G S).getD x 0) g):Int):=by simp [Dw,hx]
 rw [e]
 omega
abbrev w3:List (List Int):=[[0,1,0,1,0,1]]
theorem Uy:∀ k,k<w3.length→C8 2 (w3.getD k [])∧(w3.getD k []).length≤64:=by
 intro k hk
 obtain rfl:k=0:=by simp at hk;omega
 refine ⟨?_,by decide⟩
 exact (by decide:∀ j,j<6→0≤([0,1,0,1,0,1]:List Int).getD j 0∧([0,1,0,1,0,1]:List Int).getD j 0<((2:Nat):Int))
theorem Adx (h:Im 2 w3):RgOk (Cx 2 (Bm 2 w3)).length (Ek 2 (Bm 2 w3))∧(Ek 2 (Bm 2 w3)).length=2∧(Cx 2 (Bm 2 w3)).length≤400:=⟨Adn (Yf (by decide) (fun k hk=>(Uy k hk).1) h.1),Qp _ _,h.2⟩
structure Ku (r:Int) (K:List Int):Prop where
 few:K.length≤3
 cod:Pure Tryz.prog 74 [Ac [3],i64 r] (i64 0) []
 knd:Pure Tryz.prog 75 [Ac [3],i64 r] (Ac K) []
 cnt:∀ i,i<K.length→∃ c:Int,(0≤c∧c≤6)∧Pure Tryz.prog 76 [Ac [3],i64 r,i64 (K.getD i 0)] (i64 c) []
 fix:∀ i,i<K.length→∃ c:Int,Pure Tryz.prog 83 [Ac [3],i64 r,i64 (K.getD i 0)] (i64 c) []
 bit:∀ i,i<K.length→∃ c:Int,Pure Tryz.prog 85 [i64 (K.getD i 0)] (i64 c) []
theorem Ad9 (r:Int)(K:List Int)(h:Ku r K)(hb:¬ Im 2 w3):Pure Tryz.prog 57 [Ac [3],i64 r] (.tup [.agg [i64 0,Af,Af],i64 3]) []:=by
 have hsm:=Zy 2 (by decide) (by decide) w3 Uy (by decide) hb
 have hk3:=h.few
 have h1:=h.cod
 have h2:=h.knd
 refine Au cO rfl ?_;unfold Sa
 refine RN ?_
 refine Am (h1) ?_
 refine RN ?_
 refine Ah (h2) (by simp only [go_sem,↓reduceIte,Nat.reduceEqDiff,Nat.reduceAdd,reduceCtorEq]<;>rfl) ?_
 refine RN ?_
 refine Aj (α:=Nat×Int) (S:=fun o=>([(0,Ac [3]),(1,i64 r),(4,.ref 0 0),(7,Ac K),(8,i64 o.2),(9,i64 (o.1:Int))],[some [i64 0,Af,Af]])) (C:=fun o=>o.1≤K.length∧0≤o.2∧o.2≤6*o.1) (μ:=fun o=>K.length - o.1) (0,0) ⟨Nat.zero_le _,Int.le_refl _,by decide⟩ (Ref.to (by rfl) (by simp [sub,Ab])) ?_
 rintro ⟨i,t⟩ ⟨hi,ht1,ht2⟩
 dsimp only at hi ht1 ht2 ⊢
 refine RN ?_
 refine ⟨fun hc=>?_,fun hc=>?_⟩
 ·obtain ⟨c,⟨c1,c2⟩,hcn⟩:=h.cnt i (by omega)
  refine RN ?_
  refine Am (hcn) ?_
  refine RN ?_
  exact ⟨(i+1,t+c),⟨by dsimp only;omega,by dsimp only;omega,by dsimp only;omega⟩,by dsimp only;omega,Ref.to1⟩
 ·(repeat' first | simp only [go_sem,↓reduceIte,Nat.reduceEqDiff,Nat.reduceAdd,reduceCtorEq,List.getD_nil,Ay,Int.cast_ofNat_Int,Int.reduceAdd,Int.reduceSub,Int.reduceMul,Int.reduceNeg,Int.reduceLT,Int.reduceLE,Int.reduceEq,Int.reduceNe,Int.reduceBEq,Int.reduceBNe,Int.reduceToNat,Nat.reduceSub,Nat.reduceMul,Nat.reduceLT,Nat.reduceLeDiff,decide_true,decide_false,Bool.not_true,Bool.not_false,Bool.and_true,Bool.true_and,Bool.or_false,Bool.false_or,Int.reduceTDiv] | with_reducible refine GCall.on rfl ?_ | with_reducible refine Av (bl false) rfl ?_ | with_reducible refine Ar ?_ | with_reducible refine Aq ?_ | with_reducible exact As | with_reducible refine Ap ?_ ?_ | with_reducible refine Al ?_ | with_reducible refine A0 [(),(),(),(),(),(),(),()] ?_ | (with_reducible refine And.intro ?_ ?_;focus first | assumption | omega | decide) | (with_reducible refine Br.mk ?_ ?_;focus (intros;omega)) | with_reducible refine fun _=>?_ | (refine Ah (Eg) ?_ ?_;(focus (simp only [go_sem,↓reduceIte,Nat.reduceEqDiff,Nat.reduceAdd,reduceCtorEq]<;>rfl))) | (refine Ah (Hw) ?_ ?_;(focus (simp only [go_sem,↓reduceIte,Nat.reduceEqDiff,Nat.reduceAdd,reduceCtorEq]<;>rfl))) | (refine Ah (Z2) ?_ ?_;(focus (simp only [go_sem,↓reduceIte,Nat.reduceEqDiff,Nat.reduceAdd,reduceCtorEq]<;>rfl))) | (refine Bn (hsm) ?_ ?_ ?_;(focus (simp only [go_sem,↓reduceIte,Nat.reduceEqDiff,Nat.reduceAdd,reduceCtorEq]<;>rfl));(focus first | rfl | simp only [go_sem,↓reduceIte,Nat.reduceEqDiff,Nat.reduceAdd,reduceCtorEq])))
  exact Ref.sel [] rfl (by first | rfl | (simp only [go_sem,↓reduceIte,Nat.reduceEqDiff,Nat.reduceAdd,reduceCtorEq]<;>rfl)) (by simp [sub,Ab,go_sem,↓reduceIte,Nat.reduceEqDiff,Nat.reduceAdd,reduceCtorEq]<;>rfl)
theorem Qy (ks:List Nat)(H:Heap)(L:List (List Int)):(L.map Ac).map (Dp ks H)=L.map Ac:=by
 have h:=I6 (A7 ks 0) L
 rw [Bq] at h
 refine Eq.trans ?_ h
 rw [List.map_map,List.map_map]
 rfl
structure Rj where
 OR:List Int
 OB:List (List Int)
 C:List (List Int)
 Fs:List Int
structure iU (n i:Nat) (o:Rj):Prop where
 lc:o.C.length=i
 lf:o.Fs.length=i
 lb:o.OB.length=o.OR.length
 rg:∀ j,j<i→Ij n n (o.C.getD j [])∧0≤o.Fs.getD j 0∧o.Fs.getD j 0+Ds (o.C.getD j []) n≤o.OR.length
 rw:∀ xs∈o.OB,xs=[]
abbrev Cd (r:Int)(K:List Int)(T:List (List Int)):List (Nat×AV):=[(0,Ac [3]),(1,i64 r),(4,.ref 0 0),(7,Ac K),(10,Ae T),(12,.ref 1 0)]
abbrev Ic (o:Rj):List (Option (List AV)):=[some [i64 0,Af,Af],some [i64 2,.sl 2 1 0 o.OR.length,.sl 3 1 0 o.OR.length],some (Aa o.OR),some (o.OB.map Ac),some (o.C.map Ac),some (Aa o.Fs)]
theorem Aea (r:Int)(K:List Int)(h:Ku r K)(hb:Im 2 w3):B1 Tryz.prog 57 [Ac [3],i64 r] (fun o:List Int×List (List Int)=>E9 o.1 o.2) (fun o=>.tup [A6 2 o.1 o.2,i64 0]) (fun _=>[]):=by
 have hsm:=Zz 2 (by decide) (by decide) w3 Uy (by decide) hb
 obtain ⟨hT,hT2,hn⟩:=Adx hb
 have hk3:=h.few
 have h1:=h.cod
 have h2:=h.knd
 generalize Ek 2 (Bm 2 w3)=T at *
 generalize (Cx 2 (Bm 2 w3)).length=n at *
 have hr0:(T.getD 0 []).length=n:=by rw [Pb T 0 (by omega)];exact (hT _ (List.getElem_mem _)).1
 have tkT:(T.map Ad).take 2=T.map Ad:=List.take_of_length_le (by simp [hT2])
 refine E5 cO rfl ?_;unfold Sa
 refine RN ?_
 refine Am (h1) ?_
 refine RN ?_
 refine Ah (h2) (by simp only [go_sem,↓reduceIte,Nat.reduceEqDiff,Nat.reduceAdd,reduceCtorEq]<;>rfl) ?_
 refine RN ?_
 refine Aj (α:=Nat×Int) (S:=fun o=>([(0,Ac [3]),(1,i64 r),(4,.ref 0 0),(7,Ac K),(8,i64 o.2),(9,i64 (o.1:Int))],[some [i64 0,Af,Af]])) (C:=fun o=>o.1≤K.length∧0≤o.2∧o.2≤6*o.1) (μ:=fun o=>K.length - o.1) (0,0) ⟨Nat.zero_le _,Int.le_refl _,by decide⟩ (Ref.to (by rfl) (by simp [sub,Ab])) ?_
 rintro ⟨i,t⟩ ⟨hi,ht1,ht2⟩
 dsimp only at hi ht1 ht2 ⊢
 refine RN ?_
 refine ⟨fun hc=>?_,fun hc=>?_⟩
 ·obtain ⟨c,⟨c1,c2⟩,hcn⟩:=h.cnt i (by omega)
  refine RN ?_
  refine Am (hcn) ?_
  refine RN ?_
  exact ⟨(i+1,t+c),⟨by dsimp only;omega,by dsimp only;omega,by dsimp only;omega⟩,by dsimp only;omega,Ref.to1⟩
 (repeat' first | simp only [go_sem,↓reduceIte,Nat.reduceEqDiff,Nat.reduceAdd,reduceCtorEq,List.getD_nil,Ay,Int.cast_ofNat_Int,Int.reduceAdd,Int.reduceSub,Int.reduceMul,Int.reduceNeg,Int.reduceLT,Int.reduceLE,Int.reduceEq,Int.reduceNe,Int.reduceBEq,Int.reduceBNe,Int.reduceToNat,Nat.reduceSub,Nat.reduceMul,Nat.reduceLT,Nat.reduceLeDiff,decide_true,decide_false,Bool.not_true,Bool.not_false,Bool.and_true,Bool.true_and,Bool.or_false,Bool.false_or,Int.reduceTDiv] | with_reducible refine GCall.on rfl ?_ | with_reducible refine Av (bl false) rfl ?_ | with_reducible refine Ar ?_ | with_reducible refine Aq ?_ | with_reducible exact As | with_reducible refine Ap ?_ ?_ | with_reducible refine Al ?_ | (with_reducible refine And.intro ?_ ?_;focus first | assumption | omega | decide) | (with_reducible refine Br.mk ?_ ?_;focus (intros;omega)) | with_reducible refine fun _=>?_ | (refine Ah (Eg) ?_ ?_;(focus (simp only [go_sem,↓reduceIte,Nat.reduceEqDiff,Nat.reduceAdd,reduceCtorEq]<;>rfl))) | (refine Ah (Hw) ?_ ?_;(focus (simp only [go_sem,↓reduceIte,Nat.reduceEqDiff,Nat.reduceAdd,reduceCtorEq]<;>rfl))) | (refine Ah (Z2) ?_ ?_;(focus (simp only [go_sem,↓reduceIte,Nat.reduceEqDiff,Nat.reduceAdd,reduceCtorEq]<;>rfl))) | (refine Bn (hsm) ?_ ?_ ?_;(focus (simp only [go_sem,↓reduceIte,Nat.reduceEqDiff,Nat.reduceAdd,reduceCtorEq]<;>rfl));(focus first | rfl | simp only [go_sem,↓reduceIte,Nat.reduceEqDiff,Nat.reduceAdd,reduceCtorEq])) | (refine Bn (B3) ?_ ?_ ?_;(focus (simp only [go_sem,↓reduceIte,Nat.reduceEqDiff,Nat.reduceAdd,reduceCtorEq]<;>rfl));(focus first | rfl | simp only [go_sem,↓reduceIte,Nat.reduceEqDiff,Nat.reduceAdd,reduceCtorEq])))
 clear hsm h1 h2
 refine Aj (α:=Nat×Rj) (S:=fun o=>(Cd r K T++[(13,.sl 4 1 0 o.1),(14,.sl 5 1 0 o.1),(15,i64 (o.1:Int))],Ic o.2)) (C:=fun o=>o.1≤K.length∧iU n o.1 o.2∧o.2.OR.length≤n*o.1) (μ:=fun o=>K.length - o.1) (0,⟨[],[],[],[]⟩) ⟨Nat.zero_le _,⟨rfl,rfl,rfl,fun j hj=>absurd hj (Nat.not_lt_zero _),fun xs hx=>by cases hx⟩,Nat.zero_le _⟩ ?_ ?_
 ·refine (Ref.nilC 2 1 1 (cs:=[i64 2,Af,Af]) rfl rfl).trans ((Ref.nilC 2 2 1 (cs:=[i64 2,.sl 5 1 0 0,Af]) rfl rfl).trans (Ref.sel [0,2,5,6,3,4] rfl (by simp only [go_sem,↓reduceIte,Nat.reduceEqDiff,Nat.reduceAdd,reduceCtorEq]<;>rfl) (by simp only [Cd,sub,List.all_cons,List.all_nil,List.all_append,List.cons_append,List.nil_append,go_sem,↓reduceIte,Nat.reduceEqDiff,Nat.reduceAdd,reduceCtorEq];rw [tkT,E0];simp [Ae,hT2])))
 clear hi ht1 ht2
 rintro ⟨i,o⟩ ⟨hi,hw,hnl⟩
 dsimp only at hi hw hnl ⊢
 have hlc:=hw.lc
 have hlf:=hw.lf
 have hlb:=hw.lb
 have hn1:n*i≤1200:=Nat.le_trans (Nat.mul_le_mul hn (show i≤3 by omega)) (by decide)
 simp only [Cd,Ic,List.cons_append,List.nil_append]
 refine RN ?_
 refine ⟨fun hc=>?_,fun hc=>?_⟩
 ·have hiK:i<K.length:=by omega
  obtain ⟨fx,hfx⟩:=h.fix i hiK
  obtain ⟨bt,hbt⟩:=h.bit i hiK
  refine RN ?_
  refine Am (hfx) ?_
  refine RN ?_
  refine Bx (qG n T _ hT (by omega) (by omega) (by omega)) (by simp only [go_sem,↓reduceIte,Nat.reduceEqDiff,Nat.reduceAdd,reduceCtorEq]<;>rfl) (fun o=>by first | rfl | simp only [go_sem,↓reduceIte,Nat.reduceEqDiff,Nat.reduceAdd,reduceCtorEq]) fun l hl=>?_
  (repeat first | simp only [hT2,go_sem,↓reduceIte,Nat.reduceEqDiff,Nat.reduceAdd,reduceCtorEq] | (with_reducible refine And.intro ?_ ?_;focus first | assumption | omega | decide | grind))
  have hg:=Zt n n l hl (by omega) (by omega)
  have hl1:=hl.1
  have tkF:(Aa o.Fs).take i=Aa o.Fs:=List.take_of_length_le (by simp [Aa,hlf])
  have tkC:(o.C.map Ac).take i=o.C.map Ac:=List.take_of_length_le (by simp [hlc])
  refine Df (Ref.sel [0,1,2,3,4,5] (F' := Cd r K T++[(13,.sl 4 1 0 i),(14,.sl 5 1 0 i),(15,i64 (i:Int)),(16,Ac l)]) (H' := Ic o) rfl ?_ ?_) ?_
  ·simp only [Ic,Qy,go_sem,↓reduceIte,Nat.reduceEqDiff,Nat.reduceAdd,reduceCtorEq]
  ·simp only [Cd,sub,List.all_cons,List.all_nil,List.all_append,List.cons_append,List.nil_append,go_sem,↓reduceIte,Nat.reduceEqDiff,Nat.reduceAdd,reduceCtorEq]
   rw [List.take_of_length_le (by simp [Aa,hl1]),F7]
   simp [Ac,hl1]
  simp only [Cd,Ic,List.cons_append,List.nil_append]
  refine RN ?_
  have hg0:=Pg l n
  have hgn:=Mz hl n (Nat.le_refl n)
  refine Aj (α:=Nat×List Int×List (List Int)) (S:=fun q=>(Cd r K T++[(13,.sl 4 1 0 (i+1)),(14,.sl 5 1 0 (i+1)),(15,i64 (i:Int)),(16,Ac l),(17,i64 (q.1:Int))],Ic ⟨q.2.1,q.2.2,o.C++[l],o.Fs++[(o.OR.length:Int)]⟩)) (C:=fun q=>(q.1:Int)≤Ds l n∧q.2.1.length=o.OR.length+q.1∧q.2.2.length=q.2.1.length∧∀ xs∈q.2.2,xs=[]) (μ:=fun q=>(Ds l n).toNat - q.1) (0,o.OR,o.OB) ⟨hg0,rfl,hlb,hw.rw⟩ ?_ ?_
  ·refine Ref.gc [0,1,2,3,7,9] rfl ?_ ?_
   ·simp only [Ic,tkF,tkC,I6,dV,go_sem,↓reduceIte,Nat.reduceEqDiff,Nat.reduceAdd,reduceCtorEq]
    simp [Aa]
    done
   ·simp [Cd,sub,Ab,go_sem,↓reduceIte,Nat.reduceEqDiff,Nat.reduceAdd,reduceCtorEq]
  rintro ⟨k,OR,OB⟩ ⟨hk,ho1,ho2,ho3⟩
  dsimp only at hk ho1 ho2 ho3 ⊢
  simp only [Cd,Ic,List.cons_append,List.nil_append]
  have tk1:(Aa OR).take OR.length=Aa OR:=List.take_of_length_le (by simp [Aa])
  have tk2:(OB.map Ac).take OR.length=OB.map Ac:=List.take_of_length_le (by simp [ho2])
  refine RN ?_
  refine Am (hg) ?_
  refine RN ?_
  refine ⟨fun hc2=>?_,fun hc2=>?_⟩
  ·(refine RN ?_;try with_reducible exact trivial)
   refine Am (hbt) ?_
   refine RN ?_
   refine ⟨(k+1,OR++[bt],OB++[[]]),⟨by dsimp only;omega,by simp;omega,by simp [ho2],fun xs hx=>?_⟩,by dsimp only;omega,?_⟩
   ·rcases List.mem_append.1 hx with h | h
    ·exact ho3 xs h
    ·exact List.mem_singleton.1 h
   ·refine Ref.sel [0,1,7,10,4,5] rfl ?_ (by simp [Cd,sub,Ab,go_sem,↓reduceIte,Nat.reduceEqDiff,Nat.reduceAdd,reduceCtorEq])
    simp only [Ic,tk2,List.map_append,List.map_cons,List.map_nil,Qy,go_sem,↓reduceIte,Nat.reduceEqDiff,Nat.reduceAdd,reduceCtorEq]
    simp [Aa,Ac]
    done
  ·(refine RN ?_;try with_reducible exact trivial)
   refine ⟨(i+1,⟨OR,OB,o.C++[l],o.Fs++[(o.OR.length:Int)]⟩),⟨by dsimp only;omega,⟨by simp [hlc],by simp [hlf],ho2,fun j hj=>?_,ho3⟩,?_⟩,by dsimp only;omega,Ref.to rfl (by simp [Cd,sub,Ab])⟩
   ·by_cases hj2:j<i
    ·have hgj:=hw.rg j hj2
     rw [show (o.C++[l]).getD j []=o.C.getD j [] by simp [List.getElem?_append_left (show j<o.C.length by omega)],show (o.Fs++[(o.OR.length:Int)]).getD j 0=o.Fs.getD j 0 by simp [List.getElem?_append_left (show j<o.Fs.length by omega)]]
     exact ⟨hgj.1,hgj.2.1,by have:=hgj.2.2;dsimp only;omega⟩
    ·obtain rfl:j=i:=by omega
     rw [show (o.C++[l]).getD j []=l by simp [List.getElem?_append_right (show o.C.length≤j by omega),hlc],show (o.Fs++[(o.OR.length:Int)]).getD j 0=o.OR.length by simp [List.getElem?_append_right (show o.Fs.length≤j by omega),hlf]]
     exact ⟨hl,by omega,by dsimp only;omega⟩
   ·dsimp only
    rw [Nat.mul_succ]
    omega
 ·obtain rfl:i=K.length:=by omega
  have tkF:(Aa o.Fs).take K.length=Aa o.Fs:=List.take_of_length_le (by simp [Aa,hlf])
  have tkC:(o.C.map Ac).take K.length=o.C.map Ac:=List.take_of_length_le (by simp [hlc])
  refine Df (Ref.sel [0,1,2,3] (F' := Cd r K T++[(13,Ae o.C),(14,Ac o.Fs)]) (H' := [some [i64 0,Af,Af],some [i64 2,.sl 2 1 0 o.OR.length,.sl 3 1 0 o.OR.length],some (Aa o.OR),some (o.OB.map Ac)]) rfl ?_ ?_) ?_
  ·simp only [Qy,go_sem,↓reduceIte,Nat.reduceEqDiff,Nat.reduceAdd,reduceCtorEq]
  ·simp only [Cd,sub,List.all_cons,List.all_nil,List.all_append,List.cons_append,List.nil_append,tkF,tkC,go_sem,↓reduceIte,Nat.reduceEqDiff,Nat.reduceAdd,reduceCtorEq]
   simp [Ac,Ae,hlc,hlf]
  simp only [Cd,List.cons_append,List.nil_append]
  refine RN ?_
  refine Aj (α:=Nat×List (List Int)) (S:=fun q=>(Cd r K T++[(13,Ae o.C),(14,Ac o.Fs),(18,i64 (q.1:Int))],[some [i64 0,Af,Af],some [i64 2,.sl 2 1 0 o.OR.length,.sl 3 1 0 o.OR.length],some (Aa o.OR),some (q.2.map Ac)])) (C:=fun q=>q.1≤K.length∧q.2.length=o.OR.length∧∀ xs∈q.2,xs.length≤n*(3*q.1)) (μ:=fun q=>K.length - q.1) (0,o.OB) ⟨Nat.zero_le _,hlb,fun xs hx=>by rw [hw.rw xs hx];exact Nat.zero_le _⟩ (Ref.to (by rfl) (by simp [Cd,sub,Ab])) ?_
  rintro ⟨i,B⟩ ⟨hi2,hB,hBr⟩
  dsimp only at hi2 hB hBr ⊢
  simp only [Cd,List.cons_append,List.nil_append]
  refine RN ?_
  refine ⟨fun hc2=>?_,fun hc2=>?_⟩
  ·have hiK:i<K.length:=by omega
   obtain ⟨y1,y2,y3⟩:=hw.rg i hiK
   refine RN ?_
   refine Aj (α:=Nat×List (List Int)) (S:=fun q=>(Cd r K T++[(13,Ae o.C),(14,Ac o.Fs),(18,i64 (i:Int)),(19,i64 (q.1:Int))],[some [i64 0,Af,Af],some [i64 2,.sl 2 1 0 o.OR.length,.sl 3 1 0 o.OR.length],some (Aa o.OR),some (q.2.map Ac)])) (C:=fun q=>q.1≤i∧q.2.length=o.OR.length∧∀ xs∈q.2,xs.length≤n*(3*i)+n*q.1) (μ:=fun q=>i - q.1) (0,B) ⟨Nat.zero_le _,hB,hBr⟩ (Ref.to (by rfl) (by simp [Cd,sub,Ab])) ?_
   clear hB hBr B
   rintro ⟨k,B⟩ ⟨hk,hB,hBr⟩
   dsimp only at hk hB hBr ⊢
   simp only [Cd,List.cons_append,List.nil_append]
   refine RN ?_
   refine ⟨fun hc3=>?_,fun hc3=>?_⟩
   ·have hki:k<i:=by omega
    obtain ⟨z1,z2,z3⟩:=hw.rg k (by omega)
    refine RN ?_
    refine ⟨fun hc4=>?_,fun hc4=>?_⟩
    ·(refine RN ?_;try with_reducible exact trivial)
     exact ⟨(k+1,B),⟨by dsimp only;omega,hB,fun xs hx=>Nat.le_trans (hBr xs hx) (by dsimp only;rw [Nat.mul_succ];omega)⟩,by dsimp only;omega,Ref.to rfl (by simp [Cd,sub,Ab])⟩
    ·(refine RN ?_;try with_reducible exact trivial)
     refine Aj (α:=Nat×List (List Int)) (S:=fun q=>(Cd r K T++[(13,Ae o.C),(14,Ac o.Fs),(18,i64 (i:Int)),(19,i64 (k:Int)),(20,i64 (q.1:Int))],[some [i64 0,Af,Af],some [i64 2,.sl 2 1 0 o.OR.length,.sl 3 1 0 o.OR.length],some (Aa o.OR),some (q.2.map Ac)])) (C:=fun q=>q.1≤n∧q.2.length=o.OR.length∧∀ xs∈q.2,xs.length≤n*(3*i)+n*k+q.1) (μ:=fun q=>n - q.1) (0,B) ⟨Nat.zero_le _,hB,hBr⟩ (Ref.to (by rfl) (by simp [Cd,sub,Ab])) ?_
     clear hB hBr B
     rintro ⟨e,B⟩ ⟨he,hB,hBr⟩
     dsimp only at he hB hBr ⊢
     simp only [Cd,List.cons_append,List.nil_append]
     have hb1:n*(3*i)≤400*9:=Nat.mul_le_mul hn (by omega)
     have hb2:n*k≤400*3:=Nat.mul_le_mul hn (by omega)
     refine RN ?_
     rw [hr0]
     refine ⟨fun hc5=>?_,fun hc5=>?_⟩
     ·have hen:e<n:=by omega
      have hg1:=My (o.C.getD i []) n e hen
      have hq1:=(y1.2 e hen).1
      have hg2:=My (o.C.getD k []) n e hen
      have hq2:=(z1.2 e hen).1
      obtain ⟨a,ha⟩:∃ a:Nat,o.Fs.getD i 0+(o.C.getD i []).getD e 0=(a:Int):=⟨_,(Int.toNat_of_nonneg (by omega)).symm⟩
      have haN:a<o.OR.length:=by omega
      have hyl:=y1.1
      have hzl:=z1.1
      have hrl:(B.getD a []).length≤n*(3*i)+n*k+e:=hBr _ (by rw [Pb B a (by omega)];exact List.getElem_mem _)
      (repeat first | simp only [ha,go_sem,↓reduceIte,Nat.reduceEqDiff,Nat.reduceAdd,reduceCtorEq] | refine RX ?_ | decide)
      refine Am (Te (B.getD a []) (o.Fs.getD k 0+(o.C.getD k []).getD e 0) (by omega)) ?_
      refine RN ?_
      refine ⟨fun hc6=>?_,fun hc6=>?_⟩
      ·(refine RN ?_;try with_reducible exact trivial)
       refine Bx (qO (B.getD a []) (o.Fs.getD k 0+(o.C.getD k []).getD e 0) (by omega)) (by simp only [go_sem,↓reduceIte,Nat.reduceEqDiff,Nat.reduceAdd,reduceCtorEq]<;>rfl) (fun o=>by first | rfl | simp only [go_sem,↓reduceIte,Nat.reduceEqDiff,Nat.reduceAdd,reduceCtorEq]) fun y hy=>?_
       refine RN ?_
       have tky:(Aa y).take y.length=Aa y:=List.take_of_length_le (by simp [Aa])
       refine ⟨(e+1,B.set a y),⟨by dsimp only;omega,by simp [hB],fun xs hx=>?_⟩,by dsimp only;omega,Ref.sel [0,1,2,3] rfl ?_ (by simp [Cd,sub,Ab,go_sem,↓reduceIte,Nat.reduceEqDiff,Nat.reduceAdd,reduceCtorEq])⟩
       ·rcases List.mem_or_eq_of_mem_set hx with h | h
        ·exact Nat.le_trans (hBr xs h) (by dsimp only;omega)
        ·rw [h];dsimp only;omega
       ·simp only [List.map_set,Qy,tky,go_sem,↓reduceIte,Nat.reduceEqDiff,Nat.reduceAdd,reduceCtorEq]
      ·(refine RN ?_;try with_reducible exact trivial)
       exact ⟨(e+1,B),⟨by dsimp only;omega,hB,fun xs hx=>Nat.le_trans (hBr xs hx) (by dsimp only;omega)⟩,by dsimp only;omega,Ref.to rfl (by simp [Cd,sub,Ab])⟩
     ·(refine RN ?_;try with_reducible exact trivial)
      exact ⟨(k+1,B),⟨by dsimp only;omega,hB,fun xs hx=>Nat.le_trans (hBr xs hx) (by dsimp only;rw [Nat.mul_succ];omega)⟩,by dsimp only;omega,Ref.to rfl (by simp [Cd,sub,Ab])⟩
   ·(refine RN ?_;try with_reducible exact trivial)
    exact ⟨(i+1,B),⟨by dsimp only;omega,hB,fun xs hx=>Nat.le_trans (hBr xs hx) (by dsimp only;rw [← Nat.mul_add];exact Nat.mul_le_mul_left n (by omega))⟩,by dsimp only;omega,Ref.to rfl (by simp [Cd,sub,Ab])⟩
  ·(refine RN ?_;try with_reducible exact trivial)
   have hb1:n*(3*i)≤400*9:=Nat.mul_le_mul hn (by omega)
   have tk1:(Aa o.OR).take o.OR.length=Aa o.OR:=List.take_of_length_le (by simp [Aa])
   have tk2:(B.map Ac).take o.OR.length=B.map Ac:=List.take_of_length_le (by simp [hB])
   refine ⟨(o.OR,B),⟨by dsimp only;omega,by dsimp only;omega,fun xs hx=>Nat.le_trans (hBr xs hx) (by omega)⟩,Ref.sel [] rfl (by simp only [go_sem,↓reduceIte,Nat.reduceEqDiff,Nat.reduceAdd,reduceCtorEq]) ?_⟩
   simp only [sub,List.all_cons,List.all_nil,tk1,tk2,go_sem,↓reduceIte,Nat.reduceEqDiff,Nat.reduceAdd,reduceCtorEq]
   simp [A6,Ac,Ae,hB]
theorem Ad5:Ku 1 [0,1] where
 few:=by decide
 cod:=qD
 knd:=qP
 cnt:=fun i hi=>by
  have hi:i<2:=hi
  rcases (by omega:i=0∨i=1) with rfl | rfl
  ·exact ⟨3,by decide,qH⟩
  ·exact ⟨3,by decide,qI⟩
 fix:=fun i hi=>by
  have hi:i<2:=hi
  rcases (by omega:i=0∨i=1) with rfl | rfl
  ·exact ⟨2,Z3⟩
  ·exact ⟨0,Z4⟩
 bit:=fun i hi=>by
  have hi:i<2:=hi
  rcases (by omega:i=0∨i=1) with rfl | rfl
  ·exact ⟨0,K9⟩
  ·exact ⟨1,M7⟩
theorem Ad6:Ku 2 [0,2] where
 few:=by decide
 cod:=qE
 knd:=qQ
 cnt:=fun i hi=>by
  have hi:i<2:=hi
  rcases (by omega:i=0∨i=1) with rfl | rfl
  ·exact ⟨3,by decide,qJ⟩
  ·exact ⟨3,by decide,qK⟩
 fix:=fun i hi=>by
  have hi:i<2:=hi
  rcases (by omega:i=0∨i=1) with rfl | rfl
  ·exact ⟨1,Z5⟩
  ·exact ⟨0,Z6⟩
 bit:=fun i hi=>by
  have hi:i<2:=hi
  rcases (by omega:i=0∨i=1) with rfl | rfl
  ·exact ⟨0,K9⟩
  ·exact ⟨1,M8⟩
theorem Ad7:Ku 3 [0,1,2] where
 few:=by decide
 cod:=qF
 knd:=qR
 cnt:=fun i hi=>by
  have hi:i<3:=hi
  rcases (by omega:i=0∨i=1∨i=2) with rfl | rfl | rfl
  ·exact ⟨6,by decide,qL⟩
  ·exact ⟨3,by decide,qM⟩
  ·exact ⟨3,by decide,qN⟩
 fix:=fun i hi=>by
  have hi:i<3:=hi
  rcases (by omega:i=0∨i=1∨i=2) with rfl | rfl | rfl
  ·exact ⟨0,Z7⟩
  ·exact ⟨0,Z8⟩
  ·exact ⟨0,Z9⟩
 bit:=fun i hi=>by
  have hi:i<3:=hi
  rcases (by omega:i=0∨i=1∨i=2) with rfl | rfl | rfl
  ·exact ⟨0,K9⟩
  ·exact ⟨1,M7⟩
  ·exact ⟨1,M8⟩
end
end Go.Proofs.YtcneanpkpmfaiaaGreat
