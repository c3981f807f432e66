/- Texts that belong together. -/
import Derived.Test.YtfofabbkigonpaaDoorSj
import Derived.Test.YtfofabbkigonpaaDoorQa
set_option maxHeartbeats 16000000
set_option linter.unusedSimpArgs false
set_option linter.unusedVariables false
set_option maxRecDepth 100000
namespace Go.Proofs.YtfofabbkigonpaaDoor
section
open Go.Gov
open Classical
theorem Xh (x:List Int)(hx:x.length≤1048576):Cr Tryd.prog 78 [Ad x] (fun y:List Int=>y.length=x.length) (fun y=>.sl 0 1 0 y.length) (fun y=>[some (Aa y)]):=by
 have ho:=kJ x (by omega)
 refine Fy qD rfl ?_;unfold U3
 refine RN ?_
 refine An (ho) ?_
 refine RN ?_
 refine Ak (α:=Nat×List Int) (S:=fun o=>([(3,.sl 0 1 0 x.length),(4,i64 (o.1:Int))],[some (Aa o.2)])) (C:=fun o=>1≤o.1∧o.1≤x.length+1∧o.2.length=x.length) (μ:=fun o=>x.length+1 - o.1) (1,x) ⟨Nat.le_refl 1,Nat.le_add_left 1 _,rfl⟩ (Ref.to (by rfl) (by simp [sub,Ac])) ?_
 rintro ⟨i,L⟩ ⟨h1,h2,h3⟩
 dsimp only at h1 h2 h3 ⊢
 refine RN ?_
 refine ⟨fun hc=>?_,fun hc=>?_⟩
 ·(refine RN ?_;try with_reducible exact trivial)
  refine Ak (α:=Nat×List Int) (S:=fun o=>([(3,.sl 0 1 0 x.length),(4,i64 (i:Int)),(5,i64 (o.1:Int))],[some (Aa o.2)])) (C:=fun o=>o.1≤i∧o.2.length=x.length) (μ:=fun o=>o.1) (i,L) ⟨Nat.le_refl i,h3⟩ (Ref.to (by rfl) (by simp [sub,Ac])) ?_
  rintro ⟨k,K⟩ ⟨h4,h5⟩
  dsimp only at h4 h5 ⊢
  refine RN ?_
  refine ⟨fun hq=>?_,fun hq=>?_⟩
  ·(refine RN ?_;try with_reducible exact trivial)
   exact ⟨(k - 1,(K.set k (K.getD (k - 1) 0)).set (k - 1) (K.getD k 0)),⟨by dsimp only;omega,by simp [h5]⟩,by dsimp only;omega,Ref.to (by simp [Aa,List.map_set]) (by simp [sub,Ac];omega)⟩
  ·(refine RN ?_;try with_reducible exact trivial)
   exact ⟨(i+1,K),⟨by dsimp only;omega,by dsimp only;omega,h5⟩,by dsimp only;omega,Ref.to1⟩
 ·(refine RN ?_;try with_reducible exact trivial)
  exact ⟨L,h3,Ref.to rfl (by simp [sub,Ac,h3])⟩
theorem Qt {l:List Int}{t:Nat}(h:t<l.length):l.getD t 0∈l:=by
 rw [List.getD_eq_getElem?_getD,List.getElem?_eq_getElem h]
 exact List.getElem_mem h
def Jo (R:List Int)(B:List (List Int)):Prop:=R.length≤40000∧B.length≤40000∧∀ xs∈B,xs.length≤40000
def Hf (R:List Int)(k e:Nat)(F:List Int):Prop:=(∀ d,d<R.length→(R.getD d 0<k∨(R.getD d 0=k∧d<e))→d<F.length)∧F.length≤k*2400+e
theorem Hf.nil (r:Int){R:List Int}{B:List (List Int)}(h:K2 r.toNat R B):Hf R 0 0 []:=⟨fun d hd h2=>by have:=(h.rk d hd).1;omega,Nat.zero_le _⟩
theorem Hf.skip {R F:List Int}{k e:Nat}(h:Hf R k e F)(hn:R.getD e 0≠k):Hf R k (e+1) F:=⟨fun d hd h2=>h.1 d hd (h2.imp id fun h3=>⟨h3.1,by
 by_cases q:d=e
 ·subst q;exact absurd h3.1 hn
 ·omega⟩),by have:=h.2;omega⟩
theorem Hf.push {r:Int}{R F:List Int}{B:List (List Int)}{k e:Nat}(hp:K2 r.toNat R B)(h:Hf R k e F)(he:e<R.length)(hk:R.getD e 0=k)(v:Int):Hf R k (e+1) (F++[v]):=by
 have hl:(F++[v]).length=F.length+1:=by simp
 refine ⟨fun d hd h2=>?_,by rw [hl];have:=h.2;omega⟩
 rw [hl]
 by_cases q:d=e
 ·subst q
  cases d with
  | zero=>omega
  | succ d=>
   have h3:=hp.mono d (d+1) (by omega) hd
   have:=h.1 d (by omega) (by omega)
   omega
 ·have:=h.1 d hd (h2.imp id fun h3=>⟨h3.1,by omega⟩)
  omega
theorem Hf.next {R F:List Int}{k:Nat}(hl:R.length≤2400)(h:Hf R k R.length F):Hf R (k+1) 0 F:=⟨fun d hd h2=>h.1 d hd (by omega),by have:=h.2;omega⟩
structure Mm where
 F1:List Int
 F2:List Int
 OR:List Int
 OB:List (List Int)
structure Ps (R R2:List Int) (k e e2:Nat) (o:Mm):Prop where
 f1:Hf R k e o.F1
 f2:Hf R2 k e2 o.F2
 lo:o.OR.length=o.F1.length+o.F2.length
 lb:o.OB.length=o.OR.length
 rw:∀ xs∈o.OB,xs.length≤20000
theorem kR (r r2:Int)(R R2:List Int)(B B2:List (List Int))(hr:0≤r∧r≤6)(h1:K2 r.toNat R B)(h2:K2 r.toNat R2 B2):Cr Tryd.prog 42 [A6 r R B,A6 r2 R2 B2] (fun o:List Int×List (List Int)=>Jo o.1 o.2) (fun o=>A6 r o.1 o.2) (fun _=>[]):=by
 refine Fy pG rfl ?_;unfold Uj
 refine RN ?_
 refine Ak (α:=Nat×Mm) (S:=fun (k,o)=>([(2,.ref 0 0),(3,.ref 1 0),(4,.ref 2 0),(5,.ref 3 0),(6,.sl 4 1 0 o.F1.length),(7,.sl 5 1 0 o.F2.length),(8,i64 (k:Int))],[some [i64 r,Ad R,Ae B],some [i64 r2,Ad R2,Ae B2],some [i64 0,Ag,Ag],some [i64 r,.sl 6 1 0 o.OR.length,.sl 7 1 0 o.OR.length],some (Aa o.F1),some (Aa o.F2),some (Aa o.OR),some (o.OB.map Af)])) (C:=fun (k,o)=>(k:Int)≤r∧Ps R R2 k 0 0 o) (μ:=fun (k,o)=>6 - k) (0,⟨[],[],[],[]⟩) ⟨by omega,Hf.nil r h1,Hf.nil r h2,rfl,rfl,by simp⟩ ?_ ?_
 ·refine (Ref.nilC 3 1 1 (cs:=[i64 r,Ag,Ag]) rfl rfl).trans ((Ref.nilC 3 2 1 (cs:=[i64 r,.sl 6 1 0 0,Ag]) rfl rfl).trans (Ref.to (by rfl) (by simp [sub,Ac])))
 rintro ⟨k,o⟩ ⟨hk,hb⟩
 dsimp only at hk hb ⊢
 refine RN ?_
 refine ⟨fun hc=>?_,fun hc=>?_⟩
 ·have hR:=h1.few
  have hR2:=h2.few
  have hk6:k<6:=by omega
  have hB:=h1.len
  have hB2:=h2.len
  refine RN ?_
  refine Ak (α:=Nat×Mm) (S:=fun (e,o)=>([(2,.ref 0 0),(3,.ref 1 0),(4,.ref 2 0),(5,.ref 3 0),(6,.sl 4 1 0 o.F1.length),(7,.sl 5 1 0 o.F2.length),(8,i64 (k:Int)),(9,i64 (e:Int))],[some [i64 r,Ad R,Ae B],some [i64 r2,Ad R2,Ae B2],some [i64 0,Ag,Ag],some [i64 r,.sl 6 1 0 o.OR.length,.sl 7 1 0 o.OR.length],some (Aa o.F1),some (Aa o.F2),some (Aa o.OR),some (o.OB.map Af)])) (C:=fun (e,o)=>e≤R.length∧Ps R R2 k e 0 o) (μ:=fun (e,o)=>R.length - e) (0,o) ⟨Nat.zero_le _,hb⟩ (Ref.to (by rfl) (by simp [sub,Ac])) ?_
  clear o hb
  rintro ⟨e,o⟩ ⟨he,hb⟩
  dsimp only at he hb ⊢
  have hf1:=hb.f1.2
  have hf2:=hb.f2.2
  have hlo:=hb.lo
  have hlb:=hb.lb
  refine RN ?_
  refine ⟨fun hc2=>?_,fun hc2=>?_⟩
  ·have heR:e<R.length:=by omega
   refine RN ?_
   refine ⟨fun hq=>?_,fun hq=>?_⟩
   ·have hrw:=h1.row e heR
    have hlow:=h1.low e heR
    refine RN ?_
    refine Ak (α:=Nat×List Int) (S:=fun q=>([(2,.ref 0 0),(3,.ref 1 0),(4,.ref 2 0),(5,.ref 3 0),(6,.sl 4 1 0 o.F1.length),(7,.sl 5 1 0 o.F2.length),(8,i64 (k:Int)),(9,i64 (e:Int)),(10,.sl 8 1 0 q.1),(11,i64 (q.1:Int))],[some [i64 r,Ad R,Ae B],some [i64 r2,Ad R2,Ae B2],some [i64 0,Ag,Ag],some [i64 r,.sl 6 1 0 o.OR.length,.sl 7 1 0 o.OR.length],some (Aa o.F1),some (Aa o.F2),some (Aa o.OR),some (o.OB.map Af),some (Aa q.2)])) (C:=fun q=>q.1≤(B.getD e []).length∧q.2.length=q.1) (μ:=fun q=>(B.getD e []).length - q.1) (0,[]) ⟨Nat.zero_le _,rfl⟩ (Ref.to (by rfl) (by simp [sub,Ac])) ?_
    rintro ⟨t,x⟩ ⟨ht,hx⟩
    dsimp only at ht hx ⊢
    refine RN ?_
    refine ⟨fun hc3=>?_,fun hc3=>?_⟩
    ·have ht2:t<(B.getD e []).length:=by omega
     have hmem:=Qt ht2
     obtain ⟨d1,d2,d3⟩:=hlow _ hmem
     have hdl:=hb.f1.1 ((B.getD e []).getD t 0).toNat (by omega) (.inl (by omega))
     refine RN ?_
     exact ⟨(t+1,x++[o.F1.getD ((B.getD e []).getD t 0).toNat 0]),⟨by dsimp only;omega,by simp [hx]⟩,by dsimp only;omega,Ref.gc [0,1,2,3,4,5,6,7,10] rfl (by have tkx:(Aa x).take t=Aa x:=List.take_of_length_le (by simp [Aa,hx]);simp only [tkx,Dx,go_sem,↓reduceIte,Nat.reduceEqDiff,Nat.reduceAdd,reduceCtorEq];simp [Aa]) (by simp [sub,Ac,go_sem,↓reduceIte,Nat.reduceEqDiff,Nat.reduceAdd,reduceCtorEq])⟩
    ·have tkx:(Aa x).take t=Aa x:=List.take_of_length_le (by simp [Aa,hx])
     have tko:(o.OB.map Af).take o.OR.length=o.OB.map Af:=List.take_of_length_le (by simp [hlb])
     have tk1:(Aa o.F1).take o.F1.length=Aa o.F1:=List.take_of_length_le (by simp [Aa])
     have tk2:(Aa o.OR).take o.OR.length=Aa o.OR:=List.take_of_length_le (by simp [Aa])
     refine RN ?_
     refine B3 (Xh x (by omega)) (by simp only [go_sem,↓reduceIte,Nat.reduceEqDiff,Nat.reduceAdd,reduceCtorEq,Ad,hx,tkx]) (fun o=>by first | rfl | simp only [go_sem,↓reduceIte,Nat.reduceEqDiff,Nat.reduceAdd,reduceCtorEq]) fun y hy=>?_
     refine RN ?_
     refine ⟨(e+1,⟨o.F1++[(o.OR.length:Int)],o.F2,o.OR++[(k:Int)],o.OB++[y]⟩),⟨by dsimp only;omega,hb.f1.push h1 heR hq _,hb.f2,by simp;omega,by simp [hlb],fun xs hxs=>?_⟩,by dsimp only;omega,?_⟩
     ·rcases List.mem_append.1 hxs with h | h
      ·exact hb.rw xs h
      ·rw [List.mem_singleton.1 h];omega
     ·refine (Ref.close 15 o.OR.length 13 (k:=1) (n:=y.length) (cs:=(o.OB.map Af).take o.OR.length++[.sl 13 1 0 y.length]) (cs2:=Aa y) rfl (by rw [tko,List.getElem?_append_right (by simp [hlb])];simp [hlb]) rfl (by decide) (by simp [Aa])).trans (Ref.gc [0,1,2,3,10,5,12,15] rfl ?_ (by simp [sub,Ac,go_sem,↓reduceIte,Nat.reduceEqDiff,Nat.reduceAdd,reduceCtorEq]))
      have e1:(o.OB.map Af++[AV.sl 13 1 0 y.length]).set o.OR.length (.osl 1 y.length (Aa y))=(o.OB++[y]).map Af:=by
       rw [List.set_append_right _ _ (by simp [hlb]),List.length_map,hlb,Nat.sub_self,List.map_append]
       rfl
      simp only [tko,e1,Dx,go_sem,↓reduceIte,Nat.reduceEqDiff,Nat.reduceAdd,reduceCtorEq]
      simp [Aa]
   ·(refine RN ?_;try with_reducible exact trivial)
    exact ⟨(e+1,o),⟨by dsimp only;omega,hb.f1.skip hq,hb.f2,hb.lo,hb.lb,hb.rw⟩,by dsimp only;omega,Ref.to1⟩
  ·obtain rfl:e=R.length:=by omega
   refine RN ?_
   refine Ak (α:=Nat×Mm) (S:=fun (e,o)=>([(2,.ref 0 0),(3,.ref 1 0),(4,.ref 2 0),(5,.ref 3 0),(6,.sl 4 1 0 o.F1.length),(7,.sl 5 1 0 o.F2.length),(8,i64 (k:Int)),(12,i64 (e:Int))],[some [i64 r,Ad R,Ae B],some [i64 r2,Ad R2,Ae B2],some [i64 0,Ag,Ag],some [i64 r,.sl 6 1 0 o.OR.length,.sl 7 1 0 o.OR.length],some (Aa o.F1),some (Aa o.F2),some (Aa o.OR),some (o.OB.map Af)])) (C:=fun (e,o)=>e≤R2.length∧Ps R R2 k R.length e o) (μ:=fun (e,o)=>R2.length - e) (0,o) ⟨Nat.zero_le _,hb⟩ (Ref.to (by rfl) (by simp [sub,Ac])) ?_
   clear hf1 hf2 hlo hlb hb o
   rintro ⟨e,o⟩ ⟨he,hb⟩
   dsimp only at he hb ⊢
   have hf1:=hb.f1.2
   have hf2:=hb.f2.2
   have hlo:=hb.lo
   have hlb:=hb.lb
   refine RN ?_
   refine ⟨fun hc2=>?_,fun hc2=>?_⟩
   ·have heR:e<R2.length:=by omega
    refine RN ?_
    refine ⟨fun hq=>?_,fun hq=>?_⟩
    ·have hrw:=h2.row e heR
     have hlow:=h2.low e heR
     refine RN ?_
     refine Ak (α:=Nat×List Int) (S:=fun q=>([(2,.ref 0 0),(3,.ref 1 0),(4,.ref 2 0),(5,.ref 3 0),(6,.sl 4 1 0 o.F1.length),(7,.sl 5 1 0 o.F2.length),(8,i64 (k:Int)),(12,i64 (e:Int)),(13,.sl 8 1 0 q.1),(14,i64 (q.1:Int))],[some [i64 r,Ad R,Ae B],some [i64 r2,Ad R2,Ae B2],some [i64 0,Ag,Ag],some [i64 r,.sl 6 1 0 o.OR.length,.sl 7 1 0 o.OR.length],some (Aa o.F1),some (Aa o.F2),some (Aa o.OR),some (o.OB.map Af),some (Aa q.2)])) (C:=fun q=>q.1≤(B2.getD e []).length∧q.2.length=q.1) (μ:=fun q=>(B2.getD e []).length - q.1) (0,[]) ⟨Nat.zero_le _,rfl⟩ (Ref.to (by rfl) (by simp [sub,Ac])) ?_
     rintro ⟨t,x⟩ ⟨ht,hx⟩
     dsimp only at ht hx ⊢
     refine RN ?_
     refine ⟨fun hc3=>?_,fun hc3=>?_⟩
     ·have ht2:t<(B2.getD e []).length:=by omega
      have hmem:=Qt ht2
      obtain ⟨d1,d2,d3⟩:=hlow _ hmem
      have hdl:=hb.f2.1 ((B2.getD e []).getD t 0).toNat (by omega) (.inl (by omega))
      refine RN ?_
      exact ⟨(t+1,x++[o.F2.getD ((B2.getD e []).getD t 0).toNat 0]),⟨by dsimp only;omega,by simp [hx]⟩,by dsimp only;omega,Ref.gc [0,1,2,3,4,5,6,7,10] rfl (by have tkx:(Aa x).take t=Aa x:=List.take_of_length_le (by simp [Aa,hx]);simp only [tkx,Dx,go_sem,↓reduceIte,Nat.reduceEqDiff,Nat.reduceAdd,reduceCtorEq];simp [Aa]) (by simp [sub,Ac,go_sem,↓reduceIte,Nat.reduceEqDiff,Nat.reduceAdd,reduceCtorEq])⟩
     ·have tkx:(Aa x).take t=Aa x:=List.take_of_length_le (by simp [Aa,hx])
      have tko:(o.OB.map Af).take o.OR.length=o.OB.map Af:=List.take_of_length_le (by simp [hlb])
      have tk1:(Aa o.F2).take o.F2.length=Aa o.F2:=List.take_of_length_le (by simp [Aa])
      have tk2:(Aa o.OR).take o.OR.length=Aa o.OR:=List.take_of_length_le (by simp [Aa])
      refine RN ?_
      refine B3 (Xh x (by omega)) (by simp only [go_sem,↓reduceIte,Nat.reduceEqDiff,Nat.reduceAdd,reduceCtorEq,Ad,hx,tkx]) (fun o=>by first | rfl | simp only [go_sem,↓reduceIte,Nat.reduceEqDiff,Nat.reduceAdd,reduceCtorEq]) fun y hy=>?_
      refine RN ?_
      refine ⟨(e+1,⟨o.F1,o.F2++[(o.OR.length:Int)],o.OR++[(k:Int)],o.OB++[y]⟩),⟨by dsimp only;omega,hb.f1,hb.f2.push h2 heR hq _,by simp;omega,by simp [hlb],fun xs hxs=>?_⟩,by dsimp only;omega,?_⟩
      ·rcases List.mem_append.1 hxs with h | h
       ·exact hb.rw xs h
       ·rw [List.mem_singleton.1 h];omega
      ·refine (Ref.close 15 o.OR.length 13 (k:=1) (n:=y.length) (cs:=(o.OB.map Af).take o.OR.length++[.sl 13 1 0 y.length]) (cs2:=Aa y) rfl (by rw [tko,List.getElem?_append_right (by simp [hlb])];simp [hlb]) rfl (by decide) (by simp [Aa])).trans (Ref.gc [0,1,2,3,4,10,12,15] rfl ?_ (by simp [sub,Ac,go_sem,↓reduceIte,Nat.reduceEqDiff,Nat.reduceAdd,reduceCtorEq]))
       have e1:(o.OB.map Af++[AV.sl 13 1 0 y.length]).set o.OR.length (.osl 1 y.length (Aa y))=(o.OB++[y]).map Af:=by
        rw [List.set_append_right _ _ (by simp [hlb]),List.length_map,hlb,Nat.sub_self,List.map_append]
        rfl
       simp only [tko,e1,Dx,go_sem,↓reduceIte,Nat.reduceEqDiff,Nat.reduceAdd,reduceCtorEq]
       simp [Aa]
    ·(refine RN ?_;try with_reducible exact trivial)
     exact ⟨(e+1,o),⟨by dsimp only;omega,hb.f1,hb.f2.skip hq,hb.lo,hb.lb,hb.rw⟩,by dsimp only;omega,Ref.to1⟩
   ·obtain rfl:e=R2.length:=by omega
    refine RN ?_
    exact ⟨(k+1,o),⟨by dsimp only;omega,hb.f1.next hR,hb.f2.next hR2,hb.lo,hb.lb,hb.rw⟩,by dsimp only;omega,Ref.to1⟩
 ·(refine RN ?_;try with_reducible exact trivial)
  have hR:=h1.few
  have hR2:=h2.few
  have hf1:=hb.f1.2
  have hf2:=hb.f2.2
  have hlo:=hb.lo
  have hlb:=hb.lb
  refine ⟨(o.OR,o.OB),⟨by dsimp only;omega,by dsimp only;omega,fun xs hx=>Nat.le_trans (hb.rw xs hx) (by decide)⟩,Ref.sel [] rfl (by simp only [go_sem,↓reduceIte,Nat.reduceEqDiff,Nat.reduceAdd,reduceCtorEq]) ?_⟩
  have tk1:(Aa o.OR).take o.OR.length=Aa o.OR:=List.take_of_length_le (by simp [Aa])
  have tk2:(o.OB.map Af).take o.OR.length=o.OB.map Af:=List.take_of_length_le (by simp [hlb])
  simp only [sub,List.all_cons,List.all_nil,go_sem,↓reduceIte,Nat.reduceEqDiff,Nat.reduceAdd,reduceCtorEq]
  rw [tk2,Gt]
  simp [A6,Ad,Ae,hlb]
end
section
open Go.Gov
open Classical
theorem kS (bs : List Int) (hb : F4 bs) (a : Nat) (h : Int) (hs : a ≤ bs.length) (most : Nat) (hm1 : 8 ≤ most) (hm2 : most ≤ 400) :
    F6 Tryd.prog 18 [.ref 0 0,i64 (most:Int)] [some (A4 bs a h)] (fun o:Nat×Int×Int×List Int×List (List Int)=>o.1≤bs.length∧(0≤o.2.2.1∧o.2.2.1≤6)∧Jo o.2.2.2.1 o.2.2.2.2) (fun o=>A6 o.2.2.1 o.2.2.2.1 o.2.2.2.2) (fun o=>[some (A4 bs o.1 o.2.1)]):=by
 refine Ik oR rfl ?_;unfold T7
 refine RN ?_
 refine Bu (Xi bs hb a h hs most hm1 (by omega)) [0] (by first | rfl | simp) (by simp only [go_sem,↓reduceIte,Nat.reduceEqDiff,Nat.reduceAdd,reduceCtorEq]<;>rfl) (by simp only [go_sem,↓reduceIte,Nat.reduceEqDiff,Nat.reduceAdd,reduceCtorEq]<;>rfl) fun o ho=>?_
 obtain ⟨a1,b1,n,L⟩:=o
 obtain ⟨h1,h2,h3,h4,h5,h6⟩:=ho
 dsimp only at h1 h2 h3 h4 h5 h6 ⊢
 have hrg:RgOk n L:=fun p hp=>by
  obtain ⟨k,hk,rfl⟩:=List.mem_iff_getElem.1 hp
  have:=h6 k hk
  rwa [show L.getD k []=L[k] by simp [hk]] at this
 have hps:=Xk n L hrg (by omega) (by omega)
 refine RN ?_
 refine B3 hps (by simp only [go_sem,↓reduceIte,Nat.reduceEqDiff,Nat.reduceAdd,reduceCtorEq,Ey _ _ L L.length rfl]<;>first | done | (simp only [C2,Ae]<;>rfl)) (fun o=>by first | rfl | simp only [go_sem,↓reduceIte,Nat.reduceEqDiff,Nat.reduceAdd,reduceCtorEq]) fun o ho=>?_
 obtain ⟨R,B⟩:=o
 obtain ⟨hp,hne⟩:=ho
 dsimp only at hp hne ⊢
 refine RN ?_
 refine Bu (Dl bs hb a1 b1 h1 14) [0] (by first | rfl | simp) (by simp only [go_sem,↓reduceIte,Nat.reduceEqDiff,Nat.reduceAdd,reduceCtorEq]<;>rfl) (by simp only [go_sem,↓reduceIte,Nat.reduceEqDiff,Nat.reduceAdd,reduceCtorEq]<;>rfl) fun o ho=>?_
 obtain ⟨a2,b2,k⟩:=o
 obtain ⟨q1,q2,q3⟩:=ho
 dsimp only at q1 q2 q3
 obtain ⟨k,rfl⟩:=Int.eq_ofNat_of_zero_le q2
 have hR1:=hne h4 h2
 have hR:=hp.few
 have hB:=hp.len
 simp only [go_sem,↓reduceIte,Nat.reduceEqDiff,Nat.reduceAdd,reduceCtorEq]
 refine D0 (Ref.gc [0,1,5,3,4] (F' := [(0,.ref 0 0),(1,i64 (most:Int)),(4,.ref 1 0),(5,.ref 2 0),(6,i64 (R.length:Int)),(23,i64 (k:Int))]) (H' := [some (A4 bs a2 b2),some [i64 0,Ag,Ag],some [i64 (L.length:Int),.sl 3 1 0 R.length,.sl 4 1 0 R.length],some (Aa R),some (B.map Af)]) rfl (by simp only [Dx,go_sem,↓reduceIte,Nat.reduceEqDiff,Nat.reduceAdd,reduceCtorEq]) (by simp [sub,Ac,go_sem,↓reduceIte,Nat.reduceEqDiff,Nat.reduceAdd,reduceCtorEq])) ?_
 refine RN ?_
 refine ⟨fun c0=>?_,fun c0=>?_⟩
 ·(refine RN ?_;try with_reducible exact trivial)
  refine Bu (Dl bs hb a2 b2 q1 (R.length:Int)) [0] (by first | rfl | simp) (by simp only [go_sem,↓reduceIte,Nat.reduceEqDiff,Nat.reduceAdd,reduceCtorEq]<;>rfl) (by simp only [go_sem,↓reduceIte,Nat.reduceEqDiff,Nat.reduceAdd,reduceCtorEq]<;>rfl) fun o ho=>?_
  obtain ⟨a3,b3,g⟩:=o
  obtain ⟨y1,y2,y3⟩:=ho
  dsimp only at y1 y2 y3
  have tkB:(B.map Af).take R.length=B.map Af:=List.take_of_length_le (by simp [hB])
  simp only [go_sem,↓reduceIte,Nat.reduceEqDiff,Nat.reduceAdd,reduceCtorEq]
  refine D0 (Ref.sel [0,1,2] (F' := [(0,.ref 0 0),(4,.ref 1 0),(5,.ref 2 0),(6,i64 (R.length:Int)),(7,i64 g)]) (H' := [some (A4 bs a3 b3),some [i64 0,Ag,Ag],some [i64 (L.length:Int),Ad R,Ae B]]) rfl ?_ ?_) ?_
  ·simp only [tkB,Gt,go_sem,↓reduceIte,Nat.reduceEqDiff,Nat.reduceAdd,reduceCtorEq]
   simp [Ad,Ae,hB]
   done
  ·simp [sub,Ac,go_sem,↓reduceIte,Nat.reduceEqDiff,Nat.reduceAdd,reduceCtorEq]
  refine RN ?_
  refine Ak (α:=Nat×List Int×List (List Int)) (S:=fun o=>([(0,.ref 0 0),(4,.ref 1 0),(5,.ref 2 0),(6,i64 (R.length:Int)),(7,i64 g),(8,.ref 3 0),(9,i64 (o.1:Int))],[some (A4 bs a3 b3),some [i64 0,Ag,Ag],some [i64 (L.length:Int),Ad R,Ae B],some [i64 (L.length:Int),.sl 4 1 0 o.2.1.length,.sl 5 1 0 o.2.1.length],some (Aa o.2.1),some (o.2.2.map Af)])) (C:=fun o=>o.1≤R.length∧o.2.1.length≤o.1∧o.2.2.length=o.2.1.length∧∀ xs∈o.2.2,xs.length≤40000) (μ:=fun o=>R.length - o.1) (0,[],[]) ⟨Nat.zero_le _,Nat.zero_le _,rfl,by simp⟩ ?_ ?_
  ·refine (Ref.nilC 3 1 1 (cs:=[i64 (L.length:Int),Ag,Ag]) rfl rfl).trans ((Ref.nilC 3 2 1 (cs:=[i64 (L.length:Int),.sl 4 1 0 0,Ag]) rfl rfl).trans (Ref.to (by rfl) (by simp [sub,Ac])))
  rintro ⟨e,OR,OB⟩ ⟨he,ho1,ho2,ho3⟩
  dsimp only at he ho1 ho2 ho3 ⊢
  refine RN ?_
  refine ⟨fun hc=>?_,fun hc=>?_⟩
  ·have heR:e<R.length:=by omega
   have hrw:=hp.row e heR
   refine RN ?_
   refine ⟨fun hg=>?_,fun hg=>?_⟩
   ·(refine RN ?_;try with_reducible exact trivial)
    exact ⟨(e+1,OR,OB),⟨by dsimp only;omega,by dsimp only;omega,ho2,ho3⟩,by dsimp only;omega,Ref.to1⟩
   ·(refine RN ?_;try with_reducible exact trivial)
    refine Ak (α:=Nat×List Int) (S:=fun q=>([(0,.ref 0 0),(4,.ref 1 0),(5,.ref 2 0),(6,i64 (R.length:Int)),(7,i64 g),(8,.ref 3 0),(9,i64 (e:Int)),(10,.sl 6 1 0 q.2.length),(11,i64 (q.1:Int))],[some (A4 bs a3 b3),some [i64 0,Ag,Ag],some [i64 (L.length:Int),Ad R,Ae B],some [i64 (L.length:Int),.sl 4 1 0 OR.length,.sl 5 1 0 OR.length],some (Aa OR),some (OB.map Af),some (Aa q.2)])) (C:=fun q=>q.1≤(B.getD e []).length∧q.2.length≤q.1) (μ:=fun q=>(B.getD e []).length - q.1) (0,[]) ⟨Nat.zero_le _,Nat.zero_le _⟩ (Ref.to (by rfl) (by simp [sub,Ac])) ?_
    rintro ⟨t,x⟩ ⟨ht,hx⟩
    dsimp only at ht hx ⊢
    have tkx:(Aa x).take x.length=Aa x:=List.take_of_length_le (by simp [Aa])
    refine RN ?_
    refine ⟨fun hc3=>?_,fun hc3=>?_⟩
    ·have ht2:t<(B.getD e []).length:=by omega
     obtain ⟨d1,d2,d3⟩:=hp.low e heR _ (Qt ht2)
     refine RN ?_
     refine ⟨fun hq=>?_,fun hq=>?_⟩
     ·(refine RN ?_;try with_reducible exact trivial)
      refine fun hq2=>?_
      refine RN ?_
      exact ⟨(t+1,x++[(B.getD e []).getD t 0 - 1]),⟨by dsimp only;omega,by simp;omega⟩,by dsimp only;omega,Ref.gc [0,1,2,3,4,5,8] rfl (by simp only [tkx,Dx,go_sem,↓reduceIte,Nat.reduceEqDiff,Nat.reduceAdd,reduceCtorEq];simp [Aa]) (by simp [sub,Ac,go_sem,↓reduceIte,Nat.reduceEqDiff,Nat.reduceAdd,reduceCtorEq])⟩
     ·(refine RN ?_;try with_reducible exact trivial)
      refine ⟨fun hq2=>?_,fun hq2=>?_⟩
      ·(refine RN ?_;try with_reducible exact trivial)
       exact ⟨(t+1,x++[(B.getD e []).getD t 0]),⟨by dsimp only;omega,by simp;omega⟩,by dsimp only;omega,Ref.gc [0,1,2,3,4,5,8] rfl (by simp only [tkx,Dx,go_sem,↓reduceIte,Nat.reduceEqDiff,Nat.reduceAdd,reduceCtorEq];simp [Aa]) (by simp [sub,Ac,go_sem,↓reduceIte,Nat.reduceEqDiff,Nat.reduceAdd,reduceCtorEq])⟩
      ·(refine RN ?_;try with_reducible exact trivial)
       exact ⟨(t+1,x),⟨by dsimp only;omega,by dsimp only;omega⟩,by dsimp only;omega,Ref.to1⟩
    ·have tko:(OB.map Af).take OR.length=OB.map Af:=List.take_of_length_le (by simp [ho2])
     have tk2:(Aa OR).take OR.length=Aa OR:=List.take_of_length_le (by simp [Aa])
     refine RN ?_
     refine ⟨(e+1,OR++[R.getD e 0],OB++[x]),⟨by dsimp only;omega,by simp;omega,by simp [ho2],fun xs hxs=>?_⟩,by dsimp only;omega,?_⟩
     ·rcases List.mem_append.1 hxs with h | h
      ·exact ho3 xs h
      ·rw [List.mem_singleton.1 h];omega
     ·refine (Ref.close 10 OR.length 6 (k:=1) (n:=x.length) (cs:=(OB.map Af).take OR.length++[.sl 6 1 0 x.length]) (cs2:=Aa x) rfl (by rw [tko,List.getElem?_append_right (by simp [ho2])];simp [ho2]) rfl (by decide) (by simp [Aa])).trans (Ref.gc [0,1,2,3,8,10] rfl ?_ (by simp [sub,Ac,go_sem,↓reduceIte,Nat.reduceEqDiff,Nat.reduceAdd,reduceCtorEq]))
      have e1:(OB.map Af++[AV.sl 6 1 0 x.length]).set OR.length (.osl 1 x.length (Aa x))=(OB++[x]).map Af:=by
       rw [List.set_append_right _ _ (by simp [ho2]),List.length_map,ho2,Nat.sub_self,List.map_append]
       rfl
      simp only [tko,e1,Dx,go_sem,↓reduceIte,Nat.reduceEqDiff,Nat.reduceAdd,reduceCtorEq]
      simp [Aa]
  ·(refine RN ?_;try with_reducible exact trivial)
   have tko:(OB.map Af).take OR.length=OB.map Af:=List.take_of_length_le (by simp [ho2])
   refine ⟨(a3,b3,(L.length:Int),OR,OB),⟨y1,by dsimp only;omega,by dsimp only;omega,by dsimp only;omega,ho3⟩,Ref.sel [0] rfl (by simp only [go_sem,↓reduceIte,Nat.reduceEqDiff,Nat.reduceAdd,reduceCtorEq]) ?_⟩
   simp only [sub,List.all_cons,List.all_nil,go_sem,↓reduceIte,Nat.reduceEqDiff,Nat.reduceAdd,reduceCtorEq]
   rw [tko,Gt]
   simp [A6,Ad,Ae,ho2]
 ·(refine RN ?_;try with_reducible exact trivial)
  refine ⟨fun c1=>?_,fun c1=>?_⟩
  ·(refine RN ?_;try with_reducible exact trivial)
   refine Bu (Dl bs hb a2 b2 q1 (R.length:Int)) [0] (by first | rfl | simp) (by simp only [go_sem,↓reduceIte,Nat.reduceEqDiff,Nat.reduceAdd,reduceCtorEq]<;>rfl) (by simp only [go_sem,↓reduceIte,Nat.reduceEqDiff,Nat.reduceAdd,reduceCtorEq]<;>rfl) fun o ho=>?_
   obtain ⟨a3,b3,e⟩:=o
   obtain ⟨y1,y2,y3⟩:=ho
   dsimp only at y1 y2 y3
   obtain ⟨e,rfl⟩:=Int.eq_ofNat_of_zero_le y2
   have heR:e<R.length:=by omega
   have hrw:=hp.row e heR
   have hrow:(B.map Af)[e]? = some (Af (B.getD e [])):=by
    rw [List.getElem?_map,List.getElem?_eq_getElem (by omega)]
    simp [show e<B.length by omega]
   generalize B.getD e []=row at *
   simp only [go_sem,↓reduceIte,Nat.reduceEqDiff,Nat.reduceAdd,reduceCtorEq]
   refine Hs (Ref.open 4 e (cs:=B.map Af) rfl hrow) ?_
   simp only [List.set_cons_zero,List.set_cons_succ,List.cons_append,List.nil_append,List.length_cons,List.length_nil,Nat.zero_add]
   have hg:=Eb (B.map Af) e (.sl 5 1 0 row.length) (.slc 1 0 []) (by simp;omega)
   have hg2:=Eb (B.map Af) e (.sl 5 1 0 row.length) .any (by simp;omega)
   have hls:((B.map Af).set e (.sl 5 1 0 row.length)).length=R.length:=by rw [List.length_set,List.length_map];exact hB
   refine Sz (fun o:Nat×Int×Nat=>o.1≤bs.length∧o.2.2≤row.length) (fun o=>[(0,.ref 0 0),(4,.ref 1 0),(5,.ref 2 0)]) (fun o=>[some (A4 bs o.1 o.2.1),some [i64 0,Ag,Ag],some [i64 (L.length:Int),.sl 3 1 0 R.length,.sl 4 1 0 R.length],some (Aa R),some ((B.map Af).set e (.sl 5 1 0 o.2.2)),some (Aa row)]) ?_ ?_
   ·repeat' first
      | simp only [hg,hg2,hls,go_sem,↓reduceIte,Nat.reduceEqDiff,Nat.reduceAdd,reduceCtorEq]
      | with_reducible refine Fg ?_
      | with_reducible refine Ff ?_
      | with_reducible exact Fh
      | with_reducible refine Fe ?_ ?_
      | (with_reducible refine And.intro ?_ ?_;focus first | assumption | omega | grind)
      | refine Bu (Dl bs hb a3 b3 y1 ((row.length:Int)+1)) [0] (by first | rfl | simp) (by simp only [go_sem,↓reduceIte,Nat.reduceEqDiff,Nat.reduceAdd,reduceCtorEq]<;>rfl) (by simp only [go_sem,↓reduceIte,Nat.reduceEqDiff,Nat.reduceAdd,reduceCtorEq]<;>rfl) fun o ho=>?_
    all_goals exact ⟨(o.1,o.2.1,o.2.2.toNat),⟨ho.1,by dsimp only;omega⟩,Ref.to (by simp only [List.set_set,Int.sub_zero]) (by simp [sub,Ac])⟩
   ·rintro ⟨a4,b4,x⟩ ⟨z1,z2⟩
    dsimp only at z1 z2 ⊢
    have hcl:=Ref.closeL (n0:=1) (F:=[(0,.ref 0 0),(4,.ref 1 0),(5,.ref 2 0)]) (H:=[some (A4 bs a4 b4),some [i64 0,Ag,Ag],some [i64 (L.length:Int),.sl 3 1 0 R.length,.sl 4 1 0 R.length],some (Aa R),some ((B.map Af).set e (.sl 5 1 0 x)),some (Aa row)]) 4 e 5 (k:=1) (n:=x) (cs:=(B.map Af).set e (.sl 5 1 0 x)) (cs2:=Aa row) rfl (List.getElem?_set_self (by simp;omega)) rfl (by decide) (by simp [Aa];omega)
    have e1:(.osl 1 x ((Aa row).take (x*1)):AV)=Af (row.take x):=by
     simp [Af,Aa,List.map_take,Nat.min_eq_left z2]
    have e2:(((B.map Af).set e (.sl 5 1 0 x)).set e (.osl 1 x ((Aa row).take (x*1))))=(B.set e (row.take x)).map Af:=by
     rw [List.set_set,e1,List.map_set]
    rw [e2] at hcl
    refine D0 hcl ?_
    have tkB:((B.set e (row.take x)).map Af).take R.length=(B.set e (row.take x)).map Af:=List.take_of_length_le (by simp [hB])
    have hD:Jo R (B.set e (row.take x)):=⟨by omega,by simp;omega,fun xs hxs=>by
     rcases List.mem_or_eq_of_mem_set hxs with h | h
     ·obtain ⟨j,hj,rfl⟩:=List.mem_iff_getElem.1 h
      have:=hp.row j (by omega)
      rw [show B.getD j []=B[j] by simp [hj]] at this
      omega
     ·subst h;rw [List.length_take];omega⟩
    have hBl:(B.set e (row.take x)).length=R.length:=by simp [hB]
    clear hcl e2
    generalize B.set e (row.take x)=B' at *
    refine RN ?_
    refine ⟨(a4,b4,(L.length:Int),R,B'),⟨z1,⟨by dsimp only;omega,by dsimp only;omega⟩,hD⟩,Ref.sel [0] rfl (by simp only [go_sem,↓reduceIte,Nat.reduceEqDiff,Nat.reduceAdd,reduceCtorEq]) ?_⟩
    simp only [sub,List.all_cons,List.all_nil,go_sem,↓reduceIte,Nat.reduceEqDiff,Nat.reduceAdd,reduceCtorEq]
    rw [tkB,Gt]
    simp [A6,Ad,Ae,hBl]
  ·have hDr : Jo R B := ⟨by omega, by omega, fun xs hxs => by
     obtain ⟨j,hj,rfl⟩:=List.mem_iff_getElem.1 hxs
     have:=hp.row j (by omega)
     rw [show B.getD j []=B[j] by simp [hj]] at this
     omega⟩
   have tkB:(B.map Af).take R.length=B.map Af:=List.take_of_length_le (by simp [hB])
   have tkR:(Aa R).take R.length=Aa R:=List.take_of_length_le (by simp [Aa])
   by_cases hk2:k=2
   ·subst hk2
    refine D0 (Ref.sel [0,1,2] (F' := [(0,.ref 0 0),(4,.ref 1 0),(5,.ref 2 0),(115,bl true)]) (H' := [some (A4 bs a2 b2),some [i64 0,Ag,Ag],some [i64 (L.length:Int),Ad R,Ae B]]) rfl ?_ ?_) ?_
    ·simp only [tkB,Gt,go_sem,↓reduceIte,Nat.reduceEqDiff,Nat.reduceAdd,reduceCtorEq]
     simp [Ad,Ae,hB]
    ·simp [sub,Ac,go_sem,↓reduceIte,Nat.reduceEqDiff,Nat.reduceAdd,reduceCtorEq]
    refine RN ?_
    refine Bu (Xi bs hb a2 b2 q1 8 (by decide) (by decide)) [0] (by first | rfl | simp) (by simp only [go_sem,↓reduceIte,Nat.reduceEqDiff,Nat.reduceAdd,reduceCtorEq]<;>rfl) (by simp only [go_sem,↓reduceIte,Nat.reduceEqDiff,Nat.reduceAdd,reduceCtorEq]<;>rfl) fun o ho=>?_
    obtain ⟨a3,b3,n2,L2⟩:=o
    obtain ⟨y1,y2,y3,y4,y5,y6⟩:=ho
    dsimp only at y1 y2 y3 y4 y5 y6 ⊢
    have hrg2:RgOk n2 L2:=fun p hp=>by
     obtain ⟨k,hk,rfl⟩:=List.mem_iff_getElem.1 hp
     have:=y6 k hk
     rwa [show L2.getD k []=L2[k] by simp [hk]] at this
    have hps2:=Xk n2 L2 hrg2 (by omega) (by omega)
    refine RN ?_
    refine B3 hps2 (by simp only [go_sem,↓reduceIte,Nat.reduceEqDiff,Nat.reduceAdd,reduceCtorEq,Ey _ _ L2 L2.length rfl]<;>first | done | (simp only [C2,Ae]<;>rfl)) (fun o=>by first | rfl | simp only [go_sem,↓reduceIte,Nat.reduceEqDiff,Nat.reduceAdd,reduceCtorEq]) fun o ho=>?_
    obtain ⟨R2,B2⟩:=o
    obtain ⟨hp2,_⟩:=ho
    dsimp only at hp2 ⊢
    have hB2:=hp2.len
    have tkB2:(B2.map Af).take R2.length=B2.map Af:=List.take_of_length_le (by simp [hB2])
    simp only [go_sem,↓reduceIte,Nat.reduceEqDiff,Nat.reduceAdd,reduceCtorEq]
    refine D0 (Ref.sel [0,1,2,6] (F' := [(0,.ref 0 0),(4,.ref 1 0),(5,.ref 2 0),(14,.ref 3 0)]) (H' := [some (A4 bs a3 b3),some [i64 0,Ag,Ag],some [i64 (L.length:Int),Ad R,Ae B],some [i64 (L2.length:Int),Ad R2,Ae B2]]) rfl ?_ ?_) ?_
    ·simp only [tkB2,Gt,go_sem,↓reduceIte,Nat.reduceEqDiff,Nat.reduceAdd,reduceCtorEq]
     simp [Ad,Ae,hB2]
    ·simp [sub,Ac,go_sem,↓reduceIte,Nat.reduceEqDiff,Nat.reduceAdd,reduceCtorEq]
    refine RN ?_
    refine ⟨fun hq=>?_,fun hq=>?_⟩
    ·have hL:L2.length=L.length:=by omega
     have hbe:=kR (L.length:Int) (L2.length:Int) R R2 B B2 (by omega) (by simpa using hp) (by rw [← hL];simpa using hp2)
     refine RN ?_
     refine Ry hbe (by simp only [A6,go_sem,↓reduceIte,Nat.reduceEqDiff,Nat.reduceAdd,reduceCtorEq]<;>rfl) fun o ho=>?_
     refine RN ?_
     exact ⟨(a3,b3,(L.length:Int),o.1,o.2),⟨y1,⟨by dsimp only;omega,by dsimp only;omega⟩,ho⟩,Ref.gc [0] rfl (by simp only [go_sem,↓reduceIte,Nat.reduceEqDiff,Nat.reduceAdd,reduceCtorEq]<;>rfl) (by simp [sub,Ac,A6,go_sem,↓reduceIte,Nat.reduceEqDiff,Nat.reduceAdd,reduceCtorEq])⟩
    ·(refine RN ?_;try with_reducible exact trivial)
     exact ⟨(a3,b3,(L.length:Int),R,B),⟨y1,⟨by dsimp only;omega,by dsimp only;omega⟩,hDr⟩,Ref.gc [0] rfl (by simp only [go_sem,↓reduceIte,Nat.reduceEqDiff,Nat.reduceAdd,reduceCtorEq]<;>rfl) (by simp [sub,Ac,A6,go_sem,↓reduceIte,Nat.reduceEqDiff,Nat.reduceAdd,reduceCtorEq])⟩
   ·(refine RN ?_;try with_reducible exact trivial)
    refine fun c2=>?_
    refine RN ?_
    refine ⟨fun c3=>?_,fun c3=>?_⟩
    ·(refine RN ?_;try with_reducible exact trivial)
     refine Bu (Xg bs hb a2 b2 q1 [(L.length:Int)+1,(L.length:Int) - 1,0,6] (by simp) (by simp)) [0,5] (by first | rfl | simp) (by simp only [go_sem,↓reduceIte,Nat.reduceEqDiff,Nat.reduceAdd,reduceCtorEq]<;>rfl) (by simp only [go_sem,↓reduceIte,Nat.reduceEqDiff,Nat.reduceAdd,reduceCtorEq]<;>rfl) fun o ho=>?_
     obtain ⟨a3,b3,x⟩:=o
     obtain ⟨y1,y2⟩:=ho
     dsimp only at y1 y2 ⊢
     have hv:0≤[(L.length:Int)+1,(L.length:Int) - 1,0,6].getD x 0∧[(L.length:Int)+1,(L.length:Int) - 1,0,6].getD x 0≤6:=by
      match x,y2 with
      | 0,_=>simp;omega
      | 1,_=>simp;omega
      | 2,_=>simp
      | 3,_=>simp
     generalize [(L.length:Int)+1,(L.length:Int) - 1,0,6].getD x 0=v at *
     refine RN ?_
     refine ⟨(a3,b3,v,R,B),⟨y1,⟨by dsimp only;omega,by dsimp only;omega⟩,hDr⟩,Ref.sel [0] rfl (by simp only [go_sem,↓reduceIte,Nat.reduceEqDiff,Nat.reduceAdd,reduceCtorEq]) ?_⟩
     simp only [sub,List.all_cons,List.all_nil,go_sem,↓reduceIte,Nat.reduceEqDiff,Nat.reduceAdd,reduceCtorEq]
     rw [tkB,Gt]
     simp [A6,Ad,Ae,hB]
    ·(refine RN ?_;try with_reducible exact trivial)
     refine ⟨fun c4=>?_,fun c4=>?_⟩
     ·refine Cf ?_
      refine Sz (fun o:Nat×Int×List Int=>o.1≤bs.length∧o.2.2.length=R.length) (fun o=>[(0,.ref 0 0),(4,.ref 1 0),(5,.ref 2 0)]) (fun o=>[some (A4 bs o.1 o.2.1),some [i64 0,Ag,Ag],some [i64 (L.length:Int),.sl 3 1 0 R.length,.sl 4 1 0 R.length],some (Aa o.2.2),some (B.map Af)]) ?_ ?_
      ·repeat' first
         | simp only [go_sem,↓reduceIte,Nat.reduceEqDiff,Nat.reduceAdd,reduceCtorEq]
         | with_reducible refine Fg ?_
         | with_reducible refine Ff ?_
         | with_reducible exact Fh
         | with_reducible refine Fe ?_ ?_
         | (with_reducible refine And.intro ?_ ?_;focus first | assumption | omega | grind)
         | refine Bu (Dl bs hb a2 b2 q1 (R.length:Int)) [0] (by first | rfl | simp) (by simp only [go_sem,↓reduceIte,Nat.reduceEqDiff,Nat.reduceAdd,reduceCtorEq]<;>rfl) (by simp only [go_sem,↓reduceIte,Nat.reduceEqDiff,Nat.reduceAdd,reduceCtorEq]<;>rfl) fun o ho=>?_
         | refine Bu (Xg bs hb _ _ ho.1 [-1,(L.length:Int),0] (by simp) (by simp)) [0,5] (by first | rfl | simp) (by simp only [go_sem,↓reduceIte,Nat.reduceEqDiff,Nat.reduceAdd,reduceCtorEq]<;>rfl) (by simp only [go_sem,↓reduceIte,Nat.reduceEqDiff,Nat.reduceAdd,reduceCtorEq]<;>rfl) fun o ho=>?_
       all_goals
        rename_i o1 ho1
        exact ⟨(o.1,o.2.1,R.set o1.2.2.toNat ([-1,(L.length:Int),0].getD o.2.2 0)),⟨ho.1,by simp⟩,Ref.gc [0,1,2,3,4] rfl (by simp only [Dx,go_sem,↓reduceIte,Nat.reduceEqDiff,Nat.reduceAdd,reduceCtorEq]) (by simp [sub,Ac,go_sem,↓reduceIte,Nat.reduceEqDiff,Nat.reduceAdd,reduceCtorEq])⟩
      ·rintro ⟨a3,b3,R'⟩ ⟨z1,z2⟩
       dsimp only at z1 z2 ⊢
       have hDr' : Jo R' B:=⟨by omega,by omega,hDr.2.2⟩
       rw [← z2] at tkB hB ⊢
       refine RN ?_
       refine ⟨(a3,b3,(L.length:Int),R', B),⟨z1,⟨by dsimp only;omega,by dsimp only;omega⟩,hDr'⟩,Ref.sel [0] rfl (by simp only [go_sem,↓reduceIte,Nat.reduceEqDiff,Nat.reduceAdd,reduceCtorEq]) ?_⟩
       simp only [sub,List.all_cons,List.all_nil,go_sem,↓reduceIte,Nat.reduceEqDiff,Nat.reduceAdd,reduceCtorEq]
       rw [tkB,Gt]
       simp [A6,Ad,Ae,hB]
     ·(refine RN ?_;try with_reducible exact trivial)
      refine ⟨(a2,b2,(L.length:Int),R,B),⟨q1,⟨by dsimp only;omega,by dsimp only;omega⟩,hDr⟩,Ref.sel [0] rfl (by simp only [go_sem,↓reduceIte,Nat.reduceEqDiff,Nat.reduceAdd,reduceCtorEq]) ?_⟩
      simp only [sub,List.all_cons,List.all_nil,go_sem,↓reduceIte,Nat.reduceEqDiff,Nat.reduceAdd,reduceCtorEq]
      rw [tkB,Gt]
      simp [A6,Ad,Ae,hB]
end
end Go.Proofs.YtfofabbkigonpaaDoor
