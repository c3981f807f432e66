/- Texts that belong together. -/
import Derived.Test.YtaekhhaaphgndaaR5
import Derived.Test.YtaekhhaaphgndaaRa
set_option linter.unusedSimpArgs false
set_option linter.unusedVariables false
set_option maxRecDepth 100000
namespace Go.Proofs.Ytaekhhaaphgndaa
open Go.Gov
open Classical
theorem big_c (bs:List Int)(hl:bs.length≤9223372036854775807):Pure Try.prog 4 [bytA' bs] (bl (decide (4096<(bs.length:Int)))) []:=by
 unfold bytA'
 refine pureV0 ok4 rfl rfl ?_;unfold c4
 (refine RN ?_;try with_reducible exact trivial)
 try rfl
theorem faceCounts_y (M:List (List Int))(hM:IsMan M):Pure Try.prog 9 [maniA M] (.tup [.sl 0 1 0 M.length,i64 0]) [some (intsC (fcV (fl M) M M.length))]:=by
 have m1:=hM.r1
 have m5:=hM.r5
 have f4:=hM.f4
 have hi:=isManiplex_c M (by omega) (fun p hp=>by
  obtain ⟨k,hk,rfl⟩:=List.mem_iff_getElem.1 hp
  have h1:=(hM.rows k hk).1
  rw [show M.getD k []=M[k] by simp [hk]] at h1
  omega)
 rw [decide_eq_true hM] at hi
 have hf:=faceCounts_c (fl M) M hM.mv rfl (by omega) (by omega)
 refine pureRV ok9 rfl ?_;unfold c9
 refine RN ?_
 refine pureC1 (hi) ?_
 refine RN ?_
 refine pureC1 (hf) ?_
 refine RN ?_
 exact Ref.gc2 [1]
theorem likeInts_c (xs ys:List Int)(hx:xs.length≤1048576)(hy:ys.length≤1048576):Pure Try.prog 11 [ints xs,ints ys] (bl (decide (xs=ys))) []:=by
 refine pureV ok11 rfl ?_;unfold c11
 refine RN ?_
 refine ⟨fun hc=>?_,fun hc=>?_⟩
 ·(refine RN ?_;try with_reducible exact trivial)
  rw [decide_eq_false (fun h=>hc (by rw [h]))]
 ·have hl:xs.length=ys.length:=by omega
  refine RN ?_
  refine V_loop (α:=Nat) (S:=fun i=>([(0,ints xs),(1,ints ys),(5,i64 i)],[])) (C:=fun i=>i≤xs.length∧∀ j,j<i→xs.getD j 0=ys.getD j 0) (μ:=fun i=>xs.length - i) 0 ⟨by omega,by omega⟩ (by exact Ref.frame (by simp [sub,fget])) ?_
  rintro i ⟨hi,hall⟩
  refine RN ?_
  refine ⟨fun hc1=>?_,fun hc1=>?_⟩
  ·(refine RN ?_;try with_reducible exact trivial)
   refine ⟨fun hc2=>?_,fun hc2=>?_⟩
   ·(refine RN ?_;try with_reducible exact trivial)
    rw [decide_eq_false (fun h=>hc2 (by rw [h]))]
   ·(refine RN ?_;try with_reducible exact trivial)
    refine ⟨i+1,⟨by omega,fun j hj=>?_⟩,by omega,by exact Ref.frame (by simp [sub,fget])⟩
    rcases Nat.lt_or_ge j i with h | h
    ·exact hall j h
    ·obtain rfl:j=i:=by omega
     simpa using hc2
  ·(refine RN ?_;try with_reducible exact trivial)
   rw [decide_eq_true]
   refine List.ext_getElem hl fun j h1 h2=>?_
   have:=hall j (by omega)
   simpa [h1,h2] using this
theorem roll_p (bs:List Int)(hb:Byt bs)(sd:Int):PureE Try.prog 13 [bytA' bs,.val (.int .u64 sd)] (fun _:Int=>True) (fun _=>.ref 0 0) (fun h=>[some (srcC bs 0 h)]):=by
 have hfw:=hb.few
 unfold srcC bytA'
 refine pureREV ok13 rfl ?_;unfold c13
 refine RN ?_
 generalize IntKind.u64.wrap (IntKind.u64.wrap (sd*7681)+IntKind.u64.wrap (bs.length:Int))=h0
 refine V_loop (α:=Nat×Int) (S:=fun o=>([(0,.slc 1 bs.length (u8s bs)),(5,.ref 0 0),(6,i64 (o.1:Int))],[some [.slc 1 bs.length (u8s bs),.val (.int .i64 0),.val (.int .u64 o.2)]])) (C:=fun o=>o.1≤bs.length) (μ:=fun o=>bs.length - o.1) (0,h0) (Nat.zero_le _) (Ref.to1) ?_
 rintro ⟨i,h⟩ hi
 dsimp only at hi ⊢
 refine RN ?_
 refine ⟨fun hc=>?_,fun hc=>?_⟩
 ·(refine RN ?_;try with_reducible exact trivial)
  exact ⟨(i+1,_),by dsimp only;omega,by dsimp only;omega,Ref.to1⟩
 ·(refine RN ?_;try with_reducible exact trivial)
  exact ⟨h,Ref.gc2 [0]⟩
theorem below_w (bs : List Int) (hb : Byt bs) (a : Nat) (h : Int) (hs : a ≤ bs.length) (n : Int) :
    WriE Try.prog 14 [.ref 0 0,i64 n] [some (srcC bs a h)] (fun o:Nat×Int×Int=>o.1≤bs.length∧0≤o.2.2∧(o.2.2=0∨o.2.2<n)) (fun o=>i64 o.2.2) (fun o=>[some (srcC bs o.1 o.2.1)]):=by
 unfold srcC bytA'
 have hfw:=hb.few
 refine wriREV ok14 rfl ?_;unfold c14
 refine RN ?_
 refine ⟨fun hn=>?_,fun hn=>?_⟩
 ·(refine RN ?_;try with_reducible exact trivial)
  exact ⟨(a,h,0),⟨hs,Int.le_refl _,.inl rfl⟩,Ref.gc2 [0]⟩
 refine V_W ?_
 simp only [go_sem,↓reduceIte,Nat.reduceEqDiff,Nat.reduceAdd,reduceCtorEq]
 refine V_W ?_
 have hm:=msk24 (shV BinOp.shr IntKind.u64 (IntKind.u64.wrap (IntKind.u64.wrap (h*6364136223846793005)+1442695040888963407)) 33)
 simp only [go_sem,↓reduceIte,Nat.reduceEqDiff,Nat.reduceAdd,reduceCtorEq]
 generalize bitsV BinOp.and IntKind.u64 (shV BinOp.shr IntKind.u64 (IntKind.u64.wrap (IntKind.u64.wrap (h*6364136223846793005)+1442695040888963407)) 33) 16777215=x at *
 generalize IntKind.u64.wrap (IntKind.u64.wrap (h*6364136223846793005)+1442695040888963407)=h' at *
 have fin:∀ y:Int,0≤y→0≤y.tmod n∧(y.tmod n=0∨y.tmod n<n):=fun y hy=>⟨Int.tmod_nonneg _ hy,.inr (Int.tmod_lt_of_pos _ (by omega))⟩
 have hby:=hb.by8 a
 refine RN ?_
 refine ⟨fun hc=>?_,fun hc=>?_⟩
 ·have hy:=hby (by omega)
  refine RN ?_
  refine ⟨(a+1,h', (x+bs.getD a 0).tmod n),⟨by dsimp only;omega,fin _ (by omega)⟩,?_⟩
  exact Ref.gc2 [0]
 ·(refine RN ?_;try with_reducible exact trivial)
  refine ⟨(a,h', x.tmod n),⟨by dsimp only;omega,fin _ (by omega)⟩,?_⟩
  exact Ref.gc2 [0]
end Go.Proofs.Ytaekhhaaphgndaa
