/- Texts that belong together. -/
import Derived.Test.YtfcbamfkfadabaaGreatDoorR4
set_option linter.unusedSimpArgs false
set_option linter.unusedVariables false
set_option maxRecDepth 100000
namespace Go.Gov
def u8s (bs:List Int):List AV:=bs.map fun b=>.val (.int .u8 b)
theorem len_u8s (xs:List Int):(u8s xs).length=xs.length:=by simp [u8s]
theorem map_frz_u8s (H:Heap)(d:Nat)(xs:List Int):(u8s xs).map (frz H (d+1))=u8s xs:=by simp [u8s,frz]
theorem getD_u8s (xs:List Int)(i:Nat):(u8s xs).getD i (.val (.int .u8 0)) = .val (.int .u8 (xs.getD i 0)):=by
 simp only [u8s,List.getD_eq_getElem?_getD,List.getElem?_map]
 cases xs[i]? <;> rfl
theorem plain_u8s (xs:List Int)(i:Nat):plainC ((u8s xs).getD i .any)=true:=by
 simp only [u8s,List.getD_eq_getElem?_getD,List.getElem?_map]
 cases xs[i]? <;> rfl
theorem rnmL_u8s (τ:Nat→Option Nat)(xs:List Int):rnmL τ (u8s xs)=u8s xs:=by simp [rnmL_map,u8s,rnm]
attribute [go_sem] len_u8s map_frz_u8s getD_u8s plain_u8s rnmL_u8s
def bytA' (bs:List Int):AV:=.slc 1 bs.length (u8s bs)
def srcC (bs:List Int)(a:Nat)(h:Int):List AV:=[bytA' bs,.val (.int .i64 (a:Int)),.val (.int .u64 h)]
theorem rnmL_src (τ:Nat→Option Nat)(bs:List Int)(a:Nat)(h:Int):rnmL τ (srcC bs a h)=srcC bs a h:=by simp [srcC,bytA', go_sem]
attribute [go_sem] rnmL_src
theorem msk24 (x:Int):0≤bitsV .and .u64 x 16777215∧bitsV .and .u64 x 16777215≤16777215:=by
 have h:(BitVec.ofInt 64 x &&& BitVec.ofInt 64 16777215).toNat≤16777215:=by
  rw [BitVec.toNat_and]
  exact Nat.le_trans Nat.and_le_right (by decide)
 generalize hy:(BitVec.ofInt 64 x &&& BitVec.ofInt 64 16777215).toNat=y at h
 have:bitsV .and .u64 x 16777215=((y:Int)%2^64):=by
  show IntKind.u64.wrap _=_
  rw [show IntKind.u64.bits=64 from rfl,hy]
  simp [IntKind.wrap,IntKind.signed,IntKind.bits]
 omega
end Go.Gov
namespace Go.Proofs.YtfcbamfkfadabaaGreatDoor
section
open Go.Gov Go.Ce
open Classical
structure Byt (bs:List Int):Prop where
 few:bs.length≤1048576
 by8:∀ k,k<bs.length→0≤bs.getD k 0∧bs.getD k 0≤255
theorem l01Next_w (bs : List Int) (hb : Byt bs) (a : Nat) (h : Int) (hs : a ≤ bs.length) (n : Int) :
    WriE Tryz.prog 63 [.ref 0 0,i64 n] [some (srcC bs a h)] (fun o:Nat×Int×Int=>o.1≤bs.length∧0≤o.2.2∧(o.2.2=0∨o.2.2<n)) (fun o=>i64 o.2.2) (fun o=>[some (srcC bs o.1 o.2.1)]):=by
 unfold srcC bytA'
 have hfw:=hb.few
 refine wriREV ok63 rfl ?_;unfold c63
 refine RN ?_
 refine ⟨fun hn=>?_,fun hn=>?_⟩
 ·(refine RN ?_;try with_reducible exact trivial)
  exact ⟨(a,h,0),⟨hs,Int.le_refl _,.inl rfl⟩,Ref.gc2 [0]⟩
 refine V_W ?_
 simp only [go_sem,↓reduceIte,Nat.reduceEqDiff,Nat.reduceAdd,reduceCtorEq]
 refine V_W ?_
 have hm:=msk24 (shV BinOp.shr IntKind.u64 (IntKind.u64.wrap (IntKind.u64.wrap (h*6364136223846793005)+1442695040888963407)) 33)
 simp only [go_sem,↓reduceIte,Nat.reduceEqDiff,Nat.reduceAdd,reduceCtorEq]
 generalize bitsV BinOp.and IntKind.u64 (shV BinOp.shr IntKind.u64 (IntKind.u64.wrap (IntKind.u64.wrap (h*6364136223846793005)+1442695040888963407)) 33) 16777215=x at *
 generalize IntKind.u64.wrap (IntKind.u64.wrap (h*6364136223846793005)+1442695040888963407)=h' at *
 have fin:∀ y:Int,0≤y→0≤y.tmod n∧(y.tmod n=0∨y.tmod n<n):=fun y hy=>⟨Int.tmod_nonneg _ hy,.inr (Int.tmod_lt_of_pos _ (by omega))⟩
 have hby:=hb.by8 a
 refine RN ?_
 refine ⟨fun hc=>?_,fun hc=>?_⟩
 ·have hy:=hby (by omega)
  refine RN ?_
  refine ⟨(a+1,h', (x+bs.getD a 0).tmod n),⟨by dsimp only;omega,fin _ (by omega)⟩,?_⟩
  exact Ref.gc2 [0]
 ·(refine RN ?_;try with_reducible exact trivial)
  refine ⟨(a,h', x.tmod n),⟨by dsimp only;omega,fin _ (by omega)⟩,?_⟩
  exact Ref.gc2 [0]
end
section
open Go.Gov Go.Ce
open Classical
theorem l01From_p (bs:List Int)(hb:Byt bs):PureE Tryz.prog 34 [bytA' bs] (fun _:Int=>True) (fun _=>.ref 0 0) (fun h=>[some (srcC bs 0 h)]):=by
 have hfw:=hb.few
 unfold srcC bytA'
 refine pureREV ok34 rfl ?_;unfold c34
 refine RN ?_
 generalize IntKind.u64.wrap (8191+IntKind.u64.wrap (bs.length:Int))=h0
 refine V_loop (α:=Nat×Int) (S:=fun o=>([(0,.slc 1 bs.length (u8s bs)),(3,.ref 0 0),(4,i64 (o.1:Int))],[some [.slc 1 bs.length (u8s bs),.val (.int .i64 0),.val (.int .u64 o.2)]])) (C:=fun o=>o.1≤bs.length) (μ:=fun o=>bs.length - o.1) (0,h0) (Nat.zero_le _) (Ref.to1) ?_
 rintro ⟨i,h⟩ hi
 dsimp only at hi ⊢
 refine RN ?_
 refine ⟨fun hc=>?_,fun hc=>?_⟩
 ·(refine RN ?_;try with_reducible exact trivial)
  exact ⟨(i+1,_),by dsimp only;omega,by dsimp only;omega,Ref.to1⟩
 ·(refine RN ?_;try with_reducible exact trivial)
  exact ⟨h,Ref.gc2 [0]⟩
theorem Ref.row {n0 : Nat} {F : Gov.Frame} {H : Gov.Heap} (o o2 : Nat) {L : List (List Int)} {x : List Int} {n k : Nat} (ho : H[o]? = some (some ((L.map oints).take k ++ [.sl o2 1 0 n]))) (hk : L.length = k) (h2 : H[o2]? = some (some (intsC x))) (hn : x.length = n) (hne : o ≠ o2) :
    Ref n0 F H F ((H.set o (some ((L++[x]).map oints))).set o2 none):=by
 subst hk hn
 have e:(L.map oints).take L.length=L.map oints:=List.take_of_length_le (by simp)
 rw [e] at ho
 have r:=Ref.close (n0:=n0) (F:=F) o L.length o2 (k:=1) (n:=x.length) ho (by rw [List.getElem?_append_right (by simp)];simp) h2 hne (by simp [len_intsC])
 have hs:(L.map oints++[AV.sl o2 1 0 x.length]).set L.length (.osl 1 x.length (intsC x))=(L++[x]).map oints:=by
  rw [List.set_append_right _ _ (by simp)];simp [oints]
 rw [hs] at r
 exact r
end
section
open Go.Gov Go.Ce
open Classical
def Gd (most:Nat)(M:List (List Int)):Prop:=M.length≤6∧∀ p∈M,p.length≤most+1
end
section
open Go.Gov Go.Ce
open Classical
theorem Gd.nil (n:Nat):Gd n []:=⟨by simp,fun p hp=>by simp at hp⟩
end
end Go.Proofs.YtfcbamfkfadabaaGreatDoor
