/- Texts that belong together. -/
import Derived.Deep.SlicePairs
import Derived.Test.YtaekhhaaphgndaaGreatZm
import Derived.Test.YtaekhhaaphgndaaGreatZp
import Derived.Test.YtaekhhaaphgndaaGreatZt
set_option linter.unusedSimpArgs false
set_option linter.unusedVariables false
set_option maxRecDepth 100000
namespace Go.Proofs.YtaekhhaaphgndaaGreat
section
open Go.Gov
abbrev Tg:=Int×Int
def flt:List Tg→List Int
 | []=>[]
 | p :: l=>p.1 :: p.2 :: flt l
theorem flt_len:∀ (l:List Tg),(flt l).length=l.length*2
 | []=>rfl
 | p :: l=>by simp [flt,flt_len l];omega
abbrev T0:Tg:=(0,0)
abbrev tgs (l:List Tg):AV:=.slc 2 l.length (intsC (flt l))
abbrev otgs (l:List Tg):AV:=.osl 2 l.length (intsC (flt l))
theorem frz_otgs (H:Heap)(d:Nat)(l:List Tg):frz H (d+2) (otgs l)=tgs l:=by simp only [otgs,frz];rw [map_frz_ints]
theorem frz_tgs (H:Heap)(d:Nat)(l:List Tg):frz H (d+2) (tgs l)=tgs l:=by simp only [tgs,frz];rw [map_frz_ints]
theorem map_frz_tr (H:Heap)(d:Nat)(T:List (List Tg)):(T.map tgs).map (frz H (d+2))=T.map tgs:=by
 rw [List.map_map];exact List.map_congr_left fun l _=>frz_tgs H d l
theorem map_frz_otr (H:Heap)(d:Nat)(T:List (List Tg)):(T.map otgs).map (frz H (d+2))=T.map tgs:=by
 rw [List.map_map];exact List.map_congr_left fun l _=>frz_otgs H d l
theorem shf_otgs (n d:Nat)(l:List Tg):shf n d (otgs l)=otgs l:=by
 cases d with
 | zero=>rfl
 | succ d=>simp only [otgs,shf];rw [map_shf_ints]
theorem map_shf_otr (n d:Nat)(T:List (List Tg)):(T.map otgs).map (shf n d)=T.map otgs:=by
 rw [List.map_map];exact List.map_congr_left fun l _=>shf_otgs n d l
theorem all_nf_otr (d:Nat)(T:List (List Tg)):(T.map otgs).all (nf (d+2))=true:=by
 rw [List.all_map];exact List.all_eq_true.2 fun l _=>by simp only [Function.comp_apply,otgs,nf];exact all_nf_ints d _
theorem plain_tr (T:List (List Tg))(i:Nat):plainC ((T.map tgs).getD i .any)=true:=by
 by_cases h:i<T.length
 ·simp [h,plainC]
 ·simp [h,plainC]
theorem rnmL_tr (τ:Nat→Option Nat)(T:List (List Tg)):rnmL τ (T.map tgs)=T.map tgs:=by
 rw [rnmL_map,List.map_map];exact List.map_congr_left fun l _=>by simp only [Function.comp_apply,tgs,rnm,rnmL_ints]
theorem rnmL_otr (τ:Nat→Option Nat)(T:List (List Tg)):rnmL τ (T.map otgs)=T.map otgs:=by
 rw [rnmL_map,List.map_map];exact List.map_congr_left fun l _=>by simp only [Function.comp_apply,otgs,rnm,rnmL_ints]
theorem take_all_otr (T:List (List Tg)):(T.map otgs).take (T.length*1)=T.map otgs:=by rw [Nat.mul_one];exact List.take_of_length_le (by simp)
theorem take_otr (T:List (List Tg)):(T.map otgs).take T.length=T.map otgs:=List.take_of_length_le (by simp)
theorem take_flt (l:List Tg):(intsC (flt l)).take (l.length*2)=intsC (flt l):=List.take_of_length_le (by rw [len_intsC,flt_len];exact Nat.le_refl _)
theorem shr_otgs (σ:Nat→Nat)(d:Nat)(l:List Tg):shr σ d (otgs l)=otgs l:=by
 cases d with
 | zero=>rfl
 | succ d=>simp only [otgs,shr];rw [map_shr_ints]
theorem map_shr_otr (σ:Nat→Nat)(d:Nat)(T:List (List Tg)):(T.map otgs).map (shr σ d)=T.map otgs:=by
 rw [List.map_map];exact List.map_congr_left fun l _=>shr_otgs σ d l
attribute [go_sem] map_frz_tr map_frz_otr map_shf_otr all_nf_otr plain_tr rnmL_tr rnmL_otr take_all_otr take_otr take_flt map_shr_otr
end
section
open Go.Gov
open Classical
def Cmt (m n:Int):Prop:=m=n∨m<0∨n<0∨(m+n=2∧m≠1)
def tg (T:List (List Tg))(j i:Nat):Tg:=(T.getD j []).getD i T0
def TgOk (T:List (List Tg))(j i:Nat):Prop:=0≤(tg T j i).1∧(tg T j i).1≤(T.length:Int) - 1 ∧ -1≤(tg T j i).2∧(tg T j i).2≤2∧¬ ((tg T j i).1=j∧(tg T j i).2<0)
def TgInv (T:List (List Tg))(j i:Nat):Prop:=tg T (tg T j i).1.toNat i=((j:Int),(tg T j i).2)
def TgCom (T:List (List Tg))(j:Nat):Prop:=
 (tg T (tg T j 0).1.toNat 2).1=(tg T (tg T j 2).1.toNat 0).1∧(tg T (tg T j 0).1.toNat 2).2=(tg T j 2).2∧(tg T (tg T j 2).1.toNat 0).2=(tg T j 0).2∧Cmt (tg T j 0).2 (tg T j 2).2 ∧
 ¬ ((tg T j 0).2=(tg T j 2).2∧(tg T (tg T j 0).1.toNat 2).1=j)
structure IsTpl (T:List (List Tg)):Prop where
 p1:1≤T.length
 p2:T.length≤12
 len:∀ j,j<T.length→(T.getD j []).length=3
 ok:∀ j i,j<T.length→i<3→TgOk T j i
 inv:∀ j i,j<T.length→i<3→TgInv T j i
 com:∀ j,j<T.length→TgCom T j
end
end Go.Proofs.YtaekhhaaphgndaaGreat
