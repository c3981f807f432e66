/- Texts that belong together. -/
import Derived.Deep.SlicePairs
import Derived.Test.YtfcbamfkfadabaaGreatDoorZm
import Derived.Test.YtfcbamfkfadabaaGreatDoorZp
import Derived.Test.YtfcbamfkfadabaaGreatDoorZt
set_option linter.unusedSimpArgs false
set_option linter.unusedVariables false
set_option maxRecDepth 100000
namespace Go.Proofs.YtfcbamfkfadabaaGreatDoor
section
open Go.Gov
abbrev Tg:=Int×Int
def flt:List Tg→List Int
 | []=>[]
 | p :: l=>p.1 :: p.2 :: flt l
theorem flt_len:∀ (l:List Tg),(flt l).length=l.length*2
 | []=>rfl
 | p :: l=>by simp [flt,flt_len l];omega
theorem flt_app:∀ (a b:List Tg),flt (a++b)=flt a++flt b
 | [],b=>rfl
 | p :: a,b=>by simp [flt,flt_app a b]
theorem flt_drop:∀ (l:List Tg) (i:Nat),(flt l).drop (i*2)=flt (l.drop i)
 | l,0=>by simp
 | [],i+1=>by simp [flt]
 | p :: l,i+1=>by
  rw [show (i+1)*2=i*2+1+1 by omega,flt,List.drop_succ_cons,List.drop_succ_cons,flt_drop l i,List.drop_succ_cons]
abbrev T0:Tg:=(0,0)
theorem flt_at0:∀ (l:List Tg) (i:Nat),(flt l).getD (i*2) 0=(l.getD i T0).1
 | [],i=>by simp [flt]
 | p :: l,0=>rfl
 | p :: l,i+1=>by
  rw [show (i+1)*2=i*2+1+1 by omega,flt,List.getD_cons_succ,List.getD_cons_succ,flt_at0 l i,List.getD_cons_succ]
theorem flt_at1:∀ (l:List Tg) (i:Nat),(flt l).getD (i*2+1) 0=(l.getD i T0).2
 | [],i=>by simp [flt]
 | p :: l,0=>rfl
 | p :: l,i+1=>by
  rw [show (i+1)*2+1=(i*2+1)+1+1 by omega,flt,List.getD_cons_succ,List.getD_cons_succ,flt_at1 l i,List.getD_cons_succ]
theorem flt_two (l:List Tg)(i:Nat)(h:i<l.length):((intsC (flt l)).drop (i*2)).take 2=[i64 (l.getD i T0).1,i64 (l.getD i T0).2]:=by
 rw [drop_intsC,take_intsC,flt_drop,List.drop_eq_getElem_cons h]
 simp [flt,intsC,h]
abbrev tgs (l:List Tg):AV:=.slc 2 l.length (intsC (flt l))
abbrev otgs (l:List Tg):AV:=.osl 2 l.length (intsC (flt l))
abbrev tmt (T:List (List Tg)):AV:=.slc 1 T.length (T.map tgs)
theorem tmt_at (T:List (List Tg))(i:Nat)(h:i<T.length):(T.map tgs).getD i (.slc 1 0 [])=tgs (T.getD i []):=by simp [h]
theorem tmt_any (T:List (List Tg))(i:Nat)(h:i<T.length):(T.map tgs).getD i .any=tgs (T.getD i []):=by simp [h]
theorem frz_otgs (H:Heap)(d:Nat)(l:List Tg):frz H (d+2) (otgs l)=tgs l:=by simp only [otgs,frz];rw [map_frz_ints]
theorem frz_tgs (H:Heap)(d:Nat)(l:List Tg):frz H (d+2) (tgs l)=tgs l:=by simp only [tgs,frz];rw [map_frz_ints]
theorem map_frz_tr (H:Heap)(d:Nat)(T:List (List Tg)):(T.map tgs).map (frz H (d+2))=T.map tgs:=by
 rw [List.map_map];exact List.map_congr_left fun l _=>frz_tgs H d l
theorem map_frz_otr (H:Heap)(d:Nat)(T:List (List Tg)):(T.map otgs).map (frz H (d+2))=T.map tgs:=by
 rw [List.map_map];exact List.map_congr_left fun l _=>frz_otgs H d l
theorem shf_otgs (n d:Nat)(l:List Tg):shf n d (otgs l)=otgs l:=by
 cases d with
 | zero=>rfl
 | succ d=>simp only [otgs,shf];rw [map_shf_ints]
theorem map_shf_otr (n d:Nat)(T:List (List Tg)):(T.map otgs).map (shf n d)=T.map otgs:=by
 rw [List.map_map];exact List.map_congr_left fun l _=>shf_otgs n d l
theorem all_nf_otr (d:Nat)(T:List (List Tg)):(T.map otgs).all (nf (d+2))=true:=by
 rw [List.all_map];exact List.all_eq_true.2 fun l _=>by simp only [Function.comp_apply,otgs,nf];exact all_nf_ints d _
theorem plain_tr (T:List (List Tg))(i:Nat):plainC ((T.map tgs).getD i .any)=true:=by
 by_cases h:i<T.length
 ·simp [h,plainC]
 ·simp [h,plainC]
theorem rnmL_tr (τ:Nat→Option Nat)(T:List (List Tg)):rnmL τ (T.map tgs)=T.map tgs:=by
 rw [rnmL_map,List.map_map];exact List.map_congr_left fun l _=>by simp only [Function.comp_apply,tgs,rnm,rnmL_ints]
theorem rnmL_otr (τ:Nat→Option Nat)(T:List (List Tg)):rnmL τ (T.map otgs)=T.map otgs:=by
 rw [rnmL_map,List.map_map];exact List.map_congr_left fun l _=>by simp only [Function.comp_apply,otgs,rnm,rnmL_ints]
attribute [go_sem] map_frz_tr map_frz_otr map_shf_otr all_nf_otr plain_tr rnmL_tr rnmL_otr
abbrev tplA (T:List (List Tg)):AV:=.agg [tmt T]
end
section
open Go.Gov
open Classical
def Cmt (m n:Int):Prop:=m=n∨m<0∨n<0∨(m+n=2∧m≠1)
def tg (T:List (List Tg))(j i:Nat):Tg:=(T.getD j []).getD i T0
def TgOk (T:List (List Tg))(j i:Nat):Prop:=0≤(tg T j i).1∧(tg T j i).1≤(T.length:Int) - 1 ∧ -1≤(tg T j i).2∧(tg T j i).2≤2∧¬ ((tg T j i).1=j∧(tg T j i).2<0)
def TgInv (T:List (List Tg))(j i:Nat):Prop:=tg T (tg T j i).1.toNat i=((j:Int),(tg T j i).2)
def TgCom (T:List (List Tg))(j:Nat):Prop:=
 (tg T (tg T j 0).1.toNat 2).1=(tg T (tg T j 2).1.toNat 0).1∧(tg T (tg T j 0).1.toNat 2).2=(tg T j 2).2∧(tg T (tg T j 2).1.toNat 0).2=(tg T j 0).2∧Cmt (tg T j 0).2 (tg T j 2).2 ∧
 ¬ ((tg T j 0).2=(tg T j 2).2∧(tg T (tg T j 0).1.toNat 2).1=j)
structure IsTpl (T:List (List Tg)):Prop where
 p1:1≤T.length
 p2:T.length≤12
 len:∀ j,j<T.length→(T.getD j []).length=3
 ok:∀ j i,j<T.length→i<3→TgOk T j i
 inv:∀ j i,j<T.length→i<3→TgInv T j i
 com:∀ j,j<T.length→TgCom T j
end
section
open Go.Gov
open Classical
theorem sizeT_c (T:List (List Tg))(hl:T.length≤1048576):Pure Tryz.prog 128 [tmt T] (i64 T.length) []:=by
 refine pureV ok128 rfl ?_;unfold c128
 (refine RN ?_;try with_reducible exact trivial)
end
section
open Go.Gov
open Classical
def apV (M:List (List Int))(T:List (List Tg))(i f j:Nat):Int:=(if 0≤(tg T j i).2 then (M.getD (tg T j i).2.toNat []).getD f 0 else (f:Int))*T.length+(tg T j i).1
def apR (M:List (List Int))(T:List (List Tg))(i f m:Nat):List Int:=(List.range m).map fun j=>apV M T i f j
def apF (M:List (List Int))(T:List (List Tg))(i k:Nat):List Int:=(List.range k).flatMap fun f=>apR M T i f T.length
def apM (M:List (List Int))(T:List (List Tg))(k:Nat):List (List Int):=(List.range k).map fun i=>apF M T i (fl M)
theorem apR_succ (M:List (List Int))(T:List (List Tg))(i f m:Nat):apR M T i f (m+1)=apR M T i f m++[apV M T i f m]:=by simp [apR,List.range_succ]
theorem apF_succ (M:List (List Int))(T:List (List Tg))(i k:Nat):apF M T i (k+1)=apF M T i k++apR M T i k T.length:=by simp [apF,List.range_succ]
theorem apM_succ (M:List (List Int))(T:List (List Tg))(k:Nat):apM M T (k+1)=apM M T k++[apF M T k (fl M)]:=by simp [apM,List.range_succ]
theorem apR_len (M:List (List Int))(T:List (List Tg))(i f m:Nat):(apR M T i f m).length=m:=by simp [apR]
theorem apF_len (M:List (List Int))(T:List (List Tg))(i:Nat):∀ k,(apF M T i k).length=k*T.length
 | 0=>by simp [apF]
 | k+1=>by rw [apF_succ,List.length_append,apF_len M T i k,apR_len,Nat.add_mul];omega
theorem apM_len (M:List (List Int))(T:List (List Tg))(k:Nat):(apM M T k).length=k:=by simp [apM]
end
end Go.Proofs.YtfcbamfkfadabaaGreatDoor
