/- Texts that belong together. -/
import Derived.Deep.SlicePairs
import Derived.Test.YtnompobcofhkpaaGreatDoorZm
import Derived.Test.YtnompobcofhkpaaGreatDoorZp
import Derived.Test.YtnompobcofhkpaaGreatDoorZt
set_option linter.unusedSimpArgs false
set_option linter.unusedVariables false
set_option maxRecDepth 100000
namespace Go.Proofs.YtnompobcofhkpaaGreatDoor
section
open Go.Gov
abbrev Tg:=Int×Int
def Ar:List Tg→List Int
 | []=>[]
 | p :: l=>p.1 :: p.2 :: Ar l
theorem G3:∀ (l:List Tg),(Ar l).length=l.length*2
 | []=>rfl
 | p :: l=>by simp [Ar,G3 l];omega
theorem L5:∀ (a b:List Tg),Ar (a++b)=Ar a++Ar b
 | [],b=>rfl
 | p :: a,b=>by simp [Ar,L5 a b]
theorem dR:∀ (l:List Tg) (i:Nat),(Ar l).drop (i*2)=Ar (l.drop i)
 | l,0=>by simp
 | [],i+1=>by simp [Ar]
 | p :: l,i+1=>by
  rw [show (i+1)*2=i*2+1+1 by omega,Ar,List.drop_succ_cons,List.drop_succ_cons,dR l i,List.drop_succ_cons]
abbrev T0:Tg:=(0,0)
theorem N5:∀ (l:List Tg) (i:Nat),(Ar l).getD (i*2) 0=(l.getD i T0).1
 | [],i=>by simp [Ar]
 | p :: l,0=>rfl
 | p :: l,i+1=>by
  rw [show (i+1)*2=i*2+1+1 by omega,Ar,List.getD_cons_succ,List.getD_cons_succ,N5 l i,List.getD_cons_succ]
theorem N6:∀ (l:List Tg) (i:Nat),(Ar l).getD (i*2+1) 0=(l.getD i T0).2
 | [],i=>by simp [Ar]
 | p :: l,0=>rfl
 | p :: l,i+1=>by
  rw [show (i+1)*2+1=(i*2+1)+1+1 by omega,Ar,List.getD_cons_succ,List.getD_cons_succ,N6 l i,List.getD_cons_succ]
theorem N8 (l:List Tg)(i:Nat)(h:i<l.length):((Aa (Ar l)).drop (i*2)).take 2=[i64 (l.getD i T0).1,i64 (l.getD i T0).2]:=by
 rw [L3,Li,dR,List.drop_eq_getElem_cons h]
 simp [Ar,Aa,h]
abbrev D7 (l:List Tg):AV:=.slc 2 l.length (Aa (Ar l))
abbrev Bw (l:List Tg):AV:=.osl 2 l.length (Aa (Ar l))
abbrev Cv (T:List (List Tg)):AV:=.slc 1 T.length (T.map D7)
theorem M6 (T:List (List Tg))(i:Nat)(h:i<T.length):(T.map D7).getD i (.slc 1 0 [])=D7 (T.getD i []):=by simp [h]
theorem M5 (T:List (List Tg))(i:Nat)(h:i<T.length):(T.map D7).getD i .any=D7 (T.getD i []):=by simp [h]
theorem uQ (H:Heap)(d:Nat)(l:List Tg):Aj H (d+2) (Bw l)=D7 l:=by simp only [Bw,Aj];rw [Fi]
theorem uS (H:Heap)(d:Nat)(l:List Tg):Aj H (d+2) (D7 l)=D7 l:=by simp only [D7,Aj];rw [Fi]
theorem zX (H:Heap)(d:Nat)(T:List (List Tg)):(T.map D7).map (Aj H (d+2))=T.map D7:=by
 rw [List.map_map];exact List.map_congr_left fun l _=>uS H d l
theorem zV (H:Heap)(d:Nat)(T:List (List Tg)):(T.map Bw).map (Aj H (d+2))=T.map D7:=by
 rw [List.map_map];exact List.map_congr_left fun l _=>uQ H d l
theorem Aji (n d:Nat)(l:List Tg):A6 n d (Bw l)=Bw l:=by
 cases d with
 | zero=>rfl
 | succ d=>simp only [Bw,A6];rw [Vs]
theorem Aac (n d:Nat)(T:List (List Tg)):(T.map Bw).map (A6 n d)=T.map Bw:=by
 rw [List.map_map];exact List.map_congr_left fun l _=>Aji n d l
theorem qD (d:Nat)(T:List (List Tg)):(T.map Bw).all (nf (d+2))=true:=by
 rw [List.all_map];exact List.all_eq_true.2 fun l _=>by simp only [Function.comp_apply,Bw,nf];exact Tp d _
theorem Agh (T:List (List Tg))(i:Nat):Bp ((T.map D7).getD i .any)=true:=by
 by_cases h:i<T.length
 ·simp [h,Bp]
 ·simp [h,Bp]
theorem Ais (τ:Nat→Option Nat)(T:List (List Tg)):A5 τ (T.map D7)=T.map D7:=by
 rw [Bu,List.map_map];exact List.map_congr_left fun l _=>by simp only [Function.comp_apply,D7,Am,Cr]
theorem Aio (τ:Nat→Option Nat)(T:List (List Tg)):A5 τ (T.map Bw)=T.map Bw:=by
 rw [Bu,List.map_map];exact List.map_congr_left fun l _=>by simp only [Function.comp_apply,Bw,Am,Cr]
attribute [go_sem] zX zV Aac qD Agh Ais Aio
abbrev M7 (T:List (List Tg)):AV:=.agg [Cv T]
end
section
open Go.Gov
open Classical
def Lo (m n:Int):Prop:=m=n∨m<0∨n<0∨(m+n=2∧m≠1)
def tg (T:List (List Tg))(j i:Nat):Tg:=(T.getD j []).getD i T0
def Kh (T:List (List Tg))(j i:Nat):Prop:=0≤(tg T j i).1∧(tg T j i).1≤(T.length:Int) - 1 ∧ -1≤(tg T j i).2∧(tg T j i).2≤2∧¬ ((tg T j i).1=j∧(tg T j i).2<0)
def Lt (T:List (List Tg))(j i:Nat):Prop:=tg T (tg T j i).1.toNat i=((j:Int),(tg T j i).2)
def Tl (T:List (List Tg))(j:Nat):Prop:=
 (tg T (tg T j 0).1.toNat 2).1=(tg T (tg T j 2).1.toNat 0).1∧(tg T (tg T j 0).1.toNat 2).2=(tg T j 2).2∧(tg T (tg T j 2).1.toNat 0).2=(tg T j 0).2∧Lo (tg T j 0).2 (tg T j 2).2 ∧
 ¬ ((tg T j 0).2=(tg T j 2).2∧(tg T (tg T j 0).1.toNat 2).1=j)
structure Bs (T:List (List Tg)):Prop where
 p1:1≤T.length
 p2:T.length≤12
 len:∀ j,j<T.length→(T.getD j []).length=3
 ok:∀ j i,j<T.length→i<3→Kh T j i
 inv:∀ j i,j<T.length→i<3→Lt T j i
 com:∀ j,j<T.length→Tl T j
end
section
open Go.Gov
open Classical
theorem nG (T:List (List Tg))(hl:T.length≤1048576):Pure Tryz.prog 101 [Cv T] (i64 T.length) []:=by
 refine Cu Abl rfl ?_;unfold Ya
 (refine RN ?_;try with_reducible exact trivial)
end
section
open Go.Gov
open Classical
def Hm (M:List (List Int))(T:List (List Tg))(i f j:Nat):Int:=(if 0≤(tg T j i).2 then (M.getD (tg T j i).2.toNat []).getD f 0 else (f:Int))*T.length+(tg T j i).1
def Ds (M:List (List Int))(T:List (List Tg))(i f m:Nat):List Int:=(List.range m).map fun j=>Hm M T i f j
def B9 (M:List (List Int))(T:List (List Tg))(i k:Nat):List Int:=(List.range k).flatMap fun f=>Ds M T i f T.length
def Bc (M:List (List Int))(T:List (List Tg))(k:Nat):List (List Int):=(List.range k).map fun i=>B9 M T i (fl M)
theorem Xx (M:List (List Int))(T:List (List Tg))(i f m:Nat):Ds M T i f (m+1)=Ds M T i f m++[Hm M T i f m]:=by simp [Ds,List.range_succ]
theorem Py (M:List (List Int))(T:List (List Tg))(i k:Nat):B9 M T i (k+1)=B9 M T i k++Ds M T i k T.length:=by simp [B9,List.range_succ]
theorem Xw (M:List (List Int))(T:List (List Tg))(k:Nat):Bc M T (k+1)=Bc M T k++[B9 M T k (fl M)]:=by simp [Bc,List.range_succ]
theorem Tu (M:List (List Int))(T:List (List Tg))(i f m:Nat):(Ds M T i f m).length=m:=by simp [Ds]
theorem Gx (M:List (List Int))(T:List (List Tg))(i:Nat):∀ k,(B9 M T i k).length=k*T.length
 | 0=>by simp [B9]
 | k+1=>by rw [Py,List.length_append,Gx M T i k,Tu,Nat.add_mul];omega
theorem Pz (M:List (List Int))(T:List (List Tg))(k:Nat):(Bc M T k).length=k:=by simp [Bc]
end
end Go.Proofs.YtnompobcofhkpaaGreatDoor
