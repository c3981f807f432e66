/- Texts that belong together. -/
import Derived.Deep.SlicePairs
import Derived.Test.YtnompobcofhkpaaGreatDoorZm
import Derived.Test.YtnompobcofhkpaaGreatDoorZp
import Derived.Test.YtnompobcofhkpaaGreatDoorZt
set_option linter.unusedSimpArgs false
set_option linter.unusedVariables false
set_option maxRecDepth 100000
namespace Go.Proofs.YtnompobcofhkpaaGreatDoor
section
open Go.Gov
abbrev Tg:=Int×Int
def Ar:List Tg→List Int
 | []=>[]
 | p :: l=>p.1 :: p.2 :: Ar l
theorem G7:∀ (l:List Tg),(Ar l).length=l.length*2
 | []=>rfl
 | p :: l=>by simp [Ar,G7 l];omega
theorem Mb:∀ (a b:List Tg),Ar (a++b)=Ar a++Ar b
 | [],b=>rfl
 | p :: a,b=>by simp [Ar,Mb a b]
theorem eB:∀ (l:List Tg) (i:Nat),(Ar l).drop (i*2)=Ar (l.drop i)
 | l,0=>by simp
 | [],i+1=>by simp [Ar]
 | p :: l,i+1=>by
  rw [show (i+1)*2=i*2+1+1 by omega,Ar,List.drop_succ_cons,List.drop_succ_cons,eB l i,List.drop_succ_cons]
abbrev T0:Tg:=(0,0)
theorem Oc:∀ (l:List Tg) (i:Nat),(Ar l).getD (i*2) 0=(l.getD i T0).1
 | [],i=>by simp [Ar]
 | p :: l,0=>rfl
 | p :: l,i+1=>by
  rw [show (i+1)*2=i*2+1+1 by omega,Ar,List.getD_cons_succ,List.getD_cons_succ,Oc l i,List.getD_cons_succ]
theorem Oe:∀ (l:List Tg) (i:Nat),(Ar l).getD (i*2+1) 0=(l.getD i T0).2
 | [],i=>by simp [Ar]
 | p :: l,0=>rfl
 | p :: l,i+1=>by
  rw [show (i+1)*2+1=(i*2+1)+1+1 by omega,Ar,List.getD_cons_succ,List.getD_cons_succ,Oe l i,List.getD_cons_succ]
theorem Og (l:List Tg)(i:Nat)(h:i<l.length):((Aa (Ar l)).drop (i*2)).take 2=[i64 (l.getD i T0).1,i64 (l.getD i T0).2]:=by
 rw [L9,Lp,eB,List.drop_eq_getElem_cons h]
 simp [Ar,Aa,h]
abbrev D8 (l:List Tg):AV:=.slc 2 l.length (Aa (Ar l))
abbrev Bw (l:List Tg):AV:=.osl 2 l.length (Aa (Ar l))
abbrev Cv (T:List (List Tg)):AV:=.slc 1 T.length (T.map D8)
theorem Nc (T:List (List Tg))(i:Nat)(h:i<T.length):(T.map D8).getD i (.slc 1 0 [])=D8 (T.getD i []):=by simp [h]
theorem Nb (T:List (List Tg))(i:Nat)(h:i<T.length):(T.map D8).getD i .any=D8 (T.getD i []):=by simp [h]
theorem vB (H:Heap)(d:Nat)(l:List Tg):Aj H (d+2) (Bw l)=D8 l:=by simp only [Bw,Aj];rw [Fl]
theorem vD (H:Heap)(d:Nat)(l:List Tg):Aj H (d+2) (D8 l)=D8 l:=by simp only [D8,Aj];rw [Fl]
theorem Aai (H:Heap)(d:Nat)(T:List (List Tg)):(T.map D8).map (Aj H (d+2))=T.map D8:=by
 rw [List.map_map];exact List.map_congr_left fun l _=>vD H d l
theorem Aag (H:Heap)(d:Nat)(T:List (List Tg)):(T.map Bw).map (Aj H (d+2))=T.map D8:=by
 rw [List.map_map];exact List.map_congr_left fun l _=>vB H d l
theorem Ajv (n d:Nat)(l:List Tg):A6 n d (Bw l)=Bw l:=by
 cases d with
 | zero=>rfl
 | succ d=>simp only [Bw,A6];rw [V1]
theorem Aan (n d:Nat)(T:List (List Tg)):(T.map Bw).map (A6 n d)=T.map Bw:=by
 rw [List.map_map];exact List.map_congr_left fun l _=>Ajv n d l
theorem qO (d:Nat)(T:List (List Tg)):(T.map Bw).all (nf (d+2))=true:=by
 rw [List.all_map];exact List.all_eq_true.2 fun l _=>by simp only [Function.comp_apply,Bw,nf];exact Ty d _
theorem Agu (T:List (List Tg))(i:Nat):Bp ((T.map D8).getD i .any)=true:=by
 by_cases h:i<T.length
 ·simp [h,Bp]
 ·simp [h,Bp]
theorem Ai5 (τ:Nat→Option Nat)(T:List (List Tg)):A5 τ (T.map D8)=T.map D8:=by
 rw [Bu,List.map_map];exact List.map_congr_left fun l _=>by simp only [Function.comp_apply,D8,Am,Cr]
theorem Ai1 (τ:Nat→Option Nat)(T:List (List Tg)):A5 τ (T.map Bw)=T.map Bw:=by
 rw [Bu,List.map_map];exact List.map_congr_left fun l _=>by simp only [Function.comp_apply,Bw,Am,Cr]
attribute [go_sem] Aai Aag Aan qO Agu Ai5 Ai1
abbrev Nd (T:List (List Tg)):AV:=.agg [Cv T]
end
section
open Go.Gov
open Classical
def Lu (m n:Int):Prop:=m=n∨m<0∨n<0∨(m+n=2∧m≠1)
def tg (T:List (List Tg))(j i:Nat):Tg:=(T.getD j []).getD i T0
def Kn (T:List (List Tg))(j i:Nat):Prop:=0≤(tg T j i).1∧(tg T j i).1≤(T.length:Int) - 1 ∧ -1≤(tg T j i).2∧(tg T j i).2≤2∧¬ ((tg T j i).1=j∧(tg T j i).2<0)
def Lz (T:List (List Tg))(j i:Nat):Prop:=tg T (tg T j i).1.toNat i=((j:Int),(tg T j i).2)
def Tu (T:List (List Tg))(j:Nat):Prop:=
 (tg T (tg T j 0).1.toNat 2).1=(tg T (tg T j 2).1.toNat 0).1∧(tg T (tg T j 0).1.toNat 2).2=(tg T j 2).2∧(tg T (tg T j 2).1.toNat 0).2=(tg T j 0).2∧Lu (tg T j 0).2 (tg T j 2).2 ∧
 ¬ ((tg T j 0).2=(tg T j 2).2∧(tg T (tg T j 0).1.toNat 2).1=j)
structure Bs (T:List (List Tg)):Prop where
 p1:1≤T.length
 p2:T.length≤12
 len:∀ j,j<T.length→(T.getD j []).length=3
 ok:∀ j i,j<T.length→i<3→Kn T j i
 inv:∀ j i,j<T.length→i<3→Lz T j i
 com:∀ j,j<T.length→Tu T j
end
section
open Go.Gov
open Classical
theorem nR (T:List (List Tg))(hl:T.length≤1048576):Pure Tryz.prog 101 [Cv T] (i64 T.length) []:=by
 refine Cu Abw rfl ?_;unfold Yj
 (refine RN ?_;try with_reducible exact trivial)
end
section
open Go.Gov
open Classical
def Hq (M:List (List Int))(T:List (List Tg))(i f j:Nat):Int:=(if 0≤(tg T j i).2 then (M.getD (tg T j i).2.toNat []).getD f 0 else (f:Int))*T.length+(tg T j i).1
def Dt (M:List (List Int))(T:List (List Tg))(i f m:Nat):List Int:=(List.range m).map fun j=>Hq M T i f j
def B9 (M:List (List Int))(T:List (List Tg))(i k:Nat):List Int:=(List.range k).flatMap fun f=>Dt M T i f T.length
def Bc (M:List (List Int))(T:List (List Tg))(k:Nat):List (List Int):=(List.range k).map fun i=>B9 M T i (fl M)
theorem X7 (M:List (List Int))(T:List (List Tg))(i f m:Nat):Dt M T i f (m+1)=Dt M T i f m++[Hq M T i f m]:=by simp [Dt,List.range_succ]
theorem P6 (M:List (List Int))(T:List (List Tg))(i k:Nat):B9 M T i (k+1)=B9 M T i k++Dt M T i k T.length:=by simp [B9,List.range_succ]
theorem X6 (M:List (List Int))(T:List (List Tg))(k:Nat):Bc M T (k+1)=Bc M T k++[B9 M T k (fl M)]:=by simp [Bc,List.range_succ]
theorem T6 (M:List (List Int))(T:List (List Tg))(i f m:Nat):(Dt M T i f m).length=m:=by simp [Dt]
theorem G1 (M:List (List Int))(T:List (List Tg))(i:Nat):∀ k,(B9 M T i k).length=k*T.length
 | 0=>by simp [B9]
 | k+1=>by rw [P6,List.length_append,G1 M T i k,T6,Nat.add_mul];omega
theorem P7 (M:List (List Int))(T:List (List Tg))(k:Nat):(Bc M T k).length=k:=by simp [Bc]
end
end Go.Proofs.YtnompobcofhkpaaGreatDoor
