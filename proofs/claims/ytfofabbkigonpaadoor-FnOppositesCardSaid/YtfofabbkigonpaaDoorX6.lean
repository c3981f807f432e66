/- Texts that belong together. -/
import Derived.Test.YtfofabbkigonpaaDoorZj
import Derived.Test.YtfofabbkigonpaaDoorZt
set_option linter.unusedSimpArgs false
set_option linter.unusedVariables false
set_option maxRecDepth 100000
namespace Go.Proofs.YtfofabbkigonpaaDoor
section
open Go.Gov
open Classical
def bC (bs:List UInt8):List AV:=bs.map fun b=>.val (.int .u8 (b.toNat:Int))
theorem dT (a b:List UInt8):bC a++bC b=bC (a++b):=by simp [bC]
theorem Tf (bs:List UInt8):(bC bs).length=bs.length:=by simp [bC]
theorem aF:∀ bs:List UInt8,Jc (bC bs)=some bs
 | []=>rfl
 | b :: bs=>by
  have ih:=aF bs
  show (Jc (bC bs)).map (UInt8.ofNat (b.toNat:Int).toNat :: ·)=_
  rw [ih]
  simp
theorem dX (bs:List UInt8):(bC bs).take bs.length=bC bs:=List.take_of_length_le (by rw [Tf];exact Nat.le_refl _)
theorem Ti (bs:List UInt8):(bC bs).all Bf=true:=List.all_eq_true.2 fun x hx=>by
 obtain ⟨y,_,rfl⟩:=List.mem_map.1 hx
 rfl
theorem Th (bs:List UInt8):(bC bs).all B1=true:=List.all_eq_true.2 fun x hx=>by
 obtain ⟨y,_,rfl⟩:=List.mem_map.1 hx
 rfl
theorem Tj (τ:Nat→Option Nat)(bs:List UInt8):Av τ (bC bs)=bC bs:=by
 rw [A8]
 exact (List.map_congr_left fun x hx=>by
  obtain ⟨y,_,rfl⟩:=List.mem_map.1 hx
  rfl).trans (List.map_id _)
theorem wH (bs:List UInt8):(⟨bs.toArray⟩:ByteArray).size=bs.length:=by
 show bs.toArray.size=_
 simp
theorem dV (d:Nat)(bs:List UInt8):(bC bs).all (nf (d+1))=true:=List.all_eq_true.2 fun x hx=>by
 obtain ⟨y,_,rfl⟩:=List.mem_map.1 hx
 rfl
theorem dW (σ:Nat→Nat)(d:Nat)(bs:List UInt8):(bC bs).map (shr σ (d+1))=bC bs:=(List.map_congr_left fun x hx=>by
 obtain ⟨y,_,rfl⟩:=List.mem_map.1 hx
 rfl).trans (List.map_id _)
theorem dU (H:Heap)(d:Nat)(bs:List UInt8):(bC bs).map (Ai H (d+1))=bC bs:=(List.map_congr_left fun x hx=>by
 obtain ⟨y,_,rfl⟩:=List.mem_map.1 hx
 rfl).trans (List.map_id _)
attribute [go_sem] dV dW dU dT Tf aF dX Ti Th Tj wH
def Gj (n:Nat):List UInt8:=if n<10 then [UInt8.ofNat (48+n)] else [UInt8.ofNat (48+n / 10),UInt8.ofNat (48+n%10)]
def kA (xs:List Int):List UInt8:=xs.flatMap fun n=>Gj n.toNat++[32]
theorem aA (n:Nat):(Gj n).length≤2:=by
 unfold Gj
 split<;>simp
theorem wL (n:Nat)(hn:n<100):Ao Tryd.prog 141 [i64 (n:Int)] (.val (.string ⟨(Gj n).toArray⟩)) []:=by
 refine Gf oP rfl rfl ?_;unfold T5
 refine RN ?_
 refine ⟨fun hc=>?_,fun hc=>?_⟩
 ·refine ⟨by omega,by first | omega | (simp only [List.size_toArray,List.length_cons,List.length_nil,Nat.reduceAdd];omega),?_⟩
  refine RN ?_
  refine congrArg (fun b=>AV.val (.string b)) ?_
  have h10:n<10:=by omega
  clear hn hc
  revert n
  decide +kernel
 ·(repeat first | simp only [go_sem,↓reduceIte,Nat.reduceEqDiff,Nat.reduceAdd,reduceCtorEq,List.size_toArray,List.length_cons,List.length_nil] | refine RX ?_ | decide)
  refine congrArg (fun b=>AV.val (.string b)) ?_
  rw [show ((n:Int)*2).toNat=n*2 by omega,show ((n:Int)*2+2).toNat=n*2+2 by omega]
  have h10:10≤n:=by omega
  clear hc
  revert n
  decide +kernel
end
section
open Go.Gov
open Classical
def Zj:Nat→List Int→List (List Int)
 | 0,_=>[[]]
 | _+1,[]=>[]
 | k+1,x :: xs=>(Zj k xs).map (x :: ·)++Zj (k+1) xs
end
section
open Go.Gov
open Classical
def Sml (p:List Int):Prop:=∀ x∈p,0≤x∧x<100
theorem Sml.at {p:List Int}(h:Sml p)(i:Nat)(hi:i<p.length):0≤p.getD i 0∧p.getD i 0<100:=by
 refine h _ ?_
 rw [List.getD_eq_getElem?_getD,List.getElem?_eq_getElem hi]
 exact List.getElem_mem hi
def kT (p:List Int):ByteArray:=⟨(kA p).toArray⟩
def MapIs (l:List (ByteArray×Bool))(S:ByteArray→Prop):Prop:=∀ n,A7 n l=if S n then some true else none
theorem MapIs.nil:MapIs [] fun _=>False:=fun n=>by rw [if_neg id];rfl
theorem MapIs.put {l:List (ByteArray×Bool)}{S:ByteArray→Prop}(h:MapIs l S)(n:ByteArray):MapIs (Bg n true l) fun m=>S m∨m=n:=fun m=>by
 rw [Nw]
 by_cases e:m=n
 ·subst e
  rw [if_pos (by simp),if_pos (.inr rfl)]
 ·rw [if_neg (by simpa using e),h m]
  by_cases hs:S m
  ·rw [if_pos hs,if_pos (.inl hs)]
  ·rw [if_neg hs,if_neg (by rintro (h | h);exact hs h;exact e h)]
theorem MapIs.same {l:List (ByteArray×Bool)}{S T:ByteArray→Prop}(h:MapIs l S)(hs:∀ n,S n ↔ T n):MapIs l T:=fun n=>by
 rw [h n]
 by_cases hx:S n
 ·rw [if_pos hx,if_pos ((hs n).1 hx)]
 ·rw [if_neg hx,if_neg fun h=>hx ((hs n).2 h)]
def bV (b:Bool):AV:=.val (.bool b)
theorem wM (l:List (ByteArray×Bool)):Ar (fun x=>.val (.bool x)) l=Ar bV l:=rfl
attribute [go_sem] wM
end
end Go.Proofs.YtfofabbkigonpaaDoor
