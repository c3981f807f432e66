/- Texts that belong together. -/
import Derived.Test.YtaekhhaaphgndaaGreatDoorZj
import Derived.Test.YtaekhhaaphgndaaGreatDoorZt
set_option linter.unusedSimpArgs false
set_option linter.unusedVariables false
set_option maxRecDepth 100000
namespace Go.Proofs.YtaekhhaaphgndaaGreatDoor
section
open Go.Gov
open Classical
def bC (bs:List UInt8):List AV:=bs.map fun b=>.val (.int .u8 (b.toNat:Int))
theorem bC_app (a b:List UInt8):bC a++bC b=bC (a++b):=by simp [bC]
theorem bC_len (bs:List UInt8):(bC bs).length=bs.length:=by simp [bC]
theorem strA_bC:∀ bs:List UInt8,strA (bC bs)=some bs
 | []=>rfl
 | b :: bs=>by
  have ih:=strA_bC bs
  show (strA (bC bs)).map (UInt8.ofNat (b.toNat:Int).toNat :: ·)=_
  rw [ih]
  simp
theorem bC_take (bs:List UInt8):(bC bs).take bs.length=bC bs:=List.take_of_length_le (by rw [bC_len];exact Nat.le_refl _)
theorem bC_plain (bs:List UInt8):(bC bs).all plainC=true:=List.all_eq_true.2 fun x hx=>by
 obtain ⟨y,_,rfl⟩:=List.mem_map.1 hx
 rfl
theorem bC_one (bs:List UInt8):(bC bs).all oneA=true:=List.all_eq_true.2 fun x hx=>by
 obtain ⟨y,_,rfl⟩:=List.mem_map.1 hx
 rfl
theorem bC_rnm (τ:Nat→Option Nat)(bs:List UInt8):rnmL τ (bC bs)=bC bs:=by
 rw [rnmL_map]
 exact (List.map_congr_left fun x hx=>by
  obtain ⟨y,_,rfl⟩:=List.mem_map.1 hx
  rfl).trans (List.map_id _)
theorem size_of (bs:List UInt8):(⟨bs.toArray⟩:ByteArray).size=bs.length:=by
 show bs.toArray.size=_
 simp
theorem bC_nf (d:Nat)(bs:List UInt8):(bC bs).all (nf (d+1))=true:=List.all_eq_true.2 fun x hx=>by
 obtain ⟨y,_,rfl⟩:=List.mem_map.1 hx
 rfl
theorem bC_shr (σ:Nat→Nat)(d:Nat)(bs:List UInt8):(bC bs).map (shr σ (d+1))=bC bs:=(List.map_congr_left fun x hx=>by
 obtain ⟨y,_,rfl⟩:=List.mem_map.1 hx
 rfl).trans (List.map_id _)
theorem bC_frz (H:Heap)(d:Nat)(bs:List UInt8):(bC bs).map (frz H (d+1))=bC bs:=(List.map_congr_left fun x hx=>by
 obtain ⟨y,_,rfl⟩:=List.mem_map.1 hx
 rfl).trans (List.map_id _)
attribute [go_sem] bC_nf bC_shr bC_frz bC_app bC_len strA_bC bC_take bC_plain bC_one bC_rnm size_of
def smB (n:Nat):List UInt8:=if n<10 then [UInt8.ofNat (48+n)] else [UInt8.ofNat (48+n / 10),UInt8.ofNat (48+n%10)]
def keyB (xs:List Int):List UInt8:=xs.flatMap fun n=>smB n.toNat++[32]
theorem smB_len (n:Nat):(smB n).length≤2:=by
 unfold smB
 split<;>simp
theorem small_c (n:Nat)(hn:n<100):Pure Tryz.prog 130 [i64 (n:Int)] (.val (.string ⟨(smB n).toArray⟩)) []:=by
 refine pureV0 ok130 rfl rfl ?_;unfold c130
 refine RN ?_
 refine ⟨fun hc=>?_,fun hc=>?_⟩
 ·refine ⟨by omega,by first | omega | (simp only [List.size_toArray,List.length_cons,List.length_nil,Nat.reduceAdd];omega),?_⟩
  refine RN ?_
  refine congrArg (fun b=>AV.val (.string b)) ?_
  have h10:n<10:=by omega
  clear hn hc
  revert n
  decide +kernel
 ·(repeat first | simp only [go_sem,↓reduceIte,Nat.reduceEqDiff,Nat.reduceAdd,reduceCtorEq,List.size_toArray,List.length_cons,List.length_nil] | refine RX ?_ | decide)
  refine congrArg (fun b=>AV.val (.string b)) ?_
  rw [show ((n:Int)*2).toNat=n*2 by omega,show ((n:Int)*2+2).toNat=n*2+2 by omega]
  have h10:10≤n:=by omega
  clear hc
  revert n
  decide +kernel
end
section
open Go.Gov
open Classical
def prt:Nat→List Int→List (List Int)
 | 0,_=>[[]]
 | _+1,[]=>[]
 | k+1,x :: xs=>(prt k xs).map (x :: ·)++prt (k+1) xs
end
section
open Go.Gov
open Classical
def Sml (p:List Int):Prop:=∀ x∈p,0≤x∧x<100
theorem Sml.at {p:List Int}(h:Sml p)(i:Nat)(hi:i<p.length):0≤p.getD i 0∧p.getD i 0<100:=by
 refine h _ ?_
 rw [List.getD_eq_getElem?_getD,List.getElem?_eq_getElem hi]
 exact List.getElem_mem hi
def kT (p:List Int):ByteArray:=⟨(keyB p).toArray⟩
def MapIs (l:List (ByteArray×Bool))(S:ByteArray→Prop):Prop:=∀ n,ilook n l=if S n then some true else none
theorem MapIs.nil:MapIs [] fun _=>False:=fun n=>by rw [if_neg id];rfl
theorem MapIs.put {l:List (ByteArray×Bool)}{S:ByteArray→Prop}(h:MapIs l S)(n:ByteArray):MapIs (iput n true l) fun m=>S m∨m=n:=fun m=>by
 rw [ilook_iput]
 by_cases e:m=n
 ·subst e
  rw [if_pos (by simp),if_pos (.inr rfl)]
 ·rw [if_neg (by simpa using e),h m]
  by_cases hs:S m
  ·rw [if_pos hs,if_pos (.inl hs)]
  ·rw [if_neg hs,if_neg (by rintro (h | h);exact hs h;exact e h)]
theorem MapIs.same {l:List (ByteArray×Bool)}{S T:ByteArray→Prop}(h:MapIs l S)(hs:∀ n,S n ↔ T n):MapIs l T:=fun n=>by
 rw [h n]
 by_cases hx:S n
 ·rw [if_pos hx,if_pos ((hs n).1 hx)]
 ·rw [if_neg hx,if_neg fun h=>hx ((hs n).2 h)]
def bV (b:Bool):AV:=.val (.bool b)
theorem smap_bV (l:List (ByteArray×Bool)):smap (fun x=>.val (.bool x)) l=smap bV l:=rfl
attribute [go_sem] smap_bV
end
end Go.Proofs.YtaekhhaaphgndaaGreatDoor
