/- Texts that belong together. -/
import Derived.Test.YtfofabbkigonpaaDoorR5
import Derived.Test.YtfofabbkigonpaaDoorQh
set_option linter.unusedSimpArgs false
set_option linter.unusedVariables false
set_option maxRecDepth 100000
namespace Go.Proofs.YtfofabbkigonpaaDoor
section
open Go.Gov
theorem Pe {x:Nat}(hx:x<2^64):(BitVec.ofInt 64 (x:Int)).toNat=x:=by
 rw [BitVec.toNat_ofInt]
 have:((x:Int)%((2^64:Nat):Int)).toNat=x%2^64:=by omega
 rw [this,Nat.mod_eq_of_lt hx]
theorem Si {x:Nat}(hx:x<2^64):IntKind.wrap .u64 (x:Int)=x:=by
 unfold IntKind.wrap
 simp [IntKind.bits,IntKind.signed]
 omega
theorem yO {x y:Nat}(hx:x<2^64)(hy:y<2^64):C9 .and .u64 x y=((x &&& y:Nat):Int):=by
 show IntKind.wrap .u64 (((BitVec.ofInt 64 (x:Int)) &&& (BitVec.ofInt 64 (y:Int))).toNat:Int)=_
 rw [BitVec.toNat_and,Pe hx,Pe hy,Si (Nat.lt_of_le_of_lt Nat.and_le_right hy)]
theorem yP {x y:Nat}(hx:x<2^64)(hy:y<2^64):C9 .or .u64 x y=((x ||| y:Nat):Int):=by
 show IntKind.wrap .u64 (((BitVec.ofInt 64 (x:Int)) ||| (BitVec.ofInt 64 (y:Int))).toNat:Int)=_
 rw [BitVec.toNat_or,Pe hx,Pe hy,Si (Nat.or_lt_two_pow hx hy)]
theorem yQ {k:Nat}(hk:k<64):Fa .shl .u64 1 (k:Int)=((2^k:Nat):Int):=by
 show IntKind.wrap .u64 (1*2^(min ((k:Int).toNat) 64))=_
 rw [Int.toNat_natCast,show min k 64=k by omega,Int.one_mul]
 have:=Si (x:=2^k) (Nat.pow_lt_pow_right (by decide) hk)
 simpa using this
theorem Sh {x k:Nat}(hk:k≤64):Fa .shr .u64 (x:Int) (k:Int)=((x / 2^k:Nat):Int):=by
 show (x:Int).fdiv (2^(min ((k:Int).toNat) 64))=_
 rw [Int.toNat_natCast,show min k 64=k by omega,Int.fdiv_eq_ediv_of_nonneg _ (Int.le_of_lt (Int.pow_pos (by decide)))]
 simp
def Ct (x:Nat):Nat:=if x=0 then 0 else x.log2+1
theorem P6 {x k:Nat}(h:x<2^k):Ct x≤k:=by
 unfold Ct
 split
 ·omega
 ·rename_i h0
  have:=(Nat.log2_lt h0).2 h
  omega
theorem eF {x:Nat}(h:x≠0):1≤Ct x:=by unfold Ct;rw [if_neg h];omega
theorem eE {x l:Nat}(h1:2^l≤x)(h2:x<2^(l+1)):Ct x=l+1:=by
 have h0:x≠0:=fun e=>by have:=Nat.two_pow_pos l;omega
 unfold Ct
 rw [if_neg h0]
 have:=(Nat.log2_lt h0).2 h2
 have:=(Nat.le_log2 h0).2 h1
 omega
theorem P5 {x k:Nat}(h:2^k≤x):Ct x=Ct (x / 2^k)+k:=by
 have hk:=Nat.two_pow_pos k
 have h0:x / 2^k≠0:=fun e=>by
  have:=Nat.div_eq_zero_iff.1 e
  omega
 have a1:=Nat.log2_self_le h0
 have a2:=Nat.lt_log2_self (n:=x / 2^k)
 have e:Ct (x / 2^k)=(x / 2^k).log2+1:=by unfold Ct;rw [if_neg h0]
 rw [e]
 generalize (x / 2^k).log2=l at *
 have b1:2^(l+k)≤x:=by
  rw [Nat.pow_add]
  exact (Nat.le_div_iff_mul_le hk).1 a1
 have b2:x<2^(l+k+1):=by
  rw [show l+k+1=l+1+k by omega,Nat.pow_add]
  exact (Nat.div_lt_iff_lt_mul hk).1 a2
 rw [eE b1 b2]
 omega
end
section
open Go.Gov
open Classical
def Sp (w:Nat)(a f:Nat):Nat:=if f / 64=w then a ||| 2^(f%64) else a
def Eo (S:List Nat)(w:Nat):Nat:=S.foldl (Sp w) 0
theorem zI (S:List Nat)(f w:Nat):Eo (S++[f]) w=if f / 64=w then Eo S w ||| 2^(f%64) else Eo S w:=by
 unfold Eo
 rw [List.foldl_append]
 rfl
theorem Sl {m w:Nat}:∀ (S:List Nat) (a:Nat),a<2^m→(∀ f∈S,f / 64=w→f%64<m)→S.foldl (Sp w) a<2^m
 | [],a,ha,_=>ha
 | f :: S,a,ha,hS=>by
  refine Sl S _ ?_ fun g hg=>hS g (List.mem_cons_of_mem _ hg)
  unfold Sp
  split
  ·rename_i e
   exact Nat.or_lt_two_pow ha (Nat.pow_lt_pow_right (by decide) (hS f (by simp) e))
  ·exact ha
theorem zH {S:List Nat}{e w:Nat}(h:∀ f∈S,f≤e):Eo S w<2^(min 64 (e+1 - 64*w)):=
 Sl S 0 (Nat.two_pow_pos _) fun f hf hw=>by have:=h f hf;omega
theorem Pg {S:List Nat}{w:Nat}:Eo S w<2^64:=Sl S 0 (Nat.two_pow_pos _) fun f _ _=>by omega
def sS (B:List (List Int))(e k:Nat):List Nat:=e :: ((B.getD e []).take k).map Int.toNat
theorem vP {B:List (List Int)}{e k:Nat}(h:k<(B.getD e []).length):sS B e (k+1)=sS B e k++[((B.getD e []).getD k 0).toNat]:=by
 unfold sS
 rw [List.take_succ_eq_append_getElem h,List.map_append,B6 _ k h]
 rfl
def uw (B:List (List Int))(e w:Nat):Nat:=Eo (sS B e (B.getD e []).length) w
def uP (B:List (List Int))(n e:Nat)(S:List Nat):List Int:=(List.range (8*n)).map fun j=>if j / 8<e then (uw B (j / 8) (j%8):Int) else if j / 8=e then (Eo S (j%8):Int) else 0
section
variable {B:List (List Int)} {n:Nat}
theorem Je {e:Nat}{S:List Nat}:(uP B n e S).length=8*n:=by simp [uP]
theorem aM {e a w:Nat}{S:List Nat}(ha:a<n)(hw:w<8):(uP B n e S).getD (8*a+w) 0=if a<e then (uw B a w:Int) else if a=e then (Eo S w:Int) else 0:=by
 unfold uP
 rw [B6 _ _ (by simp;omega),List.getElem_map,List.getElem_range,show (8*a+w) / 8=a by omega,show (8*a+w)%8=w by omega]
theorem yK:uP B n 0 []=List.replicate (8*n) 0:=by
 refine List.ext_getElem (by simp [uP]) fun j h1 h2=>?_
 simp only [uP,List.getElem_map,List.getElem_range,List.getElem_replicate,Nat.not_lt_zero,if_false]
 split<;>rfl
theorem yJ {e f:Nat}{S:List Nat}(he:e<n)(hf:f / 64<8):(uP B n e S).set (8*e+f / 64) (((Eo S (f / 64) ||| 2^(f%64):Nat):Int))=uP B n e (S++[f]):=by
 refine List.ext_getElem (by simp [uP]) fun j h1 h2=>?_
 rw [List.getElem_set]
 simp only [uP,List.getElem_map,List.getElem_range,zI]
 by_cases q:8*e+f / 64=j
 ·subst q
  rw [if_pos rfl,show (8*e+f / 64) / 8=e by omega,show (8*e+f / 64)%8=f / 64 by omega,if_neg (Nat.lt_irrefl e),if_pos rfl,if_pos rfl]
 ·rw [if_neg q]
  by_cases q1:j / 8<e
  ·rw [if_pos q1,if_pos q1]
  ·rw [if_neg q1,if_neg q1]
   by_cases q2:j / 8=e
   ·rw [if_pos q2,if_pos q2,if_neg (by omega)]
   ·rw [if_neg q2,if_neg q2]
theorem yI {e:Nat}:uP B n e (sS B e (B.getD e []).length)=uP B n (e+1) []:=by
 refine List.ext_getElem (by simp [uP]) fun j h1 h2=>?_
 simp only [uP,List.getElem_map,List.getElem_range]
 by_cases q1:j / 8<e
 ·rw [if_pos q1,if_pos (by omega)]
 ·rw [if_neg q1]
  by_cases q2:j / 8=e
  ·rw [if_pos q2,if_pos (by omega),q2]
   rfl
  ·rw [if_neg q2,if_neg (by omega)]
   split<;>rfl
def cm (B:List (List Int))(a b w:Nat):Nat:=uw B a w &&& uw B b w
theorem Vk {a b w:Nat}:cm B a b w<2^64:=Nat.lt_of_le_of_lt Nat.and_le_right Pg
def D5 (B:List (List Int))(a b:Nat):Nat→Int
 | 0 => -1
 | k+1=>if cm B a b k≠0 then 64*(k:Int)+Ct (cm B a b k) - 1 else D5 B a b k
theorem aJ {r:Int}{R:List Int}(hp:IsPos r R B){a b:Nat}(hb:b<R.length):∀ k:Nat, -1≤D5 B a b k∧D5 B a b k≤b
 | 0=>⟨Int.le_refl _,by unfold D5;omega⟩
 | k+1=>by
  unfold D5
  split
  ·rename_i h0
   have h1:=eF h0
   have h2:uw B b k<2^(min 64 (b+1 - 64*k)):=zH fun f hf=>by
    unfold sS at hf
    rcases List.mem_cons.1 hf with h | h
    ·omega
    ·rw [List.take_length] at h
     obtain ⟨x,hx,rfl⟩:=List.mem_map.1 h
     obtain ⟨y,rfl,hy⟩:=Ot hp hb hx
     have:=(Ko hp hb hy).1
     omega
   have h3:cm B a b k<2^(min 64 (b+1 - 64*k)):=Nat.lt_of_le_of_lt Nat.and_le_right h2
   have h4:=P6 h3
   omega
  ·exact aJ hp hb k
def Jm (B:List (List Int))(a b w:Nat):Prop:=0≤D5 B a b 8∧C9 .andNot .u64 (cm B a b w) (uw B (D5 B a b 8).toNat w)≠0
def Hg (B:List (List Int))(n:Nat):Prop:=∀ a,a<n→∀ b,b<a→∀ w,w<8→¬ Jm B a b w
end
end
section
open Go.Gov
open Classical
theorem kU:∀ x,x<256→(Lib.len8tab.data.toList.getD x 0).toNat=Ct x:=by decide +kernel
theorem kV:Lib.len8tab.size=256:=by decide +kernel
theorem yH {x:Nat}(hx:x<256):IntKind.wrap .u8 (x:Int)=x:=by
 unfold IntKind.wrap
 simp [IntKind.bits,IntKind.signed]
 omega
theorem lR (x:Nat)(hx:x<2^64):Ao Tryd.prog 51 [.val (.int .u64 (x:Int))] (i64 (Ct x:Nat)) []:=by
 refine De pR rfl ?_;unfold Us
 (repeat first | simp only [go_sem,go_sem,↓reduceIte,Nat.reduceEqDiff,Nat.reduceAdd,reduceCtorEq] | (with_reducible refine And.intro ?_ ?_;focus first | assumption | omega | decide | grind))
 refine Mx ?_
 refine Mw (fun o:Nat×Nat=>o.1<2^32∧Ct x=Ct o.1+o.2∧o.2≤32) (fun o=>[(0,.val (.int .u64 (o.1:Int))),(2,i64 (o.2:Int))]) (fun _=>[]) ?_ ?_
 ·(refine RN ?_;try with_reducible exact trivial)
  refine ⟨fun hc=>?_,fun hc=>?_⟩
  ·have hd:=P5 (x:=x) (k:=32) (by omega)
   have hs:Fa .shr .u64 (x:Int) 32=((x / 2^32:Nat):Int):=Sh (k:=32) (by decide)
   (repeat first | simp only [hs,go_sem,↓reduceIte,Nat.reduceEqDiff,Nat.reduceAdd,reduceCtorEq] | refine RX ?_ | decide)
   exact ⟨(x / 2^32,0+32),⟨by dsimp only;omega,by dsimp only;omega,by dsimp only;omega⟩,Ref.to rfl (by simp [sub,Ac,hs])⟩
  ·(refine RN ?_;try with_reducible exact trivial)
   exact ⟨(x,0),⟨by dsimp only;omega,by dsimp only;omega,by dsimp only;omega⟩,Ref.to1⟩
 rintro ⟨y,m⟩ ⟨hy,he,hm⟩
 dsimp only at hy he hm ⊢
 refine Mx ?_
 refine Mw (fun o:Nat×Nat=>o.1<2^16∧Ct x=Ct o.1+o.2∧o.2≤48) (fun o=>[(0,.val (.int .u64 (o.1:Int))),(2,i64 (o.2:Int))]) (fun _=>[]) ?_ ?_
 ·(refine RN ?_;try with_reducible exact trivial)
  refine ⟨fun hc=>?_,fun hc=>?_⟩
  ·have hd:=P5 (x:=y) (k:=16) (by omega)
   have hs:Fa .shr .u64 (y:Int) 16=((y / 2^16:Nat):Int):=Sh (k:=16) (by decide)
   (repeat first | simp only [hs,go_sem,↓reduceIte,Nat.reduceEqDiff,Nat.reduceAdd,reduceCtorEq] | refine RX ?_ | decide)
   exact ⟨(y / 2^16,m+16),⟨by dsimp only;omega,by dsimp only;omega,by dsimp only;omega⟩,Ref.to rfl (by simp [sub,Ac,hs])⟩
  ·(refine RN ?_;try with_reducible exact trivial)
   exact ⟨(y,m),⟨by dsimp only;omega,by dsimp only;omega,by dsimp only;omega⟩,Ref.to1⟩
 rintro ⟨y,m⟩ ⟨hy,he,hm⟩
 dsimp only at hy he hm ⊢
 refine Mx ?_
 refine Mw (fun o:Nat×Nat=>o.1<2^8∧Ct x=Ct o.1+o.2∧o.2≤56) (fun o=>[(0,.val (.int .u64 (o.1:Int))),(2,i64 (o.2:Int))]) (fun _=>[]) ?_ ?_
 ·(refine RN ?_;try with_reducible exact trivial)
  refine ⟨fun hc=>?_,fun hc=>?_⟩
  ·have hd:=P5 (x:=y) (k:=8) (by omega)
   have hs:Fa .shr .u64 (y:Int) 8=((y / 2^8:Nat):Int):=Sh (k:=8) (by decide)
   (repeat first | simp only [hs,go_sem,↓reduceIte,Nat.reduceEqDiff,Nat.reduceAdd,reduceCtorEq] | refine RX ?_ | decide)
   exact ⟨(y / 2^8,m+8),⟨by dsimp only;omega,by dsimp only;omega,by dsimp only;omega⟩,Ref.to rfl (by simp [sub,Ac,hs])⟩
  ·(refine RN ?_;try with_reducible exact trivial)
   exact ⟨(y,m),⟨by dsimp only;omega,by dsimp only;omega,by dsimp only;omega⟩,Ref.to1⟩
 rintro ⟨z,l⟩ ⟨hz,he2,hl⟩
 dsimp only at hz he2 hl ⊢
 have hw:=yH (x:=z) (by omega)
 have h8:=kU z (by omega)
 have hb:=P6 (k:=8) hz
 (repeat first | simp only [hw,Int.toNat_natCast,h8,kV,go_sem,↓reduceIte,Nat.reduceEqDiff,Nat.reduceAdd,reduceCtorEq] | refine RX ?_ | decide)
 rw [he2]
 exact Ref.to rfl (by simp [sub,Ac];omega)
end
section
open Go.Gov
open Classical
def wC (xs:List Int):List AV:=xs.map fun n=>.val (.int .u64 n)
theorem Jg (xs:List Int):(wC xs).length=xs.length:=by simp [wC]
theorem zF (xs:List Int)(j:Nat):(wC xs).getD j (.val (.int .u64 0)) = .val (.int .u64 (xs.getD j 0)):=by
 unfold wC
 rw [List.getD_eq_getElem?_getD,List.getD_eq_getElem?_getD,List.getElem?_map]
 cases xs[j]? <;> rfl
theorem aP (xs:List Int)(j:Nat)(v:Int):(wC xs).set j (.val (.int .u64 v))=wC (xs.set j v):=by simp [wC,List.map_set]
theorem Zn (e:Nat):(e:Int).tdiv 64=((e / 64:Nat):Int):=by rw [Int.tdiv_eq_ediv_of_nonneg (by omega)];omega
theorem Zr (e:Nat):(e:Int).tmod 64=((e%64:Nat):Int):=by rw [Int.tmod_eq_emod_of_nonneg (by omega)];omega
theorem Sk (xs:List Int){j:Nat}(h:j<xs.length)(d:AV):(wC xs).getD j d = .val (.int .u64 (xs.getD j 0)):=by
 unfold wC
 simp [h]
theorem aZ {B:List (List Int)}{n e f:Nat}{S:List Nat}(he:e<n)(hf:f<512)(d:AV):(wC (uP B n e S)).getD (e*8+f / 64) d = .val (.int .u64 (Eo S (f / 64):Nat)):=by
 rw [Sk _ (by rw [Je];omega),Nat.mul_comm e 8,aM he (by omega),if_neg (Nat.lt_irrefl e),if_pos rfl]
theorem bB {B:List (List Int)}{n e f:Nat}{S:List Nat}(he:e<n)(hf:f<512):e*8+f / 64<(wC (uP B n e S)).length:=by
 rw [Jg,Je]
 omega
theorem bE {B:List (List Int)}{n e f:Nat}{S:List Nat}(he:e<n)(hf:f<512):(wC (uP B n e S)).set (e*8+f / 64) (.val (.int .u64 ((Eo S (f / 64) ||| 2^(f%64):Nat):Int)))=wC (uP B n e (S++[f])):=by
 rw [aP,Nat.mul_comm e 8,yJ he (by omega)]
theorem bD {S:List Nat}{f:Nat}:C9 .or .u64 (Eo S (f / 64):Nat) (2^(f%64):Nat)=((Eo S (f / 64) ||| 2^(f%64):Nat):Int):=yP Pg (Nat.pow_lt_pow_right (by decide) (by omega))
theorem bH (f:Nat):Fa .shl .u64 1 ((f%64:Nat):Int)=((2^(f%64):Nat):Int):=yQ (by omega)
theorem nJ (n:Nat)(B:List (List Int)):Ia [Value.int .u64 0,Value.int .u64 0,Value.int .u64 0,Value.int .u64 0,Value.int .u64 0,Value.int .u64 0,Value.int .u64 0,Value.int .u64 0] n=wC (uP B n 0 []):=by
 rw [yK]
 have h8:∀ k,k<8→[Value.int .u64 0,Value.int .u64 0,Value.int .u64 0,Value.int .u64 0,Value.int .u64 0,Value.int .u64 0,Value.int .u64 0,Value.int .u64 0].getD k undef=Value.int .u64 0:=fun k hk=>by
  match k,hk with
  | 0,_ | 1,_ | 2,_ | 3,_ | 4,_ | 5,_ | 6,_ | 7,_=>rfl
 show ((List.range (n*8)).map fun i=>AV.val ([Value.int .u64 0,Value.int .u64 0,Value.int .u64 0,Value.int .u64 0,Value.int .u64 0,Value.int .u64 0,Value.int .u64 0,Value.int .u64 0].getD (i%8) undef))=_
 refine List.ext_getElem (by simp [wC,Nat.mul_comm]) fun j h1 h2=>?_
 rw [List.getElem_map,h8 _ (Nat.mod_lt _ (by decide))]
 simp [wC]
theorem Sq {B:List (List Int)}{n a w:Nat}(ha:a<n)(hw:w<8)(d:AV):(wC (uP B n n [])).getD (a*8+w) d = .val (.int .u64 (uw B a w:Nat)):=by
 rw [Sk _ (by rw [Je];omega),Nat.mul_comm a 8,aM ha hw,if_pos ha]
theorem aW {B:List (List Int)}{n a w:Nat}(ha:a<n)(hw:w<8):a*8+w<(wC (uP B n n [])).length:=by
 rw [Jg,Je]
 omega
def Fm (B:List (List Int))(a b k:Nat):List Int:=(List.range 8).map fun j=>if j<k then (cm B a b j:Int) else 0
theorem M7 {B:List (List Int)}{a b k:Nat}:(Fm B a b k).length=8:=by simp [Fm]
theorem Vj {B:List (List Int)}{a b k j:Nat}(hj:j<8)(hk:j<k)(d:AV):(wC (Fm B a b k)).getD j d = .val (.int .u64 (cm B a b j:Nat)):=by
 rw [Sk _ (by rw [M7];exact hj)]
 simp [Fm,hj,hk]
theorem fF {B:List (List Int)}{a b k:Nat}(hk:k<8):(wC (Fm B a b k)).set k (.val (.int .u64 (cm B a b k:Nat)))=wC (Fm B a b (k+1)):=by
 rw [aP]
 congr 1
 refine List.ext_getElem (by simp [Fm]) fun j h1 h2=>?_
 rw [List.getElem_set]
 simp only [Fm,List.getElem_map,List.getElem_range]
 by_cases e:k=j
 ·subst e
  rw [if_pos rfl,if_pos (by omega)]
 ·rw [if_neg e]
  by_cases q:j<k
  ·rw [if_pos q,if_pos (by omega)]
  ·rw [if_neg q,if_neg (by omega)]
theorem fG {B:List (List Int)}{a b:Nat}:wC (Fm B a b 0)=[.val (.int .u64 0),.val (.int .u64 0),.val (.int .u64 0),.val (.int .u64 0),.val (.int .u64 0),.val (.int .u64 0),.val (.int .u64 0),.val (.int .u64 0)]:=by
 simp [wC,Fm,List.range_succ]
theorem mO (H:List (Option (List AV)))(d:Nat)(xs:List Int):(wC xs).map (Ai H (d+1))=wC xs:=by simp [wC,Ai]
theorem vJ (τ:Nat→Option Nat)(xs:List Int):Av τ (wC xs)=wC xs:=by simp [A8,wC,Al]
set_option maxHeartbeats 8000000 in
theorem Ws (r:Int)(R:List Int)(B:List (List Int))(hp:IsPos r R B):Ao Tryd.prog 26 [A6 r R B] (bl (decide (Hg B R.length))) []:=by
 obtain ⟨a1,a2,a3,a4,a5⟩:=hp.rank
 refine De oX rfl ?_;unfold Ud
 refine RN ?_
 refine Ak (α:=Nat) (S:=fun e=>([(1,.ref 0 0),(3,.sl 1 8 0 R.length),(19,Ae B),(20,i64 (B.length:Int)),(21,i64 (e:Int))],[some [i64 r,Ad R,Ae B],some (wC (uP B R.length e []))])) (C:=fun e=>e≤R.length) (μ:=fun e=>R.length - e) 0 (Nat.zero_le _) (Ref.to (by rw [nJ _ B]) (by simp [sub,Ac])) ?_
 intro e he
 refine RN ?_
 refine ⟨fun hc=>?_,fun hc=>?_⟩
 ·have heR:e<R.length:=by omega
  have hq:=Zn e
  have hr:=Zr e
  have hat:=fun d=>aZ (B:=B) (n:=R.length) (e:=e) (f:=e) (S:=[]) heR (by omega) d
  have hln:=bB (B:=B) (n:=R.length) (e:=e) (f:=e) (S:=[]) heR (by omega)
  have hor:=bD (S:=[]) (f:=e)
  have hsh:=bH e
  have hst:=bE (B:=B) (n:=R.length) (e:=e) (f:=e) (S:=[]) heR (by omega)
  (repeat first | simp only [hq,hr,Int.toNat_natCast,hat,hor,hsh,go_sem,↓reduceIte,Nat.reduceEqDiff,Nat.reduceAdd,reduceCtorEq] | refine RX ?_ | decide)
  refine Ak (α:=Nat) (S:=fun k=>([(1,.ref 0 0),(3,.sl 1 8 0 R.length),(19,Ae B),(20,i64 (B.length:Int)),(21,i64 (e:Int)),(4,i64 (e:Int)),(39,Ad (B.getD e [])),(40,i64 ((B.getD e []).length:Int)),(41,i64 (k:Int))],[some [i64 r,Ad R,Ae B],some (wC (uP B R.length e (sS B e k)))])) (C:=fun k=>k≤(B.getD e []).length) (μ:=fun k=>(B.getD e []).length - k) 0 (Nat.zero_le _) (Ref.to (by rw [hst];rfl) (by simp [sub,Ac])) ?_
  clear hat hln hor hsh hst hq hr
  have hfw:=hp.few heR
  intro k hk
  refine RN ?_
  refine ⟨fun hc2=>?_,fun hc2=>?_⟩
  ·have hkl:k<(B.getD e []).length:=by omega
   obtain ⟨f,hf,hfa⟩:=Ot hp heR (show (B.getD e []).getD k 0∈B.getD e [] by rw [B6 _ k hkl];exact List.getElem_mem hkl)
   have hfe:=(Ko hp heR hfa).1
   have hq:=Zn f
   have hr:=Zr f
   have hat:=fun d=>aZ (B:=B) (n:=R.length) (e:=e) (f:=f) (S:=sS B e k) heR (by omega) d
   have hln:=bB (B:=B) (n:=R.length) (e:=e) (f:=f) (S:=sS B e k) heR (by omega)
   have hor:=bD (S:=sS B e k) (f:=f)
   have hsh:=bH f
   have hst:=bE (B:=B) (n:=R.length) (e:=e) (f:=f) (S:=sS B e k) heR (by omega)
   (repeat first | simp only [hf,hq,hr,Int.toNat_natCast,hat,hor,hsh,go_sem,↓reduceIte,Nat.reduceEqDiff,Nat.reduceAdd,reduceCtorEq] | refine RX ?_ | decide)
   exact ⟨k+1,by omega,by omega,Ref.to (by rw [hst,vP hkl,hf,Int.toNat_natCast]) (by simp [sub,Ac])⟩
  ·obtain rfl:k=(B.getD e []).length:=by omega
   refine RN ?_
   exact ⟨e+1,by omega,by omega,Ref.to (by rw [yI]) (by simp [sub,Ac])⟩
 ·obtain rfl:e=R.length:=by omega
  refine D0 (Ref.sel [] (F' := [(3,.slc 8 R.length (wC (uP B R.length R.length [])))]) (H' := []) rfl rfl ?_) ?_
  ·simp only [sub,List.all_cons,List.all_nil,go_sem,↓reduceIte,Nat.reduceEqDiff,Nat.reduceAdd,reduceCtorEq]
   rw [List.take_of_length_le (by rw [Jg,Je];omega),mO]
   done
  refine RN ?_
  refine Ak (α:=Nat) (S:=fun a=>([(3,.slc 8 R.length (wC (uP B R.length R.length []))),(61,i64 (R.length:Int)),(62,i64 (a:Int))],[])) (C:=fun a=>a≤R.length∧∀ a', a' < a→∀ b,b<a' → ∀ w,w<8→¬ Jm B a' b w) (μ:=fun a=>R.length - a) 0 ⟨Nat.zero_le _,fun a' h=>absurd h (Nat.not_lt_zero _)⟩ (Ref.to (by rfl) (by simp [sub,Ac])) ?_
  rintro a ⟨ha,hA⟩
  refine RN ?_
  refine ⟨fun hc2=>?_,fun hc2=>?_⟩
  ·have haR:a<R.length:=by omega
   refine RN ?_
   refine Ak (α:=Nat) (S:=fun b=>([(3,.slc 8 R.length (wC (uP B R.length R.length []))),(61,i64 (R.length:Int)),(62,i64 (a:Int)),(8,i64 (a:Int)),(65,i64 (a:Int)),(66,i64 (b:Int))],[])) (C:=fun b=>b≤a∧∀ b', b' < b→∀ w,w<8→¬ Jm B a b' w) (μ:=fun b=>a - b) 0 ⟨Nat.zero_le _,fun b' h=>absurd h (Nat.not_lt_zero _)⟩ (Ref.to (by rfl) (by simp [sub,Ac])) ?_
   rintro b ⟨hb,hBb⟩
   refine RN ?_
   refine ⟨fun hc3=>?_,fun hc3=>?_⟩
   ·have hba:b<a:=by omega
    have hbR:b<R.length:=by omega
    refine RN ?_
    refine Ak (α:=Nat) (S:=fun w=>([(3,.slc 8 R.length (wC (uP B R.length R.length []))),(61,i64 (R.length:Int)),(62,i64 (a:Int)),(8,i64 (a:Int)),(65,i64 (a:Int)),(66,i64 (b:Int)),(9,i64 (b:Int)),(10,.ref 0 0),(11,i64 (D5 B a b w)),(69,i64 (w:Int))],[some (wC (Fm B a b w))])) (C:=fun w=>w≤8) (μ:=fun w=>8 - w) 0 (Nat.zero_le _) (Ref.to (by rw [fG]) (by simp [sub,Ac,D5])) ?_
    intro w hw
    have htb:=aJ (a:=a) hp hbR w
    refine RN ?_
    refine ⟨fun hc4=>?_,fun hc4=>?_⟩
    ·have hw8:w<8:=by omega
     have h1:=fun d=>Sq (B:=B) (n:=R.length) haR hw8 d
     have h2:=fun d=>Sq (B:=B) (n:=R.length) hbR hw8 d
     have h3:=aW (B:=B) (n:=R.length) haR hw8
     have h4:=aW (B:=B) (n:=R.length) hbR hw8
     have h5:C9 .and .u64 (uw B a w:Nat) (uw B b w:Nat)=((cm B a b w:Nat):Int):=yO Pg Pg
     have h6:=fF (B:=B) (a:=a) (b:=b) hw8
     have h7:=fun d=>Vj (B:=B) (a:=a) (b:=b) (k:=w+1) hw8 (by omega) d
     have h8:=M7 (B:=B) (a:=a) (b:=b) (k:=w)
     have h9:=M7 (B:=B) (a:=a) (b:=b) (k:=w+1)
     (repeat first | simp only [Int.toNat_natCast,h1,h2,h5,h6,h7,Jg,Je,h8,h9,go_sem,↓reduceIte,Nat.reduceEqDiff,Nat.reduceAdd,reduceCtorEq] | refine RX ?_ | decide)
     refine ⟨fun hc5=>?_,fun hc5=>?_⟩
     ·have h0:cm B a b w≠0:=by omega
      have hcl:=lR (cm B a b w) Vk
      have hbl:=P6 (Vk (B:=B) (a:=a) (b:=b) (w:=w))
      have htp:D5 B a b (w+1)=64*(w:Int)+Ct (cm B a b w) - 1:=if_pos h0
      (repeat first | simp only [Int.toNat_natCast,h7,Jg,h9,go_sem,↓reduceIte,Nat.reduceEqDiff,Nat.reduceAdd,reduceCtorEq] | refine RX ?_ | decide)
      refine An (hcl) ?_
      refine RN ?_
      exact ⟨w+1,by omega,by omega,Ref.to rfl (by rw [htp];simp [sub,Ac])⟩
     ·have h0:¬ cm B a b w≠0:=by omega
      have htp:D5 B a b (w+1)=D5 B a b w:=if_neg h0
      refine RN ?_
      exact ⟨w+1,by omega,by omega,Ref.to rfl (by rw [htp];simp [sub,Ac])⟩
    ·obtain rfl:w=8:=by omega
     refine RN ?_
     refine Ak (α:=Nat) (S:=fun w=>([(3,.slc 8 R.length (wC (uP B R.length R.length []))),(61,i64 (R.length:Int)),(62,i64 (a:Int)),(8,i64 (a:Int)),(65,i64 (a:Int)),(66,i64 (b:Int)),(9,i64 (b:Int)),(10,.ref 0 0),(11,i64 (D5 B a b 8)),(100,i64 (w:Int))],[some (wC (Fm B a b 8))])) (C:=fun w=>w≤8∧∀ w', w' < w→¬ Jm B a b w') (μ:=fun w=>8 - w) 0 ⟨Nat.zero_le _,fun w' h=>absurd h (Nat.not_lt_zero _)⟩ (Ref.to (by rfl) (by simp [sub,Ac])) ?_
     rintro w ⟨hw2,hBw⟩
     refine RN ?_
     refine ⟨fun hc5=>?_,fun hc5=>?_⟩
     ·have hw8:w<8:=by omega
      have h7:=fun d=>Vj (B:=B) (a:=a) (b:=b) (k:=8) hw8 hw8 d
      have h9:=M7 (B:=B) (a:=a) (b:=b) (k:=8)
      by_cases ht:0≤D5 B a b 8
      ·have hd:=decide_eq_true ht
       have hbd:Jm B a b w ↔ C9 .andNot .u64 (cm B a b w) (uw B (D5 B a b 8).toNat w)≠0:=⟨fun h=>h.2,fun h=>⟨ht,h⟩⟩
       obtain ⟨t,htt⟩:=Int.eq_ofNat_of_zero_le ht
       rw [htt] at hbd hd htb ⊢
       rw [Int.toNat_natCast] at hbd
       have htR:t<R.length:=by omega
       have h1:=fun d=>Sq (B:=B) (n:=R.length) htR hw8 d
       (repeat first | simp only [Int.toNat_natCast,hd,h1,h7,Jg,Je,h9,go_sem,↓reduceIte,Nat.reduceEqDiff,Nat.reduceAdd,reduceCtorEq] | refine RX ?_ | decide)
       refine ⟨fun hc6=>?_,fun hc6=>?_⟩
       ·have hn:decide (Hg B R.length)=false:=decide_eq_false fun h=>h a haR b hba w hw8 (hbd.2 hc6)
        rw [hn]
        refine RN ?_
        exact Ref.gc1 []
       ·(refine RN ?_;try with_reducible exact trivial)
        refine ⟨w+1,⟨by omega,fun w' hw' => ?_⟩,by omega,Ref.to1⟩
        rcases Nat.lt_or_ge w' w with q | q
        ·exact hBw w' q
        ·obtain rfl:w' = w:=by omega
         exact fun h=>hbd.1 h hc6
      ·have hd:=decide_eq_false ht
       have hnb:¬ Jm B a b w:=fun h=>ht h.1
       (repeat first | simp only [hd,h7,h9,Jg,zF,go_sem,↓reduceIte,Nat.reduceEqDiff,Nat.reduceAdd,reduceCtorEq] | refine RX ?_ | decide)
       refine ⟨w+1,⟨by omega,fun w' hw' => ?_⟩,by omega,Ref.to1⟩
       rcases Nat.lt_or_ge w' w with q | q
       ·exact hBw w' q
       ·obtain rfl:w' = w:=by omega
        exact hnb
     ·(refine RN ?_;try with_reducible exact trivial)
      refine ⟨b+1,⟨by omega,fun b' hb' w' hw' => ?_⟩,by omega,Ref.gc [] rfl (by simp only [go_sem,↓reduceIte,Nat.reduceEqDiff,Nat.reduceAdd,reduceCtorEq]) (by simp [sub,Ac,vJ,go_sem,↓reduceIte,Nat.reduceEqDiff,Nat.reduceAdd,reduceCtorEq])⟩
      rcases Nat.lt_or_ge b' b with q | q
      ·exact hBb b' q w' hw'
      ·obtain rfl:b' = b:=by omega
       exact hBw w' (by omega)
   ·(refine RN ?_;try with_reducible exact trivial)
    refine ⟨a+1,⟨by omega,fun a' ha' b' hb' w' hw' => ?_⟩,by omega,Ref.to1⟩
    rcases Nat.lt_or_ge a' a with q | q
    ·exact hA a' q b' hb' w' hw'
    ·obtain rfl:a' = a:=by omega
     exact hBb b' (by omega) w' hw'
  ·have hn:decide (Hg B R.length)=true:=decide_eq_true fun a' ha' => hA a' (by omega)
   rw [hn]
   refine RN ?_
   exact Ref.gc1 []
end
end Go.Proofs.YtfofabbkigonpaaDoor
