/- Texts that belong together. -/
import Derived.Test.YtfofabbkigonpaaDoorZq
import Derived.Test.YtfofabbkigonpaaDoorX6
import Derived.Test.YtfofabbkigonpaaDoorQ1
import Derived.Test.YtfofabbkigonpaaDoorW1
set_option linter.unusedSimpArgs false
set_option linter.unusedVariables false
set_option maxRecDepth 100000
namespace Go.Proofs.YtfofabbkigonpaaDoor
section
open Go.Gov Go.Shelf Go.Proofs Go.RowKit Go.Kz
open Classical
theorem Ref.dupG {F:Gov.Frame}{H:Gov.Heap}{n0:Nat}{L:List (Nat×List Value)}(i:Nat)(hi:H[i]? = some (some (Ay L))):Ref n0 F H F (H++[some (Ay L)]):=Ref.core fun g w hp=>by
 let g' := g.add H.length none []
 have htr:∀ x d,g.tr H x=some d→g'.tr (H++[some (Ay L)]) x=some d:=fun x d hd=>F0 g H none [] _ x d hd
 have hgho:Gho w g.G (Ay L):=by
  have h:=hp.obj i _ hi
  cases hl:g.ρ i with
  | none=>rw [hl] at h;exact h.1
  | some l=>
   obtain ⟨b,base,sz⟩:=l
   rw [hl] at h
   obtain ⟨u,bss,_,hr,_⟩:=h
   cases L with
   | nil=>exact Gho.nil
   | cons p L=>
    have h3:=hr 0 (by simp)
    generalize u 0=v,bss 0=y at h3
    cases h3
 refine ⟨g', ⟨?_,?_,?_,?_,hp.low⟩,fun b ⟨x,c,hx,hb⟩=>?_,rfl,fun x d hd=>.inl (htr x d hd)⟩
 ·intro x c hx
  rcases C8 hx with ⟨h1,h2⟩ | ⟨rfl,h2⟩
  ·have e1:g'.ρ x=g.ρ x:=by simp [g', Gh.add,Nat.ne_of_lt h1]
   have e2:g'.ob x=g.ob x:=by simp [g', Gh.add,Nat.ne_of_lt h1]
   rw [e1,e2]
   exact (hp.obj x c h2).mono (fun _ h=>h) (fun _ _=>rfl) (fun x d h=>.inl (htr x d h)) (fun _ _=>rfl)
  ·cases h2
   have e1:g'.ρ H.length=none:=by simp [g', Gh.add]
   have e2:g'.ob H.length=[]:=by simp [g', Gh.add]
   rw [e1,e2]
   exact ⟨hgho,rfl⟩
 ·intro x c hx
  rcases C8 hx with ⟨h1,h2⟩ | ⟨rfl,h2⟩
  ·simp only [g', Gh.add,if_neg (Nat.ne_of_lt h1)];exact hp.nodup x c h2
  ·simp [g', Gh.add]
 ·intro x y c d hx hy hxy b hb1 hb2
  rcases C8 hx with ⟨h1,h2⟩ | ⟨rfl,h2⟩
  ·rcases C8 hy with ⟨h3,h4⟩ | ⟨rfl,h4⟩
   ·simp only [g', Gh.add,if_neg (Nat.ne_of_lt h1)] at hb1
    simp only [g', Gh.add,if_neg (Nat.ne_of_lt h3)] at hb2
    exact hp.apart x y c d h2 h4 hxy b hb1 hb2
   ·simp [g', Gh.add] at hb2
  ·simp [g', Gh.add] at hb1
 ·intro x c hx b hb
  rcases C8 hx with ⟨h1,h2⟩ | ⟨rfl,h2⟩
  ·simp only [g', Gh.add,if_neg (Nat.ne_of_lt h1)] at hb;exact hp.free x c h2 b hb
  ·simp [g', Gh.add] at hb
 ·rcases C8 hx with ⟨h1,h2⟩ | ⟨rfl,h2⟩
  ·simp only [g', Gh.add,if_neg (Nat.ne_of_lt h1)] at hb;exact ⟨x,c,h2,hb⟩
  ·simp [g', Gh.add] at hb
noncomputable def Bh:List (Nat×List Value):=[((Tryd.prog.globalNamed "internal/strconv.uint64pow10").getD 0,Go.Lib.pow10Tab.map (Value.int .u64))]
theorem xQ {w:World}(h:Ht w Bh):Go.Lib.TabIs Tryd.prog w "internal/strconv.uint64pow10" .u64 Go.Lib.pow10Tab:=by
 obtain ⟨ty,z,h1⟩:=h _ (List.mem_singleton.2 rfl)
 unfold Go.Lib.TabIs World.var?
 have hg:Tryd.prog.globalNamed "internal/strconv.uint64pow10" = some ((Tryd.prog.globalNamed "internal/strconv.uint64pow10").getD 0):=by kernel_rfl
 rw [hg,Option.bind_some,h1]
theorem nU (u:Nat)(h0:100≤u)(h1:u<1000):D9 Tryd.prog Bh 142 [.val (.int .u64 (u:Int))] (i64 3) []:=by
 refine sT [.int .u64 u] fun w hv=>?_
 refine (Any.internal_strconv_numDigits Tryd.numL u (by omega) (by omega) w (xQ hv)).mono fun e w' ⟨he,hw⟩=>?_
 subst hw
 have h3:Go.Lib.nDigits u=3:=by
  rw [Go.Lib.nDigits_big (by omega),Go.Lib.nDigits_big (by omega),Go.Lib.nDigits_small (show u / 10 / 10<10 by omega)]
 rw [h3] at he
 exact ⟨he,rfl,⟨rfl,Nat.le_refl _⟩,rfl,Nat.le_refl _,fun _ _=>rfl⟩
def d3 (u:Nat):List UInt8:=[UInt8.ofNat (48+u / 100),UInt8.ofNat (48+u / 10%10),UInt8.ofNat (48+u%10)]
theorem Vo {u:Nat}(h0:100≤u)(h1:u<1000):Go.Lib.decDigits u=d3 u:=by
 rw [Go.Lib.decDigits,dif_neg (by omega),Go.Lib.decDigits_two (by omega) (by omega)]
 have e1:u / 10 / 10=u / 100:=by omega
 rw [e1]
 rfl
theorem Vp {u:Nat}(h1:u<100):Go.Lib.decDigits u=Gj u:=by
 unfold Gj
 by_cases h:u<10
 ·rw [if_pos h,Go.Lib.decDigits_one h]
 ·rw [if_neg h,Go.Lib.decDigits_two h h1]
def z24:List UInt8:=List.replicate 24 0
theorem Mj {n:Int}(h0:0≤n)(h1:n<4294967296):IntKind.u32.wrap n=n:=by
 show (if (false&&decide (n%2^32 ≥ 2^(32 - 1)))=true then n%2^32 - 2^32 else n%2^32)=n
 rw [Bool.false_and,if_neg (by decide)]
 omega
theorem zR {n:Int}(h0:0≤n)(h1:n<256):IntKind.u8.wrap n=n:=by
 show (if (false&&decide (n%2^8 ≥ 2^(8 - 1)))=true then n%2^8 - 2^8 else n%2^8)=n
 rw [Bool.false_and,if_neg (by decide)]
 omega
theorem wJ:∀ v,v<100→([48,48,48,49,48,50,48,51,48,52,48,53,48,54,48,55,48,56,48,57,49,48,49,49,49,50,49,51,49,52,49,53,49,54,49,55,49,56,49,57,50,48,50,49,50,50,50,51,50,52,50,53,50,54,50,55,50,56,50,57,51,48,51,49,51,50,51,51,51,52,51,53,51,54,51,55,51,56,51,57,52,48,52,49,52,50,52,51,52,52,52,53,52,54,52,55,52,56,52,57,53,48,53,49,53,50,53,51,53,52,53,53,53,54,53,55,53,56,53,57,54,48,54,49,54,50,54,51,54,52,54,53,54,54,54,55,54,56,54,57,55,48,55,49,55,50,55,51,55,52,55,53,55,54,55,55,55,56,55,57,56,48,56,49,56,50,56,51,56,52,56,53,56,54,56,55,56,56,56,57,57,48,57,49,57,50,57,51,57,52,57,53,57,54,57,55,57,56,57,57]:List UInt8).getD (v*2) 0=UInt8.ofNat (48+v / 10):=by decide +kernel
theorem wK:∀ v,v<100→([48,48,49,48,50,48,51,48,52,48,53,48,54,48,55,48,56,48,57,49,48,49,49,49,50,49,51,49,52,49,53,49,54,49,55,49,56,49,57,50,48,50,49,50,50,50,51,50,52,50,53,50,54,50,55,50,56,50,57,51,48,51,49,51,50,51,51,51,52,51,53,51,54,51,55,51,56,51,57,52,48,52,49,52,50,52,51,52,52,52,53,52,54,52,55,52,56,52,57,53,48,53,49,53,50,53,51,53,52,53,53,53,54,53,55,53,56,53,57,54,48,54,49,54,50,54,51,54,52,54,53,54,54,54,55,54,56,54,57,55,48,55,49,55,50,55,51,55,52,55,53,55,54,55,55,55,56,55,57,56,48,56,49,56,50,56,51,56,52,56,53,56,54,56,55,56,56,56,57,57,48,57,49,57,50,57,51,57,52,57,53,57,54,57,55,57,56,57,57]:List UInt8).getD (v*2) 0=UInt8.ofNat (48+v%10):=by decide +kernel
set_option maxHeartbeats 4000000 in
theorem iG (u:Nat)(h0:100≤u)(h1:u<1000):Er Tryd.prog 143 [.sl 0 1 0 3,.val (.int .u64 (u:Int))] [some (bC z24)] (.tup []) [some (bC (d3 u++List.replicate 21 0))]:=by
 refine G0 oQ rfl ?_;unfold T6
 refine RN ?_
 refine Ak (α:=Unit) (S:=fun _=>([(0,.sl 0 1 0 3),(1,.val (.int .u64 (u:Int))),(4,i64 3)],[some (bC z24)])) (C:=fun _=>True) (μ:=fun _=>0) () trivial (Ref.to1) ?_
 rintro - -
 have w32:IntKind.u32.wrap (u:Int)=u:=Mj (by omega) (by omega)
 (refine RN ?_;try with_reducible exact trivial)
 (try with_reducible refine fun _=>?_)
 refine RN ?_
 simp only [w32,go_sem,↓reduceIte,Nat.reduceEqDiff,Nat.reduceAdd,reduceCtorEq]
 (refine RN ?_;try with_reducible exact trivial)
 (try with_reducible refine fun _=>?_)
 (refine RN ?_;try with_reducible exact trivial)
 (try with_reducible refine fun _=>?_)
 refine RN ?_
 refine Br.mk (fun _=>⟨by decide,?_⟩) fun h=>absurd h (by decide)
 have hm:Int.tmod (u:Int) 100=((u%100:Nat):Int):=(Int.ofNat_tmod u 100).symm
 have hq:Int.tdiv (u:Int) 100=((u / 100:Nat):Int):=(Int.ofNat_tdiv u 100).symm
 have w2:IntKind.u32.wrap (((u%100:Nat):Int)*2)=((u%100*2:Nat):Int):=by rw [Mj (by omega) (by omega)];omega
 have w3:IntKind.u32.wrap (((u%100*2:Nat):Int)+1)=((u%100*2+1:Nat):Int):=by rw [Mj (by omega) (by omega)];omega
 have hzl:z24.length=24:=rfl
 have hv:u%100<100:=by omega
 have hd1:u%100 / 10=u / 10%10:=by omega
 have hd2:u%100%10=u%10:=by omega
 have w4:IntKind.u32.wrap ((u / 100:Nat):Int)=((u / 100:Nat):Int):=Mj (by omega) (by omega)
 have h31:((3:Int) - 1).toNat=2:=rfl
 have h32:((3:Int) - 2).toNat=1:=rfl
 simp only [hm,hq,w2,go_sem,↓reduceIte,Nat.reduceEqDiff,Nat.reduceAdd,reduceCtorEq]
 refine RN ?_
 simp only [hm,hq,w2,go_sem,↓reduceIte,Nat.reduceEqDiff,Nat.reduceAdd,reduceCtorEq]
 refine Mu [(0,.sl 0 1 0 3),(4,i64 3),(12,.val (.int .u32 ((u / 100:Nat):Int)))] [some ([u8 0,u8 (UInt8.ofNat (48+u / 10%10)),u8 (UInt8.ofNat (48+u%10))]++List.replicate 21 (u8 0))] ?_ ?_
 ·repeat' first
    | simp only [w3,hzl,h31,h32,go_sem,↓reduceIte,Nat.reduceEqDiff,Nat.reduceAdd,reduceCtorEq]
    | with_reducible refine Fg ?_
    | with_reducible refine Ff ?_
    | with_reducible exact Fh
    | with_reducible refine Fe ?_ ?_
    | (with_reducible refine And.intro ?_ ?_;focus first | assumption | omega | grind)
  all_goals
   simp only [wJ _ hv,wK _ hv,hd1,hd2,w4]
   refine Ref.to ?_ (by simp [sub,Ac])
   rfl
 refine RN ?_
 refine Br.mk (fun _=>?_) fun h=>absurd h (by decide)
 have w5:IntKind.u32.wrap (48+((u / 100:Nat):Int))=((48+u / 100:Nat):Int):=by rw [Mj (by omega) (by omega)];omega
 have w6:IntKind.u8.wrap ((48+u / 100:Nat):Int)=((UInt8.ofNat (48+u / 100)).toNat:Int):=by
  rw [zR (by omega) (by omega)]
  have:(UInt8.ofNat (48+u / 100)).toNat=(48+u / 100)%256:=rfl
  rw [this]
  omega
 refine RN ?_
 simp only [w5,w6,go_sem,↓reduceIte,Nat.reduceEqDiff,Nat.reduceAdd,reduceCtorEq]
 refine RN ?_
 exact Ref.to1
theorem dN (u:Nat)(bs:List UInt8)(h0:100≤u)(h1:u<1000)(hl:bs.length≤1099511627776):Er Tryd.prog 132 [.sl 1 1 0 bs.length,.val (.int .u64 (u:Int)),i64 10] [some (Ay Bh),some (bC bs)] (.sl 2 1 0 (bs++d3 u).length) [none,none,some (bC (bs++d3 u))]:=by
 have hn:=nU u h0 h1
 have hf:=iG u h0 h1
 refine G0 Ys rfl ?_;unfold P9
 (refine RN ?_;try with_reducible exact trivial)
 (try with_reducible refine fun _=>?_)
 refine RN ?_
 refine Gw (hn) ?_
 refine RN ?_
 refine aY hf [2] (by first | rfl | simp) rfl rfl (by first | rfl | simp only [go_sem,↓reduceIte,Nat.reduceEqDiff,Nat.reduceAdd,reduceCtorEq]) ?_
 refine RN ?_
 have htk:List.take 3 (bC (d3 u++List.replicate 21 0))=bC (d3 u):=rfl
 have h3:(d3 u).length=3:=rfl
 simp only [htk,h3]
 refine ⟨⟨by decide,by decide,by decide,by decide⟩,Th _,bM (Ti _) ⟨by omega,by omega,?_⟩⟩
 refine RN ?_
 refine Ref.trans ?_ (Ref.kill 0 (H:=[some (Ay Bh),none,some (bC (bs++d3 u))]))
 exact Ref.gc2 [0,1,3]
theorem dM (n:Nat)(bs:List UInt8)(hn:n<100)(hl:bs.length≤1099511627776):Er Tryd.prog 132 [.sl 1 1 0 bs.length,.val (.int .u64 (n:Int)),i64 10] [some (Ay Bh),some (bC bs)] (.sl 2 1 0 (bs++Gj n).length) [none,none,some (bC (bs++Gj n))]:=by
 have hs:=aA n
 refine G0 Ys rfl ?_;unfold P9
 refine RN ?_
 refine ⟨fun hc=>?_,fun hc=>by omega⟩
 refine ⟨by omega,?_⟩
 refine An (wL n hn) ?_
 refine RN ?_
 have e:((Gj n).map fun b=>u8 b)=bC (Gj n):=rfl
 simp only [e,go_sem,↓reduceIte,Nat.reduceEqDiff,Nat.reduceAdd,reduceCtorEq]
 refine RN ?_
 refine Ref.trans ?_ (Ref.kill 0 (H:=[some (Ay Bh),none,some (bC (bs++Gj n))]))
 exact Ref.to1
theorem Td (u:Nat)(bs:List UInt8)(h1:u<1000)(hl:bs.length≤1099511627776):Er Tryd.prog 132 [.sl 1 1 0 bs.length,.val (.int .u64 (u:Int)),i64 10] [some (Ay Bh),some (bC bs)] (.sl 2 1 0 (bs++Go.Lib.decDigits u).length) [none,none,some (bC (bs++Go.Lib.decDigits u))]:=by
 by_cases h:u<100
 ·rw [Vp h];exact dM u bs h hl
 ·rw [Vo (by omega) h1];exact dN u bs (by omega) h1 hl
theorem jZ {z:Int}(h0 : -1≤z)(h1:z<1000):(Go.Lib.itoa z).length≤3:=by
 by_cases h:z = -1
 ·subst h;decide +kernel
 ·obtain ⟨n,rfl⟩:∃ n:Nat,z=n:=⟨z.toNat,by omega⟩
  rw [Go.Lib.itoa_nonneg]
  by_cases h2:n<100
  ·rw [Vp h2];have:=aA n;omega
  ·rw [Vo (by omega) (by omega)];exact Nat.le_refl _
theorem zQ {n:Int}(h0:0≤n)(h1:n<18446744073709551616):IntKind.u64.wrap n=n:=by
 show (if (false&&decide (n%2^64 ≥ 2^(64 - 1)))=true then n%2^64 - 2^64 else n%2^64)=n
 rw [Bool.false_and,if_neg (by decide)]
 omega
theorem dK (z:Int)(bs:List UInt8)(h0 : -1≤z)(h1:z<1000)(hl:bs.length≤1099511620000):Er Tryd.prog 119 [.sl 1 1 0 bs.length,i64 z,i64 10] [some (Ay Bh),some (bC bs)] (.sl 2 1 0 (bs++Go.Lib.itoa z).length) [none,none,some (bC (bs++Go.Lib.itoa z))]:=by
 by_cases h:z = -1
 ·subst h
  have hu:=Td 1 (bs++[45]) (by omega) (by simp;omega)
  have e:Go.Lib.itoa (-1)=45 :: Go.Lib.decDigits 1:=by have:=Go.Lib.itoa_neg 1 (by omega);simpa using this
  rw [e,show bs++45 :: Go.Lib.decDigits 1=bs++[45]++Go.Lib.decDigits 1 by simp]
  have hb2:bs.length+1=(bs++[45]).length:=by simp
  have hb3:bC bs++[.val (.int .u8 45)]=bC (bs++[45]):=by simp [bC]
  generalize bs++[45]=b1 at hu hb2 hb3 ⊢
  generalize b1++Go.Lib.decDigits 1=b2 at hu ⊢
  have w1:IntKind.u64.wrap (-1)=18446744073709551615:=by decide +kernel
  have w2:IntKind.u64.wrap (-18446744073709551615)=1:=by decide +kernel
  refine G0 Yq rfl ?_;unfold P7
  refine RN ?_
  refine ⟨fun _=>⟨rfl,by omega,by omega,?_⟩,fun h=>absurd h (by decide)⟩
  refine RN ?_
  simp only [w1,w2,hb2,hb3,go_sem,↓reduceIte,Nat.reduceEqDiff,Nat.reduceAdd,reduceCtorEq]
  refine RN ?_
  refine Pp (hu) [0,3] ?_
  refine RN ?_
  exact Ref.gc [0,1,4] rfl (by simp only [Aq,Tj,go_sem,↓reduceIte,Nat.reduceEqDiff,Nat.reduceAdd,reduceCtorEq]) (by simp [sub,Ac,go_sem,↓reduceIte,Nat.reduceEqDiff,Nat.reduceAdd,reduceCtorEq])
 ·obtain ⟨n,rfl⟩:∃ n:Nat,z=n:=⟨z.toNat,by omega⟩
  rw [Go.Lib.itoa_nonneg]
  have hu:=Td n bs (by omega) (by omega)
  generalize bs++Go.Lib.decDigits n=b2 at hu ⊢
  have hw:IntKind.u64.wrap (n:Int)=n:=zQ (by omega) (by omega)
  refine G0 Yq rfl ?_;unfold P7
  refine RN ?_
  refine fun _=>?_
  refine RN ?_
  simp only [hw,go_sem,↓reduceIte,Nat.reduceEqDiff,Nat.reduceAdd,reduceCtorEq]
  refine Pp (hu) [0,1] ?_
  refine RN ?_
  exact Ref.to1
theorem dL (z:Int)(bs:List UInt8)(h0 : -1≤z)(h1:z<1000)(hl:bs.length≤1099511620000):Er Tryd.prog 108 [.sl 1 1 0 bs.length,i64 z,i64 10] [some (Ay Bh),some (bC bs)] (.sl 2 1 0 (bs++Go.Lib.itoa z).length) [none,none,some (bC (bs++Go.Lib.itoa z))]:=by
 have hu:=dK z bs h0 h1 hl
 generalize bs++Go.Lib.itoa z=b2 at hu ⊢
 refine G0 oI rfl ?_;unfold Tx
 refine RN ?_
 refine Pp (hu) [0,1] ?_
 refine RN ?_
 exact Ref.to1
theorem N0 (xs:List Int)(hx:∀ i,i<xs.length → -1≤xs.getD i 0∧xs.getD i 0<1000):∀ i,(B9 (xs.take i)).length≤4*i
 | 0=>by simp [B9]
 | i+1=>by
  by_cases h:i<xs.length
  ·have ih:=N0 xs hx i
   have hi:=hx i h
   have:=jZ hi.1 hi.2
   rw [W9 xs i h]
   simp only [List.length_append,List.length_singleton]
   omega
  ·have ih:=N0 xs hx i
   rw [List.take_of_length_le (by omega)] at ih ⊢
   omega
theorem W7 (xs:List Int)(hx:∀ i,i<xs.length → -1≤xs.getD i 0∧xs.getD i 0<1000)(hl:xs.length≤1048576):D9 Tryd.prog Bh 85 [Ad xs] (.val (.string (kZ xs))) []:=by
 refine Kp qK rfl ?_;unfold Va
 refine RN ?_
 refine Ak (α:=Nat) (S:=fun i=>([(3,.sl 1 1 0 (B9 (xs.take i)).length),(6,Ad xs),(7,i64 xs.length),(8,i64 (i:Int))],[some (Ay Bh),some (bC (B9 (xs.take i)))])) (C:=fun i=>i≤xs.length) (μ:=fun i=>xs.length - i) 0 (Nat.zero_le _) ?_ ?_
 ·exact (Ref.nil 3 1 rfl).trans (Ref.to (by simp [B9,bC]) (by simp [sub,Ac,B9]))
 intro i hi
 have hkl:=N0 xs hx i
 have htl:=List.length_take (i:=i) (l:=xs)
 refine RN ?_
 refine ⟨fun hc=>?_,fun hc=>?_⟩
 ·have hxi:=hx i (by omega)
  have hap:=dL (xs.getD i 0) (B9 (xs.take i)) hxi.1 hxi.2 (by omega)
  have hk:=W9 xs i (by omega)
  have hkl2:=N0 xs hx (i+1)
  generalize B9 (xs.take i)++Go.Lib.itoa (xs.getD i 0)=b2 at hap hk
  have hb2:b2.length+1=(B9 (xs.take (i+1))).length:=by rw [hk];simp
  refine Hs (Ref.dupG 0 rfl) ?_
  refine RN ?_
  refine Pp (hap) [2,1] ?_
  refine RN ?_
  have hb3:bC b2++[.val (.int .u8 32)]=bC (B9 (xs.take (i+1))):=by rw [hk];simp [bC]
  rw [hb3,hb2]
  exact ⟨i+1,by omega,by omega,Ref.gc1 [0,5]⟩
 ·obtain rfl:i=xs.length:=by omega
  refine RN ?_
  rw [List.take_length,show bA (B9 xs)=kZ xs from rfl]
  exact Ref.gc1 []
end
section
open Go.Gov Go.Fl Go.Kz
open Classical
def Fo (a b:List Int)(i:Nat):List Int:=(List.range a.length).map fun k=>if k<i∧¬ a.getD k 0=b.getD k 0 then -1 else a.getD k 0
theorem Hw (a b:List Int)(i:Nat):(Fo a b i).length=a.length:=by simp [Fo]
theorem Ir {a b:List Int}{i k:Nat}(h:k<a.length):(Fo a b i).getD k 0=if k<i∧¬ a.getD k 0=b.getD k 0 then -1 else a.getD k 0:=by simp [Fo,h]
theorem fK (a b:List Int):Fo a b 0=a:=by
 refine J3 (r:=a.length) (Hw _ _ _) rfl fun j hj=>?_
 rw [Ir hj,if_neg (by omega)]
theorem fH (a b:List Int):Fo a b a.length=Be a b:=by
 refine J3 (r:=a.length) (Hw _ _ _) (G7 _ _) fun j hj=>?_
 rw [Ir hj,Is hj]
 by_cases e:a.getD j 0=b.getD j 0
 ·rw [if_neg (fun h=>h.2 e),if_pos e]
 ·rw [if_pos ⟨hj,e⟩,if_neg e]
theorem fI {a b:List Int}{i:Nat}(h:a.getD i 0=b.getD i 0):Fo a b (i+1)=Fo a b i:=by
 refine J3 (r:=a.length) (Hw _ _ _) (Hw _ _ _) fun j hj=>?_
 rw [Ir hj,Ir hj]
 by_cases e:j=i
 ·subst e;rw [if_neg (fun k=>k.2 h),if_neg (fun k=>k.2 h)]
 ·by_cases h2:j<i
  ·simp [h2,show j<i+1 by omega]
  ·simp [h2,show ¬ j<i+1 by omega]
theorem fJ {a b:List Int}{i:Nat}(hi:i<a.length)(h:¬ a.getD i 0=b.getD i 0):(Fo a b i).set i (-1)=Fo a b (i+1):=by
 refine J3 (r:=a.length) (by rw [List.length_set,Hw]) (Hw _ _ _) fun j hj=>?_
 rw [Ir hj]
 by_cases e:j=i
 ·subst e
  rw [if_pos ⟨by omega,h⟩,List.getD_eq_getElem?_getD,List.getElem?_set_self (by rw [Hw];exact hi)]
  rfl
 ·rw [List.getD_eq_getElem?_getD,List.getElem?_set_ne (fun h=>e h.symm),← List.getD_eq_getElem?_getD,Ir hj]
  by_cases h2:j<i
  ·simp [h2,show j<i+1 by omega]
  ·simp [h2,show ¬ j<i+1 by omega]
theorem fS (a b:List Int)(hl:b.length=a.length)(h0:0<a.length)(hs:a.length≤1048576):Ao Tryd.prog 84 [Ad a,Ad b] (.sl 0 1 0 a.length) [some (Aa (Be a b))]:=by
 have hcl:=M6 a h0 (by omega)
 refine De qJ rfl ?_;unfold U9
 refine RN ?_
 refine An (hcl) ?_
 refine RN ?_
 refine Ak (α:=Nat) (S:=fun i=>([(5,.sl 0 1 0 a.length),(10,Ad b),(11,i64 (b.length:Int)),(12,i64 (i:Int))],[some (Aa (Fo a b i))])) (C:=fun i=>i≤b.length) (μ:=fun i=>b.length - i) 0 (Nat.zero_le _) (Ref.to (by rw [fK]) (by simp [sub,Ac])) ?_
 intro i hi
 have hcm:=Hw a b i
 refine RN ?_
 refine ⟨fun hc=>?_,fun hc=>?_⟩
 ·have hat:(Fo a b i).getD i 0=a.getD i 0:=by rw [Ir (by omega),if_neg (by omega)]
  refine RN ?_
  simp only [hat,go_sem,↓reduceIte,Nat.reduceEqDiff,Nat.reduceAdd,reduceCtorEq]
  refine RN ?_
  refine ⟨fun hc2=>?_,fun hc2=>?_⟩
  ·have hst:=fJ (a:=a) (b:=b) (i:=i) (by omega) hc2
   refine RN ?_
   exact ⟨i+1,by omega,by omega,Ref.to (by rw [hst]) (by simp [sub,Ac])⟩
  ·have hst:=fI (a:=a) (b:=b) (i:=i) (by grind)
   refine RN ?_
   exact ⟨i+1,by omega,by omega,Ref.to (by rw [hst]) (by simp [sub,Ac])⟩
 ·obtain rfl:i=b.length:=by omega
  refine RN ?_
  rw [hl,fH]
  exact Ref.to1
end
end Go.Proofs.YtfofabbkigonpaaDoor
