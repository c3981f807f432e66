/- Texts that belong together. -/
import Derived.Test.YtaekhhaaphgndaaGreatDoorZq
import Derived.Test.YtaekhhaaphgndaaGreatDoorX6
import Derived.Test.YtaekhhaaphgndaaGreatDoorQ1
import Derived.Test.YtaekhhaaphgndaaGreatDoorW1
set_option linter.unusedSimpArgs false
set_option linter.unusedVariables false
set_option maxRecDepth 100000
namespace Go.Proofs.YtaekhhaaphgndaaGreatDoor
section
open Go.Gov Go.Shelf Go.Proofs Go.RowKit Go.Kz
open Classical
theorem Ref.dupG {F:Gov.Frame}{H:Gov.Heap}{n0:Nat}{L:List (Nat×List Value)}(i:Nat)(hi:H[i]? = some (some (gvs L))):Ref n0 F H F (H++[some (gvs L)]):=Ref.core fun g w hp=>by
 let g' := g.add H.length none []
 have htr:∀ x d,g.tr H x=some d→g'.tr (H++[some (gvs L)]) x=some d:=fun x d hd=>tr_add g H none [] _ x d hd
 have hgho:Gho w g.G (gvs L):=by
  have h:=hp.obj i _ hi
  cases hl:g.ρ i with
  | none=>rw [hl] at h;exact h.1
  | some l=>
   obtain ⟨b,base,sz⟩:=l
   rw [hl] at h
   obtain ⟨u,bss,_,hr,_⟩:=h
   cases L with
   | nil=>exact Gho.nil
   | cons p L=>
    have h3:=hr 0 (by simp)
    generalize u 0=v,bss 0=y at h3
    cases h3
 refine ⟨g', ⟨?_,?_,?_,?_,hp.low⟩,fun b ⟨x,c,hx,hb⟩=>?_,rfl,fun x d hd=>.inl (htr x d hd)⟩
 ·intro x c hx
  rcases app_get hx with ⟨h1,h2⟩ | ⟨rfl,h2⟩
  ·have e1:g'.ρ x=g.ρ x:=by simp [g', Gh.add,Nat.ne_of_lt h1]
   have e2:g'.ob x=g.ob x:=by simp [g', Gh.add,Nat.ne_of_lt h1]
   rw [e1,e2]
   exact (hp.obj x c h2).mono (fun _ h=>h) (fun _ _=>rfl) (fun x d h=>.inl (htr x d h)) (fun _ _=>rfl)
  ·cases h2
   have e1:g'.ρ H.length=none:=by simp [g', Gh.add]
   have e2:g'.ob H.length=[]:=by simp [g', Gh.add]
   rw [e1,e2]
   exact ⟨hgho,rfl⟩
 ·intro x c hx
  rcases app_get hx with ⟨h1,h2⟩ | ⟨rfl,h2⟩
  ·simp only [g', Gh.add,if_neg (Nat.ne_of_lt h1)];exact hp.nodup x c h2
  ·simp [g', Gh.add]
 ·intro x y c d hx hy hxy b hb1 hb2
  rcases app_get hx with ⟨h1,h2⟩ | ⟨rfl,h2⟩
  ·rcases app_get hy with ⟨h3,h4⟩ | ⟨rfl,h4⟩
   ·simp only [g', Gh.add,if_neg (Nat.ne_of_lt h1)] at hb1
    simp only [g', Gh.add,if_neg (Nat.ne_of_lt h3)] at hb2
    exact hp.apart x y c d h2 h4 hxy b hb1 hb2
   ·simp [g', Gh.add] at hb2
  ·simp [g', Gh.add] at hb1
 ·intro x c hx b hb
  rcases app_get hx with ⟨h1,h2⟩ | ⟨rfl,h2⟩
  ·simp only [g', Gh.add,if_neg (Nat.ne_of_lt h1)] at hb;exact hp.free x c h2 b hb
  ·simp [g', Gh.add] at hb
 ·rcases app_get hx with ⟨h1,h2⟩ | ⟨rfl,h2⟩
  ·simp only [g', Gh.add,if_neg (Nat.ne_of_lt h1)] at hb;exact ⟨x,c,h2,hb⟩
  ·simp [g', Gh.add] at hb
noncomputable def tabZ:List (Nat×List Value):=[((Tryz.prog.globalNamed "internal/strconv.uint64pow10").getD 0,Go.Lib.pow10Tab.map (Value.int .u64))]
theorem tabZ_in {w:World}(h:VarsIn w tabZ):Go.Lib.TabIs Tryz.prog w "internal/strconv.uint64pow10" .u64 Go.Lib.pow10Tab:=by
 obtain ⟨ty,z,h1⟩:=h _ (List.mem_singleton.2 rfl)
 unfold Go.Lib.TabIs World.var?
 have hg:Tryz.prog.globalNamed "internal/strconv.uint64pow10" = some ((Tryz.prog.globalNamed "internal/strconv.uint64pow10").getD 0):=by kernel_rfl
 rw [hg,Option.bind_some,h1]
theorem numDigits_c (u:Nat)(h0:100≤u)(h1:u<1000):PureG Tryz.prog tabZ 131 [.val (.int .u64 (u:Int))] (i64 3) []:=by
 refine pureG_one [.int .u64 u] fun w hv=>?_
 refine (Any.internal_strconv_numDigits Tryz.numL u (by omega) (by omega) w (tabZ_in hv)).mono fun e w' ⟨he,hw⟩=>?_
 subst hw
 have h3:Go.Lib.nDigits u=3:=by
  rw [Go.Lib.nDigits_big (by omega),Go.Lib.nDigits_big (by omega),Go.Lib.nDigits_small (show u / 10 / 10<10 by omega)]
 rw [h3] at he
 exact ⟨he,rfl,⟨rfl,Nat.le_refl _⟩,rfl,Nat.le_refl _,fun _ _=>rfl⟩
def d3 (u:Nat):List UInt8:=[UInt8.ofNat (48+u / 100),UInt8.ofNat (48+u / 10%10),UInt8.ofNat (48+u%10)]
theorem dec_d3 {u:Nat}(h0:100≤u)(h1:u<1000):Go.Lib.decDigits u=d3 u:=by
 rw [Go.Lib.decDigits,dif_neg (by omega),Go.Lib.decDigits_two (by omega) (by omega)]
 have e1:u / 10 / 10=u / 100:=by omega
 rw [e1]
 rfl
theorem dec_sm {u:Nat}(h1:u<100):Go.Lib.decDigits u=smB u:=by
 unfold smB
 by_cases h:u<10
 ·rw [if_pos h,Go.Lib.decDigits_one h]
 ·rw [if_neg h,Go.Lib.decDigits_two h h1]
def z24:List UInt8:=List.replicate 24 0
theorem wrap_u32 {n:Int}(h0:0≤n)(h1:n<4294967296):IntKind.u32.wrap n=n:=by
 show (if (false&&decide (n%2^32 ≥ 2^(32 - 1)))=true then n%2^32 - 2^32 else n%2^32)=n
 rw [Bool.false_and,if_neg (by decide)]
 omega
theorem wrap_u8 {n:Int}(h0:0≤n)(h1:n<256):IntKind.u8.wrap n=n:=by
 show (if (false&&decide (n%2^8 ≥ 2^(8 - 1)))=true then n%2^8 - 2^8 else n%2^8)=n
 rw [Bool.false_and,if_neg (by decide)]
 omega
theorem sm_a:∀ v,v<100→([48,48,48,49,48,50,48,51,48,52,48,53,48,54,48,55,48,56,48,57,49,48,49,49,49,50,49,51,49,52,49,53,49,54,49,55,49,56,49,57,50,48,50,49,50,50,50,51,50,52,50,53,50,54,50,55,50,56,50,57,51,48,51,49,51,50,51,51,51,52,51,53,51,54,51,55,51,56,51,57,52,48,52,49,52,50,52,51,52,52,52,53,52,54,52,55,52,56,52,57,53,48,53,49,53,50,53,51,53,52,53,53,53,54,53,55,53,56,53,57,54,48,54,49,54,50,54,51,54,52,54,53,54,54,54,55,54,56,54,57,55,48,55,49,55,50,55,51,55,52,55,53,55,54,55,55,55,56,55,57,56,48,56,49,56,50,56,51,56,52,56,53,56,54,56,55,56,56,56,57,57,48,57,49,57,50,57,51,57,52,57,53,57,54,57,55,57,56,57,57]:List UInt8).getD (v*2) 0=UInt8.ofNat (48+v / 10):=by decide +kernel
theorem sm_b:∀ v,v<100→([48,48,49,48,50,48,51,48,52,48,53,48,54,48,55,48,56,48,57,49,48,49,49,49,50,49,51,49,52,49,53,49,54,49,55,49,56,49,57,50,48,50,49,50,50,50,51,50,52,50,53,50,54,50,55,50,56,50,57,51,48,51,49,51,50,51,51,51,52,51,53,51,54,51,55,51,56,51,57,52,48,52,49,52,50,52,51,52,52,52,53,52,54,52,55,52,56,52,57,53,48,53,49,53,50,53,51,53,52,53,53,53,54,53,55,53,56,53,57,54,48,54,49,54,50,54,51,54,52,54,53,54,54,54,55,54,56,54,57,55,48,55,49,55,50,55,51,55,52,55,53,55,54,55,55,55,56,55,57,56,48,56,49,56,50,56,51,56,52,56,53,56,54,56,55,56,56,56,57,57,48,57,49,57,50,57,51,57,52,57,53,57,54,57,55,57,56,57,57]:List UInt8).getD (v*2) 0=UInt8.ofNat (48+v%10):=by decide +kernel
set_option maxHeartbeats 4000000 in
theorem fmt10_w (u:Nat)(h0:100≤u)(h1:u<1000):Wri Tryz.prog 132 [.sl 0 1 0 3,.val (.int .u64 (u:Int))] [some (bC z24)] (.tup []) [some (bC (d3 u++List.replicate 21 0))]:=by
 refine wriRV ok132 rfl ?_;unfold c132
 refine RN ?_
 refine V_loop (α:=Unit) (S:=fun _=>([(0,.sl 0 1 0 3),(1,.val (.int .u64 (u:Int))),(4,i64 3)],[some (bC z24)])) (C:=fun _=>True) (μ:=fun _=>0) () trivial (Ref.to1) ?_
 rintro - -
 have w32:IntKind.u32.wrap (u:Int)=u:=wrap_u32 (by omega) (by omega)
 (refine RN ?_;try with_reducible exact trivial)
 (try with_reducible refine fun _=>?_)
 refine RN ?_
 simp only [w32,go_sem,↓reduceIte,Nat.reduceEqDiff,Nat.reduceAdd,reduceCtorEq]
 (refine RN ?_;try with_reducible exact trivial)
 (try with_reducible refine fun _=>?_)
 (refine RN ?_;try with_reducible exact trivial)
 (try with_reducible refine fun _=>?_)
 refine RN ?_
 refine Br.mk (fun _=>⟨by decide,?_⟩) fun h=>absurd h (by decide)
 have hm:Int.tmod (u:Int) 100=((u%100:Nat):Int):=(Int.ofNat_tmod u 100).symm
 have hq:Int.tdiv (u:Int) 100=((u / 100:Nat):Int):=(Int.ofNat_tdiv u 100).symm
 have w2:IntKind.u32.wrap (((u%100:Nat):Int)*2)=((u%100*2:Nat):Int):=by rw [wrap_u32 (by omega) (by omega)];omega
 have w3:IntKind.u32.wrap (((u%100*2:Nat):Int)+1)=((u%100*2+1:Nat):Int):=by rw [wrap_u32 (by omega) (by omega)];omega
 have hzl:z24.length=24:=rfl
 have hv:u%100<100:=by omega
 have hd1:u%100 / 10=u / 10%10:=by omega
 have hd2:u%100%10=u%10:=by omega
 have w4:IntKind.u32.wrap ((u / 100:Nat):Int)=((u / 100:Nat):Int):=wrap_u32 (by omega) (by omega)
 have h31:((3:Int) - 1).toNat=2:=rfl
 have h32:((3:Int) - 2).toNat=1:=rfl
 simp only [hm,hq,w2,go_sem,↓reduceIte,Nat.reduceEqDiff,Nat.reduceAdd,reduceCtorEq]
 refine RN ?_
 simp only [hm,hq,w2,go_sem,↓reduceIte,Nat.reduceEqDiff,Nat.reduceAdd,reduceCtorEq]
 refine V_altsS [(0,.sl 0 1 0 3),(4,i64 3),(12,.val (.int .u32 ((u / 100:Nat):Int)))] [some ([u8 0,u8 (UInt8.ofNat (48+u / 10%10)),u8 (UInt8.ofNat (48+u%10))]++List.replicate 21 (u8 0))] ?_ ?_
 ·repeat' first
    | simp only [w3,hzl,h31,h32,go_sem,↓reduceIte,Nat.reduceEqDiff,Nat.reduceAdd,reduceCtorEq]
    | with_reducible refine LT_reg ?_
    | with_reducible refine LT_fin ?_
    | with_reducible exact LT_tt
    | with_reducible refine LT_alt ?_ ?_
    | (with_reducible refine And.intro ?_ ?_;focus first | assumption | omega | grind)
  all_goals
   simp only [sm_a _ hv,sm_b _ hv,hd1,hd2,w4]
   refine Ref.to ?_ (by simp [sub,fget])
   rfl
 refine RN ?_
 refine Br.mk (fun _=>?_) fun h=>absurd h (by decide)
 have w5:IntKind.u32.wrap (48+((u / 100:Nat):Int))=((48+u / 100:Nat):Int):=by rw [wrap_u32 (by omega) (by omega)];omega
 have w6:IntKind.u8.wrap ((48+u / 100:Nat):Int)=((UInt8.ofNat (48+u / 100)).toNat:Int):=by
  rw [wrap_u8 (by omega) (by omega)]
  have:(UInt8.ofNat (48+u / 100)).toNat=(48+u / 100)%256:=rfl
  rw [this]
  omega
 refine RN ?_
 simp only [w5,w6,go_sem,↓reduceIte,Nat.reduceEqDiff,Nat.reduceAdd,reduceCtorEq]
 refine RN ?_
 exact Ref.to1
theorem appendUintB_w (u:Nat)(bs:List UInt8)(h0:100≤u)(h1:u<1000)(hl:bs.length≤1099511627776):Wri Tryz.prog 129 [.sl 1 1 0 bs.length,.val (.int .u64 (u:Int)),i64 10] [some (gvs tabZ),some (bC bs)] (.sl 2 1 0 (bs++d3 u).length) [none,none,some (bC (bs++d3 u))]:=by
 have hn:=numDigits_c u h0 h1
 have hf:=fmt10_w u h0 h1
 refine wriRV ok129 rfl ?_;unfold c129
 (refine RN ?_;try with_reducible exact trivial)
 (try with_reducible refine fun _=>?_)
 refine RN ?_
 refine pureGC1 (hn) ?_
 refine RN ?_
 refine wriC hf [2] (by first | rfl | simp) rfl rfl (by first | rfl | simp only [go_sem,↓reduceIte,Nat.reduceEqDiff,Nat.reduceAdd,reduceCtorEq]) ?_
 refine RN ?_
 have htk:List.take 3 (bC (d3 u++List.replicate 21 0))=bC (d3 u):=rfl
 have h3:(d3 u).length=3:=rfl
 simp only [htk,h3]
 refine ⟨⟨by decide,by decide,by decide,by decide⟩,bC_one _,AppK_pl (bC_plain _) ⟨by omega,by omega,?_⟩⟩
 refine RN ?_
 refine Ref.trans ?_ (Ref.kill 0 (H:=[some (gvs tabZ),none,some (bC (bs++d3 u))]))
 exact Ref.gc2 [0,1,3]
theorem appendUintA_w (n:Nat)(bs:List UInt8)(hn:n<100)(hl:bs.length≤1099511627776):Wri Tryz.prog 129 [.sl 1 1 0 bs.length,.val (.int .u64 (n:Int)),i64 10] [some (gvs tabZ),some (bC bs)] (.sl 2 1 0 (bs++smB n).length) [none,none,some (bC (bs++smB n))]:=by
 have hs:=smB_len n
 refine wriRV ok129 rfl ?_;unfold c129
 refine RN ?_
 refine ⟨fun hc=>?_,fun hc=>by omega⟩
 refine ⟨by omega,?_⟩
 refine pureC1 (small_c n hn) ?_
 refine RN ?_
 have e:((smB n).map fun b=>u8 b)=bC (smB n):=rfl
 simp only [e,go_sem,↓reduceIte,Nat.reduceEqDiff,Nat.reduceAdd,reduceCtorEq]
 refine RN ?_
 refine Ref.trans ?_ (Ref.kill 0 (H:=[some (gvs tabZ),none,some (bC (bs++smB n))]))
 exact Ref.to1
theorem appendUz_w (u:Nat)(bs:List UInt8)(h1:u<1000)(hl:bs.length≤1099511627776):Wri Tryz.prog 129 [.sl 1 1 0 bs.length,.val (.int .u64 (u:Int)),i64 10] [some (gvs tabZ),some (bC bs)] (.sl 2 1 0 (bs++Go.Lib.decDigits u).length) [none,none,some (bC (bs++Go.Lib.decDigits u))]:=by
 by_cases h:u<100
 ·rw [dec_sm h];exact appendUintA_w u bs h hl
 ·rw [dec_d3 (by omega) h1];exact appendUintB_w u bs (by omega) h1 hl
theorem itoa_len {z:Int}(h0 : -1≤z)(h1:z<1000):(Go.Lib.itoa z).length≤3:=by
 by_cases h:z = -1
 ·subst h;decide +kernel
 ·obtain ⟨n,rfl⟩:∃ n:Nat,z=n:=⟨z.toNat,by omega⟩
  rw [Go.Lib.itoa_nonneg]
  by_cases h2:n<100
  ·rw [dec_sm h2];have:=smB_len n;omega
  ·rw [dec_d3 (by omega) (by omega)];exact Nat.le_refl _
theorem wrap_u64b {n:Int}(h0:0≤n)(h1:n<18446744073709551616):IntKind.u64.wrap n=n:=by
 show (if (false&&decide (n%2^64 ≥ 2^(64 - 1)))=true then n%2^64 - 2^64 else n%2^64)=n
 rw [Bool.false_and,if_neg (by decide)]
 omega
theorem appendInt1Z_w (z:Int)(bs:List UInt8)(h0 : -1≤z)(h1:z<1000)(hl:bs.length≤1099511620000):Wri Tryz.prog 127 [.sl 1 1 0 bs.length,i64 z,i64 10] [some (gvs tabZ),some (bC bs)] (.sl 2 1 0 (bs++Go.Lib.itoa z).length) [none,none,some (bC (bs++Go.Lib.itoa z))]:=by
 by_cases h:z = -1
 ·subst h
  have hu:=appendUz_w 1 (bs++[45]) (by omega) (by simp;omega)
  have e:Go.Lib.itoa (-1)=45 :: Go.Lib.decDigits 1:=by have:=Go.Lib.itoa_neg 1 (by omega);simpa using this
  rw [e,show bs++45 :: Go.Lib.decDigits 1=bs++[45]++Go.Lib.decDigits 1 by simp]
  have hb2:bs.length+1=(bs++[45]).length:=by simp
  have hb3:bC bs++[.val (.int .u8 45)]=bC (bs++[45]):=by simp [bC]
  generalize bs++[45]=b1 at hu hb2 hb3 ⊢
  generalize b1++Go.Lib.decDigits 1=b2 at hu ⊢
  have w1:IntKind.u64.wrap (-1)=18446744073709551615:=by decide +kernel
  have w2:IntKind.u64.wrap (-18446744073709551615)=1:=by decide +kernel
  refine wriRV ok127 rfl ?_;unfold c127
  refine RN ?_
  refine ⟨fun _=>⟨rfl,by omega,by omega,?_⟩,fun h=>absurd h (by decide)⟩
  refine RN ?_
  simp only [w1,w2,hb2,hb3,go_sem,↓reduceIte,Nat.reduceEqDiff,Nat.reduceAdd,reduceCtorEq]
  refine RN ?_
  refine wriC1 (hu) [0,3] ?_
  refine RN ?_
  exact Ref.gc [0,1,4] rfl (by simp only [gcH,bC_rnm,go_sem,↓reduceIte,Nat.reduceEqDiff,Nat.reduceAdd,reduceCtorEq]) (by simp [sub,fget,go_sem,↓reduceIte,Nat.reduceEqDiff,Nat.reduceAdd,reduceCtorEq])
 ·obtain ⟨n,rfl⟩:∃ n:Nat,z=n:=⟨z.toNat,by omega⟩
  rw [Go.Lib.itoa_nonneg]
  have hu:=appendUz_w n bs (by omega) (by omega)
  generalize bs++Go.Lib.decDigits n=b2 at hu ⊢
  have hw:IntKind.u64.wrap (n:Int)=n:=wrap_u64b (by omega) (by omega)
  refine wriRV ok127 rfl ?_;unfold c127
  refine RN ?_
  refine fun _=>?_
  refine RN ?_
  simp only [hw,go_sem,↓reduceIte,Nat.reduceEqDiff,Nat.reduceAdd,reduceCtorEq]
  refine wriC1 (hu) [0,1] ?_
  refine RN ?_
  exact Ref.to1
theorem appendIntZ_w (z:Int)(bs:List UInt8)(h0 : -1≤z)(h1:z<1000)(hl:bs.length≤1099511620000):Wri Tryz.prog 115 [.sl 1 1 0 bs.length,i64 z,i64 10] [some (gvs tabZ),some (bC bs)] (.sl 2 1 0 (bs++Go.Lib.itoa z).length) [none,none,some (bC (bs++Go.Lib.itoa z))]:=by
 have hu:=appendInt1Z_w z bs h0 h1 hl
 generalize bs++Go.Lib.itoa z=b2 at hu ⊢
 refine wriRV ok115 rfl ?_;unfold c115
 refine RN ?_
 refine wriC1 (hu) [0,1] ?_
 refine RN ?_
 exact Ref.to1
theorem keyZ_len (xs:List Int)(hx:∀ i,i<xs.length → -1≤xs.getD i 0∧xs.getD i 0<1000):∀ i,(keyZ (xs.take i)).length≤4*i
 | 0=>by simp [keyZ]
 | i+1=>by
  by_cases h:i<xs.length
  ·have ih:=keyZ_len xs hx i
   have hi:=hx i h
   have:=itoa_len hi.1 hi.2
   rw [keyZ_take xs i h]
   simp only [List.length_append,List.length_singleton]
   omega
  ·have ih:=keyZ_len xs hx i
   rw [List.take_of_length_le (by omega)] at ih ⊢
   omega
theorem keyOfZ_c (xs:List Int)(hx:∀ i,i<xs.length → -1≤xs.getD i 0∧xs.getD i 0<1000)(hl:xs.length≤1048576):PureG Tryz.prog tabZ 92 [ints xs] (.val (.string (kZ xs))) []:=by
 refine pureGV ok92 rfl ?_;unfold c92
 refine RN ?_
 refine V_loop (α:=Nat) (S:=fun i=>([(3,.sl 1 1 0 (keyZ (xs.take i)).length),(6,ints xs),(7,i64 xs.length),(8,i64 (i:Int))],[some (gvs tabZ),some (bC (keyZ (xs.take i)))])) (C:=fun i=>i≤xs.length) (μ:=fun i=>xs.length - i) 0 (Nat.zero_le _) ?_ ?_
 ·exact (Ref.nil 3 1 rfl).trans (Ref.to (by simp [keyZ,bC]) (by simp [sub,fget,keyZ]))
 intro i hi
 have hkl:=keyZ_len xs hx i
 have htl:=List.length_take (i:=i) (l:=xs)
 refine RN ?_
 refine ⟨fun hc=>?_,fun hc=>?_⟩
 ·have hxi:=hx i (by omega)
  have hap:=appendIntZ_w (xs.getD i 0) (keyZ (xs.take i)) hxi.1 hxi.2 (by omega)
  have hk:=keyZ_take xs i (by omega)
  have hkl2:=keyZ_len xs hx (i+1)
  generalize keyZ (xs.take i)++Go.Lib.itoa (xs.getD i 0)=b2 at hap hk
  have hb2:b2.length+1=(keyZ (xs.take (i+1))).length:=by rw [hk];simp
  refine V_ref (Ref.dupG 0 rfl) ?_
  refine RN ?_
  refine wriC1 (hap) [2,1] ?_
  refine RN ?_
  have hb3:bC b2++[.val (.int .u8 32)]=bC (keyZ (xs.take (i+1))):=by rw [hk];simp [bC]
  rw [hb3,hb2]
  exact ⟨i+1,by omega,by omega,Ref.gc1 [0,5]⟩
 ·obtain rfl:i=xs.length:=by omega
  refine RN ?_
  rw [List.take_length,show bA (keyZ xs)=kZ xs from rfl]
  exact Ref.gc1 []
end
section
open Go.Gov Go.Fl Go.Kz
open Classical
def cmT (a b:List Int)(i:Nat):List Int:=(List.range a.length).map fun k=>if k<i∧¬ a.getD k 0=b.getD k 0 then -1 else a.getD k 0
theorem cmT_len (a b:List Int)(i:Nat):(cmT a b i).length=a.length:=by simp [cmT]
theorem cmT_at {a b:List Int}{i k:Nat}(h:k<a.length):(cmT a b i).getD k 0=if k<i∧¬ a.getD k 0=b.getD k 0 then -1 else a.getD k 0:=by simp [cmT,h]
theorem cmT_zero (a b:List Int):cmT a b 0=a:=by
 refine ext_of (r:=a.length) (cmT_len _ _ _) rfl fun j hj=>?_
 rw [cmT_at hj,if_neg (by omega)]
theorem cmT_end (a b:List Int):cmT a b a.length=comL a b:=by
 refine ext_of (r:=a.length) (cmT_len _ _ _) (comL_len _ _) fun j hj=>?_
 rw [cmT_at hj,comL_at hj]
 by_cases e:a.getD j 0=b.getD j 0
 ·rw [if_neg (fun h=>h.2 e),if_pos e]
 ·rw [if_pos ⟨hj,e⟩,if_neg e]
theorem cmT_same {a b:List Int}{i:Nat}(h:a.getD i 0=b.getD i 0):cmT a b (i+1)=cmT a b i:=by
 refine ext_of (r:=a.length) (cmT_len _ _ _) (cmT_len _ _ _) fun j hj=>?_
 rw [cmT_at hj,cmT_at hj]
 by_cases e:j=i
 ·subst e;rw [if_neg (fun k=>k.2 h),if_neg (fun k=>k.2 h)]
 ·by_cases h2:j<i
  ·simp [h2,show j<i+1 by omega]
  ·simp [h2,show ¬ j<i+1 by omega]
theorem cmT_set {a b:List Int}{i:Nat}(hi:i<a.length)(h:¬ a.getD i 0=b.getD i 0):(cmT a b i).set i (-1)=cmT a b (i+1):=by
 refine ext_of (r:=a.length) (by rw [List.length_set,cmT_len]) (cmT_len _ _ _) fun j hj=>?_
 rw [cmT_at hj]
 by_cases e:j=i
 ·subst e
  rw [if_pos ⟨by omega,h⟩,List.getD_eq_getElem?_getD,List.getElem?_set_self (by rw [cmT_len];exact hi)]
  rfl
 ·rw [List.getD_eq_getElem?_getD,List.getElem?_set_ne (fun h=>e h.symm),← List.getD_eq_getElem?_getD,cmT_at hj]
  by_cases h2:j<i
  ·simp [h2,show j<i+1 by omega]
  ·simp [h2,show ¬ j<i+1 by omega]
theorem commonOf_p (a b:List Int)(hl:b.length=a.length)(h0:0<a.length)(hs:a.length≤1048576):Pure Tryz.prog 91 [ints a,ints b] (.sl 0 1 0 a.length) [some (intsC (comL a b))]:=by
 have hcl:=clone_c a h0 (by omega)
 refine pureRV ok91 rfl ?_;unfold c91
 refine RN ?_
 refine pureC1 (hcl) ?_
 refine RN ?_
 refine V_loop (α:=Nat) (S:=fun i=>([(5,.sl 0 1 0 a.length),(10,ints b),(11,i64 (b.length:Int)),(12,i64 (i:Int))],[some (intsC (cmT a b i))])) (C:=fun i=>i≤b.length) (μ:=fun i=>b.length - i) 0 (Nat.zero_le _) (Ref.to (by rw [cmT_zero]) (by simp [sub,fget])) ?_
 intro i hi
 have hcm:=cmT_len a b i
 refine RN ?_
 refine ⟨fun hc=>?_,fun hc=>?_⟩
 ·have hat:(cmT a b i).getD i 0=a.getD i 0:=by rw [cmT_at (by omega),if_neg (by omega)]
  refine RN ?_
  simp only [hat,go_sem,↓reduceIte,Nat.reduceEqDiff,Nat.reduceAdd,reduceCtorEq]
  refine RN ?_
  refine ⟨fun hc2=>?_,fun hc2=>?_⟩
  ·have hst:=cmT_set (a:=a) (b:=b) (i:=i) (by omega) hc2
   refine RN ?_
   exact ⟨i+1,by omega,by omega,Ref.to (by rw [hst]) (by simp [sub,fget])⟩
  ·have hst:=cmT_same (a:=a) (b:=b) (i:=i) (by grind)
   refine RN ?_
   exact ⟨i+1,by omega,by omega,Ref.to (by rw [hst]) (by simp [sub,fget])⟩
 ·obtain rfl:i=b.length:=by omega
  refine RN ?_
  rw [hl,cmT_end]
  exact Ref.to1
end
end Go.Proofs.YtaekhhaaphgndaaGreatDoor
