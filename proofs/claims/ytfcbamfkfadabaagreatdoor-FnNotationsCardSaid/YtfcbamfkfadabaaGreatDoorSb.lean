/- Texts that belong together. -/
import Derived.Shelf.Strings.Replace
import Derived.Shelf.Strings.Prefix
import Derived.Lib.LaidTab
import Derived.Test.YtfcbamfkfadabaaGreatDoorT7
import Derived.Test.YtfcbamfkfadabaaGreatDoorSa
set_option linter.unusedSimpArgs false
set_option linter.unusedVariables false
set_option maxRecDepth 100000
namespace Go.Proofs
open Go.Shelf
def Tryz.repL_ren:Go.Shelf.Ren:=⟨fun | 154=>89 | 138=>144 | 165=>145 | 143=>140 | 166=>146 | 197=>147 | 169=>148 | 195=>196 | 218=>197 | 240=>198 | 241=>199 | 219=>192 | 260=>200 | 276=>235 | 277=>236 | 217=>225 | 225=>226 | 224=>227 | 267=>228 | 266=>268 | 314=>269 | n=>n,fun | 9=>9 | 3=>3 | 4=>4 | 72=>147 | 0=>0 | 76=>149 | 105=>151 | 21=>21 | 5=>5 | 70=>145 | 20=>20 | 37=>22 | 75=>142 | 127=>184 | 164=>217 | 46=>113 | 119=>220 | 139=>223 | 138=>222 | 146=>225 | 51=>224 | 80=>60 | n=>n,fun | 1=>1 | 3=>2 | 4=>3 | n=>n⟩
theorem Tryz.repL:Go.Proofs.Lays.n154 Tryz.prog Tryz.repL_ren:={
 mixed:=by kernel_rfl
 f138:=Tryz.func144.trans (congrArg some (by kernel_rfl))
 f143:=Tryz.func140.trans (congrArg some (by kernel_rfl))
 f154:=Tryz.func89.trans (congrArg some (by kernel_rfl))
 f165:=Tryz.func145.trans (congrArg some (by kernel_rfl))
 f166:=Tryz.func146.trans (congrArg some (by kernel_rfl))
 f169:=Tryz.func148.trans (congrArg some (by kernel_rfl))
 f195:=Tryz.func196.trans (congrArg some (by kernel_rfl))
 f197:=Tryz.func147.trans (congrArg some (by kernel_rfl))
 f217:=Tryz.func225.trans (congrArg some (by kernel_rfl))
 f218:=Tryz.func197.trans (congrArg some (by kernel_rfl))
 f219:=Tryz.func192.trans (congrArg some (by kernel_rfl))
 f224:=Tryz.func227.trans (congrArg some (by kernel_rfl))
 f225:=Tryz.func226.trans (congrArg some (by kernel_rfl))
 f240:=Tryz.func198.trans (congrArg some (by kernel_rfl))
 f241:=Tryz.func199.trans (congrArg some (by kernel_rfl))
 f260:=Tryz.func200.trans (congrArg some (by kernel_rfl))
 f266:=Tryz.func268.trans (congrArg some (by kernel_rfl))
 f267:=Tryz.func228.trans (congrArg some (by kernel_rfl))
 f276:=Tryz.func235.trans (congrArg some (by kernel_rfl))
 f277:=Tryz.func236.trans (congrArg some (by kernel_rfl))
 f314:=Tryz.func269.trans (congrArg some (by kernel_rfl))
 t0:=Tryz.underlying0
 a0:=Tryz.isAgg0
 z0:=Tryz.sizeOf0
 v0:=Tryz.zeroValue0
 t3:=Tryz.underlying3
 a3:=Tryz.isAgg3
 z3:=Tryz.sizeOf3
 v3:=Tryz.zeroValue3
 t4:=Tryz.underlying4
 a4:=Tryz.isAgg4
 z4:=Tryz.sizeOf4
 v4:=Tryz.zeroValue4
 t5:=Tryz.underlying5
 a5:=Tryz.isAgg5
 z5:=Tryz.sizeOf5
 v5:=Tryz.zeroValue5
 t9:=Tryz.underlying9
 a9:=Tryz.isAgg9
 z9:=Tryz.sizeOf9
 v9:=Tryz.zeroValue9
 t20:=Tryz.underlying20
 a20:=Tryz.isAgg20
 z20:=Tryz.sizeOf20
 v20:=Tryz.zeroValue20
 t21:=Tryz.underlying21
 a21:=Tryz.isAgg21
 z21:=Tryz.sizeOf21
 v21:=Tryz.zeroValue21
 t37:=Tryz.underlying22
 a37:=Tryz.isAgg22
 z37:=Tryz.sizeOf22
 v37:=Tryz.zeroValue22
 t46:=Tryz.underlying113
 a46:=Tryz.isAgg113
 z46:=Tryz.sizeOf113
 v46:=Tryz.zeroValue113
 t51:=Tryz.underlying224
 a51:=Tryz.isAgg224
 z51:=Tryz.sizeOf224
 v51:=Tryz.zeroValue224
 t70:=Tryz.underlying145
 a70:=Tryz.isAgg145
 z70:=Tryz.sizeOf145
 v70:=Tryz.zeroValue145
 t72:=Tryz.underlying147
 a72:=Tryz.isAgg147
 z72:=Tryz.sizeOf147
 v72:=Tryz.zeroValue147
 t75:=Tryz.underlying142
 a75:=Tryz.isAgg142
 z75:=Tryz.sizeOf142
 v75:=Tryz.zeroValue142
 t76:=Tryz.underlying149
 a76:=Tryz.isAgg149
 z76:=Tryz.sizeOf149
 v76:=Tryz.zeroValue149
 t105:=Tryz.underlying151
 a105:=Tryz.isAgg151
 z105:=Tryz.sizeOf151
 v105:=Tryz.zeroValue151
 t119:=Tryz.underlying220
 a119:=Tryz.isAgg220
 z119:=Tryz.sizeOf220
 t127:=Tryz.underlying184
 a127:=Tryz.isAgg184
 z127:=Tryz.sizeOf184
 v127:=Tryz.zeroValue184
 t138:=Tryz.underlying222
 a138:=Tryz.isAgg222
 z138:=Tryz.sizeOf222
 v138:=Tryz.zeroValue222
 t139:=Tryz.underlying223
 a139:=Tryz.isAgg223
 z139:=Tryz.sizeOf223
 v139:=Tryz.zeroValue223
 t146:=Tryz.underlying225
 a146:=Tryz.isAgg225
 z146:=Tryz.sizeOf225
 v146:=Tryz.zeroValue225
 t164:=Tryz.underlying217
 a164:=Tryz.isAgg217
 z164:=Tryz.sizeOf217
 v164:=Tryz.zeroValue217
 g1:=by kernel_rfl
 g3:=by kernel_rfl
 g4:=by kernel_rfl }
def Tryz.hasL_ren:Go.Shelf.Ren:=⟨fun | 100=>90 | 207=>149 | n=>n,fun | 9=>9 | 4=>4 | 3=>3 | n=>n,fun | n=>n⟩
theorem Tryz.hasL:Go.Proofs.Lays.n100 Tryz.prog Tryz.hasL_ren:={
 mixed:=by kernel_rfl
 f100:=Tryz.func90.trans (congrArg some (by kernel_rfl))
 f207:=Tryz.func149.trans (congrArg some (by kernel_rfl))
 t3:=Tryz.underlying3
 a3:=Tryz.isAgg3
 z3:=Tryz.sizeOf3
 v3:=Tryz.zeroValue3
 t4:=Tryz.underlying4
 a4:=Tryz.isAgg4
 z4:=Tryz.sizeOf4
 v4:=Tryz.zeroValue4
 t9:=Tryz.underlying9
 a9:=Tryz.isAgg9
 z9:=Tryz.sizeOf9
 v9:=Tryz.zeroValue9 }
def Tryz.trsL_ren:Go.Shelf.Ren:=⟨fun | 102=>91 | 209=>150 | 207=>149 | n=>n,fun | 9=>9 | 4=>4 | 3=>3 | n=>n,fun | n=>n⟩
theorem Tryz.trsL:Go.Proofs.Lays.n102 Tryz.prog Tryz.trsL_ren:={
 mixed:=by kernel_rfl
 f102:=Tryz.func91.trans (congrArg some (by kernel_rfl))
 f207:=Tryz.func149.trans (congrArg some (by kernel_rfl))
 f209:=Tryz.func150.trans (congrArg some (by kernel_rfl))
 t3:=Tryz.underlying3
 a3:=Tryz.isAgg3
 z3:=Tryz.sizeOf3
 v3:=Tryz.zeroValue3
 t4:=Tryz.underlying4
 a4:=Tryz.isAgg4
 z4:=Tryz.sizeOf4
 v4:=Tryz.zeroValue4
 t9:=Tryz.underlying9
 a9:=Tryz.isAgg9
 z9:=Tryz.sizeOf9
 v9:=Tryz.zeroValue9 }
end Go.Proofs
namespace Go.Proofs.YtfcbamfkfadabaaGreatDoor
section
open Go.Gov Go.Nt
open Classical
def rlL:List (List UInt8):=rls.flatMap fun x=>[x.1,x.2]
def RLd:List AV:=rlL.map fun l=>sV l
@[go_sem] theorem RLd_all:RLd.all (nf 6)=true:=rfl
@[go_sem] theorem RLd_len:RLd.length=26:=rfl
noncomputable def snA (l:List UInt8):List UInt8:=if NtOk l then smp (basL (ntO l)++ntS l) else []
end
section
open Go.Gov Go.Shelf Go.Proofs Go.Nt Go.RowKit
open Classical
theorem repX:Builder.Extra Tryz.prog Tryz.repL_ren where
 sizeBuilder:=by kernel_rfl
 liesBuilder:=by kernel_rfl
 t5:=Tryz.repL.t5
 a5:=Tryz.repL.a5
 z5:=Tryz.repL.z5
 v5:=Tryz.repL.v5
 infoByte:=by kernel_rfl
 cellsByte:=by kernel_rfl
 sizeByte:=by kernel_rfl
 neB5:=by decide
noncomputable def gMax:Nat:=(Tryz.prog.globalNamed "internal/bytealg.MaxLen").getD 0
noncomputable def gRul:Nat:=(Tryz.prog.globalNamed "loop.example/g01108/impl.rules").getD 0
def rlV:List Value:=rlL.map fun l=>Value.string (bA l)
noncomputable def LR (m:Int):List (Nat×List Value):=[(gRul,rlV),(gMax,[.int .i64 m])]
theorem gMax_eq:Tryz.repL_ren.g 1=gMax:=by unfold gMax;kernel_rfl
theorem gRul_eq:gRul=0:=by unfold gRul;kernel_rfl
theorem hasSuffix_c (s p:List UInt8)(hs:s.length≤1099511627776):Pure Tryz.prog 90 [sV s,sV p] (bl (Go.Lib.hasSuffix s p)) []:=by
 refine pure_one [.string (bA s),.string (bA p)] fun w=>?_
 refine (Any.strings_HasSuffix Tryz.hasL (bA s) (bA p) w (by rw [bA_size];omega)).mono fun e w' ⟨h1,h2⟩=>?_
 subst h2
 rw [bA_data,bA_data] at h1
 exact ⟨h1,rfl,⟨rfl,Nat.le_refl _⟩,rfl,Nat.le_refl _,fun _ _=>rfl⟩
theorem trimSuffix_c (s p:List UInt8)(hs:s.length≤1099511627776):Pure Tryz.prog 91 [sV s,sV p] (sV (Go.Lib.trimSuffix s p)) []:=by
 refine pure_one [.string (bA s),.string (bA p)] fun w=>?_
 refine (Any.strings_TrimSuffix Tryz.trsL (bA s) (bA p) w (by rw [bA_size];omega)).mono fun e w' ⟨h1,h2⟩=>?_
 subst h2
 rw [bA_data,bA_data] at h1
 exact ⟨h1,rfl,⟨rfl,Nat.le_refl _⟩,rfl,Nat.le_refl _,fun _ _=>rfl⟩
theorem replace_c (m:Int)(s:List UInt8)(x:List UInt8×List UInt8)(hx:ruleOk x)(hs:s.length≤1048640):PureG Tryz.prog (LR m) 89 [sV s,sV x.1,sV x.2,i64 1] (sV (rep x.1 x.2 s)) []:=by
 refine pureG_one [.string (bA s),.string (bA x.1),.string (bA x.2),.int .i64 1] fun w hv=>?_
 obtain ⟨ty,z,h1⟩:=hv (gMax,[.int .i64 m]) (by simp [LR])
 have h2:=hx.2.2
 have h3:=hx.2.1
 have hc:=Go.Lib.countB_mul_le (bA x.1) (by rw [bA_size];omega) _ (bA s) (Nat.le_refl _)
 have hq:Go.Lib.countB (bA s) (bA x.1)*(bA x.2).size≤Go.Lib.countB (bA s) (bA x.1)*(bA x.1).size:=Nat.mul_le_mul_left _ (by rw [bA_size,bA_size];exact h3)
 have hsz:(bA s).size=s.length:=bA_size s
 refine (Any.strings_Replace Tryz.repL repX (bA s) (bA x.1) (bA x.2) 1 m w (by omega) ?_ (by rw [bA_size];omega) (by omega)).mono fun e w' ⟨h4,h5⟩=>?_
 ·rw [gMax_eq]
  simp [World.cell?,h1]
 ·rw [bA_data,bA_data,bA_data,replace_rule hx] at h4
  exact ⟨h4,below_ok h5⟩
end
section
open Go.Gov Go.Nt
open Classical
@[go_sem] theorem ghoOf_LR (m:Int):ghoOf 0 (gvs (LR m))=some rlV:=by simp [LR,gvs,ghoOf,gRul_eq]
@[go_sem] theorem rlV_map:rlV.map AV.val=RLd:=by simp [rlV,RLd]
@[go_sem] theorem RLd_plain:RLd.all plainC=true:=rfl
@[go_sem] theorem RLd_take:RLd.take 26=RLd:=rfl
@[go_sem] theorem RLd_rnm (τ:Nat→Option Nat):rnmL τ RLd=RLd:=rfl
theorem RLd_pair:∀ (j:Nat) (h:j<rls.length),(RLd.drop (j*2)).take 2=[sV (rls[j]).1,sV (rls[j]).2]
 | 0,_=>rfl
 | 1,_=>rfl
 | 2,_=>rfl
 | 3,_=>rfl
 | 4,_=>rfl
 | 5,_=>rfl
 | 6,_=>rfl
 | 7,_=>rfl
 | 8,_=>rfl
 | 9,_=>rfl
 | 10,_=>rfl
 | 11,_=>rfl
 | 12,_=>rfl
 | _+13,h=>absurd (show _<13 from h) (by omega)
set_option maxHeartbeats 4000000 in
theorem simplified_c (m:Int)(s:List UInt8)(hs:s.length≤1048640):PureG Tryz.prog (LR m) 42 [sV s] (sV (smp s)) []:=by
 refine pureGV ok42 rfl ?_;unfold c42
 refine RN ?_
 refine V_loop (α:=List UInt8) (S:=fun T=>([(0,sV T)],[some (gvs (LR m))])) (C:=fun T=>smp T=smp s∧T.length≤s.length) (μ:=fun T=>mes T) s ⟨rfl,Nat.le_refl _⟩ (Ref.to1) ?_
 rintro T ⟨h1,h2⟩
 refine RN ?_
 refine V_loop (α:=Nat) (S:=fun j=>([(0,sV T),(3,sV T),(7,.agg RLd),(8,i64 (j:Int))],[some (gvs (LR m))])) (C:=fun j=>j≤13∧stpR rls T=stpR (rls.drop j) T) (μ:=fun j=>13 - j) 0 ⟨Nat.zero_le _,rfl⟩ (Ref.to1) ?_
 rintro j ⟨g1,g2⟩
 refine RN ?_
 refine ⟨fun hc=>?_,fun hc=>?_⟩
 ·have hj2:j<rls.length:=by show j<13;omega
  rw [stpR_drop hj2] at g2
  have hok:=rls_ok _ (List.getElem_mem hj2)
  have ha:=RLd_pair j hj2
  generalize rls[j]=x at g2 hok ha
  have hR:=replace_c m T x hok (by omega)
  refine RN ?_
  simp only [Int.toNat_natCast,ha,go_sem,↓reduceIte,Nat.reduceEqDiff,Nat.reduceAdd,reduceCtorEq]
  refine ⟨by have:=congrArg List.length ha;rwa [List.length_take] at this,?_⟩
  refine RN ?_
  refine pureGC1 (hR) ?_
  by_cases hi:Go.Lib.index T x.1 = -1
  ·rw [if_pos hi] at g2
   rw [rep_miss hi]
   refine RN ?_
   exact ⟨j+1,⟨by omega,g2⟩,by omega,Ref.gc1 [0]⟩
  ·rw [if_neg hi] at g2
   have hne:=rep_ne hok hi
   have hst:=stp_rule g2
   have hm:=stp_some hst
   generalize rep x.1 x.2 T=U at g2 hne hst hm ⊢
   refine RN ?_
   refine ⟨fun _=>?_,fun h=>absurd h hne⟩
   have hne2:(U == T)=false:=by simpa using hne
   refine RN ?_
   refine GCall_no (bl false) hne2 ?_
   refine RN ?_
   refine ⟨fun h=>absurd h hne,fun _=>?_⟩
   exact ⟨U,⟨(smp_some hst).symm.trans h1,by omega⟩,hm.1,Ref.gc1 [0]⟩
 ·have hj:13≤j:=by omega
  rw [stpR_end hj] at g2
  have hH:=hasSuffix_c T [90,50] (by omega)
  have hT:=trimSuffix_c T [90,50] (by omega)
  have hmx:=max_big
  refine RN ?_
  refine GC1 (bl (Go.Lib.hasSuffix T [90,50])) (fun hg=>hH) ?_
  by_cases hz:z2 T=true
  ·have hst:=stp_z2 g2 hz
   have hm:=stp_some hst
   rw [trim_z2 hz] at hT
   unfold z2 at hz
   rw [hz]
   refine RN ?_
   refine pureC1 (hT) ?_
   refine RN ?_
   have hne:T.take (T.length - 2)++[72,50]≠T:=fun e=>by
    have h3:=hm.1
    rw [e] at h3
    omega
   refine ⟨fun h=>absurd h hne,fun _=>?_⟩
   refine RN ?_
   exact ⟨T.take (T.length - 2)++[72,50],⟨(smp_some hst).symm.trans h1,by omega⟩,hm.1,Ref.gc1 [0]⟩
  ·have hst:=stp_end g2 hz
   rw [← h1,smp_none hst]
   unfold z2 at hz
   rw [Bool.eq_false_iff.2 hz]
   refine RN ?_
   exact Ref.gc1 []
noncomputable def LS (tp tq:TypeId)(p q:Value)(m:Int):List (Nat×List Value):=LV tp tq p q++LR m
variable (tp tq:TypeId) (p q:Value) (m:Int)
theorem parse_s {av:List AV}{f:FuncId}{α:Type}{Q:α→Prop}{x:α→AV}{h:α→Heap}(hp:PureGE Tryz.prog (LV tp tq p q) f av Q x h):PureGE Tryz.prog (LS tp tq p q m) f av Q x h:=
 fun w vals hv=>hp w vals fun y hy=>hv y (List.mem_append_left _ hy)
theorem simp_s {av:List AV}{f:FuncId}{x:AV}{h:Heap}(hp:PureG Tryz.prog (LR m) f av x h):PureG Tryz.prog (LS tp tq p q m) f av x h:=
 fun w vals hv=>hp w vals fun y hy=>hv y (List.mem_append_right _ hy)
theorem implSn_c (l:List UInt8)(hs:l.length≤1048576):PureG Tryz.prog (LS tp tq p q m) 16 [sV l] (.tup [sV (snA l),i64 (ntK l)]) []:=by
 have h:=parse_s tp tq p q m (parse_c tp tq p q l (by omega))
 have hsl:=nt_slen l
 have hmx:=max_big
 refine pureGV ok16 rfl ?_;unfold c16
 refine RN ?_
 refine pureGEC1 (h) fun o ho=>?_
 obtain ⟨⟨a,b,c⟩,d⟩:=o
 obtain ⟨ho1,ho2⟩:=ho
 dsimp only at ho1 ho2
 subst ho1
 by_cases hk:NtOk l
 ·obtain ⟨rfl,rfl,rfl⟩:a=ntO l∧b=ntS l∧c=(if (ntS l).length=1 then 0 else numS (ntS l)):=by have:=ho2 hk;simpa using this
  have e1:snA l=smp (basL (ntO l)++ntS l):=if_pos hk
  have e2:ntK l=0:=if_pos hk
  have hbl:=basL_len (ntO l)
  have hd:=basic_c (ntO l) (ntS l) (if (ntS l).length=1 then 0 else numS (ntS l)) hk.1
  have hk1:=hk.1
  have hc:=simp_s tp tq p q m (simplified_c m (basL (ntO l)++ntS l) (by rw [List.length_append];omega))
  rw [decide_eq_true hk,e1,e2]
  clear ho2
  generalize (if (ntS l).length=1 then 0 else numS (ntS l))=z at hd ⊢
  refine RN ?_
  refine pureC1 (hd) ?_
  refine RN ?_
  refine pureGC1 (hc) ?_
  refine RN ?_
  exact Ref.gc1 []
 ·have e1:snA l=[]:=if_neg hk
  have e2:ntK l=6:=if_neg hk
  rw [decide_eq_false hk,e1,e2]
  refine RN ?_
  exact Ref.gc1 []
end
end Go.Proofs.YtfcbamfkfadabaaGreatDoor
namespace Go.Gov
open Go.Lib
theorem trod_arr {H : Type} {enc : TypeId × Value → H} {P : Program} {w : World} {base : Nat} {sp : Nat → Bool} {held : Bool} {fuel : Nat} {t e : TypeId} {n k : Nat} {cs : List Value} {ds : List (DataW H)} {p : List MemPlace}
    (ht:P.underlying t=some (.array n e)) (hce:P.cellsOf e=k) (hct:P.cellsOf t=n*k)
    (h:DataW.trod enc P w base sp held (fuel+1) t cs=some (.agg ds,p)):cs.length=n*k∧ds.length=n∧∀ i d,ds[i]? = some d→∃ q,DataW.trod enc P w base sp held fuel e ((cs.drop (i*k)).take k)=some (d,q):=by
 simp only [DataW.trod,ht,hce,hct] at h
 split at h
 ·rename_i hl
  obtain ⟨xs,hm,hx⟩:=Option.map_eq_some_iff.1 h
  have hxs:xs.map (·.1)=ds:=by
   have:=congrArg Prod.fst hx
   simpa using this
  have hxl:xs.length=n:=by simpa using mapM_length hm
  refine ⟨by simpa using hl,by rw [← hxs,List.length_map];exact hxl,fun i d hd=>?_⟩
  rw [← hxs,List.getElem?_map,Option.map_eq_some_iff] at hd
  obtain ⟨y,hy,rfl⟩:=hd
  have hi:i<n:=by rw [← hxl];exact (List.getElem?_eq_some_iff.1 hy).1
  obtain ⟨b,hb,hf⟩:=mapM_at hm i i (by simp [hi])
  rw [hy] at hb
  obtain rfl:=Option.some.inj hb
  exact ⟨y.2,hf⟩
 ·cases h
end Go.Gov
namespace Go.Proofs.YtfcbamfkfadabaaGreatDoor
open Go.Gov Go.Nt Go.ChangeShapes Go.WideShapes Go.ChangeAt Go.RowKit
def pairD {H:Type}(x:List UInt8×List UInt8):DataW H:=.agg [.lit (.string x.1),.lit (.string x.2)]
theorem rlV_at:∀ (j:Nat) (h:j<rls.length),rlV[j*2]? = some (.string (bA (rls[j]).1))∧rlV[j*2+1]? = some (.string (bA (rls[j]).2))
 | 0,_=>⟨rfl,rfl⟩
 | 1,_=>⟨rfl,rfl⟩
 | 2,_=>⟨rfl,rfl⟩
 | 3,_=>⟨rfl,rfl⟩
 | 4,_=>⟨rfl,rfl⟩
 | 5,_=>⟨rfl,rfl⟩
 | 6,_=>⟨rfl,rfl⟩
 | 7,_=>⟨rfl,rfl⟩
 | 8,_=>⟨rfl,rfl⟩
 | 9,_=>⟨rfl,rfl⟩
 | 10,_=>⟨rfl,rfl⟩
 | 11,_=>⟨rfl,rfl⟩
 | 12,_=>⟨rfl,rfl⟩
 | _+13,h=>absurd (show _<13 from h) (by omega)
theorem rules_of {H : Type} {enc : TypeId × Value → H} {w : World} {base : Nat} {sp : Nat → Bool} {held : Bool} {fuel : Nat} {cs : List Value} {p : List MemPlace}
    (h:DataW.trod enc Tryz.prog w base sp held fuel 98 cs=some (.agg (rls.map pairD),p)):cs=rlV:=by
 cases fuel with
 | zero=>simp [DataW.trod] at h
 | succ fuel=>
  obtain ⟨h1,_,h3⟩:=trod_arr (n:=13) (k:=2) (e:=97) Tryz.underlying98 (by kernel_rfl) (by kernel_rfl) h
  have hat:∀ i (hi:i<rls.length),cs[i*2]? = some (.string (bA (rls[i]).1))∧cs[i*2+1]? = some (.string (bA (rls[i]).2)):=by
   intro i hi
   obtain ⟨q,hq⟩:=h3 i (pairD rls[i]) (by rw [List.getElem?_map,List.getElem?_eq_getElem hi];rfl)
   generalize rls[i]=x at hq
   cases fuel with
   | zero=>simp [DataW.trod] at hq
   | succ fuel=>
    obtain ⟨h4,_,h5⟩:=trod_arr (n:=2) (k:=1) (e:=9) Tryz.underlying97 (by kernel_rfl) (by kernel_rfl) hq
    obtain ⟨q0,h6⟩:=h5 0 _ rfl
    obtain ⟨q1,h7⟩:=h5 1 _ rfl
    obtain ⟨s0,h8,h9,_⟩:=DataW.trod_string Tryz.underlying9 h6
    obtain ⟨s1,h10,h11,_⟩:=DataW.trod_string Tryz.underlying9 h7
    simp only [Prod.mk.injEq,DataW.lit.injEq,Lit.string.injEq] at h9 h11
    have e0:bA x.1=s0:=by rw [h9.1,bA_all]
    have e1:bA x.2=s1:=by rw [h11.1,bA_all]
    rw [e0,e1]
    have k0:=congrArg (fun l=>l[0]?) h8
    have k1:=congrArg (fun l=>l[0]?) h10
    simp [List.getElem?_take,List.getElem?_drop] at k0 k1
    exact ⟨k0,k1⟩
  apply List.ext_getElem?
  intro i
  by_cases hi:i<26
  ·obtain ⟨j,hj,hij⟩:∃ j,j<13∧(i=j*2∨i=j*2+1):=⟨i / 2,by omega,by omega⟩
   obtain ⟨a,b⟩:=hat j hj
   obtain ⟨c,d⟩:=rlV_at j hj
   rcases hij with rfl | rfl
   ·rw [a,c]
   ·rw [b,d]
  ·rw [List.getElem?_eq_none (by omega),List.getElem?_eq_none (by show 26≤i;omega)]
theorem rules_in {laid : List (String × DataW Unit)} {W : World} (hL : laidMetH Tryz.prog laid W)
    (h1:laid.filter (fun x=>x.1 == "loop.example/g01108/impl.rules")=[("loop.example/g01108/impl.rules", .agg (rls.map pairD))]):∃ ty z,W.heap[gRul]? = some (.cells rlV.toArray ty z):=by
 have h:=hL.filter (fun x=>x.1 == "loop.example/g01108/impl.rules")
 rw [h1] at h
 have h:laidMet Tryz.prog [("loop.example/g01108/impl.rules", .agg (rls.map pairD))] W:=h
 obtain ⟨ps,⟨g', t', cs,fuel,p,q,hg', ht', hvar,hd,_,_⟩,_⟩:=h
 have hg:Tryz.prog.globalNamed "loop.example/g01108/impl.rules" = some 0:=by kernel_rfl
 have hty:(Tryz.prog.globals[0]?).map (·.type)=some 98:=by kernel_rfl
 obtain rfl:=Option.some.inj (hg.symm.trans hg')
 obtain rfl:=Option.some.inj (hty.symm.trans ht')
 have hc:=rules_of hd
 obtain ⟨ty,z,h2⟩:=var_heap hg hvar
 rw [gRul_eq,← hc]
 exact ⟨ty,z,h2⟩
end Go.Proofs.YtfcbamfkfadabaaGreatDoor
