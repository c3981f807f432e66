/- Texts that belong together. -/
import Derived.Lib.ParseIntB
import Derived.Lib.ItoaNum
import Derived.Lib.AppendIntMem
import Derived.Lib.ParseIntBTie
import Derived.Test.YtnompobcofhkpaaGreatDoorZj
import Derived.Test.YtnompobcofhkpaaGreatDoorQ1
set_option linter.unusedSimpArgs false
set_option linter.unusedVariables false
set_option maxRecDepth 100000
namespace Go.Nt
open Go.Lib
def tx (v:Nat):List UInt8:=if v<10 then [UInt8.ofNat (48+v)] else [UInt8.ofNat (48+v / 10),UInt8.ofNat (48+v%10)]
theorem tX {v:Nat}(h:v<100):decDigits v=tx v:=by
 unfold tx
 rw [decDigits]
 by_cases h1:v<10
 ·rw [dif_pos h1,if_pos h1]
 ·rw [dif_neg h1,if_neg h1,decDigits,dif_pos (by omega)]
  rfl
theorem Rl {v:Nat}(h:v<100):itoa (v:Int)=tx v:=by
 unfold itoa
 rw [if_neg (by omega),Int.toNat_natCast,tX h]
theorem Agg:∀ v,v<31→(match parseIntB 64 (tx v) with
 | .ok u=>decide (u=(v:Int))
 | _=>false)=true:=by decide
theorem lM {v:Nat}(h:v<31):parseIntB 64 (tx v) = .ok (v:Int):=by
 have h1:=Agg v h
 split at h1
 ·rename_i u hu
  rw [hu,of_decide_eq_true h1]
 ·cases h1
def F3 (b:UInt8):Prop:=48≤b.toNat∧b.toNat≤57
instance:DecidablePred F3:=fun b=>by unfold F3;exact inferInstance
def Eh (n:Int)(s:List UInt8):Int:=s.foldl (fun n b=>n*10+((b.toNat:Int) - 48)) n
def D2 (s:List UInt8):Int:=if s.length=0∨9<s.length∨(1<s.length∧s.getD 0 0=48) then -1 else if ∀ b∈s,F3 b then Eh 0 s else -1
theorem kC:∀ (s:List UInt8) (n:Int),0≤n→(∀ b∈s,F3 b)→n≤Eh n s
 | [],_,_,_=>Int.le_refl _
 | b :: s,n,h,hd=>by
  have h1:=hd b (by simp)
  unfold F3 at h1
  have h2:=kC s (n*10+((b.toNat:Int) - 48)) (by omega) fun c hc=>hd c (by simp [hc])
  show n≤Eh (n*10+((b.toNat:Int) - 48)) s
  omega
theorem kD:∀ (s:List UInt8) (n:Int),0≤n→(∀ b∈s,F3 b)→0≤Eh n s∧Eh n s+1≤(n+1)*10^s.length
 | [],n,h,_=>⟨h,by simp [Eh]⟩
 | b :: s,n,h,hd=>by
  have h1:=hd b (by simp)
  unfold F3 at h1
  have h2:=kD s (n*10+((b.toNat:Int) - 48)) (by omega) fun c hc=>hd c (by simp [hc])
  refine ⟨h2.1,Int.le_trans h2.2 ?_⟩
  rw [List.length_cons,Int.pow_succ,Int.mul_comm (10^s.length) 10,← Int.mul_assoc]
  exact Int.mul_le_mul_of_nonneg_right (by omega) (Int.pow_nonneg (by decide))
theorem Xj (b:UInt8){n:Nat}(h:n=b.toNat):UInt8.ofNat n=b:=by subst h;simp
theorem Alg {s:List UInt8}(h:2≤D2 s∧D2 s≤30):∃ v:Nat,2≤v∧v≤30∧s=tx v∧D2 s=v:=by
 unfold D2 at h ⊢
 split at h
 ·omega
 ·rename_i h0
  rw [if_neg h0]
  split at h
  ·rename_i hd
   rw [if_pos hd]
   match s,h0,hd,h with
   | [],h0,_,_=>exact absurd (Or.inl rfl) h0
   | [a],h0,hd,h=>
    have h1:=hd a (by simp)
    unfold F3 at h1
    simp only [Eh,List.foldl_cons,List.foldl_nil] at h ⊢
    refine ⟨a.toNat - 48,by omega,by omega,?_,by omega⟩
    unfold tx
    rw [if_pos (by omega),Xj a (by omega)]
   | [a,b],h0,hd,h=>
    have h1:=hd a (by simp)
    have h2:=hd b (by simp)
    unfold F3 at h1 h2
    have h3:a≠48:=fun e=>h0 (.inr (.inr ⟨by simp,by simp [e]⟩))
    have h4:a.toNat≠48:=fun e=>h3 (UInt8.toNat_inj.1 e)
    simp only [Eh,List.foldl_cons,List.foldl_nil] at h ⊢
    refine ⟨(a.toNat - 48)*10+(b.toNat - 48),by omega,by omega,?_,by omega⟩
    unfold tx
    rw [if_neg (by omega),Xj a (by omega),Xj b (by omega)]
   | a :: b :: c :: r,h0,hd,h=>
    have h1:=hd a (by simp)
    have h2:=hd b (by simp)
    have h3:=hd c (by simp)
    unfold F3 at h1 h2 h3
    have h4:a≠48:=fun e=>h0 (.inr (.inr ⟨by simp,by simp [e]⟩))
    have h5:a.toNat≠48:=fun e=>h4 (UInt8.toNat_inj.1 e)
    have h6:=kC r (((0*10+((a.toNat:Int) - 48))*10+((b.toNat:Int) - 48))*10+((c.toNat:Int) - 48)) (by omega) fun d hd' => hd d (by simp [hd'])
    have h7:Eh 0 (a :: b :: c :: r)=Eh (((0*10+((a.toNat:Int) - 48))*10+((b.toNat:Int) - 48))*10+((c.toNat:Int) - 48)) r:=rfl
    omega
  ·omega
theorem oQ:∀ v,v<31→2≤v→D2 (tx v)=(v:Int):=by decide
def C0 (b:UInt8):Bool:=[97,98,99,100,101,106,107,109,110,111,116,122].contains b
def Al (l:List UInt8):List UInt8:=l.takeWhile C0
def Au (l:List UInt8):List UInt8:=l.dropWhile C0
theorem Kc (l:List UInt8):Al l++Au l=l:=List.takeWhile_append_dropWhile
def C8 (b:UInt8):List UInt8:=
 if b=100∨b=97∨b=116∨b=99 then [b] else if b=98 then [97,116] else if b=101 then [97,97] else if b=106 then [97,100] else if b=107 then [100,116,100]
 else if b=109 then [97,116,100] else if b=110 then [116,100] else if b=111 then [97,97,100] else if b=122 then [100,116] else []
theorem Xr (b:UInt8):(C8 b).isEmpty = !C0 b:=by
 unfold C8 C0
 by_cases h:b∈([97,98,99,100,101,106,107,109,110,111,116,122]:List UInt8)
 ·rw [List.contains_iff_mem.2 h]
  simp only [List.mem_cons,List.not_mem_nil,or_false] at h
  rcases h with rfl | rfl | rfl | rfl | rfl | rfl | rfl | rfl | rfl | rfl | rfl | rfl<;>decide
 ·have h2 : ([97, 98, 99, 100, 101, 106, 107, 109, 110, 111, 116, 122] : List UInt8).contains b = false := by
    rw [Bool.eq_false_iff];exact fun h3=>h (List.contains_iff_mem.1 h3)
  rw [h2]
  simp only [List.mem_cons,List.not_mem_nil,or_false,not_or] at h
  simp [h]
def M4 (b:UInt8):Bool:=[84,67,79,68,73].contains b
def Dh (s:List UInt8):Prop:=(∃ b,s=[b]∧M4 b=true)∨∃ b r,s=b :: r∧(b=72∨b=90)∧2≤D2 r∧D2 r≤30
def Dg (l:List UInt8):Prop:=(Al l).length≤12∧Dh (Au l)
theorem Wf:∀ (l:List UInt8) (i:Nat),i≤(Al l).length→(i<(Al l).length ↔ i<l.length∧C0 (l.getD i 0)=true)
 | [],i,_=>by simp [Al]
 | b :: l,i,h=>by
  unfold Al at h ⊢
  by_cases hb:C0 b=true
  ·rw [List.takeWhile_cons_of_pos hb] at h ⊢
   cases i with
   | zero=>simp [hb]
   | succ i=>
    have h2:=Wf l i (by simpa [Al] using h)
    simp only [Al] at h2
    simpa using h2
  ·rw [List.takeWhile_cons_of_neg hb] at h ⊢
   simp only [List.length_nil,Nat.le_zero_eq] at h
   subst h
   simp [hb]
theorem jX (l:List UInt8):(Al l).length≤l.length:=by
 have:=congrArg List.length (Kc l)
 rw [List.length_append] at this
 omega
theorem jY (l:List UInt8):l.take (Al l).length=Al l:=by
 conv=>lhs;rw [← Kc l]
 rw [List.take_left']
 rw [Kc]
theorem We (l:List UInt8):l.drop (Al l).length=Au l:=by
 conv=>lhs;rw [← Kc l]
 rw [List.drop_left']
 rw [Kc]
theorem Sg (l:List UInt8):(Al l).length+(Au l).length=l.length:=by
 have:=congrArg List.length (Kc l)
 rwa [List.length_append] at this
theorem Xq (b:UInt8):(C8 b).length≤3:=by
 unfold C8
 repeat' split
 all_goals simp
def Bb (s:List UInt8):Int:=D2 (s.drop 1)
theorem Ajk (s:List UInt8):Dh s ↔ (s.length=1∧M4 (s.getD 0 0)=true)∨(1≤s.length∧(s.getD 0 0=72∨s.getD 0 0=90)∧2≤Bb s∧Bb s≤30):=by
 unfold Dh Bb
 constructor
 ·rintro (⟨b,rfl,h⟩ | ⟨b,r,rfl,h1,h2⟩)
  ·exact .inl ⟨rfl,h⟩
  ·exact .inr ⟨by simp,h1,h2⟩
 ·rintro (⟨h1,h2⟩ | ⟨h1,h2,h3⟩)
  ·match s,h1,h2 with
   | [b],_,h2=>exact .inl ⟨b,rfl,h2⟩
  ·match s,h1,h2,h3 with
   | b :: r,_,h2,h3=>exact .inr ⟨b,r,rfl,h2,h3⟩
def Es (s:List UInt8):List Int:=let b:=s.getD 0 0
 if b=84 then [3,3] else if b=67 then [4,3] else if b=79 then [3,4] else if b=68 then [5,3] else if b=73 then [3,5] else if b=72 then [2,Bb s] else [Bb s,2]
end Go.Nt
namespace Go.Proofs.YtnompobcofhkpaaGreatDoor
open Go.Gov Go.Shelf Go.Proofs Go.Nt Go.RowKit
theorem Alb (l cs:List UInt8)(h2:2≤cs.length)(hcs:cs.length<4294967281)(ha:cs.all (fun b=>decide (b.toNat<128))=true):Pure Tryz.prog 60 [sV l,sV cs] (sV (l.dropWhile (cs.contains ·))) []:=by
 refine lW [.string (bA l),.string (bA cs)] fun w=>?_
 by_cases h0:(bA l).size=0
 ·refine (Any.strings_TrimLeft_empty Tryz.trimL (bA l) (bA cs) w (.inl h0)).mono fun e w' ⟨h1,h2⟩=>?_
  subst h2
  have hl:l=[]:=List.eq_nil_of_length_eq_zero (by rwa [Nx] at h0)
  subst hl
  exact ⟨h1,rfl,⟨rfl,Nat.le_refl _⟩,rfl,Nat.le_refl _,fun _ _=>rfl⟩
 ·have h116:(Tryz.prog.info? (Tryz.trimL_ren.t 116)).map (fun i=>(i.zero,i.size))=some (some (.agg (Array.replicate 256 (.bool false))),256):=by kernel_rfl
  refine (Any.strings_TrimLeft_set Tryz.trimL (zero_of_info h116).1 (zero_of_info h116).2 (bA l) (bA cs) w (by rw [Nx];exact h2) (by omega) (by rw [Nx];exact hcs) (ascii_of_all (by rw [Ig];exact ha))).mono fun e w' ⟨h1,h2⟩=>?_
  subst h2
  rw [Ig,Ig] at h1
  refine ⟨h1,rfl,⟨rfl,Nat.le_refl _⟩,rfl,?_,fun b hb=>?_⟩
  ·show w.heap.size≤((w.heap.push _).push _).size
   rw [Array.size_push,Array.size_push]
   omega
  ·show ((w.heap.push _).push _)[b]? = w.heap[b]?
   rw [Array.getElem?_push,if_neg (by rw [Array.size_push];omega),Array.getElem?_push,if_neg (by omega)]
theorem tQ (l:List UInt8)(c:UInt8):Pure Tryz.prog 61 [sV l,sV [c]] (bl (decide (c∈l))) []:=by
 refine lW [.string (bA l),.string (bA [c])] fun w=>?_
 refine (Any.strings_Contains_one Tryz.contL (bA l) c w).mono fun e w' ⟨h1,h2⟩=>?_
 subst h2
 refine ⟨?_,rfl,⟨rfl,Nat.le_refl _⟩,rfl,Nat.le_refl _,fun _ _=>rfl⟩
 rw [h1,Ig]
 congr 2
 have h:∀ l:List UInt8,0≤Go.Lib.indexByte l c∨Go.Lib.indexByte l c = -1:=fun l=>by
  induction l with
  | nil=>exact .inr rfl
  | cons b l ih=>
   unfold Go.Lib.indexByte
   split
   ·exact .inl (Int.le_refl _)
   ·split
    ·exact .inr rfl
    ·rename_i h3
     simp only [beq_iff_eq] at h3
     rcases ih with h | h
     ·exact .inl (by omega)
     ·exact absurd h h3
 have h2:∀ l:List UInt8,0≤Go.Lib.indexByte l c ↔ c∈l:=fun l=>by
  induction l with
  | nil=>simp [Go.Lib.indexByte]
  | cons b l ih=>
   unfold Go.Lib.indexByte
   by_cases hb:b=c
   ·subst hb;simp
   ·rw [if_neg (by simpa using hb)]
    rcases h l with h3 | h3
    ·have h4:¬ ((Go.Lib.indexByte l c == -1)=true):=by simp;omega
     rw [if_neg h4]
     have:=ih.1 h3
     exact ⟨fun _=>List.mem_cons_of_mem _ this,fun _=>by omega⟩
    ·rw [h3]
     have:c∉l:=fun h5=>by have:=ih.2 h5;omega
     simp [Ne.symm hb,this]
 exact decide_eq_decide.2 (h2 l)
noncomputable def Tj:List (Nat×List Value):=[((Tryz.prog.globalNamed "internal/strconv.uint64pow10").getD 0,Go.Lib.pow10Tab.map (Value.int .u64))]
noncomputable def Ra:Nat:=(Tryz.prog.globalNamed "strconv.ErrSyntax").getD 0
noncomputable def Q9:Nat:=(Tryz.prog.globalNamed "strconv.ErrRange").getD 0
noncomputable def LV (tp tq:TypeId)(p q:Value):List (Nat×List Value):=Tj++[(Ra,[.iface tp p]),(Q9,[.iface tq q])]
theorem Akw {w:World}(h:Jt w Tj):Go.Lib.TabIs Tryz.prog w "internal/strconv.uint64pow10" .u64 Go.Lib.pow10Tab:=by
 obtain ⟨ty,z,h1⟩:=h _ (List.mem_singleton.2 rfl)
 unfold Go.Lib.TabIs World.var?
 have hg:Tryz.prog.globalNamed "internal/strconv.uint64pow10" = some ((Tryz.prog.globalNamed "internal/strconv.uint64pow10").getD 0):=by kernel_rfl
 rw [hg,Option.bind_some,h1]
theorem uW (n:Int)(h0 : -9223372036854775808≤n)(h1:n≤9223372036854775807):PureG Tryz.prog Tj 128 [i64 n,i64 10] (sV (Go.Lib.itoa n)) []:=by
 refine Ag5 [.int .i64 n,.int .i64 10] fun w hv=>?_
 refine (Any.strconv_FormatInt_10 Tryz.fmtL n h0 h1 w (Akw hv)).mono fun e w' ⟨he,k,os,hw⟩=>?_
 subst hw
 refine ⟨he,rfl,⟨rfl,Nat.le_refl _⟩,rfl,Go.Lib.size_grow w k os,fun b hb=>Go.Lib.heap_grow_old w k os b hb⟩
theorem rR (w:World)(e:TypeId)(s:ByteArray):Below w.heap.size w (Go.Lib.bytesWorld w e s):=Go.Lib.bytesWorld_below w e s
theorem Qd {w w' : World}(h:Below w.heap.size w w'):w'.os=w.os∧G0 w w' ∧ w'.output=w.output∧w.heap.size≤w'.heap.size∧∀ b,b<w.heap.size→w'.heap[b]? = w.heap[b]?:=⟨h.os,⟨h.tape,Nat.le_refl _⟩,h.output,h.size,h.block⟩
def Age (s:List UInt8)(o:Int×Bool):Prop:=(-9223372036854775808≤o.1∧o.1≤9223372036854775807)∧match Go.Lib.parseIntB 64 s with
 | .ok v=>o=(v,true)
 | _=>o.2=false
def Q0 (b:Bool)(t:TypeId)(k:Nat):Value:=if b then .nilIface else .iface t (.pointer (some ⟨k,0,none⟩))
theorem Agf (s : List UInt8) (hs : s.length ≤ 281474976710656) (tp tq : TypeId) (p q : Value) :
    Js Tryz.prog (LV tp tq p q) 109 [sV s,i64 10,i64 64] (fun o:(Int×Bool)×TypeId×Nat=>Age s o.1) (fun o=>.tup [i64 o.1.1,.val (Q0 o.1.2 o.2.1 o.2.2)]) (fun _=>[]):=by
 refine lV (x:=fun o=>.tuple #[.int .i64 o.1.1,Q0 o.1.2 o.2.1 o.2.2]) _ (fun o _ _ _=>.tup rfl fun m hm=>match m,hm with | 0,_=>.val | 1,_=>.val) [.string (bA s),.int .i64 10,.int .i64 64] fun w hv=>?_
 have hsz:(bA s).size=s.length:=Nx s
 rcases h:Go.Lib.parseIntB 64 s with v | _ | _
 ·refine (Any.strconv_ParseInt_10_at64_ok Tryz.parL (bA s) (by omega) v (by rw [Ig];exact h) w).mono fun e w' ⟨he,hw⟩=>?_
  refine ⟨((v,true),0,0),⟨?_,by simp [h]⟩,he,?_⟩
  ·have h2:=Go.Lib.parseIntB_bounds h
   simp only [Nat.reduceSub,Nat.reducePow] at h2
   dsimp only
   omega
  ·rcases hw with rfl | ⟨t,rfl⟩
   ·exact Qd (Below.refl _ _)
   ·exact Qd (rR w _ t)
 ·obtain ⟨ty,z,h1⟩:=hv (Ra,[.iface tp p]) (by simp [LV])
  refine (Any.strconv_ParseInt_10_at64_syntax Tryz.parL (bA s) (by omega) (by rw [Ig];exact h) (.iface tp p) w ?_ (.inr ⟨tp,p,rfl⟩)).mono fun e w' ⟨k,he,_,_,hb⟩=>?_
  ·show w.cell? ⟨Ra,0,none⟩=_
   simp [World.cell?,h1]
  ·exact ⟨((0,false),_,k),⟨by dsimp only;omega,by simp [h]⟩,he,Qd hb⟩
 ·obtain ⟨ty,z,h1⟩:=hv (Q9,[.iface tq q]) (by simp [LV])
  refine (Any.strconv_ParseInt_10_at64_range Tryz.parL (bA s) (by omega) (by rw [Ig];exact h) (.iface tq q) w ?_ (.inr ⟨tq,q,rfl⟩)).mono fun e w' ⟨k,he,_,_,hb⟩=>?_
  ·show w.cell? ⟨Q9,0,none⟩=_
   simp [World.cell?,h1]
  ·refine ⟨((Go.Lib.intSat 64 s,false),_,k),⟨?_,by simp [h]⟩,by rw [Ig] at he;exact he,Qd hb⟩
   unfold Go.Lib.intSat
   split<;>simp
end Go.Proofs.YtnompobcofhkpaaGreatDoor
