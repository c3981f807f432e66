/- Texts that belong together. -/
import Derived.Lib.Strings
import Derived.Test.YtfofabbkigonpaaDoorV1
set_option linter.unusedSimpArgs false
set_option linter.unusedVariables false
set_option maxRecDepth 100000
namespace Go.Gov
section
variable {P:Program} {N:Nat} {g:Gh} {F:Frame} {H:Heap} {a:Act} {w:World} {M:List Nat}
abbrev Ay (L:List (Nat×List Value)):List AV:=L.map fun p=>.gho p.1 p.2
def Ht (w:World)(L:List (Nat×List Value)):Prop:=∀ p∈L,∃ ty z,w.heap[p.1]? = some (.cells p.2.toArray ty z)
theorem Wr:∀ {L L' : List (Nat×List Value)},Ay L=Ay L' → L=L'
 | [],[],_=>rfl
 | [],_ :: _,h=>by cases h
 | _ :: _,[],h=>by cases h
 | (a,b) :: L,(c,d) :: L', h=>by
  simp only [Ay,List.map_cons,List.cons.injEq,AV.gho.injEq] at h
  obtain ⟨⟨rfl,rfl⟩,h⟩:=h
  rw [Wr h]
theorem yX {L:List (Nat×List Value)}(hp:HeapR g H w){i:Nat}(hi:H[i]? = some (some (Ay L))):Ht w L:=by
 have h:=hp.obj i _ hi
 cases hl:g.ρ i with
 | none=>
  rw [hl] at h
  obtain ⟨⟨L', h1,h2⟩,_⟩:=h
  rw [Wr h1]
  exact fun p hp=>(h2 p hp).2
 | some l=>
  obtain ⟨b,base,sz⟩:=l
  rw [hl] at h
  obtain ⟨u,bss,_,hr,_⟩:=h
  cases L with
  | nil=>exact fun p hp=>by cases hp
  | cons p L=>
   have h3:=hr 0 (by simp)
   generalize u 0=v,bss 0=y at h3
   cases h3
def CallsG (P:Program)(L:List (Nat×List Value))(f:FuncId)(args:List AV)(K:AV→Heap→Prop):Prop:=
 ∀ w (vals:Array Value),Ht w L→vals.size=args.length→(∀ m (h:m<args.length),Rd w (fun _=>none) (fun b=>b<w.heap.size) args[m] (vals.getD m undef) []) →
  Calls P f vals w fun e w' => ∃ v g' av H', e = .returned v∧Mv (Ez w) [] w g' H' w' ∧ Rd w' (g'.tr H') g'.G av v []∧Ext w w' ∧ K av H'
def D9 (P:Program)(L:List (Nat×List Value))(f:FuncId)(args:List AV)(x:AV)(H0:Heap):Prop:=CallsG P L f args fun av H' => av=x∧H' = H0
def Jt (P:Program)(L:List (Nat×List Value))(f:FuncId)(args:List AV){α:Type}(Q:α→Prop)(x:α→AV)(H0:α→Heap):Prop:=CallsG P L f args fun av H' => ∃ o,Q o∧av=x o∧H' = H0 o
theorem CallsG.mono {L:List (Nat×List Value)}{f:FuncId}{args:List AV}{K K' : AV→Heap→Prop}(h:CallsG P L f args K)(hk:∀ av H', K av H' → K' av H'):CallsG P L f args K' :=
 fun w vals hv hl hr=>(h w vals hv hl hr).mono fun _ _ ⟨v,g', av,H', he,hm,hx,hext,hkk⟩=>⟨v,g', av,H', he,hm,hx,hext,hk _ _ hkk⟩
theorem CallsG.lift {L : List (Nat × List Value)} {f : FuncId} {args args' : List AV} {K : AV → Heap → Prop} (h : CallsG P L f args K) (i : Nat) (hi : H[i]? = some (some (Ay L))) (d d' : Nat) (ha : args = args'.map (Ai H d)) (hnf : ∀ av H0, K av H0 → nf d' av = true ∧ Cj d' H0 = true) :
    CallsX P true f args' H fun av H' => ∃ av0 H0,K av0 H0∧av=Az H.length d' av0∧H' = H++Dg H.length d' H0:=by
 intro g w vals hp hl hr
 refine X3 d' hp hnf (h w vals (yX hp hi) (by rw [ha];simpa using hl) (fun m hm=>?_))
 subst ha
 simp only [List.getElem_map]
 exact Wi hp d _ _ _ (hr m (by simpa using hm))
theorem Ou {ext:Bool}{L:List (Nat×List Value)}{f:FuncId}{args args' : List AV}{x:AV}{H0:Heap}{K:AV→Heap→Prop}(i:Nat)(h:D9 P L f args x H0)(hi:H[i]? = some (some (Ay L)))(ha:args'.map (Ai H 6)=args)(hx:(nf 6 x&&Cj 6 H0)=true)(hK:K (Az H.length 6 x) (H++Dg H.length 6 H0)):CallsX P ext f args' H K:=by
 rw [Bool.and_eq_true] at hx
 exact ((CallsG.lift h i hi 6 6 ha.symm (by rintro av H' ⟨rfl,rfl⟩;exact hx)).weak).mono (by rintro av H' ⟨av0,H0', ⟨rfl,rfl⟩,rfl,rfl⟩;exact hK)
theorem Zl {ext : Bool} {L : List (Nat × List Value)} {f : FuncId} {args args' : List AV} {α : Type} {Q : α → Prop} {x : α → AV} {H0 : α → Heap} {K : AV → Heap → Prop} (i : Nat) (h : Jt P L f args Q x H0) (hi : H[i]? = some (some (Ay L))) (ha : args'.map (Ai H 6) = args) (hx : ∀ o, (nf 6 (x o) && Cj 6 (H0 o)) = true)
    (hK:∀ o,Q o→K (Az H.length 6 (x o)) (H++Dg H.length 6 (H0 o))):CallsX P ext f args' H K:=by
 have hx' : ∀ o,nf 6 (x o)=true∧Cj 6 (H0 o)=true:=fun o=>by have:=hx o;rwa [Bool.and_eq_true] at this
 exact ((CallsG.lift h i hi 6 6 ha.symm (by rintro av H' ⟨o,_,rfl,rfl⟩;exact hx' o)).weak).mono (by rintro av H' ⟨av0,H0', ⟨o,hq,rfl,rfl⟩,rfl,rfl⟩;exact hK o hq)
theorem Vg {L : List (Nat × List Value)} {f : FuncId} {ac : ACode} {rs : List AOp} {args : List AV} {K K' : AV → Heap → Prop} (hc : Aj P M f = some (N, ac, rs)) (hl : decide (args.length ≤ N) = true)
    (h:V P M N 1 ac (Db rs K') (Cb 0 args) [some (Ay L)]) (hk:∀ av H', K' av H' → ∃ av2 H2,Ref 0 [(0,av)] H' [(0,av2)] H2∧K av2 H2):CallsG P L f args K:=fun w vals hv hlen hr=>by
 have hno:∀ b,¬ (Ez w).owns [some (Ay L)] b:=fun b ⟨o,cs,_,hb⟩=>by cases hb
 have hp:HeapR (Ez w) [some (Ay L)] w:=by
  refine ⟨fun o cs ho=>?_,fun o cs _=>List.nodup_nil,fun o o' cs cs' _ _ _ b hb=>(by cases hb),fun o cs _ b hb=>(by cases hb),fun b hb=>hb⟩
  cases o with
  | zero=>
   obtain rfl:Ay L=cs:=by simpa using ho
   refine ⟨⟨L,rfl,fun p hp=>⟨?_,hv p hp⟩⟩,rfl⟩
   obtain ⟨ty,z,h1⟩:=hv p hp
   exact (Array.getElem?_eq_some_iff.1 h1).1
  | succ o=>simp at ho
 refine (G5 (H:=[some (Ay L)]) hc (of_decide_eq_true hl) (Cf h) (Ez w) w vals hp hlen fun m hm=>(hr m hm).mono (fun _ h=>h) (fun _ _=>rfl) (fun o d h=>by cases h) (by simp)).mono ?_
 rintro e w' ⟨v,g', av,H', he,hm,hx,_,hkk⟩
 obtain ⟨av2,H2,h1,h2⟩:=hk _ _ hkk
 have hR:R 1 g' [(0,av)] H' { tmps:=#[v],defers:=[] } w' := by
  refine ⟨fun j=>?_,hm.hp,rfl,rfl⟩
  simp only [C1]
  by_cases e:0=j
  ·rw [if_pos e];subst e;exact hx
  ·rw [if_neg e];exact .any
 obtain ⟨g2,hR2,hm2⟩:=h1 1 g' _ w' hR
 have hx2:=hR2.fr 0
 simp only [C1,if_true] at hx2
 have hs:=hm.stp.trans hm2.stp
 have hs' : Step w w' ((Ez w).owns []) (g2.owns H2) (Ez w).G g2.G:=⟨hs.os,hs.tape,hs.output,hs.size,fun b hb _=>hs.keep b hb (hno b),fun b hb=>(hs.own b hb).imp (fun h=>(hno b h).elim) id,hs.gin,fun b hb=>(hs.gout b hb).imp id (Or.imp (fun h=>(hno b h).elim) id),hs.fz⟩
 have hmn:MvN ([]:Heap).length (Ez w) [] w g2 H2 w' := ⟨hm2.hp,hs', fun o d ho=>by cases ho⟩
 exact ⟨v,g2,_,_,he,MvN.toMv (Nq w) hmn,hx2,fun b hb=>hs.keep b hb (hno b),h2⟩
theorem Kp {L : List (Nat × List Value)} {f : FuncId} {ac : ACode} {rs : List AOp} {args : List AV} {x : AV} {H1 : Heap} (hc : Aj P M f = some (N, ac, rs)) (hl : decide (args.length ≤ N) = true)
    (h:V P M N 1 ac (Db rs fun av H' => Ref 0 [(0,av)] H' [(0,x)] H1) (Cb 0 args) [some (Ay L)]):D9 P L f args x H1:=
 Vg hc hl h fun _ _ h=>⟨_,_,h,rfl,rfl⟩
theorem sP {L : List (Nat × List Value)} {f : FuncId} {ac : ACode} {rs : List AOp} {args : List AV} {α : Type} {Q : α → Prop} {x : α → AV} {H1 : α → Heap} (hc : Aj P M f = some (N, ac, rs)) (hl : decide (args.length ≤ N) = true)
    (h:V P M N 1 ac (Db rs fun av H' => ∃ o,Q o∧Ref 0 [(0,av)] H' [(0,x o)] (H1 o)) (Cb 0 args) [some (Ay L)]):Jt P L f args Q x H1:=
 Vg hc hl h fun _ _ ⟨o,h1,h2⟩=>⟨_,_,h2,o,h1,rfl,rfl⟩
theorem Gw {P:Program}{H:Heap}{ext:Bool}{L:List (Nat×List Value)}{f:FuncId}{args args' : List AV}{x:AV}{H0:Heap}{K:AV→Heap→Prop}(h:D9 P L f args x H0)(hK:K (Az H.length 6 x) (H++Dg H.length 6 H0))(hi:H[0]? = some (some (Ay L)):=by rfl)(ha:args'.map (Ai H 6)=args:=by (simp only [go_sem,↓reduceIte,Nat.reduceEqDiff,Nat.reduceAdd,reduceCtorEq]<;>rfl))(hx:(nf 6 x&&Cj 6 H0)=true:=by first | rfl | simp only [go_sem,↓reduceIte,Nat.reduceEqDiff,Nat.reduceAdd,reduceCtorEq]):CallsX P ext f args' H K:=Ou 0 h hi ha hx hK
theorem Aau {P:Program}{H:Heap}{ext:Bool}{L:List (Nat×List Value)}{f:FuncId}{args args' : List AV}{α:Type}{Q:α→Prop}{x:α→AV}{H0:α→Heap}{K:AV→Heap→Prop}(h:Jt P L f args Q x H0)(hK:∀ o,Q o→K (Az H.length 6 (x o)) (H++Dg H.length 6 (H0 o)))(hi:H[0]? = some (some (Ay L)):=by rfl)(ha:args'.map (Ai H 6)=args:=by (simp only [go_sem,↓reduceIte,Nat.reduceEqDiff,Nat.reduceAdd,reduceCtorEq]<;>rfl))(hx:∀ o,(nf 6 (x o)&&Cj 6 (H0 o))=true:=by intro o;first | rfl | simp only [go_sem,↓reduceIte,Nat.reduceEqDiff,Nat.reduceAdd,reduceCtorEq]):CallsX P ext f args' H K:=Zl 0 h hi ha hx hK
theorem bS {P:Program}{L:List (Nat×List Value)}{gb:Bool}{C K:AV→Prop}{D:Prop}{f:FuncId}{args:List AV}{x:AV}{H0:Heap}(av:AV)(h:gb=true→D9 P L f args x H0)(k:K av)(e:(gb=true→D9 P L f args x H0)→gb=true→C av:=by
 intro h hg
 replace h:=h hg
 first | exact Ou 0 h rfl (by simp only [go_sem,↓reduceIte,Nat.reduceEqDiff,Nat.reduceAdd,reduceCtorEq]<;>rfl) (by first | rfl | simp only [go_sem,↓reduceIte,Nat.reduceEqDiff,Nat.reduceAdd,reduceCtorEq]) (by first | exact ⟨rfl,rfl⟩ | simp only [go_sem,↓reduceIte,Nat.reduceEqDiff,Nat.reduceAdd,reduceCtorEq]) | exact ⟨hg,Ou 0 h rfl (by simp only [go_sem,↓reduceIte,Nat.reduceEqDiff,Nat.reduceAdd,reduceCtorEq]<;>rfl) (by first | rfl | simp only [go_sem,↓reduceIte,Nat.reduceEqDiff,Nat.reduceAdd,reduceCtorEq]) (by first | exact ⟨rfl,rfl⟩ | simp only [go_sem,↓reduceIte,Nat.reduceEqDiff,Nat.reduceAdd,reduceCtorEq])⟩ | (refine ⟨?_,Ou 0 h rfl (by simp only [go_sem,↓reduceIte,Nat.reduceEqDiff,Nat.reduceAdd,reduceCtorEq]<;>rfl) (by first | rfl | simp only [go_sem,↓reduceIte,Nat.reduceEqDiff,Nat.reduceAdd,reduceCtorEq]) (by first | exact ⟨rfl,rfl⟩ | simp only [go_sem,↓reduceIte,Nat.reduceEqDiff,Nat.reduceAdd,reduceCtorEq])⟩;clear h;grind)):GCall gb C K D:=GCall.mk av (e h) k
end
section
variable {P:Program}
def bA (l:List UInt8):ByteArray:=⟨l.toArray⟩
abbrev u8 (b:UInt8):AV:=.val (.int .u8 (b.toNat:Int))
theorem dR (a:Array UInt8):ByteArray.mk a=bA a.toList:=by simp [bA]
theorem dS (l:List UInt8):(bA l).size=l.length:=by simp [bA,ByteArray.size]
theorem dQ (l:List UInt8):(bA l).data.toList=l:=by simp [bA]
theorem eK (l:List UInt8):Ip (bA l)=l.map fun b=>u8 b:=by simp [Ip,bA]
theorem sQ {L : List (Nat × List Value)} {f : FuncId} {α : Type} {Q : α → Prop} {x : α → Value} (av : α → AV) (hrd : ∀ o w tr G, Rd w tr G (av o) (x o) []) (args : List Value)
    (h:∀ w,Ht w L→Calls P f args.toArray w fun e w' => ∃ o,Q o∧e = .returned (x o)∧w'.os=w.os∧F5 w w' ∧ w'.output=w.output∧w.heap.size≤w'.heap.size∧∀ b,b<w.heap.size→w'.heap[b]? = w.heap[b]?):
    Jt P L f (args.map .val) Q av (fun _=>[]):=fun w vals hv hl hr=>by
 obtain rfl:vals=args.toArray:=by
  apply Array.ext (by simpa using hl)
  intro i h1 h2
  have h3:=(hr i (by simpa using h2))
  simp only [List.getElem_map] at h3
  have h4:=h3.val_inv.1
  simpa [h1] using h4
 refine (h w hv).mono ?_
 rintro e w' ⟨o,hq,rfl,h1,h2,h3,h4,h5⟩
 have hno:∀ b,¬ (Ez w).owns [] b:=fun b ⟨o,cs,ho,_⟩=>by simp at ho
 refine ⟨x o,Ez w,av o,[],rfl,?_,hrd o _ _ _,fun b hb=>h5 b hb,o,hq,rfl,rfl⟩
 exact MvN.toMv (Nq w) ⟨(Nq w).keep h4 h5,⟨h1,h2,h3,h4,fun b hb _=>h5 b hb,fun b hb=>(hno b hb).elim,fun _ h=>h,fun _ h=>.inl h,fun a ha=>by unfold World.frozen?;rw [h5 _ ha]⟩,fun o d _ h=>.inl h⟩
theorem sR {L : List (Nat × List Value)} {f : FuncId} {α : Type} {Q : α → Prop} {x : α → Value} (args : List Value)
    (h:∀ w,Ht w L→Calls P f args.toArray w fun e w' => ∃ o,Q o∧e = .returned (x o)∧w'.os=w.os∧F5 w w' ∧ w'.output=w.output∧w.heap.size≤w'.heap.size∧∀ b,b<w.heap.size→w'.heap[b]? = w.heap[b]?):
    Jt P L f (args.map .val) Q (fun o=>.val (x o)) (fun _=>[]):=sQ (fun o=>.val (x o)) (fun _ _ _ _=>.val) args h
theorem sT {L : List (Nat × List Value)} {f : FuncId} {x : Value} (args : List Value)
    (h:∀ w,Ht w L→Calls P f args.toArray w fun e w' => e = .returned x∧w'.os=w.os∧F5 w w' ∧ w'.output=w.output∧w.heap.size≤w'.heap.size∧∀ b,b<w.heap.size→w'.heap[b]? = w.heap[b]?):
    D9 P L f (args.map .val) (.val x) []:=
 CallsG.mono (sR (α:=Unit) (Q:=fun _=>True) (x:=fun _=>x) args fun w hv=>(h w hv).mono fun e w' ⟨h1,h2⟩=>⟨(),trivial,h1,h2⟩) fun av H' ⟨_,_,h1,h2⟩=>⟨h1,h2⟩
theorem xI (n:Int):Jc [.val (.int .u8 n)]=some [UInt8.ofNat n.toNat]:=rfl
theorem xL (a b:ByteArray):Mb .neq a b=True:=rfl
theorem xK (a b:ByteArray):Mb .eql a b=True:=rfl
theorem xJ (a b:ByteArray):Mb .add a b=(a.size+b.size≤maxLen):=rfl
theorem xO (a b:ByteArray):Kw .neq a b = .bool (!(a.toList == b.toList)):=rfl
theorem xN (a b:ByteArray):Kw .eql a b = .bool (a.toList == b.toList):=rfl
theorem xM (a b:ByteArray):Kw .add a b = .string (a++b):=rfl
theorem rG (s:ByteArray):(Value.string s).oneCell' = true:=rfl
attribute [go_sem] rG xL xK xJ xO xN xM
theorem vI (τ:Nat→Option Nat)(l:List UInt8):Av τ (l.map fun b=>u8 b)=l.map fun b=>u8 b:=by
 rw [A8,List.map_map]
 rfl
theorem mM (H:Heap)(d:Nat)(l:List UInt8):(l.map fun b=>u8 b).map (Ai H (d+1))=l.map fun b=>u8 b:=by
 rw [List.map_map];rfl
theorem mS (n d:Nat)(l:List UInt8):(l.map fun b=>u8 b).map (Az n (d+1))=l.map fun b=>u8 b:=by
 rw [List.map_map];rfl
theorem mT (σ:Nat→Nat)(d:Nat)(l:List UInt8):(l.map fun b=>u8 b).map (shr σ (d+1))=l.map fun b=>u8 b:=by
 rw [List.map_map];rfl
theorem dJ (d:Nat)(l:List UInt8):(l.map fun b=>u8 b).all (nf (d+1))=true:=List.all_eq_true.2 fun x hx=>by obtain ⟨_,_,rfl⟩:=List.mem_map.1 hx;rfl
attribute [go_sem] vI mM mS mT dJ
theorem vF (τ:Nat→Option Nat)(L:List (Nat×List Value)):Av τ (Ay L)=Ay L:=by
 rw [A8,Ay,List.map_map]
 rfl
attribute [go_sem] vF
theorem eC (l:List UInt8):(l == [])=l.isEmpty:=by cases l<;>rfl
attribute [go_sem] dR List.toList_toArray eC xI dS dQ eK
end
end Go.Gov
