/- Texts that belong together. -/
import Derived.Lib.Strings
import Derived.Test.YtnompobcofhkpaaGreatDoorV1
set_option linter.unusedSimpArgs false
set_option linter.unusedVariables false
set_option maxRecDepth 100000
namespace Go.Gov
section
variable {P:Program} {N:Nat} {g:Gh} {F:Frame} {H:Heap} {a:Act} {w:World} {M:List Nat}
abbrev Cc (L:List (Nat×List Value)):List AV:=L.map fun p=>.gho p.1 p.2
def Jt (w:World)(L:List (Nat×List Value)):Prop:=∀ p∈L,∃ ty z,w.heap[p.1]? = some (.cells p.2.toArray ty z)
theorem eZ:∀ {L L' : List (Nat×List Value)},Cc L=Cc L' → L=L'
 | [],[],_=>rfl
 | [],_ :: _,h=>by cases h
 | _ :: _,[],h=>by cases h
 | (a,b) :: L,(c,d) :: L', h=>by
  simp only [Cc,List.map_cons,List.cons.injEq,AV.gho.injEq] at h
  obtain ⟨⟨rfl,rfl⟩,h⟩:=h
  rw [eZ h]
theorem Ali {L:List (Nat×List Value)}(hp:HeapR g H w){i:Nat}(hi:H[i]? = some (some (Cc L))):Jt w L:=by
 have h:=hp.obj i _ hi
 cases hl:g.ρ i with
 | none=>
  rw [hl] at h
  obtain ⟨⟨L', h1,h2⟩,_⟩:=h
  rw [eZ h1]
  exact fun p hp=>(h2 p hp).2
 | some l=>
  obtain ⟨b,base,sz⟩:=l
  rw [hl] at h
  obtain ⟨u,bss,_,hr,_⟩:=h
  cases L with
  | nil=>exact fun p hp=>by cases hp
  | cons p L=>
   have h3:=hr 0 (by simp)
   generalize u 0=v,bss 0=y at h3
   cases h3
def CallsG (P:Program)(L:List (Nat×List Value))(f:FuncId)(args:List AV)(K:AV→Heap→Prop):Prop:=
 ∀ w (vals:Array Value),Jt w L→vals.size=args.length→(∀ m (h:m<args.length),Rd w (fun _=>none) (fun b=>b<w.heap.size) args[m] (vals.getD m undef) []) →
  Calls P f vals w fun e w' => ∃ v g' av H', e = .returned v∧Mv (Gp w) [] w g' H' w' ∧ Rd w' (g'.tr H') g'.G av v []∧Ext w w' ∧ K av H'
def PureG (P:Program)(L:List (Nat×List Value))(f:FuncId)(args:List AV)(x:AV)(H0:Heap):Prop:=CallsG P L f args fun av H' => av=x∧H' = H0
def Js (P:Program)(L:List (Nat×List Value))(f:FuncId)(args:List AV){α:Type}(Q:α→Prop)(x:α→AV)(H0:α→Heap):Prop:=CallsG P L f args fun av H' => ∃ o,Q o∧av=x o∧H' = H0 o
theorem CallsG.mono {L:List (Nat×List Value)}{f:FuncId}{args:List AV}{K K' : AV→Heap→Prop}(h:CallsG P L f args K)(hk:∀ av H', K av H' → K' av H'):CallsG P L f args K' :=
 fun w vals hv hl hr=>(h w vals hv hl hr).mono fun _ _ ⟨v,g', av,H', he,hm,hx,hext,hkk⟩=>⟨v,g', av,H', he,hm,hx,hext,hk _ _ hkk⟩
theorem CallsG.sub {L L' : List (Nat×List Value)}{f:FuncId}{args:List AV}{K:AV→Heap→Prop}(h:CallsG P L f args K)(hs:∀ p∈L,p∈L'):CallsG P L' f args K:=fun w vals hv hl hr=>h w vals (fun p hp=>hv p (hs p hp)) hl hr
theorem PureG.sub {L L' : List (Nat×List Value)}{f:FuncId}{args:List AV}{x:AV}{H0:Heap}(h:PureG P L f args x H0)(hs:∀ p∈L,p∈L'):PureG P L' f args x H0:=CallsG.sub h hs
theorem CallsG.lift {L : List (Nat × List Value)} {f : FuncId} {args args' : List AV} {K : AV → Heap → Prop} (h : CallsG P L f args K) (i : Nat) (hi : H[i]? = some (some (Cc L))) (d d' : Nat) (ha : args = args'.map (Aj H d)) (hnf : ∀ av H0, K av H0 → nf d' av = true ∧ D7 d' H0 = true) :
    CallsX P true f args' H fun av H' => ∃ av0 H0,K av0 H0∧av=A6 H.length d' av0∧H' = H++El H.length d' H0:=by
 intro g w vals hp hl hr
 refine iS d' hp hnf (h w vals (Ali hp hi) (by rw [ha];simpa using hl) (fun m hm=>?_))
 subst ha
 simp only [List.getElem_map]
 exact eL hp d _ _ _ (hr m (by simpa using hm))
theorem Sz {ext:Bool}{L:List (Nat×List Value)}{f:FuncId}{args args' : List AV}{x:AV}{H0:Heap}{K:AV→Heap→Prop}(i:Nat)(h:PureG P L f args x H0)(hi:H[i]? = some (some (Cc L)))(ha:args'.map (Aj H 6)=args)(hx:(nf 6 x&&D7 6 H0)=true)(hK:K (A6 H.length 6 x) (H++El H.length 6 H0)):CallsX P ext f args' H K:=by
 rw [Bool.and_eq_true] at hx
 exact ((CallsG.lift h i hi 6 6 ha.symm (by rintro av H' ⟨rfl,rfl⟩;exact hx)).weak).mono (by rintro av H' ⟨av0,H0', ⟨rfl,rfl⟩,rfl,rfl⟩;exact hK)
theorem Ag3 {ext : Bool} {L : List (Nat × List Value)} {f : FuncId} {args args' : List AV} {α : Type} {Q : α → Prop} {x : α → AV} {H0 : α → Heap} {K : AV → Heap → Prop} (i : Nat) (h : Js P L f args Q x H0) (hi : H[i]? = some (some (Cc L))) (ha : args'.map (Aj H 6) = args) (hx : ∀ o, (nf 6 (x o) && D7 6 (H0 o)) = true)
    (hK:∀ o,Q o→K (A6 H.length 6 (x o)) (H++El H.length 6 (H0 o))):CallsX P ext f args' H K:=by
 have hx' : ∀ o,nf 6 (x o)=true∧D7 6 (H0 o)=true:=fun o=>by have:=hx o;rwa [Bool.and_eq_true] at this
 exact ((CallsG.lift h i hi 6 6 ha.symm (by rintro av H' ⟨o,_,rfl,rfl⟩;exact hx' o)).weak).mono (by rintro av H' ⟨av0,H0', ⟨o,hq,rfl,rfl⟩,rfl,rfl⟩;exact hK o hq)
theorem cF {L : List (Nat × List Value)} {f : FuncId} {ac : ACode} {rs : List AOp} {args : List AV} {K K' : AV → Heap → Prop} (hc : Af P M f = some (N, ac, rs)) (hl : decide (args.length ≤ N) = true)
    (h:V P M N 1 ac (Du rs K') (Cz 0 args) [some (Cc L)]) (hk:∀ av H', K' av H' → ∃ av2 H2,Ref 0 [(0,av)] H' [(0,av2)] H2∧K av2 H2):CallsG P L f args K:=fun w vals hv hlen hr=>by
 have hno:∀ b,¬ (Gp w).owns [some (Cc L)] b:=fun b ⟨o,cs,_,hb⟩=>by cases hb
 have hp:HeapR (Gp w) [some (Cc L)] w:=by
  refine ⟨fun o cs ho=>?_,fun o cs _=>List.nodup_nil,fun o o' cs cs' _ _ _ b hb=>(by cases hb),fun o cs _ b hb=>(by cases hb),fun b hb=>hb⟩
  cases o with
  | zero=>
   obtain rfl:Cc L=cs:=by simpa using ho
   refine ⟨⟨L,rfl,fun p hp=>⟨?_,hv p hp⟩⟩,rfl⟩
   obtain ⟨ty,z,h1⟩:=hv p hp
   exact (Array.getElem?_eq_some_iff.1 h1).1
  | succ o=>simp at ho
 refine (Ii (H:=[some (Cc L)]) hc (of_decide_eq_true hl) (Bj h) (Gp w) w vals hp hlen fun m hm=>(hr m hm).mono (fun _ h=>h) (fun _ _=>rfl) (fun o d h=>by cases h) (by simp)).mono ?_
 rintro e w' ⟨v,g', av,H', he,hm,hx,_,hkk⟩
 obtain ⟨av2,H2,h1,h2⟩:=hk _ _ hkk
 have hR:R 1 g' [(0,av)] H' { tmps:=#[v],defers:=[] } w' := by
  refine ⟨fun j=>?_,hm.hp,rfl,rfl⟩
  simp only [Dl]
  by_cases e:0=j
  ·rw [if_pos e];subst e;exact hx
  ·rw [if_neg e];exact .any
 obtain ⟨g2,hR2,hm2⟩:=h1 1 g' _ w' hR
 have hx2:=hR2.fr 0
 simp only [Dl,if_true] at hx2
 have hs:=hm.stp.trans hm2.stp
 have hs' : Step w w' ((Gp w).owns []) (g2.owns H2) (Gp w).G g2.G:=⟨hs.os,hs.tape,hs.output,hs.size,fun b hb _=>hs.keep b hb (hno b),fun b hb=>(hs.own b hb).imp (fun h=>(hno b h).elim) id,hs.gin,fun b hb=>(hs.gout b hb).imp id (Or.imp (fun h=>(hno b h).elim) id),hs.fz⟩
 have hmn:MvN ([]:Heap).length (Gp w) [] w g2 H2 w' := ⟨hm2.hp,hs', fun o d ho=>by cases ho⟩
 exact ⟨v,g2,_,_,he,MvN.toMv (Q8 w) hmn,hx2,fun b hb=>hs.keep b hb (hno b),h2⟩
theorem Hk {L : List (Nat × List Value)} {f : FuncId} {ac : ACode} {rs : List AOp} {args : List AV} {x : AV} {H1 : Heap} (hc : Af P M f = some (N, ac, rs)) (hl : decide (args.length ≤ N) = true)
    (h:V P M N 1 ac (Du rs fun av H' => Ref 0 [(0,av)] H' [(0,x)] H1) (Cz 0 args) [some (Cc L)]):PureG P L f args x H1:=
 cF hc hl h fun _ _ h=>⟨_,_,h,rfl,rfl⟩
theorem lU {L : List (Nat × List Value)} {f : FuncId} {ac : ACode} {rs : List AOp} {args : List AV} {α : Type} {Q : α → Prop} {x : α → AV} {H1 : α → Heap} (hc : Af P M f = some (N, ac, rs)) (hl : decide (args.length ≤ N) = true)
    (h:V P M N 1 ac (Du rs fun av H' => ∃ o,Q o∧Ref 0 [(0,av)] H' [(0,x o)] (H1 o)) (Cz 0 args) [some (Cc L)]):Js P L f args Q x H1:=
 cF hc hl h fun _ _ ⟨o,h1,h2⟩=>⟨_,_,h2,o,h1,rfl,rfl⟩
theorem Gs {P:Program}{H:Heap}{ext:Bool}{L:List (Nat×List Value)}{f:FuncId}{args args' : List AV}{x:AV}{H0:Heap}{K:AV→Heap→Prop}(h:PureG P L f args x H0)(hK:K (A6 H.length 6 x) (H++El H.length 6 H0))(hi:H[0]? = some (some (Cc L)):=by rfl)(ha:args'.map (Aj H 6)=args:=by (simp only [go_sem,↓reduceIte,Nat.reduceEqDiff,Nat.reduceAdd,reduceCtorEq]<;>rfl))(hx:(nf 6 x&&D7 6 H0)=true:=by first | rfl | simp only [go_sem,↓reduceIte,Nat.reduceEqDiff,Nat.reduceAdd,reduceCtorEq]):CallsX P ext f args' H K:=Sz 0 h hi ha hx hK
theorem Lf {P:Program}{H:Heap}{ext:Bool}{L:List (Nat×List Value)}{f:FuncId}{args args' : List AV}{α:Type}{Q:α→Prop}{x:α→AV}{H0:α→Heap}{K:AV→Heap→Prop}(h:Js P L f args Q x H0)(hK:∀ o,Q o→K (A6 H.length 6 (x o)) (H++El H.length 6 (H0 o)))(hi:H[0]? = some (some (Cc L)):=by rfl)(ha:args'.map (Aj H 6)=args:=by (simp only [go_sem,↓reduceIte,Nat.reduceEqDiff,Nat.reduceAdd,reduceCtorEq]<;>rfl))(hx:∀ o,(nf 6 (x o)&&D7 6 (H0 o))=true:=by intro o;first | rfl | simp only [go_sem,↓reduceIte,Nat.reduceEqDiff,Nat.reduceAdd,reduceCtorEq]):CallsX P ext f args' H K:=Ag3 0 h hi ha hx hK
theorem Xv {P:Program}{L:List (Nat×List Value)}{gb:Bool}{C K:AV→Prop}{D:Prop}{f:FuncId}{args:List AV}{x:AV}{H0:Heap}(av:AV)(h:gb=true→PureG P L f args x H0)(k:K av)(e:(gb=true→PureG P L f args x H0)→gb=true→C av:=by
 intro h hg
 replace h:=h hg
 first | exact Sz 0 h rfl (by simp only [go_sem,↓reduceIte,Nat.reduceEqDiff,Nat.reduceAdd,reduceCtorEq]<;>rfl) (by first | rfl | simp only [go_sem,↓reduceIte,Nat.reduceEqDiff,Nat.reduceAdd,reduceCtorEq]) (by first | exact ⟨rfl,rfl⟩ | simp only [go_sem,↓reduceIte,Nat.reduceEqDiff,Nat.reduceAdd,reduceCtorEq]) | exact ⟨hg,Sz 0 h rfl (by simp only [go_sem,↓reduceIte,Nat.reduceEqDiff,Nat.reduceAdd,reduceCtorEq]<;>rfl) (by first | rfl | simp only [go_sem,↓reduceIte,Nat.reduceEqDiff,Nat.reduceAdd,reduceCtorEq]) (by first | exact ⟨rfl,rfl⟩ | simp only [go_sem,↓reduceIte,Nat.reduceEqDiff,Nat.reduceAdd,reduceCtorEq])⟩ | (refine ⟨?_,Sz 0 h rfl (by simp only [go_sem,↓reduceIte,Nat.reduceEqDiff,Nat.reduceAdd,reduceCtorEq]<;>rfl) (by first | rfl | simp only [go_sem,↓reduceIte,Nat.reduceEqDiff,Nat.reduceAdd,reduceCtorEq]) (by first | exact ⟨rfl,rfl⟩ | simp only [go_sem,↓reduceIte,Nat.reduceEqDiff,Nat.reduceAdd,reduceCtorEq])⟩;clear h;grind)):GCall gb C K D:=GCall.mk av (e h) k
end
section
variable {P:Program}
def bA (l:List UInt8):ByteArray:=⟨l.toArray⟩
abbrev sV (l:List UInt8):AV:=.val (.string (bA l))
abbrev u8 (b:UInt8):AV:=.val (.int .u8 (b.toNat:Int))
theorem rB (a:Array UInt8):ByteArray.mk a=bA a.toList:=by simp [bA]
theorem Nx (l:List UInt8):(bA l).size=l.length:=by simp [bA,ByteArray.size]
theorem Ig (l:List UInt8):(bA l).data.toList=l:=by simp [bA]
theorem Ya (s:ByteArray):bA s.data.toList=s:=by simp [bA]
theorem rC (l:List UInt8):(bA l).toList=l:=by rw [Go.Lib.toList_data,Ig]
theorem rA (l:List UInt8)(i j:Nat):(bA l).extract i j=bA ((l.take j).drop i):=by
 have:((bA l).extract i j).data.toList=(l.take j).drop i:=by
  simp [bA,ByteArray.extract,ByteArray.copySlice,List.drop_take,List.extract_eq_take_drop]
 rw [← Ya ((bA l).extract i j),this]
theorem qZ (a b:List UInt8):bA a++bA b=bA (a++b):=by
 have:(bA a++bA b).data.toList=a++b:=by simp [bA,ByteArray.data_append]
 rw [← Ya (bA a++bA b),this]
theorem rQ (l:List UInt8):G4 (bA l)=l.map fun b=>u8 b:=by simp [G4,bA]
theorem lV {L : List (Nat × List Value)} {f : FuncId} {α : Type} {Q : α → Prop} {x : α → Value} (av : α → AV) (hrd : ∀ o w tr G, Rd w tr G (av o) (x o) []) (args : List Value)
    (h:∀ w,Jt w L→Calls P f args.toArray w fun e w' => ∃ o,Q o∧e = .returned (x o)∧w'.os=w.os∧G0 w w' ∧ w'.output=w.output∧w.heap.size≤w'.heap.size∧∀ b,b<w.heap.size→w'.heap[b]? = w.heap[b]?):
    Js P L f (args.map .val) Q av (fun _=>[]):=fun w vals hv hl hr=>by
 obtain rfl:vals=args.toArray:=by
  apply Array.ext (by simpa using hl)
  intro i h1 h2
  have h3:=(hr i (by simpa using h2))
  simp only [List.getElem_map] at h3
  have h4:=h3.val_inv.1
  simpa [h1] using h4
 refine (h w hv).mono ?_
 rintro e w' ⟨o,hq,rfl,h1,h2,h3,h4,h5⟩
 have hno:∀ b,¬ (Gp w).owns [] b:=fun b ⟨o,cs,ho,_⟩=>by simp at ho
 refine ⟨x o,Gp w,av o,[],rfl,?_,hrd o _ _ _,fun b hb=>h5 b hb,o,hq,rfl,rfl⟩
 exact MvN.toMv (Q8 w) ⟨(Q8 w).keep h4 h5,⟨h1,h2,h3,h4,fun b hb _=>h5 b hb,fun b hb=>(hno b hb).elim,fun _ h=>h,fun _ h=>.inl h,fun a ha=>by unfold World.frozen?;rw [h5 _ ha]⟩,fun o d _ h=>.inl h⟩
theorem Ag4 {L : List (Nat × List Value)} {f : FuncId} {α : Type} {Q : α → Prop} {x : α → Value} (args : List Value)
    (h:∀ w,Jt w L→Calls P f args.toArray w fun e w' => ∃ o,Q o∧e = .returned (x o)∧w'.os=w.os∧G0 w w' ∧ w'.output=w.output∧w.heap.size≤w'.heap.size∧∀ b,b<w.heap.size→w'.heap[b]? = w.heap[b]?):
    Js P L f (args.map .val) Q (fun o=>.val (x o)) (fun _=>[]):=lV (fun o=>.val (x o)) (fun _ _ _ _=>.val) args h
theorem Ag5 {L : List (Nat × List Value)} {f : FuncId} {x : Value} (args : List Value)
    (h:∀ w,Jt w L→Calls P f args.toArray w fun e w' => e = .returned x∧w'.os=w.os∧G0 w w' ∧ w'.output=w.output∧w.heap.size≤w'.heap.size∧∀ b,b<w.heap.size→w'.heap[b]? = w.heap[b]?):
    PureG P L f (args.map .val) (.val x) []:=
 CallsG.mono (Ag4 (α:=Unit) (Q:=fun _=>True) (x:=fun _=>x) args fun w hv=>(h w hv).mono fun e w' ⟨h1,h2⟩=>⟨(),trivial,h1,h2⟩) fun av H' ⟨_,_,h1,h2⟩=>⟨h1,h2⟩
theorem lW {f : FuncId} {x : Value} (args : List Value)
    (h:∀ w,Calls P f args.toArray w fun e w' => e = .returned x∧w'.os=w.os∧G0 w w' ∧ w'.output=w.output∧w.heap.size≤w'.heap.size∧∀ b,b<w.heap.size→w'.heap[b]? = w.heap[b]?):
    Pure P f (args.map .val) (.val x) []:=fun g w vals hp hl hr=>by
 obtain rfl:vals=args.toArray:=by
  apply Array.ext (by simpa using hl)
  intro i h1 h2
  have h3:=(hr i (by simpa using h2))
  simp only [List.getElem_map] at h3
  have h4:=h3.val_inv.1
  simpa [h1] using h4
 refine (h w).mono ?_
 rintro e w' ⟨rfl,h1,h2,h3,h4,h5⟩
 have hno:∀ b,¬ g.owns [] b:=fun b ⟨o,cs,ho,_⟩=>by simp at ho
 refine ⟨x,g,.val x,[],rfl,?_,.val,fun _ b hb=>h5 b hb,rfl,rfl⟩
 exact MvN.toMv hp ⟨hp.keep h4 h5,⟨h1,h2,h3,h4,fun b hb _=>h5 b hb,fun b hb=>(hno b hb).elim,fun _ h=>h,fun _ h=>.inl h,fun a ha=>by unfold World.frozen?;rw [h5 _ ha]⟩,fun o d _ h=>.inl h⟩
theorem Aki (n:Int):Ln [.val (.int .u8 n)]=some [UInt8.ofNat n.toNat]:=rfl
theorem nV:∀ l:List UInt8,Ln (l.map fun b=>u8 b)=some l
 | []=>rfl
 | b :: l=>by
  show (Ln (l.map fun b=>u8 b)).map _=_
  rw [nV l,Option.map_some,Int.toNat_natCast,UInt8.ofNat_toNat]
theorem lP (l:List UInt8):(l.map fun b=>u8 b).all Bp=true:=List.all_eq_true.2 fun x hx=>by obtain ⟨_,_,rfl⟩:=List.mem_map.1 hx;rfl
theorem Afu (l:List UInt8):(l.map fun b=>u8 b).all Cq=true:=List.all_eq_true.2 fun x hx=>by obtain ⟨_,_,rfl⟩:=List.mem_map.1 hx;rfl
theorem Akl (a b:ByteArray):Pt .neq a b=True:=rfl
theorem Akk (a b:ByteArray):Pt .eql a b=True:=rfl
theorem Akj (a b:ByteArray):Pt .add a b=(a.size+b.size≤maxLen):=rfl
theorem Ako (a b:ByteArray):M9 .neq a b = .bool (!(a.toList == b.toList)):=rfl
theorem Akn (a b:ByteArray):M9 .eql a b = .bool (a.toList == b.toList):=rfl
theorem Akm (a b:ByteArray):M9 .add a b = .string (a++b):=rfl
theorem Aft (s:ByteArray):(Value.string s).oneCell' = true:=rfl
attribute [go_sem] Aft Akl Akk Akj Ako Akn Akm
theorem Ai6 (τ:Nat→Option Nat)(l:List UInt8):A5 τ (l.map fun b=>u8 b)=l.map fun b=>u8 b:=by
 rw [Bu,List.map_map]
 rfl
theorem Aaj (H:Heap)(d:Nat)(l:List UInt8):(l.map fun b=>u8 b).map (Aj H (d+1))=l.map fun b=>u8 b:=by
 rw [List.map_map];rfl
theorem Aap (n d:Nat)(l:List UInt8):(l.map fun b=>u8 b).map (A6 n (d+1))=l.map fun b=>u8 b:=by
 rw [List.map_map];rfl
theorem Aar (σ:Nat→Nat)(d:Nat)(l:List UInt8):(l.map fun b=>u8 b).map (shr σ (d+1))=l.map fun b=>u8 b:=by
 rw [List.map_map];rfl
theorem qQ (d:Nat)(l:List UInt8):(l.map fun b=>u8 b).all (nf (d+1))=true:=List.all_eq_true.2 fun x hx=>by obtain ⟨_,_,rfl⟩:=List.mem_map.1 hx;rfl
attribute [go_sem] Ai6 Aaj Aap Aar qQ
theorem Ai0 (τ:Nat→Option Nat)(L:List (Nat×List Value)):A5 τ (Cc L)=Cc L:=by
 rw [Bu,Cc,List.map_map]
 rfl
attribute [go_sem] Ai0
theorem rM (l:List UInt8):(l == [])=l.isEmpty:=by cases l<;>rfl
attribute [go_sem] rB List.toList_toArray rM Aki Nx Ig rC rA qZ rQ
end
section
def As (L:List (List UInt8)):List AV:=L.map sV
theorem Ry (L:List (List UInt8)):(As L).length=L.length:=by simp [As]
theorem vO (L:List (List UInt8))(i:Nat):(As L).getD i (.val (.string (bA [])))=sV (L.getD i []):=by
 simp only [As,List.getD_eq_getElem?_getD,List.getElem?_map]
 cases L[i]? <;> rfl
theorem Agr (L:List (List UInt8))(i:Nat):Bp ((As L).getD i .any)=true:=by
 simp only [As,List.getD_eq_getElem?_getD,List.getElem?_map]
 cases L[i]? <;> rfl
theorem Aah (H:Heap)(d:Nat)(L:List (List UInt8)):(As L).map (Aj H (d+1))=As L:=by simp [As,Aj]
theorem Aao (n d:Nat)(L:List (List UInt8)):(As L).map (A6 n d)=As L:=by cases d<;>simp [As,A6]
theorem qP (d:Nat)(L:List (List UInt8)):(As L).all (nf (d+1))=true:=by simp [As,nf]
theorem Ai3 (τ:Nat→Option Nat)(L:List (List UInt8)):A5 τ (As L)=As L:=by simp [Bu,As,Am]
theorem Xg (L:List (List UInt8)):(As L).take L.length=As L:=by rw [← Ry L,List.take_length]
theorem qU (L:List (List UInt8))(l:List UInt8):As L++[AV.val (.string (bA l))]=As (L++[l]):=by simp [As]
attribute [go_sem] Ry vO Agr Aah Aao qP Ai3 Xg qU
end
end Go.Gov
