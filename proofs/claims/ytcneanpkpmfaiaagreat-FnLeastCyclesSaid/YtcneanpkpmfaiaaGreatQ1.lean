/- Texts that belong together. -/
import Derived.Lib.Strings
import Derived.Test.YtcneanpkpmfaiaaGreatV1
set_option linter.unusedSimpArgs false
set_option linter.unusedVariables false
set_option maxRecDepth 100000
namespace Go.Gov
section
variable {P:Program} {N:Nat} {g:Gh} {F:Frame} {H:Heap} {a:Act} {w:World} {M:List Nat}
abbrev Gk (L:List (Nat×List Value)):List AV:=L.map fun p=>.gho p.1 p.2
def V8 (w:World)(L:List (Nat×List Value)):Prop:=∀ p∈L,∃ ty z,w.heap[p.1]? = some (.cells p.2.toArray ty z)
theorem aA:∀ {L L' : List (Nat×List Value)},Gk L=Gk L' → L=L'
 | [],[],_=>rfl
 | [],_ :: _,h=>by cases h
 | _ :: _,[],h=>by cases h
 | (a,b) :: L,(c,d) :: L', h=>by
  simp only [Gk,List.map_cons,List.cons.injEq,AV.gho.injEq] at h
  obtain ⟨⟨rfl,rfl⟩,h⟩:=h
  rw [aA h]
theorem Afj {L:List (Nat×List Value)}(hp:HeapR g H w){i:Nat}(hi:H[i]? = some (some (Gk L))):V8 w L:=by
 have h:=hp.obj i _ hi
 cases hl:g.ρ i with
 | none=>
  rw [hl] at h
  obtain ⟨⟨L', h1,h2⟩,_⟩:=h
  rw [aA h1]
  exact fun p hp=>(h2 p hp).2
 | some l=>
  obtain ⟨b,base,sz⟩:=l
  rw [hl] at h
  obtain ⟨u,bss,_,hr,_⟩:=h
  cases L with
  | nil=>exact fun p hp=>by cases hp
  | cons p L=>
   have h3:=hr 0 (by simp)
   generalize u 0=v,bss 0=y at h3
   cases h3
def CallsG (P:Program)(L:List (Nat×List Value))(f:FuncId)(args:List AV)(K:AV→Heap→Prop):Prop:=
 ∀ w (vals:Array Value),V8 w L→vals.size=args.length→(∀ m (h:m<args.length),Rd w (fun _=>none) (fun b=>b<w.heap.size) args[m] (vals.getD m undef) []) →
  Calls P f vals w fun e w' => ∃ v g' av H', e = .returned v∧Mv (No w) [] w g' H' w' ∧ Rd w' (g'.tr H') g'.G av v []∧Ext w w' ∧ K av H'
def O5 (P:Program)(L:List (Nat×List Value))(f:FuncId)(args:List AV)(x:AV)(H0:Heap):Prop:=CallsG P L f args fun av H' => av=x∧H' = H0
def V5 (P:Program)(L:List (Nat×List Value))(f:FuncId)(args:List AV){α:Type}(Q:α→Prop)(x:α→AV)(H0:α→Heap):Prop:=CallsG P L f args fun av H' => ∃ o,Q o∧av=x o∧H' = H0 o
theorem CallsG.lift {L : List (Nat × List Value)} {f : FuncId} {args args' : List AV} {K : AV → Heap → Prop} (h : CallsG P L f args K) (i : Nat) (hi : H[i]? = some (some (Gk L))) (d d' : Nat) (ha : args = args'.map (Al H d)) (hnf : ∀ av H0, K av H0 → nf d' av = true ∧ Dm d' H0 = true) :
    CallsX P true f args' H fun av H' => ∃ av0 H0,K av0 H0∧av=A4 H.length d' av0∧H' = H++Eh H.length d' H0:=by
 intro g w vals hp hl hr
 refine cR d' hp hnf (h w vals (Afj hp hi) (by rw [ha];simpa using hl) (fun m hm=>?_))
 subst ha
 simp only [List.getElem_map]
 exact To hp d _ _ _ (hr m (by simpa using hm))
theorem Rg {ext:Bool}{L:List (Nat×List Value)}{f:FuncId}{args args' : List AV}{x:AV}{H0:Heap}{K:AV→Heap→Prop}(i:Nat)(h:O5 P L f args x H0)(hi:H[i]? = some (some (Gk L)))(ha:args'.map (Al H 6)=args)(hx:(nf 6 x&&Dm 6 H0)=true)(hK:K (A4 H.length 6 x) (H++Eh H.length 6 H0)):CallsX P ext f args' H K:=by
 rw [Bool.and_eq_true] at hx
 exact ((CallsG.lift h i hi 6 6 ha.symm (by rintro av H' ⟨rfl,rfl⟩;exact hx)).weak).mono (by rintro av H' ⟨av0,H0', ⟨rfl,rfl⟩,rfl,rfl⟩;exact hK)
theorem Abk {ext : Bool} {L : List (Nat × List Value)} {f : FuncId} {args args' : List AV} {α : Type} {Q : α → Prop} {x : α → AV} {H0 : α → Heap} {K : AV → Heap → Prop} (i : Nat) (h : V5 P L f args Q x H0) (hi : H[i]? = some (some (Gk L))) (ha : args'.map (Al H 6) = args) (hx : ∀ o, (nf 6 (x o) && Dm 6 (H0 o)) = true)
    (hK:∀ o,Q o→K (A4 H.length 6 (x o)) (H++Eh H.length 6 (H0 o))):CallsX P ext f args' H K:=by
 have hx' : ∀ o,nf 6 (x o)=true∧Dm 6 (H0 o)=true:=fun o=>by have:=hx o;rwa [Bool.and_eq_true] at this
 exact ((CallsG.lift h i hi 6 6 ha.symm (by rintro av H' ⟨o,_,rfl,rfl⟩;exact hx' o)).weak).mono (by rintro av H' ⟨av0,H0', ⟨o,hq,rfl,rfl⟩,rfl,rfl⟩;exact hK o hq)
theorem Ago {P:Program}{H:Heap}{ext:Bool}{L:List (Nat×List Value)}{f:FuncId}{args args' : List AV}{x:AV}{H0:Heap}{K:AV→Heap→Prop}(h:O5 P L f args x H0)(hK:K (A4 H.length 6 x) (H++Eh H.length 6 H0))(hi:H[0]? = some (some (Gk L)):=by rfl)(ha:args'.map (Al H 6)=args:=by (simp only [go_sem,↓reduceIte,Nat.reduceEqDiff,Nat.reduceAdd,reduceCtorEq]<;>rfl))(hx:(nf 6 x&&Dm 6 H0)=true:=by first | rfl | simp only [go_sem,↓reduceIte,Nat.reduceEqDiff,Nat.reduceAdd,reduceCtorEq]):CallsX P ext f args' H K:=Rg 0 h hi ha hx hK
theorem Agp {P:Program}{H:Heap}{ext:Bool}{L:List (Nat×List Value)}{f:FuncId}{args args' : List AV}{α:Type}{Q:α→Prop}{x:α→AV}{H0:α→Heap}{K:AV→Heap→Prop}(h:V5 P L f args Q x H0)(hK:∀ o,Q o→K (A4 H.length 6 (x o)) (H++Eh H.length 6 (H0 o)))(hi:H[0]? = some (some (Gk L)):=by rfl)(ha:args'.map (Al H 6)=args:=by (simp only [go_sem,↓reduceIte,Nat.reduceEqDiff,Nat.reduceAdd,reduceCtorEq]<;>rfl))(hx:∀ o,(nf 6 (x o)&&Dm 6 (H0 o))=true:=by intro o;first | rfl | simp only [go_sem,↓reduceIte,Nat.reduceEqDiff,Nat.reduceAdd,reduceCtorEq]):CallsX P ext f args' H K:=Abk 0 h hi ha hx hK
theorem Agb {P:Program}{L:List (Nat×List Value)}{gb:Bool}{C K:AV→Prop}{D:Prop}{f:FuncId}{args:List AV}{x:AV}{H0:Heap}(av:AV)(h:gb=true→O5 P L f args x H0)(k:K av)(e:(gb=true→O5 P L f args x H0)→gb=true→C av:=by
 intro h hg
 replace h:=h hg
 first | exact Rg 0 h rfl (by simp only [go_sem,↓reduceIte,Nat.reduceEqDiff,Nat.reduceAdd,reduceCtorEq]<;>rfl) (by first | rfl | simp only [go_sem,↓reduceIte,Nat.reduceEqDiff,Nat.reduceAdd,reduceCtorEq]) (by first | exact ⟨rfl,rfl⟩ | simp only [go_sem,↓reduceIte,Nat.reduceEqDiff,Nat.reduceAdd,reduceCtorEq]) | exact ⟨hg,Rg 0 h rfl (by simp only [go_sem,↓reduceIte,Nat.reduceEqDiff,Nat.reduceAdd,reduceCtorEq]<;>rfl) (by first | rfl | simp only [go_sem,↓reduceIte,Nat.reduceEqDiff,Nat.reduceAdd,reduceCtorEq]) (by first | exact ⟨rfl,rfl⟩ | simp only [go_sem,↓reduceIte,Nat.reduceEqDiff,Nat.reduceAdd,reduceCtorEq])⟩ | (refine ⟨?_,Rg 0 h rfl (by simp only [go_sem,↓reduceIte,Nat.reduceEqDiff,Nat.reduceAdd,reduceCtorEq]<;>rfl) (by first | rfl | simp only [go_sem,↓reduceIte,Nat.reduceEqDiff,Nat.reduceAdd,reduceCtorEq]) (by first | exact ⟨rfl,rfl⟩ | simp only [go_sem,↓reduceIte,Nat.reduceEqDiff,Nat.reduceAdd,reduceCtorEq])⟩;clear h;grind)):GCall gb C K D:=GCall.mk av (e h) k
end
section
variable {P:Program}
def bA (l:List UInt8):ByteArray:=⟨l.toArray⟩
abbrev u8 (b:UInt8):AV:=.val (.int .u8 (b.toNat:Int))
theorem Aet (n:Int):Rx [.val (.int .u8 n)]=some [UInt8.ofNat n.toNat]:=rfl
theorem Aew (a b:ByteArray):Oo .neq a b=True:=rfl
theorem Aev (a b:ByteArray):Oo .eql a b=True:=rfl
theorem Aeu (a b:ByteArray):Oo .add a b=(a.size+b.size≤maxLen):=rfl
theorem Aez (a b:ByteArray):Mb .neq a b = .bool (!(a.toList == b.toList)):=rfl
theorem Aey (a b:ByteArray):Mb .eql a b = .bool (a.toList == b.toList):=rfl
theorem Aex (a b:ByteArray):Mb .add a b = .string (a++b):=rfl
theorem Aaw (s:ByteArray):(Value.string s).oneCell' = true:=rfl
attribute [go_sem] Aaw Aew Aev Aeu Aez Aey Aex
theorem Adb (τ:Nat→Option Nat)(l:List UInt8):A7 τ (l.map fun b=>u8 b)=l.map fun b=>u8 b:=by
 rw [Bu,List.map_map]
 rfl
theorem vI (H:Heap)(d:Nat)(l:List UInt8):(l.map fun b=>u8 b).map (Al H (d+1))=l.map fun b=>u8 b:=by
 rw [List.map_map];rfl
theorem vL (n d:Nat)(l:List UInt8):(l.map fun b=>u8 b).map (A4 n (d+1))=l.map fun b=>u8 b:=by
 rw [List.map_map];rfl
theorem vO (σ:Nat→Nat)(d:Nat)(l:List UInt8):(l.map fun b=>u8 b).map (shr σ (d+1))=l.map fun b=>u8 b:=by
 rw [List.map_map];rfl
theorem kQ (d:Nat)(l:List UInt8):(l.map fun b=>u8 b).all (nf (d+1))=true:=List.all_eq_true.2 fun x hx=>by obtain ⟨_,_,rfl⟩:=List.mem_map.1 hx;rfl
attribute [go_sem] Adb vI vL vO kQ
theorem Ac9 (τ:Nat→Option Nat)(L:List (Nat×List Value)):A7 τ (Gk L)=Gk L:=by
 rw [Bu,Gk,List.map_map]
 rfl
attribute [go_sem] Ac9
theorem lF (l:List UInt8):(l == [])=l.isEmpty:=by cases l<;>rfl
attribute [go_sem] List.toList_toArray lF Aet
end
end Go.Gov
