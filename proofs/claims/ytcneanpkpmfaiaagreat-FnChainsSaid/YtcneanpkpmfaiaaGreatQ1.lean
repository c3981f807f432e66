/- Texts that belong together. -/
import Derived.Lib.Strings
import Derived.Test.YtcneanpkpmfaiaaGreatV1
set_option linter.unusedSimpArgs false
set_option linter.unusedVariables false
set_option maxRecDepth 100000
namespace Go.Gov
section
variable {P:Program} {N:Nat} {g:Gh} {F:Frame} {H:Heap} {a:Act} {w:World} {M:List Nat}
abbrev Fx (L:List (Nat×List Value)):List AV:=L.map fun p=>.gho p.1 p.2
def U9 (w:World)(L:List (Nat×List Value)):Prop:=∀ p∈L,∃ ty z,w.heap[p.1]? = some (.cells p.2.toArray ty z)
theorem Y7:∀ {L L' : List (Nat×List Value)},Fx L=Fx L' → L=L'
 | [],[],_=>rfl
 | [],_ :: _,h=>by cases h
 | _ :: _,[],h=>by cases h
 | (a,b) :: L,(c,d) :: L', h=>by
  simp only [Fx,List.map_cons,List.cons.injEq,AV.gho.injEq] at h
  obtain ⟨⟨rfl,rfl⟩,h⟩:=h
  rw [Y7 h]
theorem Ads {L:List (Nat×List Value)}(hp:HeapR g H w){i:Nat}(hi:H[i]? = some (some (Fx L))):U9 w L:=by
 have h:=hp.obj i _ hi
 cases hl:g.ρ i with
 | none=>
  rw [hl] at h
  obtain ⟨⟨L', h1,h2⟩,_⟩:=h
  rw [Y7 h1]
  exact fun p hp=>(h2 p hp).2
 | some l=>
  obtain ⟨b,base,sz⟩:=l
  rw [hl] at h
  obtain ⟨u,bss,_,hr,_⟩:=h
  cases L with
  | nil=>exact fun p hp=>by cases hp
  | cons p L=>
   have h3:=hr 0 (by simp)
   generalize u 0=v,bss 0=y at h3
   cases h3
def CallsG (P:Program)(L:List (Nat×List Value))(f:FuncId)(args:List AV)(K:AV→Heap→Prop):Prop:=
 ∀ w (vals:Array Value),U9 w L→vals.size=args.length→(∀ m (h:m<args.length),Rd w (fun _=>none) (fun b=>b<w.heap.size) args[m] (vals.getD m undef) []) →
  Calls P f vals w fun e w' => ∃ v g' av H', e = .returned v∧Mv (Mt w) [] w g' H' w' ∧ Rd w' (g'.tr H') g'.G av v []∧Ext w w' ∧ K av H'
def N4 (P:Program)(L:List (Nat×List Value))(f:FuncId)(args:List AV)(x:AV)(H0:Heap):Prop:=CallsG P L f args fun av H' => av=x∧H' = H0
def U6 (P:Program)(L:List (Nat×List Value))(f:FuncId)(args:List AV){α:Type}(Q:α→Prop)(x:α→AV)(H0:α→Heap):Prop:=CallsG P L f args fun av H' => ∃ o,Q o∧av=x o∧H' = H0 o
theorem CallsG.lift {L : List (Nat × List Value)} {f : FuncId} {args args' : List AV} {K : AV → Heap → Prop} (h : CallsG P L f args K) (i : Nat) (hi : H[i]? = some (some (Fx L))) (d d' : Nat) (ha : args = args'.map (Ak H d)) (hnf : ∀ av H0, K av H0 → nf d' av = true ∧ Db d' H0 = true) :
    CallsX P true f args' H fun av H' => ∃ av0 H0,K av0 H0∧av=A5 H.length d' av0∧H' = H++D6 H.length d' H0:=by
 intro g w vals hp hl hr
 refine aU d' hp hnf (h w vals (Ads hp hi) (by rw [ha];simpa using hl) (fun m hm=>?_))
 subst ha
 simp only [List.getElem_map]
 exact Sr hp d _ _ _ (hr m (by simpa using hm))
theorem Qb {ext:Bool}{L:List (Nat×List Value)}{f:FuncId}{args args' : List AV}{x:AV}{H0:Heap}{K:AV→Heap→Prop}(i:Nat)(h:N4 P L f args x H0)(hi:H[i]? = some (some (Fx L)))(ha:args'.map (Ak H 6)=args)(hx:(nf 6 x&&Db 6 H0)=true)(hK:K (A5 H.length 6 x) (H++D6 H.length 6 H0)):CallsX P ext f args' H K:=by
 rw [Bool.and_eq_true] at hx
 exact ((CallsG.lift h i hi 6 6 ha.symm (by rintro av H' ⟨rfl,rfl⟩;exact hx)).weak).mono (by rintro av H' ⟨av0,H0', ⟨rfl,rfl⟩,rfl,rfl⟩;exact hK)
theorem zM {ext : Bool} {L : List (Nat × List Value)} {f : FuncId} {args args' : List AV} {α : Type} {Q : α → Prop} {x : α → AV} {H0 : α → Heap} {K : AV → Heap → Prop} (i : Nat) (h : U6 P L f args Q x H0) (hi : H[i]? = some (some (Fx L))) (ha : args'.map (Ak H 6) = args) (hx : ∀ o, (nf 6 (x o) && Db 6 (H0 o)) = true)
    (hK:∀ o,Q o→K (A5 H.length 6 (x o)) (H++D6 H.length 6 (H0 o))):CallsX P ext f args' H K:=by
 have hx' : ∀ o,nf 6 (x o)=true∧Db 6 (H0 o)=true:=fun o=>by have:=hx o;rwa [Bool.and_eq_true] at this
 exact ((CallsG.lift h i hi 6 6 ha.symm (by rintro av H' ⟨o,_,rfl,rfl⟩;exact hx' o)).weak).mono (by rintro av H' ⟨av0,H0', ⟨o,hq,rfl,rfl⟩,rfl,rfl⟩;exact hK o hq)
theorem Aex {P:Program}{H:Heap}{ext:Bool}{L:List (Nat×List Value)}{f:FuncId}{args args' : List AV}{x:AV}{H0:Heap}{K:AV→Heap→Prop}(h:N4 P L f args x H0)(hK:K (A5 H.length 6 x) (H++D6 H.length 6 H0))(hi:H[0]? = some (some (Fx L)):=by rfl)(ha:args'.map (Ak H 6)=args:=by (simp only [go_sem,↓reduceIte,Nat.reduceEqDiff,Nat.reduceAdd,reduceCtorEq]<;>rfl))(hx:(nf 6 x&&Db 6 H0)=true:=by first | rfl | simp only [go_sem,↓reduceIte,Nat.reduceEqDiff,Nat.reduceAdd,reduceCtorEq]):CallsX P ext f args' H K:=Qb 0 h hi ha hx hK
theorem Aey {P:Program}{H:Heap}{ext:Bool}{L:List (Nat×List Value)}{f:FuncId}{args args' : List AV}{α:Type}{Q:α→Prop}{x:α→AV}{H0:α→Heap}{K:AV→Heap→Prop}(h:U6 P L f args Q x H0)(hK:∀ o,Q o→K (A5 H.length 6 (x o)) (H++D6 H.length 6 (H0 o)))(hi:H[0]? = some (some (Fx L)):=by rfl)(ha:args'.map (Ak H 6)=args:=by (simp only [go_sem,↓reduceIte,Nat.reduceEqDiff,Nat.reduceAdd,reduceCtorEq]<;>rfl))(hx:∀ o,(nf 6 (x o)&&Db 6 (H0 o))=true:=by intro o;first | rfl | simp only [go_sem,↓reduceIte,Nat.reduceEqDiff,Nat.reduceAdd,reduceCtorEq]):CallsX P ext f args' H K:=zM 0 h hi ha hx hK
theorem Aek {P:Program}{L:List (Nat×List Value)}{gb:Bool}{C K:AV→Prop}{D:Prop}{f:FuncId}{args:List AV}{x:AV}{H0:Heap}(av:AV)(h:gb=true→N4 P L f args x H0)(k:K av)(e:(gb=true→N4 P L f args x H0)→gb=true→C av:=by
 intro h hg
 replace h:=h hg
 first | exact Qb 0 h rfl (by simp only [go_sem,↓reduceIte,Nat.reduceEqDiff,Nat.reduceAdd,reduceCtorEq]<;>rfl) (by first | rfl | simp only [go_sem,↓reduceIte,Nat.reduceEqDiff,Nat.reduceAdd,reduceCtorEq]) (by first | exact ⟨rfl,rfl⟩ | simp only [go_sem,↓reduceIte,Nat.reduceEqDiff,Nat.reduceAdd,reduceCtorEq]) | exact ⟨hg,Qb 0 h rfl (by simp only [go_sem,↓reduceIte,Nat.reduceEqDiff,Nat.reduceAdd,reduceCtorEq]<;>rfl) (by first | rfl | simp only [go_sem,↓reduceIte,Nat.reduceEqDiff,Nat.reduceAdd,reduceCtorEq]) (by first | exact ⟨rfl,rfl⟩ | simp only [go_sem,↓reduceIte,Nat.reduceEqDiff,Nat.reduceAdd,reduceCtorEq])⟩ | (refine ⟨?_,Qb 0 h rfl (by simp only [go_sem,↓reduceIte,Nat.reduceEqDiff,Nat.reduceAdd,reduceCtorEq]<;>rfl) (by first | rfl | simp only [go_sem,↓reduceIte,Nat.reduceEqDiff,Nat.reduceAdd,reduceCtorEq]) (by first | exact ⟨rfl,rfl⟩ | simp only [go_sem,↓reduceIte,Nat.reduceEqDiff,Nat.reduceAdd,reduceCtorEq])⟩;clear h;grind)):GCall gb C K D:=GCall.mk av (e h) k
end
section
variable {P:Program}
abbrev u8 (b:UInt8):AV:=.val (.int .u8 (b.toNat:Int))
theorem Ac2 (n:Int):Qm [.val (.int .u8 n)]=some [UInt8.ofNat n.toNat]:=rfl
theorem Ac5 (a b:ByteArray):Np .neq a b=True:=rfl
theorem Ac4 (a b:ByteArray):Np .eql a b=True:=rfl
theorem Ac3 (a b:ByteArray):Np .add a b=(a.size+b.size≤maxLen):=rfl
theorem Ac8 (a b:ByteArray):Lp .neq a b = .bool (!(a.toList == b.toList)):=rfl
theorem Ac7 (a b:ByteArray):Lp .eql a b = .bool (a.toList == b.toList):=rfl
theorem Ac6 (a b:ByteArray):Lp .add a b = .string (a++b):=rfl
theorem yP (s:ByteArray):(Value.string s).oneCell' = true:=rfl
attribute [go_sem] yP Ac5 Ac4 Ac3 Ac8 Ac7 Ac6
theorem Abj (τ:Nat→Option Nat)(l:List UInt8):A9 τ (l.map fun b=>u8 b)=l.map fun b=>u8 b:=by
 rw [Bq,List.map_map]
 rfl
theorem sT (H:Heap)(d:Nat)(l:List UInt8):(l.map fun b=>u8 b).map (Ak H (d+1))=l.map fun b=>u8 b:=by
 rw [List.map_map];rfl
theorem sX (n d:Nat)(l:List UInt8):(l.map fun b=>u8 b).map (A5 n (d+1))=l.map fun b=>u8 b:=by
 rw [List.map_map];rfl
theorem sZ (σ:Nat→Nat)(d:Nat)(l:List UInt8):(l.map fun b=>u8 b).map (shr σ (d+1))=l.map fun b=>u8 b:=by
 rw [List.map_map];rfl
theorem iW (d:Nat)(l:List UInt8):(l.map fun b=>u8 b).all (nf (d+1))=true:=List.all_eq_true.2 fun x hx=>by obtain ⟨_,_,rfl⟩:=List.mem_map.1 hx;rfl
attribute [go_sem] Abj sT sX sZ iW
theorem Abh (τ:Nat→Option Nat)(L:List (Nat×List Value)):A9 τ (Fx L)=Fx L:=by
 rw [Bq,Fx,List.map_map]
 rfl
attribute [go_sem] Abh
theorem jL (l:List UInt8):(l == [])=l.isEmpty:=by cases l<;>rfl
attribute [go_sem] List.toList_toArray jL Ac2
end
end Go.Gov
