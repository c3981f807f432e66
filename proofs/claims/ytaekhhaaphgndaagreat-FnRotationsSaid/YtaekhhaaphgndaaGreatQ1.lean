/- Texts that belong together. -/
import Derived.Lib.Strings
import Derived.Test.YtaekhhaaphgndaaGreatV1
set_option linter.unusedSimpArgs false
set_option linter.unusedVariables false
set_option maxRecDepth 100000
namespace Go.Gov
section
variable {P:Program} {N:Nat} {g:Gh} {F:Frame} {H:Heap} {a:Act} {w:World} {M:List Nat}
abbrev gvs (L:List (Nat×List Value)):List AV:=L.map fun p=>.gho p.1 p.2
def VarsIn (w:World)(L:List (Nat×List Value)):Prop:=∀ p∈L,∃ ty z,w.heap[p.1]? = some (.cells p.2.toArray ty z)
theorem gvs_inj:∀ {L L' : List (Nat×List Value)},gvs L=gvs L' → L=L'
 | [],[],_=>rfl
 | [],_ :: _,h=>by cases h
 | _ :: _,[],h=>by cases h
 | (a,b) :: L,(c,d) :: L', h=>by
  simp only [gvs,List.map_cons,List.cons.injEq,AV.gho.injEq] at h
  obtain ⟨⟨rfl,rfl⟩,h⟩:=h
  rw [gvs_inj h]
theorem vars_of {L:List (Nat×List Value)}(hp:HeapR g H w){i:Nat}(hi:H[i]? = some (some (gvs L))):VarsIn w L:=by
 have h:=hp.obj i _ hi
 cases hl:g.ρ i with
 | none=>
  rw [hl] at h
  obtain ⟨⟨L', h1,h2⟩,_⟩:=h
  rw [gvs_inj h1]
  exact fun p hp=>(h2 p hp).2
 | some l=>
  obtain ⟨b,base,sz⟩:=l
  rw [hl] at h
  obtain ⟨u,bss,_,hr,_⟩:=h
  cases L with
  | nil=>exact fun p hp=>by cases hp
  | cons p L=>
   have h3:=hr 0 (by simp)
   generalize u 0=v,bss 0=y at h3
   cases h3
def CallsG (P:Program)(L:List (Nat×List Value))(f:FuncId)(args:List AV)(K:AV→Heap→Prop):Prop:=
 ∀ w (vals:Array Value),VarsIn w L→vals.size=args.length→(∀ m (h:m<args.length),Rd w (fun _=>none) (fun b=>b<w.heap.size) args[m] (vals.getD m undef) []) →
  Calls P f vals w fun e w' => ∃ v g' av H', e = .returned v∧Mv (gAll w) [] w g' H' w' ∧ Rd w' (g'.tr H') g'.G av v []∧Ext w w' ∧ K av H'
def PureG (P:Program)(L:List (Nat×List Value))(f:FuncId)(args:List AV)(x:AV)(H0:Heap):Prop:=CallsG P L f args fun av H' => av=x∧H' = H0
theorem CallsG.mono {L:List (Nat×List Value)}{f:FuncId}{args:List AV}{K K' : AV→Heap→Prop}(h:CallsG P L f args K)(hk:∀ av H', K av H' → K' av H'):CallsG P L f args K' :=
 fun w vals hv hl hr=>(h w vals hv hl hr).mono fun _ _ ⟨v,g', av,H', he,hm,hx,hext,hkk⟩=>⟨v,g', av,H', he,hm,hx,hext,hk _ _ hkk⟩
theorem CallsG.of {L:List (Nat×List Value)}{f:FuncId}{args:List AV}{K:AV→Heap→Prop}(h:CallsX P true f args [] K):CallsG P L f args K:=fun w vals _ hl hr=>
 (h (gAll w) w vals (gAll_hp w) hl (by rw [gAll_tr];exact hr)).mono fun _ _ ⟨v,g', av,H', he,hm,hx,hext,hk⟩=>⟨v,g', av,H', he,hm,hx,hext rfl,hk⟩
theorem CallsG.sub {L L' : List (Nat×List Value)}{f:FuncId}{args:List AV}{K:AV→Heap→Prop}(h:CallsG P L f args K)(hs:∀ p∈L,p∈L'):CallsG P L' f args K:=fun w vals hv hl hr=>h w vals (fun p hp=>hv p (hs p hp)) hl hr
theorem PureG.sub {L L' : List (Nat×List Value)}{f:FuncId}{args:List AV}{x:AV}{H0:Heap}(h:PureG P L f args x H0)(hs:∀ p∈L,p∈L'):PureG P L' f args x H0:=CallsG.sub h hs
theorem PureG.of {L:List (Nat×List Value)}{f:FuncId}{args:List AV}{x:AV}{H0:Heap}(h:Pure P f args x H0):PureG P L f args x H0:=CallsG.of h
theorem CallsG.lift {L : List (Nat × List Value)} {f : FuncId} {args args' : List AV} {K : AV → Heap → Prop} (h : CallsG P L f args K) (i : Nat) (hi : H[i]? = some (some (gvs L))) (d d' : Nat) (ha : args = args'.map (frz H d)) (hnf : ∀ av H0, K av H0 → nf d' av = true ∧ nfH d' H0 = true) :
    CallsX P true f args' H fun av H' => ∃ av0 H0,K av0 H0∧av=shf H.length d' av0∧H' = H++shfH H.length d' H0:=by
 intro g w vals hp hl hr
 refine lift_at d' hp hnf (h w vals (vars_of hp hi) (by rw [ha];simpa using hl) (fun m hm=>?_))
 subst ha
 simp only [List.getElem_map]
 exact frz_ok hp d _ _ _ (hr m (by simpa using hm))
end
section
variable {P:Program}
def bA (l:List UInt8):ByteArray:=⟨l.toArray⟩
abbrev u8 (b:UInt8):AV:=.val (.int .u8 (b.toNat:Int))
theorem bA_of (a:Array UInt8):ByteArray.mk a=bA a.toList:=by simp [bA]
theorem bA_size (l:List UInt8):(bA l).size=l.length:=by simp [bA,ByteArray.size]
theorem bA_data (l:List UInt8):(bA l).data.toList=l:=by simp [bA]
theorem bA_all (s:ByteArray):bA s.data.toList=s:=by simp [bA]
theorem bA_toList (l:List UInt8):(bA l).toList=l:=by rw [Go.Lib.toList_data,bA_data]
theorem bA_ext (l:List UInt8)(i j:Nat):(bA l).extract i j=bA ((l.take j).drop i):=by
 have:((bA l).extract i j).data.toList=(l.take j).drop i:=by
  simp [bA,ByteArray.extract,ByteArray.copySlice,List.drop_take,List.extract_eq_take_drop]
 rw [← bA_all ((bA l).extract i j),this]
theorem bA_app (a b:List UInt8):bA a++bA b=bA (a++b):=by
 have:(bA a++bA b).data.toList=a++b:=by simp [bA,ByteArray.data_append]
 rw [← bA_all (bA a++bA b),this]
theorem bytA_bA (l:List UInt8):bytA (bA l)=l.map fun b=>u8 b:=by simp [bytA,bA]
theorem strA_one (n:Int):strA [.val (.int .u8 n)]=some [UInt8.ofNat n.toNat]:=rfl
theorem strOk_neq (a b:ByteArray):strOk .neq a b=True:=rfl
theorem strOk_eql (a b:ByteArray):strOk .eql a b=True:=rfl
theorem strOk_add (a b:ByteArray):strOk .add a b=(a.size+b.size≤maxLen):=rfl
theorem strV_neq (a b:ByteArray):strV .neq a b = .bool (!(a.toList == b.toList)):=rfl
theorem strV_eql (a b:ByteArray):strV .eql a b = .bool (a.toList == b.toList):=rfl
theorem strV_add (a b:ByteArray):strV .add a b = .string (a++b):=rfl
theorem one_strV (s:ByteArray):(Value.string s).oneCell' = true:=rfl
attribute [go_sem] one_strV strOk_neq strOk_eql strOk_add strV_neq strV_eql strV_add
theorem rnmL_u8 (τ:Nat→Option Nat)(l:List UInt8):rnmL τ (l.map fun b=>u8 b)=l.map fun b=>u8 b:=by
 rw [rnmL_map,List.map_map]
 rfl
theorem map_frz_u8 (H:Heap)(d:Nat)(l:List UInt8):(l.map fun b=>u8 b).map (frz H (d+1))=l.map fun b=>u8 b:=by
 rw [List.map_map];rfl
theorem map_shf_u8 (n d:Nat)(l:List UInt8):(l.map fun b=>u8 b).map (shf n (d+1))=l.map fun b=>u8 b:=by
 rw [List.map_map];rfl
theorem map_shr_u8 (σ:Nat→Nat)(d:Nat)(l:List UInt8):(l.map fun b=>u8 b).map (shr σ (d+1))=l.map fun b=>u8 b:=by
 rw [List.map_map];rfl
theorem all_nf_u8 (d:Nat)(l:List UInt8):(l.map fun b=>u8 b).all (nf (d+1))=true:=List.all_eq_true.2 fun x hx=>by obtain ⟨_,_,rfl⟩:=List.mem_map.1 hx;rfl
theorem take_all_u8 (l:List UInt8):(l.map fun b=>u8 b).take (l.length*1)=l.map fun b=>u8 b:=by rw [Nat.mul_one];exact List.take_of_length_le (by simp)
attribute [go_sem] rnmL_u8 map_frz_u8 map_shf_u8 map_shr_u8 all_nf_u8 take_all_u8
theorem rnmL_gvs (τ:Nat→Option Nat)(L:List (Nat×List Value)):rnmL τ (gvs L)=gvs L:=by
 rw [rnmL_map,gvs,List.map_map]
 rfl
attribute [go_sem] rnmL_gvs
theorem beq_nil8 (l:List UInt8):(l == [])=l.isEmpty:=by cases l<;>rfl
attribute [go_sem] bA_of List.toList_toArray beq_nil8 strA_one bA_size bA_data bA_toList bA_ext bA_app bytA_bA
end
end Go.Gov
