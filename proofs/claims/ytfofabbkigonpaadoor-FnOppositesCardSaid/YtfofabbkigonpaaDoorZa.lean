/- Texts that belong together. -/
import Derived.OrdersHeld
import Derived.Below
import Derived.Laws.AppendOwn
import Derived.Laws.Sem
import Derived.KernelRfl
import Derived.Laws.Cells
import Derived.Laws.Entries
import Derived.Laws.Slices
import Derived.IntWalk
import Derived.MapKept
set_option linter.unusedSimpArgs false
set_option linter.unusedVariables false
namespace Go.Gov
section
inductive AV where
 | any
 | val (v:Value)
 | cnd (b:Bool) (x:AV)
 | slc (k n:Nat) (cs:List AV)
 | pto (cs:List AV) (j:Nat)
 | sl (o k off len:Nat)
 | ref (o j:Nat)
 | osl (k n:Nat) (cs:List AV)
 | agg (cs:List AV)
 | tup (vs:List AV)
 | clo (f:FuncId) (fs cs:List AV)
 | mp (o:Nat)
 | mpz (cs:List AV)
 | ent (b:Nat) (k:Value) (x:AV)
 | oag (cs:List AV)
 | it (o:Nat)
 | mpc (cs:List AV)
 | idn (v:Value) (x:AV)
 | gho (b:Nat) (zs:List Value)
abbrev i64 (n:Int):AV:=.val (.int .i64 n)
abbrev bl (b:Bool):AV:=.val (.bool b)
abbrev Ag:AV:=.val (.slice none 0 0)
def Aa (xs:List Int):List AV:=xs.map fun n=>i64 n
def Bc (xs:List Bool):List AV:=xs.map fun b=>bl b
abbrev Ad (xs:List Int):AV:=.slc 1 xs.length (Aa xs)
abbrev M0 (xs:List Bool):AV:=.slc 1 xs.length (Bc xs)
abbrev Af (xs:List Int):AV:=.osl 1 xs.length (Aa xs)
abbrev Ae (xss:List (List Int)):AV:=.slc 1 xss.length (xss.map Ad)
abbrev C6:=Option (Nat×Nat×Nat)
abbrev A2:=C6×Nat
def Ju:C6→Nat→Nat→Nat→Value→Prop
 | none,_,_,len,v=>len=0∧∃ a,v = .slice a 0 0
 | some (b, base, sz), k, off, len, v => ∃ cap, len ≤ cap ∧ cap ≤ maxLen ∧ base + off + cap * k ≤ sz ∧
     (v = .slice (some ⟨b,base+off,none⟩) len cap∨(cap=0∧∃ a,v = .slice a 0 0))
def Ms:C6→Nat→Value→Prop
 | none,_,_=>False
 | some (b,base,sz),j,v=>v = .pointer (some ⟨b,base+j,none⟩)∧base≤sz
def F8 (e:MapEntry):Value:=.tuple #[.int .i64 e.born,e.key,e.val]
def Bo (es:Array MapEntry)(clock:Nat):Array Value:=#[.int .i64 clock]++es.map F8
def D1 (mr since:Nat)(seen:Array Nat)(stepped:Nat):Array Value:=#[.map (some mr),.int .i64 since,.int .i64 stepped]++seen.map fun s=>.int .i64 s
def MapAt (w:World)(b n:Nat)(u:Nat→Value):Prop:=∃ (es:Array MapEntry) (clock:Nat),w.heap[b]? = some (.map es clock)∧n=1∧u 0 = .tuple (Bo es clock)
theorem MapAt.mono {w w' : World}{b n:Nat}{u:Nat→Value}(h:MapAt w b n u)(hw:w'.heap[b]? = w.heap[b]?):MapAt w' b n u:=by
 obtain ⟨es,c,h1,h2⟩:=h
 exact ⟨es,c,hw.trans h1,h2⟩
theorem MapAt.lt {w:World}{b n:Nat}{u:Nat→Value}(h:MapAt w b n u):b<w.heap.size:=by
 obtain ⟨es,c,h1,_⟩:=h
 exact (Array.getElem?_eq_some_iff.1 h1).1
def ItAt (w:World)(b n:Nat)(u:Nat→Value):Prop:=∃ (mr since:Nat) (seen:Array Nat) (stepped:Nat),w.heap[b]? = some (.mapIter (some mr) since seen stepped)∧n=1∧u 0 = .tuple (D1 mr since seen stepped)
theorem ItAt.mono {w w' : World}{b n:Nat}{u:Nat→Value}(h:ItAt w b n u)(hw:w'.heap[b]? = w.heap[b]?):ItAt w' b n u:=by
 obtain ⟨mr,since,seen,c,h1,h2⟩:=h
 exact ⟨mr,since,seen,c,hw.trans h1,h2⟩
theorem ItAt.lt {w:World}{b n:Nat}{u:Nat→Value}(h:ItAt w b n u):b<w.heap.size:=by
 obtain ⟨mr,since,seen,c,h1,_⟩:=h
 exact (Array.getElem?_eq_some_iff.1 h1).1
def ItLoc:C6→Value→Prop
 | some (b,2,0),v=>v = .pointer (some ⟨b,0,none⟩)
 | _,_=>False
theorem ItLoc.inv {l:C6}{v:Value}(h:ItLoc l v):∃ b,l=some (b,2,0)∧v = .pointer (some ⟨b,0,none⟩):=by
 unfold ItLoc at h
 split at h
 ·exact ⟨_,rfl,h⟩
 ·exact h.elim
def MpAt:C6→Value→Prop
 | some (b,1,0),v=>v = .map (some b)
 | _,_=>False
theorem MpAt.inv {l:C6}{v:Value}(h:MpAt l v):∃ b,l=some (b,1,0)∧v = .map (some b):=by
 unfold MpAt at h
 split at h
 ·exact ⟨_,rfl,h⟩
 ·exact h.elim
abbrev EZ (n:Nat):={p:TypeId×(Nat×Nat) // p.2.2≤p.2.1∨n≤p.2.1}
def e0 (n:Nat)(t:TypeId):EZ n:=⟨(t,(0,0)),.inl (Nat.le_refl _)⟩
inductive Rd (w:World) (tr:Nat→Option (Option A2)) (G:Nat→Prop):AV→Value→List Nat→Prop
 | any {v:Value}:Rd w tr G .any v []
 | val {v:Value}:Rd w tr G (.val v) v []
 | cndF {x:AV}:Rd w tr G (.cnd false x) undef []
 | cndT {x:AV} {v:Value} (h:Rd w tr G x v []):Rd w tr G (.cnd true x) v []
 | slc {k n : Nat} {cs : List AV} {b off cap : Nat} (u : Nat → Value) (hl : cs.length = n * k) (hn : n ≤ cap) (hm : cap ≤ maxLen) (hG : G b)
     (hc:∀ m,m<cs.length→w.cell? ⟨b,off+m,none⟩=some (u m)) (hr:∀ m (h:m<cs.length),Rd w tr G cs[m] (u m) []):
     Rd w tr G (.slc k n cs) (.slice (some ⟨b,off,none⟩) n cap) []
 | slc0 {k:Nat} {a:Option Addr} {cap:Nat} (hm:cap≤maxLen):Rd w tr G (.slc k 0 []) (.slice a 0 cap) []
 | pto {cs : List AV} {j b off : Nat} (u : Nat → Value) (hG : G b) (hc : ∀ m, m < cs.length → w.cell? ⟨b, off + m, none⟩ = some (u m))
     (hr:∀ m (h:m<cs.length),Rd w tr G cs[m] (u m) []):Rd w tr G (.pto cs j) (.pointer (some ⟨b,off+j,none⟩)) []
 | sl {o k off len:Nat} {v:Value} (h0:(tr o).isSome=true) (hv:v.oneCell' = true) (h:∀ l,tr o=some (some l)→off+len*k≤l.2∧Ju l.1 k off len v):Rd w tr G (.sl o k off len) v []
 | ref {o j:Nat} {v:Value} (h0:(tr o).isSome=true) (hv:v.oneCell' = true) (h:∀ l,tr o=some (some l)→Ms l.1 j v):Rd w tr G (.ref o j) v []
 | osl {k n : Nat} {cs : List AV} {b off cap : Nat} {arr : Array Value} {elem : EZ arr.size} (u : Nat → Value) (bss : Nat → List Nat) (hl : cs.length = n * k) (hn : n ≤ cap) (hm : cap ≤ maxLen)
     (hb:w.heap[b]? = some (.cells arr elem.1.1 elem.1.2)) (hs:off+cap*k≤arr.size) (hc:∀ m,m<cs.length→arr[off+m]? = some (u m))
     (hr:∀ m (h:m<cs.length),Rd w tr G cs[m] (u m) (bss m)):
     Rd w tr G (.osl k n cs) (.slice (some ⟨b,off,none⟩) n cap) (b :: (List.range cs.length).flatMap bss)
 | osl0 {k:Nat} {a:Option Addr}:Rd w tr G (.osl k 0 []) (.slice a 0 0) []
 | agg {cs:List AV} {vs:Array Value} (hl:cs.length=vs.size) (hr:∀ m (h:m<cs.length),Rd w tr G cs[m] (vs.getD m undef) []):Rd w tr G (.agg cs) (.agg vs) []
 | tup {cs:List AV} {vs:Array Value} (hl:cs.length=vs.size) (hr:∀ m (h:m<cs.length),Rd w tr G cs[m] (vs.getD m undef) []):Rd w tr G (.tup cs) (.tuple vs) []
 | clo {f : FuncId} {fs cs : List AV} {vf vc : Array Value} (hf : fs.length = vf.size) (hrf : ∀ m (h : m < fs.length), Rd w tr G fs[m] (vf.getD m undef) [])
     (hl:cs.length=vc.size) (hr:∀ m (h:m<cs.length),Rd w tr G cs[m] (vc.getD m undef) []):Rd w tr G (.clo f fs cs) (.func (.func f) vf vc) []
 | mp {o:Nat} {v:Value} (h0:(tr o).isSome=true) (hv:∃ r,v = .map (some r)) (h:∀ l,tr o=some (some l)→MpAt l.1 v):Rd w tr G (.mp o) v []
 | it {o:Nat} {v:Value} (h0:(tr o).isSome=true) (hv:∃ r,v = .pointer (some ⟨r,0,none⟩)) (h:∀ l,tr o=some (some l)→ItLoc l.1 v):Rd w tr G (.it o) v []
 | mpz {cs:List AV} {b:Nat} {es:Array MapEntry} {clock:Nat} (hG:G b) (hc:w.heap[b]? = some (.map es clock)) (hl:cs.length=(Bo es clock).size) (hr:∀ m (h:m<cs.length),Rd w tr G cs[m] ((Bo es clock).getD m undef) []):Rd w tr G (.mpz cs) (.map (some b)) []
 | mpc {cs:List AV} {vs:Array Value} {bs:List Nat} (bss:Nat→List Nat) (hbs:bs=(List.range cs.length).flatMap bss) (hl:cs.length=vs.size) (hr:∀ m (h:m<cs.length),Rd w tr G cs[m] (vs.getD m undef) (bss m)):Rd w tr G (.mpc cs) (.tuple vs) bs
 | ent {b:Nat} {k:Value} {x:AV} {v:Value} {bs:List Nat} (h:Rd w tr G x v bs):Rd w tr G (.ent b k x) (.tuple #[.int .i64 b,k,v]) bs
 | oag {cs:List AV} {vs:Array Value} {bs:List Nat} (bss:Nat→List Nat) (hbs:bs=(List.range cs.length).flatMap bss) (hl:cs.length=vs.size) (hr:∀ m (h:m<cs.length),Rd w tr G cs[m] (vs.getD m undef) (bss m)):Rd w tr G (.oag cs) (.agg vs) bs
 | idn {x:AV} {v:Value} (h:Rd w tr G x v []):Rd w tr G (.idn v x) v []
theorem Pa {tr tr' : Nat→Option (Option A2)}{o:Nat}(ht:∀ o d,tr o=some d→tr' o=some d∨tr' o=some none)(h0:(tr o).isSome=true):(tr' o).isSome=true:=by
 obtain ⟨d,hd⟩:=Option.isSome_iff_exists.1 h0
 rcases ht o d hd with h | h<;>simp [h]
theorem O9 {tr tr' : Nat→Option (Option A2)}{o:Nat}{l:A2}(ht:∀ o d,tr o=some d→tr' o=some d∨tr' o=some none)(h0:(tr o).isSome=true)(h:tr' o=some (some l)):tr o=some (some l):=by
 obtain ⟨d,hd⟩:=Option.isSome_iff_exists.1 h0
 rcases ht o d hd with h' | h'
 ·rw [hd,← h', h]
 ·rw [h'] at h;cases h
theorem Rd.mono {w w' : World} {tr tr' : Nat → Option (Option A2)} {G G' : Nat → Prop} (hG : ∀ b, G b → G' b) (hw : ∀ b, G b → w'.heap[b]? = w.heap[b]?) (ht : ∀ o d, tr o = some d → tr' o = some d ∨ tr' o = some none) {x : AV} {v : Value} {bs : List Nat}
    (h:Rd w tr G x v bs):(∀ b∈bs,w'.heap[b]? = w.heap[b]?)→Rd w' tr' G' x v bs:=by
 induction h with
 | any=>exact fun _=>.any
 | val=>exact fun _=>.val
 | cndF=>exact fun _=>.cndF
 | cndT _ ih=>exact fun hb=>.cndT (ih hb)
 | idn _ ih=>exact fun hb=>.idn (ih hb)
 | slc u hl hn hm hg hc _ ih=>exact fun _=>.slc u hl hn hm (hG _ hg) (fun m hm' => (World.cell?_of_block (w:=w) (hw _ hg)).trans (hc m hm')) (fun m hm' => ih m hm' (by simp))
 | slc0 hm=>exact fun _=>.slc0 hm
 | pto u hg hc _ ih=>exact fun _=>.pto u (hG _ hg) (fun m hm' => (World.cell?_of_block (w:=w) (hw _ hg)).trans (hc m hm')) (fun m hm' => ih m hm' (by simp))
 | sl h0 hv h=>exact fun _=>.sl (Pa ht h0) hv fun l hl=>h l (O9 ht h0 hl)
 | ref h0 hv h=>exact fun _=>.ref (Pa ht h0) hv fun l hl=>h l (O9 ht h0 hl)
 | osl u bss hl hn hm hb hs hc _ ih => exact fun hbs => .osl u bss hl hn hm ((hbs _ (by simp)).trans hb) hs hc (fun m hm' => ih m hm' (fun b hb' => hbs b (by
     refine List.mem_cons_of_mem _ (List.mem_flatMap.2 ⟨m,List.mem_range.2 hm', hb'⟩))))
 | osl0=>exact fun _=>.osl0
 | agg hl _ ih=>exact fun _=>.agg hl (fun m hm=>ih m hm (by simp))
 | tup hl _ ih=>exact fun _=>.tup hl (fun m hm=>ih m hm (by simp))
 | clo hf _ hl _ ihf ih=>exact fun _=>.clo hf (fun m hm=>ihf m hm (by simp)) hl (fun m hm=>ih m hm (by simp))
 | mp h0 hv h=>exact fun _=>.mp (Pa ht h0) hv fun l hl=>h l (O9 ht h0 hl)
 | it h0 hv h=>exact fun _=>.it (Pa ht h0) hv fun l hl=>h l (O9 ht h0 hl)
 | mpz hg hc hl _ ih=>exact fun _=>.mpz (hG _ hg) ((hw _ hg).trans hc) hl (fun m hm=>ih m hm (by simp))
 | mpc bss hbs hl _ ih=>exact fun hb0=>.mpc bss hbs hl (fun m hm=>ih m hm (fun b hb=>hb0 b (hbs ▸ List.mem_flatMap.2 ⟨m,List.mem_range.2 hm,hb⟩)))
 | ent _ ih=>exact fun hb=>.ent (ih hb)
 | oag bss hbs hl _ ih=>exact fun hb0=>.oag bss hbs hl (fun m hm=>ih m hm (fun b hb=>hb0 b (hbs ▸ List.mem_flatMap.2 ⟨m,List.mem_range.2 hm,hb⟩)))
abbrev Heap:=List (Option (List AV))
abbrev Frame:=List (Nat×AV)
def Ac:Frame→Nat→AV
 | [],_=>.any
 | (i,x) :: r,j=>if i=j then x else Ac r j
def Ai (H:Heap):Nat→AV→AV
 | 0,_=>.any
 | d+1,.sl o k off len=>match H[o]? with
  | some (some cs)=>.slc k len (((cs.drop off).take (len*k)).map (Ai H d))
  | _=>.any
 | d+1,.ref o j=>match H[o]? with
  | some (some cs)=>.pto (cs.map (Ai H d)) j
  | _=>.any
 | d+1,.osl k n cs=>.slc k n (cs.map (Ai H d))
 | d+1,.slc k n cs=>.slc k n (cs.map (Ai H d))
 | d+1,.pto cs j=>.pto (cs.map (Ai H d)) j
 | d+1,.cnd b x=>.cnd b (Ai H d x)
 | d+1,.idn v x=>.idn v (Ai H d x)
 | d+1,.agg cs=>.agg (cs.map (Ai H d))
 | d+1,.tup cs=>.tup (cs.map (Ai H d))
 | d+1,.clo f fs cs=>.clo f (fs.map (Ai H d)) (cs.map (Ai H d))
 | d+1,.mp o=>match H[o]? with
  | some (some [.mpc cs])=>.mpz (cs.map (Ai H d))
  | _=>.any
 | d+1,.mpc cs=>.mpc (cs.map (Ai H d))
 | d+1,.mpz cs=>.mpz (cs.map (Ai H d))
 | _+1,.it _=>.any
 | d+1,.ent b k x=>.ent b k (Ai H d x)
 | d+1,.oag cs=>.agg (cs.map (Ai H d))
 | _+1,x=>x
structure Gh where
 ρ:Nat→C6
 ob:Nat→List Nat
 G:Nat→Prop
def Gh.tr (g:Gh)(H:Heap)(o:Nat):Option (Option A2):=match H[o]? with
 | some (some cs)=>some (some (g.ρ o,cs.length))
 | some none=>some none
 | none=>none
theorem Gh.tr_some {g:Gh}{H:Heap}{o:Nat}{cs:List AV}(h:H[o]? = some (some cs)):g.tr H o=some (some (g.ρ o,cs.length)):=by simp [Gh.tr,h]
def BlockAt (w:World)(b base sz n:Nat)(u:Nat→Value):Prop:=
 (∃ (arr:Array Value) (elem:EZ sz),w.heap[b]? = some (.cells arr elem.1.1 elem.1.2)∧arr.size=sz∧base+n≤sz∧∀ m,m<n→arr[base+m]? = some (u m))∨(base=1∧sz=0∧MapAt w b n u)∨(base=2∧sz=0∧ItAt w b n u)
theorem BlockAt.mono {w w' : World}{b base sz n:Nat}{u:Nat→Value}(h:BlockAt w b base sz n u)(hw:w'.heap[b]? = w.heap[b]?):BlockAt w' b base sz n u:=by
 rcases h with ⟨arr,elem,h1,h2,h3,h4⟩ | ⟨h1,h2,h3⟩ | ⟨h1,h2,h3⟩
 ·exact .inl ⟨arr,elem,hw.trans h1,h2,h3,h4⟩
 ·exact .inr (.inl ⟨h1,h2,h3.mono hw⟩)
 ·exact .inr (.inr ⟨h1,h2,h3.mono hw⟩)
theorem BlockAt.lt {w:World}{b base sz n:Nat}{u:Nat→Value}(h:BlockAt w b base sz n u):b<w.heap.size:=by
 rcases h with ⟨arr,elem,h1,h2,h3,h4⟩ | ⟨h1,h2,h3⟩ | ⟨h1,h2,h3⟩
 ·exact (Array.getElem?_eq_some_iff.1 h1).1
 ·exact h3.lt
 ·exact h3.lt
def Gr:AV→Bool
 | .gho _ _=>true
 | _=>false
abbrev gv (b:Nat)(zs:List Value):AV:=.gho b zs
def Gho (w:World)(G:Nat→Prop)(cs:List AV):Prop:=∃ L:List (Nat×List Value),cs=L.map (fun p=>gv p.1 p.2)∧∀ p∈L,G p.1∧∃ ty z,w.heap[p.1]? = some (.cells p.2.toArray ty z)
theorem Gho.nil {w:World}{G:Nat→Prop}:Gho w G []:=⟨[],rfl,by simp⟩
theorem Gho.mono {w w' : World}{G G' : Nat→Prop}{cs:List AV}(h:Gho w G cs)(hG:∀ b,G b→G' b)(hw:∀ b,G b→w'.heap[b]? = w.heap[b]?):Gho w' G' cs:=by
 obtain ⟨L,h1,h2⟩:=h
 exact ⟨L,h1,fun p hp=>⟨hG _ (h2 p hp).1,by rw [hw _ (h2 p hp).1];exact (h2 p hp).2⟩⟩
theorem Gho.gh {w:World}{G:Nat→Prop}{cs:List AV}(h:Gho w G cs):∀ x∈cs,Gr x=true:=fun x hx=>by
 obtain ⟨L,rfl,_⟩:=h
 obtain ⟨p,_,rfl⟩:=List.mem_map.1 hx
 rfl
theorem Gho.take {w:World}{G:Nat→Prop}{cs:List AV}(h:Gho w G cs)(m:Nat):Gho w G (cs.take m):=by
 obtain ⟨L,rfl,h2⟩:=h
 exact ⟨L.take m,List.map_take.symm,fun p hp=>h2 p (List.mem_of_mem_take hp)⟩
def ObjR (w:World)(tr:Nat→Option (Option A2))(G:Nat→Prop)(cs:List AV)(bs:List Nat):C6→Prop
 | none=>Gho w G cs∧bs=[]
 | some (b,base,sz)=>∃ (u:Nat→Value) (bss:Nat→List Nat),BlockAt w b base sz cs.length u∧(∀ m (h:m<cs.length),Rd w tr G cs[m] (u m) (bss m))∧bs=b :: (List.range cs.length).flatMap bss
theorem ObjR.nil {w:World}{tr:Nat→Option (Option A2)}{G:Nat→Prop}:ObjR w tr G [] [] none:=⟨Gho.nil,rfl⟩
theorem ObjR.cells {w : World} {tr : Nat → Option (Option A2)} {G : Nat → Prop} {cs : List AV} {bs : List Nat} {b base sz : Nat} (h : ObjR w tr G cs bs (some (b, base, sz))) (hle : base ≤ sz) :
    ∃ (arr:Array Value) (elem:EZ sz) (u:Nat→Value) (bss:Nat→List Nat),w.heap[b]? = some (.cells arr elem.1.1 elem.1.2)∧arr.size=sz∧base+cs.length≤sz ∧
     (∀ m,m<cs.length→arr[base+m]? = some (u m))∧(∀ m (h:m<cs.length),Rd w tr G cs[m] (u m) (bss m))∧bs=b :: (List.range cs.length).flatMap bss:=by
 obtain ⟨u,bss,hb,hr,h6⟩:=h
 rcases hb with ⟨arr,elem,h1,h2,h3,h4⟩ | ⟨h1,h2,_⟩ | ⟨h1,h2,_⟩
 ·exact ⟨arr,elem,u,bss,h1,h2,h3,h4,hr,h6⟩
 ·omega
 ·omega
theorem ObjR.ofCells {w : World} {tr : Nat → Option (Option A2)} {G : Nat → Prop} {cs : List AV} {bs : List Nat} {b base sz : Nat}
    (h:∃ (arr:Array Value) (elem:EZ sz) (u:Nat→Value) (bss:Nat→List Nat),w.heap[b]? = some (.cells arr elem.1.1 elem.1.2)∧arr.size=sz∧base+cs.length≤sz ∧
     (∀ m,m<cs.length→arr[base+m]? = some (u m))∧(∀ m (h:m<cs.length),Rd w tr G cs[m] (u m) (bss m))∧bs=b :: (List.range cs.length).flatMap bss):ObjR w tr G cs bs (some (b,base,sz)):=by
 obtain ⟨arr,elem,u,bss,h1,h2,h3,h4,h5,h6⟩:=h
 exact ⟨u,bss,.inl ⟨arr,elem,h1,h2,h3,h4⟩,h5,h6⟩
theorem ObjR.map {w : World} {tr : Nat → Option (Option A2)} {G : Nat → Prop} {cs : List AV} {bs : List Nat} {b : Nat} (h : ObjR w tr G cs bs (some (b, 1, 0))) :
    ∃ (u:Nat→Value) (bss:Nat→List Nat),MapAt w b cs.length u∧(∀ m (h:m<cs.length),Rd w tr G cs[m] (u m) (bss m))∧bs=b :: (List.range cs.length).flatMap bss:=by
 obtain ⟨u,bss,hb,hr,h6⟩:=h
 rcases hb with ⟨arr,elem,h1,h2,h3,h4⟩ | ⟨_,_,h⟩ | ⟨h,_,_⟩
 ·omega
 ·exact ⟨u,bss,h,hr,h6⟩
 ·omega
theorem ObjR.iter {w : World} {tr : Nat → Option (Option A2)} {G : Nat → Prop} {cs : List AV} {bs : List Nat} {b : Nat} (h : ObjR w tr G cs bs (some (b, 2, 0))) :
    ∃ (u:Nat→Value) (bss:Nat→List Nat),ItAt w b cs.length u∧(∀ m (h:m<cs.length),Rd w tr G cs[m] (u m) (bss m))∧bs=b :: (List.range cs.length).flatMap bss:=by
 obtain ⟨u,bss,hb,hr,h6⟩:=h
 rcases hb with ⟨arr,elem,h1,h2,h3,h4⟩ | ⟨h,_,_⟩ | ⟨_,_,h⟩
 ·omega
 ·omega
 ·exact ⟨u,bss,h,hr,h6⟩
theorem ObjR.tell {w w' : World} {tr tr' : Nat → Option (Option A2)} {G G' : Nat → Prop} {cs : List AV} {bs : List Nat} {l : C6} (f : AV → AV) (h : ObjR w tr G cs bs l) (hw : ∀ b ∈ bs, w'.heap[b]? = w.heap[b]?)
    (hf:∀ x,x∈cs→∀ v bs', (∀ b∈bs', b∈bs)→Rd w tr G x v bs' → Rd w' tr' G' (f x) v bs')
    (hg:l=none→(∃ x,x∈cs∧Gr x=true)→(∀ x,x∈cs→Gr x=true→f x=x)∧(∀ b,G b→G' b)∧∀ b,G b→w'.heap[b]? = w.heap[b]?):ObjR w' tr' G' (cs.map f) bs l:=by
 cases l with
 | none=>
  obtain ⟨hL,h2⟩:=h
  refine ⟨?_,h2⟩
  cases cs with
  | nil=>exact Gho.nil
  | cons x l=>
   obtain ⟨h3,h4,h5⟩:=hg rfl ⟨x,by simp,hL.gh x (by simp)⟩
   rw [show (x :: l).map f=x :: l from (List.map_congr_left fun y hy=>h3 y hy (hL.gh y hy)).trans (List.map_id' _)]
   exact hL.mono h4 h5
 | some l=>
  obtain ⟨b,base,sz⟩:=l
  obtain ⟨u,bss,hb,hr,rfl⟩:=h
  refine ⟨u,bss,by rw [List.length_map];exact hb.mono (hw b (by simp)),fun m hm=>?_,by rw [List.length_map]⟩
  simp only [List.length_map] at hm
  simp only [List.getElem_map]
  exact hf _ (List.getElem_mem _) _ _ (fun b' hb' => List.mem_cons_of_mem _ (List.mem_flatMap.2 ⟨m,List.mem_range.2 hm,hb'⟩)) (hr m hm)
structure HeapR (g:Gh) (H:Heap) (w:World):Prop where
 obj:∀ o cs,H[o]? = some (some cs)→ObjR w (g.tr H) g.G cs (g.ob o) (g.ρ o)
 nodup:∀ o cs,H[o]? = some (some cs)→(g.ob o).Nodup
 apart:∀ o o' cs cs', H[o]? = some (some cs)→H[o']? = some (some cs')→o≠o' → ∀ b,b∈g.ob o→b∉g.ob o'
 free:∀ o cs,H[o]? = some (some cs)→∀ b,b∈g.ob o→¬ g.G b
 low:∀ b,g.G b→b<w.heap.size
def Gh.owns (g:Gh)(H:Heap)(b:Nat):Prop:=∃ o cs,H[o]? = some (some cs)∧b∈g.ob o
structure R (N:Nat) (g:Gh) (F:Frame) (H:Heap) (a:Act) (w:World):Prop where
 fr:∀ j,Rd w (g.tr H) g.G (Ac F j) (a.tmps.getD j undef) []
 hp:HeapR g H w
 size:a.tmps.size=N
 defers:a.defers=[]
def F5 (w w' : World):Prop:=w'.tape=w.tape∧w.drawn≤w'.drawn
structure Step (w w' : World) (O O' G G' : Nat→Prop):Prop where
 os:w'.os=w.os
 tape:F5 w w'
 output:w'.output=w.output
 size:w.heap.size≤w'.heap.size
 keep:∀ b,b<w.heap.size→¬ O b→w'.heap[b]? = w.heap[b]?
 own:∀ b,O' b→O b∨w.heap.size≤b
 gin:∀ b,G b→G' b
 gout:∀ b,G' b→G b∨O b∨w.heap.size≤b
 fz:∀ a,a.block<w.heap.size→w'.frozen? a=w.frozen? a
theorem Step.refl (w:World)(O G:Nat→Prop):Step w w O O G G:=⟨rfl,⟨rfl,Nat.le_refl _⟩,rfl,Nat.le_refl _,fun _ _ _=>rfl,fun _ h=>.inl h,fun _ h=>h,fun _ h=>.inl h,fun _ _=>rfl⟩
theorem Step.trans {w w' w'' : World}{O O' O'' G G' G'' : Nat→Prop}(h:Step w w' O O' G G')(k:Step w' w'' O' O'' G' G''):Step w w'' O O'' G G'' :=
 ⟨k.os.trans h.os,⟨k.tape.1.trans h.tape.1,Nat.le_trans h.tape.2 k.tape.2⟩,k.output.trans h.output,Nat.le_trans h.size k.size,
  fun b hb hO=>(k.keep b (Nat.lt_of_lt_of_le hb h.size) (fun hO' => (h.own b hO').elim hO (fun hge=>absurd hb (by omega)))).trans (h.keep b hb hO),
  fun b hb=>(k.own b hb).elim (h.own b) (fun hge=>.inr (Nat.le_trans h.size hge)),
  fun b hb=>k.gin b (h.gin b hb),
  fun b hb=>(k.gout b hb).elim (h.gout b) (fun hor=>hor.elim (fun ho=>(h.own b ho).elim (fun x=>.inr (.inl x)) (fun x=>.inr (.inr x))) (fun hge=>.inr (.inr (Nat.le_trans h.size hge)))),
  fun a ha=>(k.fz a (Nat.lt_of_lt_of_le ha h.size)).trans (h.fz a ha)⟩
theorem Wg {w w' : World}{b:Nat}{arr arr' : Array Value}{elem elem' : TypeId}{z:Nat×Nat}(hb:w.heap[b]? = some (.cells arr elem z))(hb' : w'.heap[b]? = some (.cells arr' elem' z))(ho:∀ k,k≠b→w'.heap[k]? = w.heap[k]?)(a:Addr):w'.frozen? a=w.frozen? a:=by
 unfold World.frozen?
 by_cases e:a.block=b
 ·rw [e,hb,hb']
 ·rw [ho _ e]
theorem iJ {w w' : World}{b:Nat}{arr:Array Value}{elem:TypeId}(hb:w.heap[b]? = none)(hb' : w'.heap[b]? = some (.cells arr elem (0,0)))(ho:∀ k,k≠b→w'.heap[k]? = w.heap[k]?)(a:Addr):w'.frozen? a=w.frozen? a:=by
 unfold World.frozen?
 by_cases e:a.block=b
 ·rw [e,hb,hb']
  have:¬ (0≤a.off∧a.off<0):=by omega
  simp
 ·rw [ho _ e]
theorem Rd.lt {w:World}{tr:Nat→Option (Option A2)}{G:Nat→Prop}{x:AV}{v:Value}{bs:List Nat}(h:Rd w tr G x v bs):∀ b∈bs,b<w.heap.size:=by
 induction h with
 | osl u bss hl hn hm hb hs hc _ ih=>
  intro b' hb'
  rcases List.mem_cons.1 hb' with rfl | hb'
  ·exact (Array.getElem?_eq_some_iff.1 hb).1
  ·obtain ⟨m,hm,hb'⟩:=List.mem_flatMap.1 hb'
   exact ih m (List.mem_range.1 hm) b' hb'
 | ent _ ih=>exact ih
 | oag bss hbs hl _ ih | mpc bss hbs hl _ ih=>
  intro b' hb'
  rw [hbs] at hb'
  obtain ⟨m,hm,hb'⟩:=List.mem_flatMap.1 hb'
  exact ih m (List.mem_range.1 hm) b' hb'
 | _=>simp
theorem ObjR.all_lt {w:World}{tr:Nat→Option (Option A2)}{G:Nat→Prop}{cs:List AV}{bs:List Nat}{l:C6}(h:ObjR w tr G cs bs l):∀ b∈bs,b<w.heap.size:=by
 cases l with
 | none=>obtain ⟨_,rfl⟩:=h;simp
 | some l=>
  obtain ⟨b,base,sz⟩:=l
  obtain ⟨u,bss,hb,hr,rfl⟩:=h
  intro b' hb'
  rcases List.mem_cons.1 hb' with rfl | hb'
  ·exact hb.lt
  ·obtain ⟨m,hm,hb'⟩:=List.mem_flatMap.1 hb'
   exact (hr m (List.mem_range.1 hm)).lt b' hb'
theorem ObjR.mono {w w' : World} {tr tr' : Nat → Option (Option A2)} {G G' : Nat → Prop} {cs : List AV} {bs : List Nat} {l : C6} (h : ObjR w tr G cs bs l)
    (hG:∀ b,G b→G' b) (hw:∀ b,G b→w'.heap[b]? = w.heap[b]?) (ht:∀ o d,tr o=some d→tr' o=some d∨tr' o=some none) (hb:∀ b∈bs,w'.heap[b]? = w.heap[b]?):ObjR w' tr' G' cs bs l:=by
 cases l with
 | none=>exact ⟨h.1.mono hG hw,h.2⟩
 | some l=>
  obtain ⟨b,base,sz⟩:=l
  obtain ⟨u,bss,hbb,hr,rfl⟩:=h
  refine ⟨u,bss,hbb.mono (hb b (by simp)),fun m hm=>(hr m hm).mono hG hw ht (fun b' hb' => hb b' ?_),rfl⟩
  exact List.mem_cons_of_mem _ (List.mem_flatMap.2 ⟨m,List.mem_range.2 hm,hb'⟩)
theorem HeapR.keep {g:Gh}{H:Heap}{w w' : World}(h:HeapR g H w)(hs:w.heap.size≤w'.heap.size)(hw:∀ b,b<w.heap.size→w'.heap[b]? = w.heap[b]?):HeapR g H w' :=
 ⟨fun o cs ho=>(h.obj o cs ho).mono (fun _ h=>h) (fun b hb=>hw b (h.low b hb)) (fun _ _ h=>.inl h) (fun b hb=>hw b ((h.obj o cs ho).all_lt b hb)),
  h.nodup,h.apart,h.free,fun b hb=>Nat.lt_of_lt_of_le (h.low b hb) hs⟩
theorem R.keep {N:Nat}{g:Gh}{F:Frame}{H:Heap}{a:Act}{w w' : World}(h:R N g F H a w)(hs:w.heap.size≤w'.heap.size)(hw:∀ b,b<w.heap.size→w'.heap[b]? = w.heap[b]?):R N g F H a w' :=
 ⟨fun j=>(h.fr j).mono (fun _ h=>h) (fun b hb=>hw b (h.hp.low b hb)) (fun _ _ h=>.inl h) (by simp),h.hp.keep hs hw,h.size,h.defers⟩
theorem Wi {g : Gh} {H : Heap} {w : World} (hp : HeapR g H w) : ∀ (d : Nat) (x : AV) (v : Value) (bs : List Nat), Rd w (g.tr H) g.G x v bs →
    Rd w (fun _=>none) (fun b=>b<w.heap.size) (Ai H d x) v []:=by
 intro d
 induction d with
 | zero=>intro x v bs _;exact .any
 | succ d ih=>
  intro x v bs h
  cases h with
  | any=>exact .any
  | val=>exact .val
  | cndF=>exact .cndF
  | cndT h=>simp only [Ai];exact .cndT (ih _ _ _ h)
  | idn h=>simp only [Ai];exact .idn (ih _ _ _ h)
  | slc u hl hn hm hG hc hr=>
   simp only [Ai]
   exact .slc u (by simpa using hl) hn hm (hp.low _ hG) (fun m hm' => hc m (by simpa using hm')) (fun m hm' => by simp only [List.getElem_map];exact ih _ _ _ (hr m (by simpa using hm')))
  | slc0 hm=>simp only [Ai,List.map_nil];exact .slc0 hm
  | pto u hG hc hr=>
   simp only [Ai]
   exact .pto u (hp.low _ hG) (fun m hm' => hc m (by simpa using hm')) (fun m hm' => by simp only [List.getElem_map];exact ih _ _ _ (hr m (by simpa using hm')))
  | sl h00 hv0 h=>
   rename_i o k off len
   simp only [Ai]
   split
   ·rename_i cs hcs
    obtain ⟨h0,h1⟩:=h _ (Gh.tr_some (g:=g) hcs)
    have h2:=hp.obj o cs hcs
    dsimp only at h0 h1
    cases hl:g.ρ o with
    | none=>
     rw [hl] at h1 h2
     obtain ⟨rfl,a,rfl⟩:=h1
     simp only [Nat.zero_mul,List.take_zero,List.map_nil]
     exact .slc0 (by unfold maxLen;omega)
    | some l=>
     obtain ⟨b,base,sz⟩:=l
     rw [hl] at h1 h2
     obtain ⟨cap,h3,h4,h5,h6⟩:=h1
     obtain ⟨arr,elem,u,bss,hb,hsz,hcl,hc,hr,_⟩:=h2.cells (by omega)
     have hlt:b<w.heap.size:=(Array.getElem?_eq_some_iff.1 hb).1
     have hlen:((cs.drop off).take (len*k)).length=len*k:=by
      rw [List.length_take,List.length_drop];omega
     ·rcases h6 with rfl | ⟨rfl,a,rfl⟩
      ·refine .slc (fun m=>u (off+m)) (by simpa using hlen) h3 h4 hlt (fun m hm=>?_) (fun m hm=>?_)
       ·simp only [List.length_map,List.length_take,List.length_drop] at hm
        have:=hc (off+m) (by omega)
        simp only [World.cell?,hb]
        simpa [Nat.add_assoc] using this
       ·simp only [List.length_map,List.length_take,List.length_drop] at hm
        simp only [List.getElem_map,List.getElem_take,List.getElem_drop]
        exact ih _ _ _ (hr (off+m) (by omega))
      ·have:len=0:=by omega
       subst this
       simp only [Nat.zero_mul,List.take_zero,List.map_nil]
       exact .slc0 (by unfold maxLen;omega)
   ·exact .any
  | ref h00 hv0 h=>
   rename_i o j
   simp only [Ai]
   split
   ·rename_i cs hcs
    have h1:=h _ (Gh.tr_some (g:=g) hcs)
    have h2:=hp.obj o cs hcs
    dsimp only at h1
    cases hl:g.ρ o with
    | none=>rw [hl] at h1;exact h1.elim
    | some l=>
     obtain ⟨b,base,sz⟩:=l
     rw [hl] at h1 h2
     obtain ⟨rfl,hle⟩:=h1
     obtain ⟨arr,elem,u,bss,hb,hsz,hcl,hc,hr,_⟩:=h2.cells hle
     refine .pto u (Array.getElem?_eq_some_iff.1 hb).1 (fun m hm=>?_) (fun m hm=>?_)
     ·simp only [List.length_map] at hm
      have:=hc m hm
      simp only [World.cell?,hb]
      simpa using this
     ·simp only [List.length_map] at hm
      simp only [List.getElem_map]
      exact ih _ _ _ (hr m hm)
   ·exact .any
  | osl u bss hl hn hm hb hs hc hr=>
   simp only [Ai]
   refine .slc u (by simpa using hl) hn hm (Array.getElem?_eq_some_iff.1 hb).1 (fun m hm' => ?_) (fun m hm' => ?_)
   ·simp only [List.length_map] at hm'
    simp only [World.cell?,hb]
    simpa using hc m hm'
   ·simp only [List.length_map] at hm'
    simp only [List.getElem_map]
    exact ih _ _ _ (hr m hm')
  | osl0=>simp only [Ai,List.map_nil];exact .slc0 (by unfold maxLen;omega)
  | agg hl hr=>simp only [Ai];exact .agg (by simpa using hl) (fun m hm=>by simp only [List.getElem_map];exact ih _ _ _ (hr m (by simpa using hm)))
  | tup hl hr=>simp only [Ai];exact .tup (by simpa using hl) (fun m hm=>by simp only [List.getElem_map];exact ih _ _ _ (hr m (by simpa using hm)))
  | clo hf hrf hl hr=>simp only [Ai];exact .clo (by simpa using hf) (fun m hm=>by simp only [List.getElem_map];exact ih _ _ _ (hrf m (by simpa using hm))) (by simpa using hl) (fun m hm=>by simp only [List.getElem_map];exact ih _ _ _ (hr m (by simpa using hm)))
  | mp h00 hv0 h=>
   rename_i o
   simp only [Ai]
   split
   ·rename_i cs hcs
    obtain ⟨r,hl,hv⟩:=(h _ (Gh.tr_some (g:=g) hcs)).inv
    dsimp only at hl
    subst hv
    obtain ⟨u,bss,⟨es,clock,hb,_,hu⟩,hr,_⟩:=(hl ▸ hp.obj o _ hcs:ObjR w (g.tr H) g.G _ (g.ob o) (some (r,1,0))).map
    have h0:=hr 0 (by simp)
    rw [hu] at h0
    simp only [List.getElem_cons_zero] at h0
    generalize bss 0=bs0 at h0
    cases h0 with
    | mpc bss' _ hl' hr' =>
     refine .mpz (Array.getElem?_eq_some_iff.1 hb).1 hb (by simpa using hl') (fun m hm=>?_)
     simp only [List.length_map] at hm
     simp only [List.getElem_map]
     exact ih _ _ _ (hr' m hm)
   ·exact .any
  | it h00 hv0 h=>exact .any
  | mpz hG hc hl hr=>
   simp only [Ai]
   exact .mpz (hp.low _ hG) hc (by simpa using hl) (fun m hm=>by simp only [List.getElem_map];exact ih _ _ _ (hr m (by simpa using hm)))
  | ent h=>simp only [Ai];exact .ent (ih _ _ _ h)
  | mpc bss hbs hl hr=>
   simp only [Ai]
   rename_i cs vs
   exact .mpc (fun _=>[]) (by simp) (by simpa using hl) (fun m hm=>by simp only [List.getElem_map];exact ih _ _ _ (hr m (by simpa using hm)))
  | oag bss hbs hl hr=>simp only [Ai];exact .agg (by simpa using hl) (fun m hm=>by simp only [List.getElem_map];exact ih _ _ _ (hr m (by simpa using hm)))
end
section
inductive AX where
 | s (n:Nat)
 | c (v:Value)
 | f (f:FuncId)
def cX:Operand→AX
 | .tmp t=>.s t
 | .const v=>.c v
 | .func f=>.f f
 | .global g=>.c (.pointer (some ⟨g,0,none⟩))
def ax (F:Frame):AX→AV
 | .s n=>Ac F n
 | .c v=>.val v
 | .f f=>.clo f [] []
def st:AV→AV
 | .cnd _ x=>st x
 | .idn _ x=>st x
 | x=>x
def Ap:AV→Prop
 | .cnd b x=>b=true∧Ap x
 | .idn _ x=>Ap x
 | _=>True
inductive AOp where
 | mov (x:AX)
 | pick (c a b:AX)
 | alloc (z:List Value)
 | box (x:AX)
 | eqp (n:Bool) (x y:AX)
 | nif (n:Bool) (x:AX)
 | load (z:AV) (x:AX)
 | loads (n:Nat) (x:AX)
 | store (n:Nat) (a x:AX)
 | bin (cls:Nat) (op:BinOp) (x y:AX)
 | not (x:AX)
 | neg (x:AX)
 | conv (k:IntKind) (x:AX)
 | fld (off:Nat) (x:AX)
 | fldv (off:Nat) (x:AX)
 | fldvs (off n:Nat) (x:AX)
 | aidx (n k:Nat) (x i:AX)
 | adx (n k:Nat) (x i:AX)
 | idx (k:Nat) (x i:AX)
 | sidx (x i:AX)
 | mk (k bytes:Nat) (z:List Value) (l:AX)
 | slice (k:Nat) (x:AX) (lo hi:Option AX)
 | sslice (x:AX) (lo hi:Option AX)
 | sla (n k:Nat) (x hi:AX)
 | len (x:AX)
 | slen (x:AX)
 | app (k bytes:Nat) (s x:AX)
 | call (f:FuncId) (args:List AX)
 | callv (fv:AX) (args:List AX)
 | ext (t:AX) (i:Nat)
 | fn (f:FuncId) (fs cs:List AX)
 | bsl (n:Nat) (parts:List (Nat×AX))
 | nck (x:AX)
 | bld (z:List Value) (parts:List (Nat×Nat×AX))
 | mnb (x y:AX)
 | cpy (s x:AX)
 | bad
 | mkm
 | lku (kk:Option IntKind) (ok:Bool) (z:AV) (m x:AX)
 | mpu (kk:Option IntKind) (m k x:AX)
 | mpe (kk:Option IntKind) (z:AV) (m k:AX)
 | est (m s x:AX)
 | mpd (kk:Option IntKind) (m k:AX)
 | lenm (m:AX)
 | rng (m:AX)
 | nxt (i:AX)
 | enr (i:AX)
 | bsk (k n:Nat) (z:List Value) (pl:List (Nat×Nat×AX))
 | mxb (x y:AX)
 | str (x:AX)
 | byt (x:AX)
 | clr (z:List Value) (s:AX)
def Iq (d:Option TypeDesc):Nat:=match d with
 | some .bool=>1
 | some (.slice _)=>2
 | some (.interface _)=>3
 | _=>0
def bJ (d:TypeDesc):AV:=match d with
 | .int k=>.val (.int k 0)
 | .bool=>bl false
 | .string=>.val (.string ByteArray.empty)
 | .slice _=>.slc 1 0 []
 | _=>.any
def Da (P:Program)(t:TypeId):Option Nat:=match P.underlying t with
 | some (.slice e)=>(P.info? e).map (·.size)
 | _=>none
def Ha (P:Program)(t:TypeId):Nat:=match P.underlying t with
 | some (.slice e)=>P.bytesOf e
 | _=>0
def Ex (P:Program)(t:TypeId):Option (List Value):=match P.underlying t with
 | some (.slice e)=>((P.info? e).bind (·.zero)).map (·.cells.toList)
 | _=>none
def Hz (P:Program)(t:TypeId)(j:Nat):Option (Nat×TypeId):=match P.underlying t with
 | some (.struct fs)=>(fs[j]?).map fun f=>(f.offset,f.type)
 | _=>none
def B7 (d:Option TypeDesc):Bool:=match d with
 | some (.struct _) | some (.array _ _)=>true
 | _=>false
def Kn (P:Program)(fs:Array Field):List (Nat×AX)→Option (List (Nat×Nat×AX))
 | []=>some []
 | (i,x) :: r=>match fs[i]?,Kn P fs r with
  | some f,some l=>match P.info? f.type with
   | some j=>some ((f.offset,j.size,x) :: l)
   | none=>none
  | _,_=>none
def Km (P:Program)(t:TypeId):Bool:=match P.underlying t with
 | some (.struct fs)=>match fs.toList with
  | [f,g]=>f.name != "_" && g.name != "_" && f.offset == 0&&g.offset == 1&&(match P.underlying f.type,P.underlying g.type with
   | some (.int .i64),some (.int .i64)=>true
   | _,_=>false) && !P.stoodInHeld t && !P.eqGuardType P.depth t
  | _=>false
 | _=>false
def Kh (cls:Nat)(op:BinOp)(y:AX):Option Bool:=match cls,op,y with
 | 3,.eql,.c .nilIface=>some false
 | 3,.neq,.c .nilIface=>some true
 | _,_,_=>none
def Jy (pr:Bool)(cls:Nat)(op:BinOp)(x y:AX):AOp:=match Kh cls op y with
 | some n=>.nif n x
 | none=>match pr,op with
  | true,.eql=>.eqp false x y
  | true,.neq=>.eqp true x y
  | _,_=>.bin cls op x y
/-! ### Maps keyed by integers or strings -/
def Hd (P:Program)(k:TypeId):Option (Option IntKind):=match P.underlying k with
 | some (.int q)=>some (some q)
 | some .string=>some none
 | _=>none
def I1 (P:Program)(t:TypeId):Option (Option IntKind×TypeId):=match P.underlying t with
 | some (.map k e)=>(Hd P k).map fun kk=>(kk,e)
 | _=>none
def Jk:Value→AV
 | .agg vs=>.agg (vs.toList.map .val)
 | v=>.val v
def I2 (P:Program)(t:TypeId)(f:Option IntKind→AV→AOp):Option AOp:=match I1 P t with
 | some (kk,e)=>match (P.info? e).bind (·.zero) with
  | some z=>some (f kk (Jk z))
  | none=>none
 | none=>none
def Ee:Option IntKind→Value→Bool
 | some q,.int q' _=>decide (q=q')
 | none,.string _=>true
 | _,_=>false
def E3:Value→Value→Bool
 | .int _ a,.int _ b=>a == b
 | .string a,.string b=>a == b
 | _,_=>false
def E5 (k:Value):List AV→Option (Nat×Nat×AV)
 | []=>none
 | .ent b k' x :: l=>if E3 k k' then some (0,b,x) else (E5 k l).map fun p=>(p.1+1,p.2)
 | _ :: _=>none
def Re (s:Int):List AV→Option (Nat×Value)
 | []=>none
 | .ent b k _ :: l=>if (b:Int) == s then some (0,k) else (Re s l).map fun p=>(p.1+1,p.2)
 | _ :: _=>none
def Rf (s:Int):List AV→Option (Value×AV)
 | []=>none
 | .ent b k x :: l=>if (b:Int) == s then some (k,x) else Rf s l
 | _ :: _=>none
def He (kk:Option IntKind)(cs:List AV):Bool:=(cs.drop 1).all fun x=>match x with
 | .ent _ k _=>Ee kk k
 | _=>false
def Gb (k:Value)(cs:List AV):Option AV:=(E5 k (cs.drop 1)).map (·.2.2)
def Kf:List AV→Option Int
 | .val (.int .i64 c) :: _=>some c
 | _=>none
def Eg (k:Value)(x:AV):List AV→List AV
 | .val (.int .i64 c) :: es=>.val (.int .i64 (c+1)) :: (es++[.ent c.toNat k x])
 | cs=>cs
def I5 (k:Value)(x:AV)(cs:List AV):List AV:=match E5 k (cs.drop 1) with
 | some (i,b,_)=>cs.set (i+1) (.ent b k x)
 | none=>Eg k x cs
def Kg (k:Value)(cs:List AV):List AV:=match E5 k (cs.drop 1) with
 | some (i,_,_)=>cs.eraseIdx (i+1)
 | none=>cs
def Ga (H:Heap):AV→Option (List AV)
 | .mpz cs=>some cs
 | .mp o=>match H[o]? with
  | some (some [.mpc cs])=>some cs
  | _=>none
 | _=>none
def G8 (P:Program)(o:Oper):Option AOp:=match o.op with
 | .move x | .assign x=>some (.mov (cX x))
 | .pick c a b=>some (.pick (cX c) (cX a) (cX b))
 | .alloc t=>match (P.info? t).bind (·.zero) with
  | some z=>some (.alloc z.cells.toList)
  | none=>none
 | .box _ x=>some (.box (cX x))
 | .load t x=>match P.underlying t,P.info? t with
  | some d,some i=>if B7 (some d) then some (.loads i.size (cX x)) else some (.load (bJ d) (cX x))
  | _,_=>none
 | .store t a x=>match P.info? t with
  | some i=>some (.store i.size (cX a) (cX x))
  | none=>none
 | .binOp op t x y _=>some (Jy (Km P t) (Iq (P.underlying t)) op (cX x) (cX y))
 | .unOp .not _ x=>some (.not (cX x))
 | .unOp .neg _ x=>some (.neg (cX x))
 | .convert src dst x=>match P.underlying src,P.underlying dst with
  | some (.int _),some (.int k)=>some (.conv k (cX x))
  | some (.slice e),some .string=>match P.underlying e with
   | some (.int .u8)=>some (.str (cX x))
   | _=>none
  | some .string,some (.slice e)=>match P.underlying e with
   | some (.int .u8)=>some (.byt (cX x))
   | _=>none
  | _,_=>none
 | .fieldAddr t x j=>match Hz P t j with
  | some (off,ft)=>match P.info? ft with
   | some i=>if i.size=0 then none else some (.fld off (cX x))
   | none=>none
  | none=>none
 | .indexAddr t x i=>match Da P t with
  | some k=>some (.idx k (cX x) (cX i))
  | none=>match P.underlying t,i with
   | some (.array n e),.const (.int _ m)=>match P.info? e with
    | some inf=>if 0≤m∧m<(n:Int)∧inf.size≠0 then some (.fld (m.toNat*inf.size) (cX x)) else none
    | none=>none
   | some (.array n e),_=>match P.info? e with
    | some inf=>if inf.size≠0 then some (.adx n inf.size (cX x) (cX i)) else none
    | none=>none
   | _,_=>none
 | .index t x i=>match P.underlying t with
  | some .string=>some (.sidx (cX x) (cX i))
  | some (.array n e)=>match P.underlying e,P.info? e with
   | some d,some inf=>if B7 (some d)=true then some (.aidx n inf.size (cX x) (cX i)) else none
   | _,_=>none
  | _=>none
 | .makeSlice t (.tmp l) (.tmp c)=>if l=c then match Da P t,Ex P t with
  | some k,some z=>if z.length=k then some (.mk k (Ha P t) z (.s l)) else none
  | _,_=>none
  else none
 | .makeSlice t (.const (.int k1 n1)) (.const (.int k2 n2))=>if k1=k2∧n1=n2 then match Da P t,Ex P t with
  | some k,some z=>if z.length=k then some (.mk k (Ha P t) z (.c (.int k1 n1))) else none
  | _,_=>none
  else none
 | .slice t x lo hi none=>match P.underlying t with
  | some .string=>some (.sslice (cX x) (lo.map cX) (hi.map cX))
  | _=>match Da P t with
   | some k=>some (.slice k (cX x) (lo.map cX) (hi.map cX))
   | none=>match P.underlying t,lo,hi with
    | some (.array n e),none,some h=>(P.info? e).map fun i=>.sla n i.size (cX x) (cX h)
    | _,_,_=>none
 | .extract t i=>some (.ext (cX t) i)
 | .makeFunc (.func f) fs cs=>some (.fn f (fs.toList.map cX) (cs.toList.map cX))
 | .buildSlice t n parts=>match Da P t,Ex P t with
  | some 1,some _=>some (.bsl n (parts.toList.map fun (i,x)=>(i,cX x)))
  | some k,some z=>if z.length=k∧0<k then some (.bsk k n z (parts.toList.map fun (i,x)=>(i*k,k,cX x))) else none
  | _,_=>none
 | .call { callee:=.builtin .len,args,argTypes }=>match args.toList,argTypes.toList with
  | [x],[t]=>match P.underlying t with
   | some .string=>some (.slen (cX x))
   | some (.slice _)=>some (.len (cX x))
   | some (.map _ _)=>some (.lenm (cX x))
   | _=>none
  | _,_=>none
 | .call { callee:=.builtin .append,args,argTypes }=>match args.toList,argTypes.toList with
  | [s,x],[t,u]=>if t=u then match Da P t,Ex P t with
   | some k,some z=>if z.length=k∧0<k then some (.app k (Ha P t) (cX s) (cX x)) else none
   | _,_=>none
   else match P.underlying u,Da P t,Ex P t with
   | some .string,some k,some z=>if z.length=k∧0<k then some (.app k (Ha P t) (cX s) (cX x)) else none
   | _,_,_=>none
  | _,_=>none
 | .call { callee:=.value (.func f),args,.. }=>match P.funcs[f]? with
  | some fn=>if fn.body.isNone || fn.name == "runtime.NumGoroutine" then none else some (.call f (args.toList.map cX))
  | none=>none
 | .call { callee:=.value (.tmp t),args,.. }=>some (.callv (.s t) (args.toList.map cX))
 | .call { callee:=.builtin .min,args,.. }=>match args.toList with
  | [x,y]=>some (.mnb (cX x) (cX y))
  | _=>none
 | .call { callee:=.builtin .max,args,.. }=>match args.toList with
  | [x,y]=>some (.mxb (cX x) (cX y))
  | _=>none
 | .call { callee:=.builtin .copy,args,argTypes }=>match args.toList,argTypes.toList with
  | [s,x],[t,_]=>match Da P t with
   | some 1=>some (.cpy (cX s) (cX x))
   | _=>none
  | _,_=>none
 | .nilCheck x=>some (.nck (cX x))
 | .build t parts=>match P.underlying t,(P.info? t).bind (·.zero) with
  | some (.struct fs),some z=>if fs.toList.all (fun f=>(P.info? f.type).isSome) then (Kn P fs (parts.toList.map fun (i,x)=>(i,cX x))).map (.bld z.cells.toList) else none
  | some (.array _ e),some z=>match P.info? e with
   | some i=>some (.bld z.cells.toList (parts.toList.map fun (j,x)=>(j*i.size,i.size,cX x)))
   | none=>none
  | _,_=>none
 | .field t x j=>match Hz P t j with
  | some (off,ft)=>match P.underlying ft,P.info? ft with
   | some d,some i=>if B7 (some d) then some (.fldvs off i.size (cX x)) else some (.fldv off (cX x))
   | _,_=>none
  | none=>none
 | .makeMap t none=>match I1 P t with
  | some _=>some .mkm
  | none=>none
 | .makeMap t (some (.const (.int _ _)))=>match I1 P t with
  | some _=>some .mkm
  | none=>none
 | .lookup t m x ok=>I2 P t fun kk z=>.lku kk ok z (cX m) (cX x)
 | .mapUpdate t m k x=>I2 P t fun kk _=>.mpu kk (cX m) (cX k) (cX x)
 | .insert t m k x=>I2 P t fun kk _=>.mpu kk (cX m) (cX k) (cX x)
 | .mapEntry t m k=>I2 P t fun kk z=>.mpe kk z (cX m) (cX k)
 | .entryStore t m s x=>match I1 P t with
  | some _=>some (.est (cX m) (cX s) (cX x))
  | none=>none
 | .call { callee:=.builtin .delete,args,argTypes }=>match args.toList,argTypes.toList with
  | [m,k],[t,_]=>I2 P t fun kk _=>.mpd kk (cX m) (cX k)
  | _,_=>none
 | .range t x=>match I1 P t with
  | some _=>some (.rng (cX x))
  | none=>none
 | .next i false=>some (.nxt (cX i))
 | .entry i=>some (.enr (cX i))
 | .call { callee:=.builtin .clear,args,argTypes }=>match args.toList,argTypes.toList with
  | [s],[t]=>match Da P t,Ex P t with
   | some 1,some z=>if z.length=1 then some (.clr z (cX s)) else none
   | _,_=>none
  | _,_=>none
 | _=>none
def Ea (P:Program)(o:Oper):Option AOp:=some ((G8 P o).getD .bad)
def B8:AOp→Bool
 | .lku .. | .eqp .. | .nif .. | .mov _ | .pick .. | .load .. | .loads .. | .bin .. | .not _ | .neg _ | .conv .. | .fld .. | .idx .. | .sidx .. | .slice .. | .sslice .. | .sla .. | .len _ | .slen _ | .ext .. | .fn .. | .nck _ | .bld .. | .fldv .. | .fldvs .. | .aidx .. | .adx .. | .mnb .. | .mxb .. | .bad=>true
 | _=>false
/-! ### The quiet ones: what they ask, what they yield -/
def H7 (n:Int):Prop := -9223372036854775808≤n∧n≤9223372036854775807
def Q2 (op:BinOp)(k:IntKind)(a b:Int):Prop:=match op with
 | .add=>match k with
  | .i64=>H7 (a+b)
  | _=>True
 | .sub=>match k with
  | .i64=>H7 (a - b)
  | _=>True
 | .mul=>match k with
  | .i64=>H7 (a*b)
  | _=>True
 | .quo=>b≠0∧match k with
  | .i64=>H7 (a.tdiv b)
  | _=>True
 | .rem=>b≠0
 | .shl | .shr=>0≤b
 | _=>True
def C9 (op:BinOp)(k:IntKind)(a b:Int):Int:=match op with
 | .and=>k.wrap (BitVec.ofInt k.bits a &&& BitVec.ofInt k.bits b).toNat
 | .or=>k.wrap (BitVec.ofInt k.bits a ||| BitVec.ofInt k.bits b).toNat
 | .xor=>k.wrap (BitVec.ofInt k.bits a ^^^ BitVec.ofInt k.bits b).toNat
 | _=>k.wrap (BitVec.ofInt k.bits a &&& ~~~BitVec.ofInt k.bits b).toNat
def Fa (op:BinOp)(k:IntKind)(a b:Int):Int:=match op with
 | .shl=>k.wrap (a*2^(min b.toNat k.bits))
 | _=>a.fdiv (2^(min b.toNat k.bits))
def Nx (op:BinOp)(k:IntKind)(a b:Int):Value:=match op with
 | .add=>match k with
  | .i64=>.int .i64 (a+b)
  | k=>.int k (k.wrap (a+b))
 | .sub=>match k with
  | .i64=>.int .i64 (a - b)
  | k=>.int k (k.wrap (a - b))
 | .mul=>match k with
  | .i64=>.int .i64 (a*b)
  | k=>.int k (k.wrap (a*b))
 | .quo=>match k with
  | .i64=>.int .i64 (a.tdiv b)
  | k=>.int k (k.wrap (a.tdiv b))
 | .rem=>.int k (a.tmod b)
 | .and=>.int k (C9 .and k a b)
 | .or=>.int k (C9 .or k a b)
 | .xor=>.int k (C9 .xor k a b)
 | .andNot=>.int k (C9 .andNot k a b)
 | .shl=>.int k (Fa .shl k a b)
 | .shr=>.int k (Fa .shr k a b)
 | .eql=>.bool (a == b)
 | .neq=>.bool (a != b)
 | .lss=>.bool (decide (a<b))
 | .leq=>.bool (decide (a≤b))
 | .gtr=>.bool (decide (a > b))
 | .geq=>.bool (decide (a ≥ b))
def Q5 (op:BinOp):Bool:=match op with
 | .shl | .shr=>true
 | _=>false
def H8 (op:BinOp):Bool:=match op with
 | .eql | .neq=>true
 | _=>false
def Mb (op:BinOp)(a b:ByteArray):Prop:=match op with
 | .add=>a.size+b.size≤maxLen
 | .eql | .neq | .lss | .leq | .gtr | .geq=>True
 | _=>False
def Kw (op:BinOp)(a b:ByteArray):Value:=match op with
 | .add=>.string (a++b)
 | .eql=>.bool (a.toList == b.toList)
 | .neq=>.bool (!(a.toList == b.toList))
 | .lss=>.bool (Op.bytesLess a.toList b.toList)
 | .leq=>.bool (Op.bytesLess a.toList b.toList || a.toList == b.toList)
 | .gtr=>.bool (!(Op.bytesLess a.toList b.toList || a.toList == b.toList))
 | _=>.bool (!(Op.bytesLess a.toList b.toList))
def Eh (H:Heap):AV→Option Bool
 | .val (.slice a _ _)=>some a.isNone
 | .slc _ (_+1) _=>some false
 | .sl o _ _ (_+1)=>if (H[o]?.bind id).isSome then some false else none
 | _=>none
def P3 (H:Heap)(cls:Nat)(op:BinOp)(x y:AV):Prop:=match x,y with
 | .val (.int k a),.val (.int k' b)=>(Q5 op=false→k=k')∧Q2 op k a b
 | .val (.bool _),.val (.bool _)=>cls=1∧H8 op=true
 | .val (.string a),.val (.string b)=>Mb op a b
 | x,.val (.slice none 0 0)=>cls=2∧H8 op=true∧(Eh H x).isSome
 | _,_=>False
def Jz (H:Heap)(op:BinOp)(x y:AV):AV:=match x,y with
 | .val (.int k a),.val (.int _ b)=>.val (Nx op k a b)
 | .val (.bool a),.val (.bool b)=>match op with
  | .eql=>bl (a == b)
  | _=>bl (!(a == b))
 | .val (.string a),.val (.string b)=>.val (Kw op a b)
 | x,.val (.slice none 0 0)=>match op with
  | .eql=>bl ((Eh H x).getD false)
  | _=>bl (!(Eh H x).getD false)
 | _,_=>.any
def J6 (b:Nat):List AV→Option (List Value)
 | []=>none
 | x :: l=>match x with
  | .gho c zs=>if c=b then some zs else J6 b l
  | _=>J6 b l
def Nu (H:Heap):Value→Option (List AV×Nat)
 | .pointer (some ⟨b,j,none⟩)=>match H with
  | some cs :: _=>(J6 b cs).map fun zs=>(zs.map .val,j)
  | _=>none
 | _=>none
def Fk (H:Heap):AV→Option (List AV×Nat)
 | .val v=>Nu H v
 | .pto cs j=>some (cs,j)
 | .ref o j=>match H[o]? with
  | some (some cs)=>some (cs,j)
  | _=>none
 | _=>none
def Bf:AV→Bool
 | .osl .. | .oag .. | .ent .. | .mpc ..=>false
 | _=>true
def Fu (F:Frame):Option AX→Option Int
 | none=>some 0
 | some x=>match st (ax F x) with
  | .val (.int _ i)=>some i
  | _=>none
def Fq (F:Frame)(n:Nat):Option AX→Option Int
 | none=>some n
 | some x=>match st (ax F x) with
  | .val (.int _ i)=>some i
  | _=>none
def Hh (F:Frame):Option AX→Prop
 | none=>True
 | some x=>Ap (ax F x)
def Ku (n:Nat)(lo hi:Option Int):Prop:=match lo,hi with
 | some l,some h=>0≤l∧l≤h∧h≤(n:Int)
 | _,_=>False
def Vm (k:IntKind)(n:Int):Prop:=match k with
 | .i64=>H7 n
 | _=>True
def Nb (k:IntKind)(n:Int):Value:=match k with
 | .i64=>.int .i64 n
 | k=>.int k (k.wrap n)
def B1:AV→Bool
 | .val v=>v.oneCell'
 | .slc .. | .pto .. | .sl .. | .ref .. | .clo .. | .mp .. | .mpz .. | .it .. | .osl ..=>true
 | .idn _ x=>B1 x
 | _=>false
def cellsOf:AV→Option (List AV)
 | .agg cs=>some cs
 | x=>if B1 x then some [x] else none
def Fb (cs:List AV)(j:Nat)(vs:List AV):List AV:=match vs with
 | [v]=>cs.set j v
 | vs=>cs.take j++vs++cs.drop (j+vs.length)
def Mz (F:Frame)(n:Nat):List (Nat×Nat×AX)→Prop
 | []=>True
 | (off,m,x) :: r=>(Ap (ax F x)∧match cellsOf (st (ax F x)) with
  | some vs=>vs.length=m∧off+m≤n
  | none=>False)∧Mz F n r
def Hv (F:Frame):List AV→List (Nat×Nat×AX)→List AV
 | cs,[]=>cs
 | cs,(off,_,x) :: r=>Hv F (Fb cs off ((cellsOf (st (ax F x))).getD [])) r
def A5 (o:AOp)(F:Frame)(H:Heap):Prop:=match o with
 | .mov _=>True
 | .pick c a b=>Ap (ax F c)∧match st (ax F c),st (ax F a),st (ax F b) with
  | .val (.bool t),.val (.bool _),.val (.bool _)=>(t=true→Ap (ax F a))∧(t=false→Ap (ax F b))
  | _,_,_=>False
 | .load _ x=>Ap (ax F x)∧match Fk H (st (ax F x)) with
  | some (cs,j)=>j<cs.length∧Bf (cs.getD j .any)=true
  | none=>False
 | .loads n x=>Ap (ax F x)∧match Fk H (st (ax F x)) with
  | some (cs,j)=>j+n≤cs.length∧((cs.drop j).take n).all Bf=true
  | none=>False
 | .nif _ x=>Ap (ax F x)∧match st (ax F x) with
  | .val .nilIface=>True
  | .val (.iface _ _)=>True
  | _=>False
 | .eqp _ x y=>Ap (ax F x)∧Ap (ax F y)∧match st (ax F x),st (ax F y) with
  | .agg [.val (.int .i64 _),.val (.int .i64 _)],.agg [.val (.int .i64 _),.val (.int .i64 _)]=>True
  | _,_=>False
 | .bin cls op x y=>Ap (ax F x)∧Ap (ax F y)∧P3 H cls op (st (ax F x)) (st (ax F y))
 | .not x=>Ap (ax F x)∧match st (ax F x) with
  | .val (.bool _)=>True
  | _=>False
 | .neg x=>Ap (ax F x)∧match st (ax F x) with
  | .val (.int .i64 n)=>H7 (0 - n)
  | .val (.int .u64 _)=>True
  | _=>False
 | .conv k x=>Ap (ax F x)∧match st (ax F x) with
  | .val (.int _ n)=>Vm k n
  | _=>False
 | .fld _ x=>Ap (ax F x)∧match st (ax F x) with
  | .pto _ _=>True
  | .ref o _=>(H[o]?.bind id).isSome
  | _=>False
 | .idx k x i=>Ap (ax F x)∧Ap (ax F i)∧match st (ax F x),st (ax F i) with
  | .slc k' n _,.val (.int _ m)=>k=k' ∧ 0≤m∧m<(n:Int)
  | .sl o k' _ len,.val (.int _ m)=>k=k' ∧ (H[o]?.bind id).isSome∧0≤m∧m<(len:Int)
  | _,_=>False
 | .sidx x i=>Ap (ax F x)∧Ap (ax F i)∧match st (ax F x),st (ax F i) with
  | .val (.string s),.val (.int _ m)=>0≤m∧m<(s.size:Int)
  | _,_=>False
 | .slice k x lo hi=>Ap (ax F x)∧Hh F lo∧Hh F hi∧match st (ax F x) with
  | .slc k' n _=>k=k' ∧ Ku n (Fu F lo) (Fq F n hi)
  | .sl o k' _ len=>k=k' ∧ (H[o]?.bind id).isSome∧Ku len (Fu F lo) (Fq F len hi)
  | _=>False
 | .sslice x lo hi=>Ap (ax F x)∧Hh F lo∧Hh F hi∧match st (ax F x) with
  | .val (.string s)=>Ku s.size (Fu F lo) (Fq F s.size hi)
  | _=>False
 | .sla n k x hi=>Ap (ax F x)∧Ap (ax F hi)∧match st (ax F x),st (ax F hi) with
  | .ref o j,.val (.int _ h)=>0≤h∧h≤(n:Int)∧n≤maxLen∧match H[o]?.bind id with
   | some cs=>j+n*k≤cs.length
   | none=>False
  | _,_=>False
 | .mnb x y=>Ap (ax F x)∧Ap (ax F y)∧match st (ax F x),st (ax F y) with
  | .val (.int _ _),.val (.int _ _)=>True
  | _,_=>False
 | .mxb x y=>Ap (ax F x)∧Ap (ax F y)∧match st (ax F x),st (ax F y) with
  | .val (.int _ _),.val (.int _ _)=>True
  | _,_=>False
 | .len x=>Ap (ax F x)∧match st (ax F x) with
  | .slc _ _ _=>True
  | .sl o _ _ _=>(H[o]?.bind id).isSome
  | .val (.slice _ _ _)=>True
  | _=>False
 | .slen x=>Ap (ax F x)∧match st (ax F x) with
  | .val (.string _)=>True
  | _=>False
 | .ext t i=>Ap (ax F t)∧match st (ax F t) with
  | .tup vs=>i<vs.length
  | _=>False
 | .fn _ _ _=>True
 | .nck x=>Ap (ax F x)∧match st (ax F x) with
  | .pto _ _=>True
  | .ref o _=>(H[o]?.bind id).isSome
  | .clo _ _ _=>True
  | _=>False
 | .bld z parts=>Mz F z.length parts∧z.all Value.oneCell' = true
 | .lku kk _ _ m x=>Ap (ax F m)∧Ap (ax F x)∧match Ga H (st (ax F m)),st (ax F x) with
  | some cs,.val k=>Ee kk k=true∧He kk cs=true∧match Gb k cs with
   | some y=>Bf y=true
   | none=>True
  | _,_=>False
 | .fldv off x=>Ap (ax F x)∧match st (ax F x) with
  | .agg cs=>off<cs.length
  | _=>False
 | .fldvs off n x=>Ap (ax F x)∧match st (ax F x) with
  | .agg cs=>off+n≤cs.length
  | _=>False
 | .adx n _ x i=>Ap (ax F x)∧Ap (ax F i)∧match st (ax F x),st (ax F i) with
  | .pto _ _,.val (.int _ m)=>0≤m∧m<(n:Int)
  | .ref o _,.val (.int _ m)=>(H[o]?.bind id).isSome∧0≤m∧m<(n:Int)
  | _,_=>False
 | .aidx n k x i=>Ap (ax F x)∧Ap (ax F i)∧match st (ax F x),st (ax F i) with
  | .agg cs,.val (.int _ m)=>0≤m∧m<(n:Int)∧m.toNat*k+k≤cs.length
  | _,_=>False
 | _=>False
def Am (o:AOp)(F:Frame)(H:Heap):AV:=match o with
 | .mov x=>ax F x
 | .pick c a b=>match st (ax F c),st (ax F a),st (ax F b) with
  | .val (.bool t),.val (.bool x),.val (.bool y)=>bl (bif t then x else y)
  | _,_,_=>.any
 | .load z x=>match Fk H (st (ax F x)) with
  | some (cs,j)=>cs.getD j z
  | none=>.any
 | .loads n x=>match Fk H (st (ax F x)) with
  | some (cs,j)=>.agg ((cs.drop j).take n)
  | none=>.any
 | .nif n x=>match st (ax F x) with
  | .val .nilIface=>bl (!n)
  | _=>bl n
 | .eqp n x y=>match st (ax F x),st (ax F y) with
  | .agg [.val (.int .i64 a),.val (.int .i64 b)],.agg [.val (.int .i64 c),.val (.int .i64 d)]=>match n with
   | true=>bl (!(a == c&&b == d))
   | false=>bl (a == c&&b == d)
  | _,_=>.any
 | .bin _ op x y=>Jz H op (st (ax F x)) (st (ax F y))
 | .not x=>match st (ax F x) with
  | .val (.bool b)=>bl (!b)
  | _=>.any
 | .neg x=>match st (ax F x) with
  | .val (.int .i64 n)=>i64 (0 - n)
  | .val (.int .u64 n)=>.val (.int .u64 (IntKind.u64.wrap (0 - n)))
  | _=>.any
 | .conv k x=>match st (ax F x) with
  | .val (.int _ n)=>.val (Nb k n)
  | _=>.any
 | .mnb x y=>match st (ax F x),st (ax F y) with
  | .val (.int k a),.val (.int _ b)=>.val (.int k (if b<a then b else a))
  | _,_=>.any
 | .mxb x y=>match st (ax F x),st (ax F y) with
  | .val (.int k a),.val (.int _ b)=>.val (.int k (if a<b then b else a))
  | _,_=>.any
 | .fld off x=>match st (ax F x) with
  | .pto cs j=>.pto cs (j+off)
  | .ref o j=>.ref o (j+off)
  | _=>.any
 | .idx k x i=>match st (ax F x),st (ax F i) with
  | .slc _ _ cs,.val (.int _ m)=>.pto cs (m.toNat*k)
  | .sl o _ off _,.val (.int _ m)=>.ref o (off+m.toNat*k)
  | _,_=>.any
 | .sidx x i=>match st (ax F x),st (ax F i) with
  | .val (.string s),.val (.int _ m)=>.val (.int .u8 (s.data.toList.getD m.toNat 0).toNat)
  | _,_=>.any
 | .slice k x lo hi=>match st (ax F x) with
  | .slc _ n cs=>match Fu F lo,Fq F n hi with
   | some l,some h=>.slc k (h - l).toNat ((cs.drop (l.toNat*k)).take ((h - l).toNat*k))
   | _,_=>.any
  | .sl o _ off len=>match Fu F lo,Fq F len hi with
   | some l,some h=>.sl o k (off+l.toNat*k) (h - l).toNat
   | _,_=>.any
  | _=>.any
 | .sslice x lo hi=>match st (ax F x) with
  | .val (.string s)=>match Fu F lo,Fq F s.size hi with
   | some l,some h=>.val (.string (s.extract l.toNat h.toNat))
   | _,_=>.any
  | _=>.any
 | .sla _ k x hi=>match st (ax F x),st (ax F hi) with
  | .ref o j,.val (.int _ h)=>.sl o k j h.toNat
  | _,_=>.any
 | .len x=>match st (ax F x) with
  | .slc _ n _=>i64 n
  | .sl _ _ _ len=>i64 len
  | .val (.slice _ n _)=>i64 n
  | _=>.any
 | .slen x=>match st (ax F x) with
  | .val (.string s)=>i64 s.size
  | _=>.any
 | .ext t i=>match st (ax F t) with
  | .tup vs=>vs.getD i .any
  | _=>.any
 | .fn f fs cs=>.clo f (fs.map (ax F)) (cs.map (ax F))
 | .nck x=>st (ax F x)
 | .bld z parts=>.agg (Hv F (z.map .val) parts)
 | .fldv off x=>match st (ax F x) with
  | .agg cs=>cs.getD off .any
  | _=>.any
 | .fldvs off n x=>match st (ax F x) with
  | .agg cs=>.agg ((cs.drop off).take n)
  | _=>.any
 | .adx _ k x i=>match st (ax F x),st (ax F i) with
  | .pto cs j,.val (.int _ m)=>.pto cs (j+m.toNat*k)
  | .ref o j,.val (.int _ m)=>.ref o (j+m.toNat*k)
  | _,_=>.any
 | .aidx _ k x i=>match st (ax F x),st (ax F i) with
  | .agg cs,.val (.int _ m)=>.agg ((cs.drop (m.toNat*k)).take k)
  | _,_=>.any
 | .lku _ ok z m x=>match Ga H (st (ax F m)),st (ax F x) with
  | some cs,.val k=>match Gb k cs with
   | some y=>if ok then .tup [y,bl true] else y
   | none=>if ok then .tup [z,bl false] else z
  | _,_=>.any
 | _=>.any
end
section
variable {P:Program} {N:Nat} {g:Gh} {F:Frame} {H:Heap} {a:Act} {w:World}
def Ext (w w' : World):Prop:=∀ b,b<w.heap.size→w'.heap[b]? = w.heap[b]?
theorem Rd.val_inv {tr:Nat→Option (Option A2)}{G:Nat→Prop}{u v:Value}{bs:List Nat}(h:Rd w tr G (.val u) v bs):v=u∧bs=[]:=by cases h;exact ⟨rfl,rfl⟩
theorem Hu (hR:R N g F H a w)(x:Operand):Rd w (g.tr H) g.G (ax F (cX x)) (a.eval x) []:=by
 cases x with
 | tmp t=>exact hR.fr t
 | const v=>exact .val
 | func f=>exact .clo rfl (by intro m hm;simp at hm) rfl (by intro m hm;simp at hm)
 | global g=>exact .val
theorem Se {tr:Nat→Option (Option A2)}{G:Nat→Prop}:∀ (x:AV) (v:Value),Ap x→Rd w tr G x v []→Rd w tr G (st x) v []
 | .cnd b x,v,h,hr=>by
  obtain ⟨h1,h2⟩:=h
  subst h1
  cases hr with
  | cndT hr=>exact Se x v h2 hr
 | .idn u x,v,h,hr=>by
  cases hr with
  | idn hr=>exact Se x _ h hr
 | .any,_,_,hr | .val _,_,_,hr | .slc ..,_,_,hr | .pto ..,_,_,hr | .sl ..,_,_,hr | .ref ..,_,_,hr | .osl ..,_,_,hr | .agg _,_,_,hr | .tup _,_,_,hr | .clo ..,_,_,hr | .mp _,_,_,hr | .mpz _,_,_,hr | .ent ..,_,_,hr | .oag _,_,_,hr | .it _,_,_,hr | .mpc _,_,_,hr=>hr
theorem At (hR:R N g F H a w)(x:Operand)(h:Ap (ax F (cX x))):Rd w (g.tr H) g.G (st (ax F (cX x))) (a.eval x) []:=Se _ _ h (Hu hR x)
theorem Oq {tr:Nat→Option (Option A2)}{G:Nat→Prop}{x:AV}{v:Value}{bs:List Nat}(hp:Bf x=true)(h:Rd w tr G x v bs):bs=[]:=by
 cases h<;>first | rfl | cases hp
theorem Qu {b:Nat}{zs:List Value}:∀ {cs:List AV},J6 b cs=some zs → .gho b zs∈cs
 | [],h=>by cases h
 | x :: l,h=>by
  unfold J6 at h
  split at h
  ·split at h
   ·rename_i c zs' hc
    subst hc
    obtain rfl:=Option.some.inj h
    exact List.mem_cons_self
   ·exact List.mem_cons_of_mem _ (Qu h)
  ·exact List.mem_cons_of_mem _ (Qu h)
theorem jD (hp:HeapR g H w){v:Value}{cs:List AV}{j:Nat}(h:Nu H v=some (cs,j)):∃ b zs ty z,v = .pointer (some ⟨b,j,none⟩)∧cs=zs.map .val∧w.heap[b]? = some (.cells (zs:List Value).toArray ty z):=by
 unfold Nu at h
 split at h
 ·rename_i b j'
  split at h
  ·rename_i cs' H'
   rw [Option.map_eq_some_iff] at h
   obtain ⟨zs,hz,he⟩:=h
   simp only [Prod.mk.injEq] at he
   obtain ⟨rfl,rfl⟩:=he
   have hm:=Qu hz
   have h1:=hp.obj 0 cs' rfl
   cases hl:g.ρ 0 with
   | none=>
    rw [hl] at h1
    obtain ⟨⟨L,rfl,h2⟩,_⟩:=h1
    obtain ⟨q,hq,he⟩:=List.mem_map.1 hm
    obtain ⟨_,ty,z,h3⟩:=h2 q hq
    simp only [AV.gho.injEq] at he
    obtain ⟨rfl,rfl⟩:=he
    exact ⟨_,_,ty,z,rfl,rfl,h3⟩
   | some l=>
    obtain ⟨b', base,sz⟩:=l
    rw [hl] at h1
    obtain ⟨u,bss,_,hr,_⟩:=h1
    obtain ⟨m,hm1,hm2⟩:=List.getElem_of_mem hm
    have h3:=hr m hm1
    rw [hm2] at h3
    generalize u m=v,bss m=y at h3
    cases h3
  ·cases h
 ·cases h
theorem M5 (hp : HeapR g H w) {x : AV} {v : Value} (hr : Rd w (g.tr H) g.G x v []) {cs : List AV} {j : Nat} (h : Fk H x = some (cs, j)) :
    ∃ (b off:Nat) (u:Nat→Value) (bss:Nat→List Nat),v = .pointer (some ⟨b,off+j,none⟩)∧b<w.heap.size∧(∀ m,m<cs.length→w.cell? ⟨b,off+m,none⟩=some (u m))∧∀ m (h:m<cs.length),Rd w (g.tr H) g.G cs[m] (u m) (bss m):=by
 cases hr with
 | pto u hG hc hr=>
  simp only [Fk,Option.some.injEq,Prod.mk.injEq] at h
  obtain ⟨rfl,rfl⟩:=h
  exact ⟨_,_,u,fun _=>[],rfl,hp.low _ hG,hc,hr⟩
 | ref h00 hv0 h1=>
  rename_i o j'
  simp only [Fk] at h
  split at h
  ·rename_i cs' hcs
   simp only [Option.some.injEq,Prod.mk.injEq] at h
   obtain ⟨rfl,rfl⟩:=h
   have h2:=h1 _ (Gh.tr_some (g:=g) hcs)
   have h3:=hp.obj o cs' hcs
   dsimp only at h2
   cases hl:g.ρ o with
   | none=>rw [hl] at h2;exact h2.elim
   | some l=>
    obtain ⟨b,base,sz⟩:=l
    rw [hl] at h2 h3
    obtain ⟨h2,hle⟩:=h2
    obtain ⟨arr,elem,u,bss,hb,hsz,hcl,hc,hr,_⟩:=h3.cells hle
    refine ⟨b,base,u,bss,h2,(Array.getElem?_eq_some_iff.1 hb).1,fun m hm=>?_,hr⟩
    simp only [World.cell?,hb]
    simpa using hc m hm
  ·cases h
 | val=>
  simp only [Fk] at h
  obtain ⟨b,zs,ty,z,rfl,rfl,h3⟩:=jD hp h
  refine ⟨b,0,fun m=>zs.getD m undef,fun _=>[],by rw [Nat.zero_add],(Array.getElem?_eq_some_iff.1 h3).1,fun m hm=>?_,fun m hm=>?_⟩
  ·rw [List.length_map] at hm
   simp only [World.cell?,h3]
   simp [hm]
  ·rw [List.length_map] at hm
   simp only [List.getElem_map]
   rw [show zs.getD m undef=zs[m] by simp [hm]]
   exact .val
 | _=>simp [Fk] at h
theorem Ext.cell {w w' : World}(h:Ext w w'){b off:Nat}(hb:b<w.heap.size):w'.cell? ⟨b,off,none⟩=w.cell? ⟨b,off,none⟩:=World.cell?_of_block (w:=w) (h b hb)
theorem Cc {α β:Type}{x:Sem α}{f:α→Sem β}{w w' : World}{y:α}(h:x.run P w = .ok y w'):(x >>= f).run P w=(f y).run P w' := by
 rw [Sem.run_bind,h,Result.andThen_ok]
def E2:Op→Bool
 | .load .. | .lookup ..=>true
 | _=>false
def Bj (P:Program)(a:Act)(w:World)(g:Gh)(H:Heap)(o:Oper)(x:AV):Prop:=
 ∃ v,(∀ w', (E2 o.op=true→Ext w w')→(execOp a.eval o).run P w' = .ok (.value v) w')∧Rd w (g.tr H) g.G x v []
theorem Et (b o n:Nat):(⟨b,o,none⟩:Addr).add n=⟨b,o+n,none⟩:=by unfold Addr.add;split<;>simp_all
theorem Zo {o : Oper} {x : Operand} {t : TypeId} {d : TypeDesc} {z : AV} (hR : R N g F H a w) (hop : o.op = .load t x) (ht : P.underlying t = some d) (hd : B7 (some d) = false) (hq : A5 (.load z (cX x)) F H) :
    Bj P a w g H o (Am (.load z (cX x)) F H):=by
 obtain ⟨h1,h2⟩:=hq
 have h3:=At hR x h1
 split at h2
 ·rename_i cs j hcs
  obtain ⟨b,off,u,bss,hv,hb,hc,hr⟩:=M5 hR.hp h3 hcs
  rw [show Am (.load z (cX x)) F H=cs.getD j z by simp only [Am,hcs]]
  obtain ⟨hj,hpl⟩:=h2
  refine ⟨u j,fun w' hw=>?_,?_⟩
  ·have hw:=hw (by rw [hop];rfl)
   have hcell:=(hw.cell (off:=off+j) hb).trans (hc j hj)
   have hagg:∀ w'', (isAgg t).run P w'' = .ok false w'' := fun w'' => by
    unfold isAgg
    rw [Cc (run_underlying ht w'')]
    cases d<;>first | rfl | (simp [B7] at hd)
   simp [execOp,hop,hv,Instr.loadAt,Instr.sureAddr,loadVar,hagg,hcell]
  ·have hj' : cs.getD j z=cs[j]:=by simp [hj]
   have hj'' : cs.getD j .any=cs[j]:=by simp [hj]
   rw [hj']
   rw [hj''] at hpl
   have:=hr j hj
   rwa [Oq hpl this] at this
 ·exact h2.elim
theorem R0 {o : Oper} {x : Operand} {t : TypeId} {d : TypeDesc} {i : TypeInfo} (hR : R N g F H a w) (hop : o.op = .load t x) (ht : P.underlying t = some d) (hi : P.info? t = some i) (hd : B7 (some d) = true) (hq : A5 (.loads i.size (cX x)) F H) :
    Bj P a w g H o (Am (.loads i.size (cX x)) F H):=by
 obtain ⟨h1,h2⟩:=hq
 have h3:=At hR x h1
 split at h2
 ·rename_i cs j hcs
  obtain ⟨b,off,u,bss,hv,hb,hc,hr⟩:=M5 hR.hp h3 hcs
  rw [show Am (.loads i.size (cX x)) F H = .agg ((cs.drop j).take i.size) by simp only [Am,hcs]]
  obtain ⟨hj,hpl⟩:=h2
  refine ⟨.agg ((List.range i.size).map fun m=>u (j+m)).toArray,fun w' hw=>?_,?_⟩
  ·have hw:=hw (by rw [hop];rfl)
   have hagg:∀ w'', (isAgg t).run P w'' = .ok true w'' := fun w'' => by
    unfold isAgg
    rw [Cc (run_underlying ht w'')]
    cases d<;>first | rfl | (simp [B7] at hd)
   have hl:=run_loadCells (P:=P) w' ⟨b,off+j,none⟩ i.size (fun m=>u (j+m)) (fun m hm=>by
    rw [Et,Nat.add_assoc,hw.cell hb]
    exact hc (j+m) (by omega))
   simp [execOp,hop,hv,Instr.loadAt,Instr.sureAddr,loadVar,hagg,sizeOf,typeInfo,hi,hl]
  ·refine .agg (by simp;omega) (fun m hm=>?_)
   simp only [List.length_take,List.length_drop] at hm
   have e1:((List.range i.size).map fun m=>u (j+m)).toArray.getD m undef=u (j+m):=by
    have:m<i.size:=by omega
    simp [this]
   rw [e1]
   simp only [List.getElem_take,List.getElem_drop]
   have:=hr (j+m) (by omega)
   have hp' : Bf cs[j+m]=true:=by
    refine List.all_eq_true.1 hpl _ ?_
    refine List.mem_iff_getElem.2 ⟨m,by simp;omega,by simp⟩
   rwa [Oq hp' this] at this
 ·exact h2.elim
theorem Zp {o:Oper}{x:Operand}(hR:R N g F H a w)(hop:o.op = .move x∨o.op = .assign x):Bj P a w g H o (Am (.mov (cX x)) F H):=
 ⟨a.eval x,fun w' _=>by rcases hop with hop | hop<;>simp [execOp,hop],Hu hR x⟩
theorem Lb {tr:Nat→Option (Option A2)}{G:Nat→Prop}{x:AV}{v:Value}{t:Bool}(h:Rd w tr G x v [])(e:x=bl t):v = .bool t:=by subst e;exact h.val_inv.1
theorem uC {o:Oper}{c x y:Operand}(hR:R N g F H a w)(hop:o.op = .pick c x y)(hq:A5 (.pick (cX c) (cX x) (cX y)) F H):Bj P a w g H o (Am (.pick (cX c) (cX x) (cX y)) F H):=by
 obtain ⟨h1,h2⟩:=hq
 have h3:=At hR c h1
 simp only [Am]
 split at h2
 ·rename_i t u v hc hx hy
  obtain ⟨h4,h5⟩:=h2
  have hct:=Lb h3 hc
  cases t with
  | true=>
   have hxu:=Lb (At hR x (h4 rfl)) hx
   exact ⟨.bool u,fun w' _=>by simp [execOp,hop,hct,asBool,hxu],by simp only [hc,hx,hy,cond_true];exact .val⟩
  | false=>
   have hyv:=Lb (At hR y (h5 rfl)) hy
   exact ⟨.bool v,fun w' _=>by simp [execOp,hop,hct,asBool,hyv],by simp only [hc,hx,hy,cond_false];exact .val⟩
 ·exact h2.elim
theorem uB {o:Oper}{x:Operand}{t:TypeId}(hR:R N g F H a w)(hop:o.op = .unOp .not t x)(hq:A5 (.not (cX x)) F H):Bj P a w g H o (Am (.not (cX x)) F H):=by
 obtain ⟨h1,h2⟩:=hq
 have h3:=At hR x h1
 simp only [Am]
 split at h2
 ·rename_i b hb
  have:=Lb h3 hb
  exact ⟨.bool (!b),fun w' _=>by simp [execOp,hop,this,Op.unary],by first | exact .val | (simp only [hb];exact .val)⟩
 ·exact h2.elim
theorem K0 {n:Int}(h:H7 n):IntKind.i64.wrap n=n:=
 IntWalk.i64_in n h
theorem tZ {o:Oper}{x:Operand}{t:TypeId}(hR:R N g F H a w)(hop:o.op = .unOp .neg t x)(hq:A5 (.neg (cX x)) F H):Bj P a w g H o (Am (.neg (cX x)) F H):=by
 obtain ⟨h1,h2⟩:=hq
 have h3:=At hR x h1
 simp only [Am]
 split at h2
 ·rename_i n hn
  rw [hn] at h3
  have:=h3.val_inv.1
  exact ⟨.int .i64 (0 - n),fun w' _=>by simp only [execOp,hop,this,Op.unary,Op.intArith,K0 h2];rfl,by first | exact .val | (simp only [hn];exact .val)⟩
 ·rename_i n hn
  rw [hn] at h3
  have:=h3.val_inv.1
  exact ⟨.int .u64 (IntKind.u64.wrap (0 - n)),fun w' _=>by simp only [execOp,hop,this,Op.unary,Op.intArith];rfl,by first | exact .val | (simp only [hn];exact .val)⟩
 ·exact h2.elim
theorem tK {o : Oper} {x : Operand} {s t : TypeId} {k k' : IntKind} (hR : R N g F H a w) (hop : o.op = .convert s t x) (hs : P.underlying s = some (.int k')) (ht : P.underlying t = some (.int k)) (hq : A5 (.conv k (cX x)) F H) :
    Bj P a w g H o (Am (.conv k (cX x)) F H):=by
 obtain ⟨h1,h2⟩:=hq
 have h3:=At hR x h1
 simp only [Am]
 split at h2
 ·rename_i k'' n hn
  rw [hn] at h3
  have:=h3.val_inv.1
  refine ⟨Nb k n,fun w' _=>?_,by first | exact .val | (simp only [hn];exact .val)⟩
  have e:(convert s t (.int k'' n)).run P w' = .ok (.int k (k.wrap n)) w' := by
   unfold convert
   rw [Cc (run_underlying hs w'),Cc (run_underlying ht w')]
   simp [Conv.intToInt]
  simp only [execOp,hop,this,Sem.run_bind,e,Result.andThen_ok,Sem.run_pure]
  cases k<;>first | rfl | (simp only [Nb];rw [K0 h2])
 ·exact h2.elim
theorem tM {o:Oper}{x:Operand}{i:Nat}(hR:R N g F H a w)(hop:o.op = .extract x i)(hq:A5 (.ext (cX x) i) F H):Bj P a w g H o (Am (.ext (cX x) i) F H):=by
 obtain ⟨h1,h2⟩:=hq
 have h3:=At hR x h1
 simp only [Am]
 split at h2
 ·rename_i vs hvs
  rw [hvs] at h3
  generalize hv:a.eval x=v at h3
  cases h3 with
  | tup hl hr=>
   rename_i us
   have hlt:i<us.size:=by omega
   refine ⟨us.getD i undef,fun w' _=>?_,?_⟩
   ·simp [execOp,hop,hv,Instr.extract,hlt]
   ·try simp only [hvs]
    have:=hr i h2
    rwa [show vs.getD i .any=vs[i] by simp [h2]]
 ·exact h2.elim
theorem tQ {o:Oper}{f:FuncId}{fs cs:Array Operand}(hR:R N g F H a w)(hop:o.op = .makeFunc (.func f) fs cs):Bj P a w g H o (Am (.fn f (fs.toList.map cX) (cs.toList.map cX)) F H):=by
 refine ⟨.func (.func f) (fs.map a.eval) (cs.map a.eval),fun w' _=>by simp [execOp,hop,Instr.makeFunc],?_⟩
 refine .clo (by simp) (fun m hm=>?_) (by simp) (fun m hm=>?_)
 ·simp only [List.length_map,Array.length_toList] at hm
  simp [hm]
  exact Hu hR _
 ·simp only [List.length_map,Array.length_toList] at hm
  simp [hm]
  exact Hu hR _
theorem tN {o : Oper} {x : Operand} {t ft : TypeId} {j off : Nat} {i : TypeInfo} (hR : R N g F H a w) (hop : o.op = .fieldAddr t x j) (hf : Hz P t j = some (off, ft)) (hi : P.info? ft = some i) (h0 : i.size ≠ 0) (hq : A5 (.fld off (cX x)) F H) :
    Bj P a w g H o (Am (.fld off (cX x)) F H):=by
 obtain ⟨h1,h2⟩:=hq
 have h3:=At hR x h1
 have run:∀ b o', a.eval x = .pointer (some ⟨b,o', none⟩)→∀ w', (execOp a.eval o).run P w' = .ok (.value (.pointer (some ⟨b,o' + off,none⟩))) w' := by
  intro b o' hv w'
  unfold Hz at hf
  split at hf
  ·rename_i fs hfs
   rw [Option.map_eq_some_iff] at hf
   obtain ⟨f,hff,he⟩:=hf
   simp only [Prod.mk.injEq] at he
   obtain ⟨rfl,rfl⟩:=he
   have hp:(fieldPlace ⟨b,o', none⟩ f).run P w' = .ok ⟨b,o' + f.offset,none⟩ w' := by
    unfold fieldPlace
    rw [Cc (y:=i.size) (w' := w') (by simp [sizeOf,typeInfo,hi])]
    rw [if_neg h0,Et]
    rfl
   simp only [execOp,hop,hv,Instr.fieldAt,Sem.run_bind,run_underlying hfs w', Result.andThen_ok,hff,Instr.sureAddr,Sem.run_pure,hp]
  ·cases hf
 simp only [Am]
 generalize hx:st (ax F (cX x))=y at h2 h3
 generalize hv:a.eval x=v at h3
 cases h3<;>simp only at h2
 case pto cs j' b off' u hG hc hr=>exact ⟨_,fun w' _=>run b (off' + j') hv w', by rw [Nat.add_assoc];exact .pto u hG hc hr⟩
 case ref o' j' h00 hv0 h4=>
  cases ho:H[o']?.bind id with
  | none=>rw [ho] at h2;cases h2
  | some cs=>
   have ho' : H[o']? = some (some cs):=by
    cases hh:H[o']? with
    | none=>rw [hh] at ho;cases ho
    | some y=>rw [hh] at ho;simp at ho;rw [ho]
   have h5:=h4 _ (Gh.tr_some (g:=g) ho')
   dsimp only at h5
   cases hl:g.ρ o' with
   | none=>rw [hl] at h5;exact h5.elim
   | some l=>
    obtain ⟨b,base,sz⟩:=l
    rw [hl] at h5
    refine ⟨_,fun w' _=>run b (base+j') (hv.trans h5.1) w', .ref h00 rfl fun l' hl' => ?_⟩
    rw [Gh.tr_some ho'] at hl'
    obtain rfl:=Option.some.inj (Option.some.inj hl')
    rw [hl]
    exact ⟨by simp [Nat.add_assoc],h5.2⟩
theorem tG {o : Oper} {x : Operand} {t e : TypeId} {n : Nat} {kk : IntKind} {m : Int} {i : TypeInfo} (hR : R N g F H a w) (hop : o.op = .indexAddr t x (.const (.int kk m))) (ht : P.underlying t = some (.array n e)) (hi : P.info? e = some i) (h0 : 0 ≤ m ∧ m < (n : Int) ∧ i.size ≠ 0) (hq : A5 (.fld (m.toNat * i.size) (cX x)) F H) :
    Bj P a w g H o (Am (.fld (m.toNat*i.size) (cX x)) F H):=by
 obtain ⟨h1,h2⟩:=hq
 obtain ⟨hm0,hm1,_⟩:=h0
 have h3:=At hR x h1
 have run:∀ b o', a.eval x = .pointer (some ⟨b,o', none⟩)→∀ w', (execOp a.eval o).run P w' = .ok (.value (.pointer (some ⟨b,o' + m.toNat*i.size,none⟩))) w' := by
  intro b o' hv w'
  have hsize:∀ w'', (sizeOf e).run P w'' = .ok i.size w'' := fun w'' => by simp [sizeOf,typeInfo,hi]
  have hc:a.eval (.const (.int kk m)) = .int kk m:=rfl
  simp [execOp,hop,hv,hc,Instr.indexAt,Instr.sureAddr,asIntOf,run_underlying ht,hm0,hm1,hsize,Et]
 simp only [Am]
 generalize hx:st (ax F (cX x))=y at h2 h3
 generalize hv:a.eval x=v at h3
 cases h3<;>simp only at h2
 case pto cs j' b off' u hG hc hr=>exact ⟨_,fun w' _=>run b (off' + j') hv w', by rw [Nat.add_assoc];exact .pto u hG hc hr⟩
 case ref o' j' h00 hv0 h4=>
  cases ho:H[o']?.bind id with
  | none=>rw [ho] at h2;cases h2
  | some cs=>
   have ho' : H[o']? = some (some cs):=by
    cases hh:H[o']? with
    | none=>rw [hh] at ho;cases ho
    | some y=>rw [hh] at ho;simp at ho;rw [ho]
   have h5:=h4 _ (Gh.tr_some (g:=g) ho')
   dsimp only at h5
   cases hl:g.ρ o' with
   | none=>rw [hl] at h5;exact h5.elim
   | some l=>
    obtain ⟨b,base,sz⟩:=l
    rw [hl] at h5
    refine ⟨_,fun w' _=>run b (base+j') (hv.trans h5.1) w', .ref h00 rfl fun l' hl' => ?_⟩
    rw [Gh.tr_some ho'] at hl'
    obtain rfl:=Option.some.inj (Option.some.inj hl')
    rw [hl]
    exact ⟨by simp [Nat.add_assoc],h5.2⟩
theorem Jx {H:Heap}{o:Nat}(h:(H[o]?.bind id).isSome):∃ cs,H[o]? = some (some cs):=by
 cases hh:H[o]? with
 | none=>rw [hh] at h;cases h
 | some y=>cases y with
  | none=>rw [hh] at h;cases h
  | some cs=>exact ⟨cs,rfl⟩
theorem J2 {t:TypeId}{k:Nat}(h:Da P t=some k):∃ e i,P.underlying t=some (.slice e)∧P.info? e=some i∧i.size=k:=by
 unfold Da at h
 split at h
 ·rename_i e he
  rw [Option.map_eq_some_iff] at h
  obtain ⟨i,hi,hs⟩:=h
  exact ⟨e,i,he,hi,hs⟩
 ·cases h
theorem tS {o : Oper} {x y : Operand} {t : TypeId} {k : Nat} (hR : R N g F H a w) (hop : o.op = .indexAddr t x y) (hk : Da P t = some k) (hq : A5 (.idx k (cX x) (cX y)) F H) :
    Bj P a w g H o (Am (.idx k (cX x) (cX y)) F H):=by
 obtain ⟨h1,h2,h3⟩:=hq
 have hx:=At hR x h1
 have hy:=At hR y h2
 obtain ⟨e,i,he,hi,hsz⟩:=J2 hk
 have run : ∀ b o' n cap kk m, a.eval x = .slice (some ⟨b, o', none⟩) n cap → a.eval y = .int kk m → 0 ≤ m → m < (n : Int) →
     ∀ w', (execOp a.eval o).run P w' = .ok (.value (.pointer (some ⟨b,o' + m.toNat*k,none⟩))) w' := by
  intro b o' n cap kk m hvx hvy hm0 hm1 w'
  have hsize:∀ w'', (sizeOf e).run P w'' = .ok k w'' := fun w'' => by simp [sizeOf,typeInfo,hi,hsz]
  simp [execOp,hop,hvx,hvy,Instr.indexAt,asIntOf,run_underlying he,hm0,hm1,hsize,Et]
 simp only [Am]
 generalize hxe:st (ax F (cX x))=vx at h3 hx
 generalize hye:st (ax F (cX y))=vy at h3 hy
 split at h3
 ·rename_i k' n cs kk m
  obtain ⟨rfl,hm0,hm1⟩:=h3
  have hvy:=hy.val_inv.1
  generalize hvx:a.eval x=v at hx
  cases hx with
  | slc u hl hn hm hG hc hr=>exact ⟨_,fun w' _=>run _ _ _ _ _ _ hvx hvy hm0 hm1 w', .pto u hG hc hr⟩
  | slc0 hm=>exact absurd hm1 (by omega)
 ·rename_i o' k' off len kk m
  obtain ⟨rfl,hal,hm0,hm1⟩:=h3
  obtain ⟨cs,ho'⟩:=Jx hal
  have hvy:=hy.val_inv.1
  cases hx with
  | sl h00 hv0 h4=>
   obtain ⟨h5,h6⟩:=h4 _ (Gh.tr_some (g:=g) ho')
   dsimp only at h5 h6
   cases hl:g.ρ o' with
   | none=>rw [hl] at h6;obtain ⟨rfl,_⟩:=h6;exact absurd hm1 (by omega)
   | some l=>
    obtain ⟨b,base,sz⟩:=l
    rw [hl] at h6
    obtain ⟨cap,h7,h8,h9,h10⟩:=h6
    rcases h10 with h10 | ⟨rfl,aa,h10⟩
    ·refine ⟨_,fun w' _=>run _ _ _ _ _ _ h10 hvy hm0 hm1 w', .ref h00 rfl fun l' hl' => ?_⟩
     rw [Gh.tr_some ho'] at hl'
     obtain rfl:=Option.some.inj (Option.some.inj hl')
     rw [hl]
     exact ⟨by simp [Nat.add_assoc],by omega⟩
    ·exact absurd hm1 (by omega)
 ·exact h3.elim
theorem tW {o : Oper} {x y : Operand} {args : Array Operand} {ts : Array TypeId} (hR : R N g F H a w) (hop : o.op = .call { callee := .builtin .min, args := args, argTypes := ts }) (ha : args.toList = [x, y])
    (hq:A5 (.mnb (cX x) (cX y)) F H):Bj P a w g H o (Am (.mnb (cX x) (cX y)) F H):=by
 obtain ⟨h1,h2,h3⟩:=hq
 have hx:=At hR x h1
 have hy:=At hR y h2
 obtain rfl:args = #[x,y]:=by rw [← Array.toArray_toList (xs:=args),ha]
 simp only [Am]
 generalize st (ax F (cX x))=vx at h3 hx
 generalize st (ax F (cX y))=vy at h3 hy
 split at h3
 ·have ex:=hx.val_inv.1
  have ey:=hy.val_inv.1
  exact ⟨_,fun w' _=>by simp [execOp,hop,resolve,invoke,builtin,Builtin.min_,Builtin.min2,ex,ey],.val⟩
 ·exact h3.elim
theorem tX {o : Oper} {x y : Operand} {args : Array Operand} {ts : Array TypeId} (hR : R N g F H a w) (hop : o.op = .call { callee := .builtin .max, args := args, argTypes := ts }) (ha : args.toList = [x, y])
    (hq:A5 (.mxb (cX x) (cX y)) F H):Bj P a w g H o (Am (.mxb (cX x) (cX y)) F H):=by
 obtain ⟨h1,h2,h3⟩:=hq
 have hx:=At hR x h1
 have hy:=At hR y h2
 obtain rfl:args = #[x,y]:=by rw [← Array.toArray_toList (xs:=args),ha]
 simp only [Am]
 generalize st (ax F (cX x))=vx at h3 hx
 generalize st (ax F (cX y))=vy at h3 hy
 split at h3
 ·have ex:=hx.val_inv.1
  have ey:=hy.val_inv.1
  exact ⟨_,fun w' _=>by simp [execOp,hop,resolve,invoke,builtin,Builtin.max_,Builtin.max2,ex,ey],.val⟩
 ·exact h3.elim
theorem tU {o : Oper} {x : Operand} {t e : TypeId} {args : Array Operand} {ts : Array TypeId} (hR : R N g F H a w) (hop : o.op = .call { callee := .builtin .len, args := args, argTypes := ts }) (ha : args.toList = [x]) (hts : ts.toList = [t]) (ht : P.underlying t = some (.slice e))
    (hq:A5 (.len (cX x)) F H):Bj P a w g H o (Am (.len (cX x)) F H):=by
 obtain ⟨h1,h2⟩:=hq
 have hx:=At hR x h1
 obtain rfl:args = #[x]:=by rw [← Array.toArray_toList (xs:=args),ha]
 obtain rfl:ts = #[t]:=by rw [← Array.toArray_toList (xs:=ts),hts]
 have run:∀ b n cap,a.eval x = .slice b n cap→∀ w', (execOp a.eval o).run P w' = .ok (.value (.int .i64 n)) w' := by
  intro b n cap hv w'
  simp [execOp,hop,resolve,invoke,builtin,Builtin.len_,run_underlying ht,hv,goInt]
 simp only [Am]
 generalize hxe:st (ax F (cX x))=vx at h2 hx
 split at h2
 ·generalize hvx:a.eval x=v at hx
  cases hx with
  | slc u hl hn hm hG hc hr=>exact ⟨_,fun w' _=>run _ _ _ hvx w', .val⟩
  | slc0 hm=>exact ⟨_,fun w' _=>run _ _ _ hvx w', .val⟩
 ·rename_i o' k' off len
  obtain ⟨cs,ho'⟩:=Jx h2
  cases hx with
  | sl h00 hv0 h4=>
   obtain ⟨h5,h6⟩:=h4 _ (Gh.tr_some (g:=g) ho')
   dsimp only at h5 h6
   cases hl:g.ρ o' with
   | none=>rw [hl] at h6;obtain ⟨rfl,a0,h6⟩:=h6;exact ⟨_,fun w' _=>run _ _ _ h6 w', .val⟩
   | some l=>
    obtain ⟨b,base,sz⟩:=l
    rw [hl] at h6
    obtain ⟨cap,h7,h8,h9,h10⟩:=h6
    rcases h10 with h10 | ⟨rfl,aa,h10⟩
    ·exact ⟨_,fun w' _=>run _ _ _ h10 w', .val⟩
    ·obtain rfl:len=0:=by omega
     exact ⟨_,fun w' _=>run _ _ _ h10 w', .val⟩
 ·exact ⟨_,fun w' _=>run _ _ _ hx.val_inv.1 w', .val⟩
 ·exact h2.elim
theorem uF {o : Oper} {x : Operand} {t : TypeId} {args : Array Operand} {ts : Array TypeId} (hR : R N g F H a w) (hop : o.op = .call { callee := .builtin .len, args := args, argTypes := ts }) (ha : args.toList = [x]) (hts : ts.toList = [t]) (ht : P.underlying t = some .string)
    (hq:A5 (.slen (cX x)) F H):Bj P a w g H o (Am (.slen (cX x)) F H):=by
 obtain ⟨h1,h2⟩:=hq
 have hx:=At hR x h1
 obtain rfl:args = #[x]:=by rw [← Array.toArray_toList (xs:=args),ha]
 obtain rfl:ts = #[t]:=by rw [← Array.toArray_toList (xs:=ts),hts]
 simp only [Am]
 generalize hxe:st (ax F (cX x))=vx at h2 hx
 split at h2
 ·have hv:=hx.val_inv.1
  exact ⟨_,fun w' _=>by simp [execOp,hop,resolve,invoke,builtin,Builtin.len_,run_underlying ht,hv,goInt],.val⟩
 ·exact h2.elim
theorem uD {o : Oper} {x y : Operand} {t : TypeId} (hR : R N g F H a w) (hop : o.op = .index t x y) (ht : P.underlying t = some .string) (hq : A5 (.sidx (cX x) (cX y)) F H) :
    Bj P a w g H o (Am (.sidx (cX x) (cX y)) F H):=by
 obtain ⟨h1,h2,h3⟩:=hq
 have hx:=At hR x h1
 have hy:=At hR y h2
 simp only [Am]
 generalize hxe:st (ax F (cX x))=vx at h3 hx
 generalize hye:st (ax F (cX y))=vy at h3 hy
 split at h3
 ·rename_i s k m
  obtain ⟨hm0,hm1⟩:=h3
  have hvx:=hx.val_inv.1
  have hvy:=hy.val_inv.1
  have hlt:m.toNat<s.size:=by omega
  have hlt' : m.toNat<s.data.toList.length:=by simpa using hlt
  have hg:s[m.toNat]? = some (s.data.toList.getD m.toNat 0):=by
   have e1:s[m.toNat]? = some s[m.toNat]:=by simp [hlt]
   rw [e1]
   congr 1
   have hlt2:m.toNat<s.data.size:=hlt
   have:s.data.toList.getD m.toNat 0=s.data.toList[m.toNat]:=by
    rw [List.getD_eq_getElem?_getD,List.getElem?_eq_getElem hlt'];rfl
   rw [this]
   rfl
  exact ⟨_,fun w' _=>by simp [execOp,hop,Instr.index,asIntOf,run_underlying ht,hvx,hvy,hm0,hg],.val⟩
 ·exact h3.elim
theorem mC {lo : Option Operand} {l : Int} (hR : R N g F H a w) (hok : Hh F (lo.map cX)) (hl : Fu F (lo.map cX) = some l) (h0 : 0 ≤ l) (y : Nat) (hy : l ≤ (y : Int)) (code : BoundsCode) (w' : World) :
    (match lo.map a.eval with | some v=>Instr.sliceBound v y code | none=>pure 0).run P w' = .ok l.toNat w' := by
 cases lo with
 | none=>simp only [Option.map_none,Fu,Option.some.injEq] at hl;subst hl;rfl
 | some x=>
  simp only [Option.map_some,Fu] at hl
  have hx:=At hR x hok
  split at hl
  ·rename_i k i hi
   rw [hi] at hx
   obtain rfl:=Option.some.inj hl
   simp [hx.val_inv.1,Instr.sliceBound,asIntOf,h0,hy]
  ·cases hl
theorem jG {hi : Option Operand} {h : Int} {n : Nat} (hR : R N g F H a w) (hok : Hh F (hi.map cX)) (hh : Fq F n (hi.map cX) = some h) (h0 : 0 ≤ h) (cap : Nat) (hy : h ≤ (cap : Int)) (code : BoundsCode) (w' : World) :
    (match hi.map a.eval with | some v=>Instr.sliceBound v cap code | none=>pure n).run P w' = .ok h.toNat w' := by
 cases hi with
 | none=>simp only [Option.map_none,Fq,Option.some.injEq] at hh;subst hh;rfl
 | some x=>
  simp only [Option.map_some,Fq] at hh
  have hx:=At hR x hok
  split at hh
  ·rename_i k i hi
   rw [hi] at hx
   obtain rfl:=Option.some.inj hh
   simp [hx.val_inv.1,Instr.sliceBound,asIntOf,h0,hy]
  ·cases hh
theorem Tm {lo hi : Option Operand} {l h : Int} {n : Nat} (isS : Bool) (hR : R N g F H a w) (hol : Hh F (lo.map cX)) (hoh : Hh F (hi.map cX)) (hl : Fu F (lo.map cX) = some l) (hh : Fq F n (hi.map cX) = some h)
    (h0:0≤l) (h1:l≤h) (cap:Nat) (h2:h≤(cap:Int)) (w' : World):(Instr.sliceBounds isS n cap (lo.map a.eval) (hi.map a.eval) none).run P w' = .ok (l.toNat,h.toNat,cap) w' := by
 have e1:=fun code=>jG (P:=P) hR hoh hh (by omega) cap h2 code w'
 have e2:=fun code=>mC (P:=P) hR hol hl h0 h.toNat (by omega) code w'
 cases hi with
 | none=>
  simp only [Option.map_none] at e1
  simp only [Instr.sliceBounds,Option.map_none,Sem.run_bind,Sem.run_pure,Result.andThen_ok]
  have:=e1 .index
  simp only [Sem.run_pure,Result.ok.injEq,and_true] at this
  rw [this]
  cases lo with
  | none=>have:=e2 .index;simp only [Option.map_none,Sem.run_pure,Result.ok.injEq,and_true] at this;simp [← this]
  | some x=>have:=e2 .sliceB;simp only [Option.map_some] at this;simp [this]
 | some x=>
  simp only [Option.map_some] at e1
  simp only [Instr.sliceBounds,Option.map_some,Sem.run_bind,Sem.run_pure,Result.andThen_ok]
  rw [e1]
  simp only [Result.andThen_ok]
  cases lo with
  | none=>have:=e2 .index;simp only [Option.map_none,Sem.run_pure,Result.ok.injEq,and_true] at this;simp [← this]
  | some x=>have:=e2 .sliceB;simp only [Option.map_some] at this;simp [this]
theorem R9 {n:Nat}{lo hi:Option Int}(h:Ku n lo hi):∃ l h,lo=some l∧hi=some h∧0≤l∧l≤h∧h≤(n:Int):=by
 cases lo<;>cases hi<;>simp only [Ku] at h
 exact ⟨_,_,rfl,rfl,h⟩
theorem uH {o : Oper} {x : Operand} {lo hi : Option Operand} {t : TypeId} (hR : R N g F H a w) (hop : o.op = .slice t x lo hi none) (ht : P.underlying t = some .string) (hq : A5 (.sslice (cX x) (lo.map cX) (hi.map cX)) F H) :
    Bj P a w g H o (Am (.sslice (cX x) (lo.map cX) (hi.map cX)) F H):=by
 obtain ⟨h1,h2,h3,h4⟩:=hq
 have hx:=At hR x h1
 simp only [Am]
 generalize hxe:st (ax F (cX x))=vx at h4 hx
 split at h4
 ·rename_i s
  have hv:=hx.val_inv.1
  obtain ⟨l,h,hl,hh,h5,h6,h7⟩:=R9 h4
  simp only [hl,hh]
  refine ⟨.string (s.extract l.toNat h.toNat),fun w' _=>?_,.val⟩
  have e:=Tm (P:=P) false hR h2 h3 hl hh h5 h6 s.size h7 w'
  simp [execOp,hop,Instr.sliceAt,Instr.slice,run_underlying ht,hv,e]
 ·exact h4.elim
theorem uE {o : Oper} {x hi : Operand} {t e : TypeId} {n : Nat} {i : TypeInfo} (hR : R N g F H a w) (hop : o.op = .slice t x none (some hi) none) (ht : P.underlying t = some (.array n e)) (hi' : P.info? e = some i) (hq : A5 (.sla n i.size (cX x) (cX hi)) F H) :
    Bj P a w g H o (Am (.sla n i.size (cX x) (cX hi)) F H):=by
 obtain ⟨h1,h2,h3⟩:=hq
 have hx:=At hR x h1
 have hh:=At hR hi h2
 simp only [Am]
 generalize hxe:st (ax F (cX x))=vx at h3 hx
 generalize hhe:st (ax F (cX hi))=vh at h3 hh
 generalize hvx:a.eval x=v at hx
 generalize hvh:a.eval hi=u at hh
 split at h3
 ·rename_i o2 j2 kh h
  obtain ⟨h5,h6,h7,h8⟩:=h3
  cases hh
  cases hx with
  | ref h00 hv0 h4=>
   split at h8
   ·rename_i cs hcs
    have ho' : H[o2]? = some (some cs):=by
     cases hh:H[o2]? with
     | none=>rw [hh] at hcs;cases hcs
     | some y=>rw [hh] at hcs;simp at hcs;rw [hcs]
    have h9:=h4 _ (Gh.tr_some (g:=g) ho')
    dsimp only at h9
    cases hl:g.ρ o2 with
    | none=>rw [hl] at h9;exact h9.elim
    | some l=>
     obtain ⟨b,base,sz⟩:=l
     rw [hl] at h9
     obtain ⟨rfl,hbs⟩:=h9
     have hob:=hR.hp.obj o2 cs ho'
     rw [hl] at hob
     obtain ⟨arr,elem,_,_,_,hsz,hle,_⟩:=hob.cells hbs
     have hal:P.arrayLen t=n:=by simp [Program.arrayLen,ht]
     have hel:P.elem t=e:=by simp [Program.elem,ht]
     have hs:∀ w', (sizeOf e).run P w' = .ok i.size w' := fun w' => by simp [sizeOf,typeInfo,hi']
     have hsz2:slicedAt ⟨b,base+j2,none⟩ 0 h.toNat n i.size = .slice (some ⟨b,base+j2,none⟩) h.toNat n:=by
      unfold slicedAt
      rw [Nat.zero_mul,Et]
      simp
     refine ⟨.slice (some ⟨b,base+j2,none⟩) h.toNat n,fun w' _=>?_,.sl h00 rfl fun l' hl' => ?_⟩
     ·have ht2:P.underlying t=some (.array (P.arrayLen t) (P.elem t)):=by rw [hal,hel];exact ht
      have hr:=run_sliceAt_array_h (P:=P) (w:=w') (t:=t) (a:=⟨b,base+j2,none⟩) ht2 kh h h5 (by rw [hal];exact h6)
      rw [hel,hs,hal] at hr
      simp only [Result.andThen_ok,hsz2] at hr
      simp only [execOp,hop,hvx,hvh,Option.map_none,Option.map_some,hr,Sem.run_bind,Result.andThen_ok,Sem.run_pure]
     ·rw [Gh.tr_some ho'] at hl'
      obtain rfl:=Option.some.inj (Option.some.inj hl')
      rw [hl]
      have hhn:h.toNat*i.size≤n*i.size:=Nat.mul_le_mul_right _ (by omega)
      refine ⟨by dsimp only;omega,n,by omega,h7,by omega,.inl rfl⟩
   ·exact h8.elim
 ·exact h3.elim
theorem uG {o : Oper} {x : Operand} {lo hi : Option Operand} {t : TypeId} {k : Nat} (hR : R N g F H a w) (hop : o.op = .slice t x lo hi none) (hk : Da P t = some k) (hq : A5 (.slice k (cX x) (lo.map cX) (hi.map cX)) F H) :
    Bj P a w g H o (Am (.slice k (cX x) (lo.map cX) (hi.map cX)) F H):=by
 obtain ⟨h1,h2,h3,h4⟩:=hq
 have hx:=At hR x h1
 obtain ⟨e,i,he,hi', hsz⟩:=J2 hk
 have run : ∀ b n cap l h, a.eval x = .slice b n cap → Fu F (lo.map cX) = some l → Fq F n (hi.map cX) = some h → 0 ≤ l → l ≤ h → h ≤ (n : Int) → n ≤ cap → ∀ w', (execOp a.eval o).run P w' =
     .ok (.value (.slice (if cap=l.toNat then b else b.map (·.add (l.toNat*k))) (h.toNat - l.toNat) (cap - l.toNat))) w' := by
  intro b n cap l h hv hl hh h5 h6 h7 h8 w'
  have e1:=Tm (P:=P) true hR h2 h3 hl hh h5 h6 cap (by omega) w'
  have hsize:∀ w'', (sizeOf e).run P w'' = .ok k w'' := fun w'' => by simp [sizeOf,typeInfo,hi', hsz]
  simp [execOp,hop,Instr.sliceAt,Instr.slice,run_underlying he,hv,e1,hsize]
 simp only [Am]
 generalize hxe:st (ax F (cX x))=vx at h4 hx
 split at h4
 ·rename_i k' n cs
  obtain ⟨rfl,h4⟩:=h4
  obtain ⟨l,h,hl,hh,h5,h6,h7⟩:=R9 h4
  simp only [hl,hh]
  generalize hvx:a.eval x=v at hx
  cases hx with
  | slc u hln hn hm hG hc hr=>
   rename_i b off cap
   refine ⟨_,fun w' _=>run _ _ _ l h hvx hl hh h5 h6 h7 hn w', ?_⟩
   have e1:(h - l).toNat=h.toNat - l.toNat:=by omega
   rw [e1]
   by_cases hcap:cap=l.toNat
   ·have e2:h.toNat - l.toNat=0:=by omega
    rw [e2]
    simp only [Nat.zero_mul,List.take_zero]
    exact .slc0 (by omega)
   ·rw [if_neg hcap]
    simp only [Option.map_some,Et]
    have hle:h.toNat*k≤n*k:=Nat.mul_le_mul_right _ (by omega)
    have e3:h.toNat*k=l.toNat*k+(h.toNat - l.toNat)*k:=by rw [← Nat.add_mul];congr 1;omega
    refine .slc (fun m=>u (l.toNat*k+m)) ?_ (by omega) (by omega) hG (fun m hm' => ?_) (fun m hm' => ?_)
    ·rw [List.length_take,List.length_drop,hln];omega
    ·rw [List.length_take,List.length_drop] at hm'
     rw [Nat.add_assoc]
     exact hc _ (by omega)
    ·rw [List.length_take,List.length_drop] at hm'
     simp only [List.getElem_take,List.getElem_drop]
     exact hr _ _
  | slc0 hm=>
   refine ⟨_,fun w' _=>run _ _ _ l h hvx hl hh h5 h6 h7 (by omega) w', ?_⟩
   have e1:(h - l).toNat=0:=by omega
   have e2:h.toNat - l.toNat=0:=by omega
   rw [e1,e2]
   simp only [List.drop_nil,List.take_nil]
   exact .slc0 (by omega)
 ·rename_i o' k' off len
  obtain ⟨rfl,hal,h4⟩:=h4
  obtain ⟨l,h,hl,hh,h5,h6,h7⟩:=R9 h4
  simp only [hl,hh]
  obtain ⟨cs,ho'⟩:=Jx hal
  cases hx with
  | sl h00 hv0 h8=>
   obtain ⟨h9,h10⟩:=h8 _ (Gh.tr_some (g:=g) ho')
   dsimp only at h9 h10
   have hle:h.toNat*k≤len*k:=Nat.mul_le_mul_right _ (by omega)
   have e3:h.toNat*k=l.toNat*k+(h.toNat - l.toNat)*k:=by rw [← Nat.add_mul];congr 1;omega
   have e1:(h - l).toNat=h.toNat - l.toNat:=by omega
   rw [e1]
   cases hl' : g.ρ o' with
   | none=>
    rw [hl'] at h10
    obtain ⟨rfl,a0,h11⟩:=h10
    refine ⟨_,fun w' _=>run _ _ _ l h h11 hl hh h5 h6 h7 (Nat.le_refl _) w', .sl h00 (by first | rfl | (rcases hv' with rfl | ⟨_,a,rfl⟩<;>rfl)) fun l' hl'' => ?_⟩
    rw [Gh.tr_some ho'] at hl''
    obtain rfl:=Option.some.inj (Option.some.inj hl'')
    have e2:l.toNat=0:=by omega
    have e4:h.toNat=0:=by omega
    rw [hl', e2,e4]
    refine ⟨by dsimp only;omega,?_⟩
    simp [Ju]
   | some lc=>
    obtain ⟨b,base,sz⟩:=lc
    rw [hl'] at h10
    obtain ⟨cap,h11,h12,h13,h14⟩:=h10
    have tail:∀ v', (v' = .slice (some ⟨b,base+(off+l.toNat*k),none⟩) (h.toNat - l.toNat) (cap - l.toNat)∨(cap - l.toNat=0∧∃ a,v' = .slice a 0 0))→Rd w (g.tr H) g.G (.sl o' k (off+l.toNat*k) (h.toNat - l.toNat)) v' []:=by
     intro v' hv'
     refine .sl h00 (by first | rfl | (rcases hv' with rfl | ⟨_,a,rfl⟩<;>rfl)) fun l' hl'' => ?_
     rw [Gh.tr_some ho'] at hl''
     obtain rfl:=Option.some.inj (Option.some.inj hl'')
     rw [hl']
     have e5:cap*k=l.toNat*k+(cap - l.toNat)*k:=by rw [← Nat.add_mul];congr 1;omega
     refine ⟨by dsimp only;omega,cap - l.toNat,by omega,by omega,by omega,hv'⟩
    rcases h14 with h14 | ⟨rfl,aa,h14⟩
    ·refine ⟨_,fun w' _=>run _ _ _ l h h14 hl hh h5 h6 h7 h11 w', tail _ ?_⟩
     by_cases hcap:cap=l.toNat
     ·right
      refine ⟨by omega,some ⟨b,base+off,none⟩,?_⟩
      rw [if_pos hcap,show h.toNat - l.toNat=0 by omega,show cap - l.toNat=0 by omega]
     ·left
      rw [if_neg hcap]
      simp only [Option.map_some,Et,Nat.add_assoc]
    ·obtain rfl:len=0:=by omega
     refine ⟨_,fun w' _=>run _ _ _ l h h14 hl hh h5 h6 h7 h11 w', tail _ ?_⟩
     right
     refine ⟨by omega,aa,?_⟩
     rw [if_pos (by omega),show h.toNat - l.toNat=0 by omega,show 0 - l.toNat=0 by omega]
 ·exact h4.elim
theorem eB (x y:Bool)(op:BinOp)(h:H8 op=true):Jz H op (bl x) (bl y) = .val (.bool (if op = .eql then x == y else !(x == y))):=by
 cases op<;>simp_all [Jz,H8]
theorem vM {op:BinOp}{t:TypeId}{x y:Operand}{u v:Value}(h:∀ ms,u ≠ .agg ms)(h2:u ≠ .nilIface)(w:World):(eqGuard op t x y u v).run P w = .ok () w:=by
 unfold eqGuard
 cases op<;>(simp only [Bool.not_true,Bool.not_false];first | rfl | (cases u<;>first | rfl | exact absurd rfl h2 | exact absurd rfl (h _)))
theorem Z0 {t:TypeId}(ht:P.underlying t=some .bool)(x y:Bool)(w:World):(Op.equal t (.bool x) (.bool y)).run P w = .ok (x == y) w:=by
 show (Op.equalIn (9999+1) t (.bool x) (.bool y)).run P w=_
 rw [Op.equalIn,Cc (run_underlying ht w)]
 rfl
theorem Z2 {t e:TypeId}(ht:P.underlying t=some (.slice e))(b:Option Addr)(n c:Nat)(w:World):(Op.equal t (.slice b n c) (.slice none 0 0)).run P w = .ok b.isNone w:=by
 show (Op.equalIn (9999+1) t (.slice b n c) (.slice none 0 0)).run P w=_
 rw [Op.equalIn,Cc (run_underlying ht w)]
 cases b<;>rfl
theorem tH {o : Oper} {op : BinOp} {x y : Operand} {t t' : TypeId} (hR : R N g F H a w) (hop : o.op = .binOp op t x y t') (hq : A5 (.bin (Iq (P.underlying t)) op (cX x) (cX y)) F H) :
    Bj P a w g H o (Am (.bin (Iq (P.underlying t)) op (cX x) (cX y)) F H):=by
 obtain ⟨h1,h2,h3⟩:=hq
 have hx:=At hR x h1
 have hy:=At hR y h2
 simp only [Am]
 generalize hxe:st (ax F (cX x))=vx at h3 hx
 generalize hye:st (ax F (cX y))=vy at h3 hy
 have top:∀ u v r,(∀ ms,u ≠ .agg ms)→u ≠ .nilIface→a.eval x=u→a.eval y=v→(∀ w', (binOp op t u v).run P w' = .ok r w')→∀ w', (E2 o.op=true→Ext w w')→(execOp a.eval o).run P w' = .ok (.value r) w' := by
  intro u v r hu1 hu2 hu hv hr w' _
  simp only [execOp,hop,hu,hv,Sem.run_bind,vM hu1 hu2,Result.andThen_ok,hr,Sem.run_pure]
 unfold P3 at h3
 split at h3
 ·rename_i k m k' n
  have hvx:=hx.val_inv.1
  have hvy:=hy.val_inv.1
  obtain ⟨hk,hok⟩:=h3
  refine ⟨Nx op k m n,top _ _ _ (by simp) (by simp) hvx hvy (fun w' => ?_),.val⟩
  cases op<;>simp only [Q5,forall_const,Bool.true_eq_false,false_implies] at hk<;>(try subst hk)<;>simp only [Q2] at hok<;>simp only [binOp,Nx,ne_eq,not_true_eq_false,if_false,Op.intArith,Op.intDiv,Op.intBits,Op.intCmp,Op.shift,Sem.run_pure,C9,Fa]
  case add=>cases k<;>first | rfl | (simp only [K0 hok])
  case sub=>cases k<;>first | rfl | (simp only [K0 hok])
  case mul=>cases k<;>first | rfl | (simp only [K0 hok])
  case quo=>rw [if_neg hok.1];cases k<;>first | rfl | (simp only [K0 hok.2];rfl)
  case rem=>rw [if_neg hok];rfl
  case shl=>rw [if_neg (by omega)];rfl
  case shr=>rw [if_neg (by omega)];rfl
 ·rename_i b c
  have hvx:=hx.val_inv.1
  have hvy:=hy.val_inv.1
  obtain ⟨hcls,heq⟩:=h3
  have ht:P.underlying t=some .bool:=by
   unfold Iq at hcls
   split at hcls<;>first | assumption | omega
  rw [eB (H:=H) b c op heq]
  refine ⟨_,top _ _ _ (by simp) (by simp) hvx hvy (fun w' => ?_),.val⟩
  cases op<;>simp only [H8,Bool.false_eq_true] at heq
  ·show (do pure (Value.bool (← Op.equal t (.bool b) (.bool c))):Sem Value).run P w' = _
   rw [Cc (Z0 ht b c w')];rfl
  ·show (do pure (Value.bool (!(← Op.equal t (.bool b) (.bool c)))):Sem Value).run P w' = _
   rw [Cc (Z0 ht b c w')];rfl
 ·rename_i s u
  have hvx:=hx.val_inv.1
  have hvy:=hy.val_inv.1
  refine ⟨Kw op s u,top _ _ _ (by simp) (by simp) hvx hvy (fun w' => ?_),.val⟩
  cases op<;>simp only [Mb] at h3<;>simp only [binOp,Op.stringOp,Kw,Sem.run_pure]
  rw [if_neg (by simp only [IntKind.max,IntKind.signed,IntKind.bits];simp only [maxLen] at h3;simp;omega)]
  rfl
 ·obtain ⟨hcls,heq,hnil⟩:=h3
  have hvy:=hy.val_inv.1
  obtain ⟨e,ht⟩:∃ e,P.underlying t=some (.slice e):=by
   unfold Iq at hcls
   split at hcls<;>first | exact ⟨_,by assumption⟩ | omega
  have hs:∃ b n cap,a.eval x = .slice b n cap∧(Eh H vx).getD false=b.isNone:=by
   unfold Eh at hnil ⊢
   split at hnil
   ·exact ⟨_,_,_,hx.val_inv.1,rfl⟩
   ·generalize hv:a.eval x=v at hx
    cases hx with
    | slc=>exact ⟨_,_,_,rfl,rfl⟩
   ·rename_i o' k' off len
    by_cases hal:(H[o']?.bind id).isSome=true
    ·rw [if_pos hal]
     obtain ⟨cs,ho'⟩:=Jx hal
     cases hx with
     | sl h00 hv0 h4=>
      obtain ⟨h5,h6⟩:=h4 _ (Gh.tr_some (g:=g) ho')
      dsimp only at h5 h6
      cases hl:g.ρ o' with
      | none=>rw [hl] at h6;exact absurd h6.1 (by omega)
      | some l=>
       obtain ⟨b,base,sz⟩:=l
       rw [hl] at h6
       obtain ⟨cap,h7,h8,h9,h10⟩:=h6
       rcases h10 with h10 | ⟨rfl,aa,h10⟩
       ·exact ⟨_,_,_,h10,rfl⟩
       ·omega
    ·rw [if_neg hal] at hnil;cases hnil
   ·cases hnil
  obtain ⟨b,n,cap,hvx,hb⟩:=hs
  have hbv:Jz H op vx (.val (.slice none 0 0))=bl (if op = .eql then b.isNone else !b.isNone):=by
   rw [← hb]
   unfold Eh at hnil ⊢
   split at hnil<;>cases op<;>simp_all [Jz,H8,Eh]
  rw [hbv]
  refine ⟨_,top _ _ _ (by simp) (by simp) hvx hvy (fun w' => ?_),.val⟩
  cases op<;>simp only [H8,Bool.false_eq_true] at heq
  ·show (do pure (Value.bool (← Op.equal t (.slice b n cap) (.slice none 0 0))):Sem Value).run P w' = _
   rw [Cc (Z2 ht b n cap w')];rfl
  ·show (do pure (Value.bool (!(← Op.equal t (.slice b n cap) (.slice none 0 0)))):Sem Value).run P w' = _
   rw [Cc (Z2 ht b n cap w')];rfl
 ·exact h3.elim
theorem Kj {tr:Nat→Option (Option A2)}{G:Nat→Prop}{x:AV}{v:Value}{bs:List Nat}(h:Rd w tr G x v bs)(h1:B1 x=true):v.oneCell' = true:=by
 cases h<;>simp only [B1,Bool.false_eq_true] at h1
 case mp h0 hv h=>obtain ⟨r,rfl⟩:=hv;rfl
 case it h0 hv h=>obtain ⟨r,rfl⟩:=hv;rfl
 case mpz=>rfl
 case val=>exact h1
 case slc=>rfl
 case slc0=>rfl
 case pto=>rfl
 case sl=>assumption
 case ref=>assumption
 case clo=>rfl
 case osl=>rfl
 case osl0=>rfl
 case idn h=>exact Kj h h1
theorem Y4 {v:Value}(h:v.oneCell' = true):v.cells = #[v]:=by cases v<;>first | rfl | cases h
theorem Qg {tr : Nat → Option (Option A2)} {G : Nat → Prop} {x : AV} {v : Value} {cs : List AV} (h : Rd w tr G x v []) (hc : cellsOf x = some cs) :
    v.cells.size=cs.length∧∀ m (h:m<cs.length),Rd w tr G cs[m] (v.cells.getD m undef) []:=by
 have one:(if B1 x then some [x] else none)=some cs→v.cells.size=cs.length∧∀ m (h:m<cs.length),Rd w tr G cs[m] (v.cells.getD m undef) []:=fun hc=>by
  by_cases h1:B1 x=true
  ·rw [if_pos h1] at hc
   obtain rfl:=Option.some.inj hc
   rw [Y4 (Kj h h1)]
   refine ⟨rfl,fun m hm=>?_⟩
   obtain rfl:m=0:=by simpa using hm
   exact h
  ·rw [if_neg h1] at hc;cases hc
 cases h with
 | agg hl hr=>
  simp only [cellsOf,Option.some.injEq] at hc
  subst hc
  exact ⟨hl.symm,hr⟩
 | _=>exact one hc
theorem aC {cs vs:List AV}{j:Nat}(h:j+vs.length≤cs.length):Fb cs j vs=cs.take j++vs++cs.drop (j+vs.length):=by
 unfold Fb
 split
 ·rename_i v
  simp only [List.length_singleton] at h ⊢
  rw [List.set_eq_take_append_cons_drop,if_pos (by omega)]
  simp
 ·rfl
theorem tY {o:Oper}{x:Operand}(hR:R N g F H a w)(hop:o.op = .nilCheck x)(hq:A5 (.nck (cX x)) F H):Bj P a w g H o (Am (.nck (cX x)) F H):=by
 obtain ⟨h1,h2⟩:=hq
 have h3:=At hR x h1
 simp only [Am]
 have run:∀ v,a.eval x=v→(∃ p,v = .pointer (some p))∨(∃ f vs cs,v = .func (.func f) vs cs)→∀ w', (execOp a.eval o).run P w' = .ok (.value v) w' := by
  rintro v hv (⟨p,rfl⟩ | ⟨f,vs,cs,rfl⟩) w' <;> simp [execOp,hop,hv]
 generalize hxe:st (ax F (cX x))=vx at h2 h3
 generalize hv:a.eval x=v at h3
 split at h2
 ·refine ⟨v,fun w' _=>run v hv (.inl ?_) w', h3⟩
  cases h3;exact ⟨_,rfl⟩
 ·rename_i o' j
  obtain ⟨cs,ho'⟩:=Jx h2
  refine ⟨v,fun w' _=>run v hv (.inl ?_) w', h3⟩
  cases h3 with
  | ref h00 hv0 h4=>
   have h5:=h4 _ (Gh.tr_some (g:=g) ho')
   dsimp only at h5
   cases hl:g.ρ o' with
   | none=>rw [hl] at h5;exact h5.elim
   | some l=>obtain ⟨b,base,sz⟩:=l;rw [hl] at h5;exact ⟨_,h5.1⟩
 ·refine ⟨v,fun w' _=>run v hv (.inr ?_) w', h3⟩
  cases h3;exact ⟨_,_,_,rfl⟩
 ·exact h2.elim
theorem Wf : ∀ (l : List Value) (off k : Nat) (cells : List Value), off + k + l.length ≤ cells.length →
    ((l.zipIdx k).foldl (fun cs (c,j)=>cs.setIfInBounds (off+j) c) cells.toArray)=(cells.take (off+k)++l++cells.drop (off+k+l.length)).toArray
 | [],off,k,cells,_=>by simp
 | v :: l,off,k,cells,h=>by
  simp only [List.length_cons] at h
  simp only [List.zipIdx_cons,List.foldl_cons,List.setIfInBounds_toArray]
  rw [Wf l off (k+1) (cells.set (off+k) v) (by simp;omega)]
  congr 1
  rw [show off+(k+1)=off+k+1 by omega,List.take_succ_eq_append_getElem (by simp;omega),List.take_set_of_le (Nat.le_refl _)]
  simp only [List.getElem_set_self,List.append_assoc,List.singleton_append,List.length_cons]
  rw [List.drop_set_of_lt (by omega)]
  congr 2
  rw [show off+k+1+l.length=off+k+(l.length+1) by omega]
theorem P4 (hR : R N g F H a w) : ∀ (parts : List (Nat × Operand)) (pl : List (Nat × Nat × AX)) (place : Nat → Option (Nat × Nat)) (cs : List AV) (us : List Value),
    pl.length=parts.length→(∀ m (h:m<parts.length) (h' : m<pl.length),place parts[m].1=some (pl[m].1,pl[m].2.1)∧pl[m].2.2=cX parts[m].2)→Mz F cs.length pl→us.length=cs.length →
    (∀ m (h:m<cs.length),Rd w (g.tr H) g.G cs[m] (us.getD m undef) []) →
    ∃ us' : List Value,Instr.fill place us.toArray (parts.map fun (i,x)=>(i,a.eval x))=some us'.toArray∧us'.length=cs.length∧(Hv F cs pl).length=cs.length∧∀ m (h:m<(Hv F cs pl).length),Rd w (g.tr H) g.G (Hv F cs pl)[m] (us'.getD m undef) []
 | [],pl,place,cs,us,hpl,_,_,hus,hr=>by
  obtain rfl:pl=[]:=List.eq_nil_of_length_eq_zero (by simpa using hpl)
  exact ⟨us,rfl,hus,rfl,hr⟩
 | (i,x) :: parts,pl,place,cs,us,hpl,hp,hok,hus,hr=>by
  cases pl with
  | nil=>cases hpl
  | cons q pl=>
   obtain ⟨off,m,y⟩:=q
   obtain ⟨hp0,hy⟩:=hp 0 (by simp) (by simp)
   simp only [List.getElem_cons_zero] at hp0 hy
   subst hy
   obtain ⟨⟨h0,h1⟩,h2⟩:=hok
   split at h1
   ·rename_i vs hvs
    obtain ⟨hvl,hle⟩:=h1
    obtain ⟨h3,h4⟩:=Qg (At hR x h0) hvs
    have hsp:Fb cs off vs=cs.take off++vs++cs.drop (off+vs.length):=aC (by omega)
    have hlen:(Fb cs off vs).length=cs.length:=by rw [hsp];simp;omega
    let us1:=us.take off++(a.eval x).cells.toList++us.drop (off+(a.eval x).cells.toList.length)
    have hc:(a.eval x).cells.toList.length=vs.length:=by simpa using h3
    have hl1:us1.length=us.length:=by simp only [us1,List.length_append,List.length_take,List.length_drop,hc];omega
    have hf:((a.eval x).cells.zipIdx.foldl (fun cs (c,j)=>cs.setIfInBounds (off+j) c) us.toArray)=us1.toArray:=by
     have:=Wf (a.eval x).cells.toList off 0 us (by omega)
     simp only [Nat.add_zero] at this
     rw [← this,← Array.foldl_toList]
     simp
    obtain ⟨us', g1,g2,g3,g4⟩:=P4 hR parts pl place (Fb cs off vs) us1 (by simpa using hpl) (fun k hk hk' => by have:=hp (k+1) (by simpa using hk) (by simpa using hk');simpa using this) (by rw [hlen];exact h2) (by rw [hl1,hlen,hus])
     (fun k hk=>by
      rw [hlen] at hk
      by_cases c1:k<off
      ·have e1 : (Fb cs off vs)[k]'(by omega) = cs[k] := by
         simp only [hsp];rw [List.getElem_append_left (by simp;omega),List.getElem_append_left (by simp;omega),List.getElem_take]
       have e2:us1.getD k undef=us.getD k undef:=by
        simp only [us1,List.getD_eq_getElem?_getD];rw [List.append_assoc,List.getElem?_append_left (by simp;omega),List.getElem?_take_of_lt c1]
       rw [e1,e2];exact hr k hk
      ·by_cases c2:k<off+vs.length
       ·have e1 : (Fb cs off vs)[k]'(by omega) = vs[k - off] := by
          simp only [hsp];rw [List.getElem_append_left (by simp;omega),List.getElem_append_right (by simp;omega)];congr 1;simp;omega
        have e2:us1.getD k undef=(a.eval x).cells.getD (k - off) undef:=by
         simp only [us1,List.getD_eq_getElem?_getD]
         rw [List.append_assoc,List.getElem?_append_right (by simp;omega),List.getElem?_append_left (by simp;omega)]
         simp only [List.length_take,Array.getD_eq_getD_getElem?,Array.getElem?_toList]
         rw [show k - min off us.length=k - off by omega]
        rw [e1,e2];exact h4 _ _
       ·have e1 : (Fb cs off vs)[k]'(by omega) = cs[k] := by
          simp only [hsp];rw [List.getElem_append_right (by simp;omega),List.getElem_drop];congr 1;simp;omega
        have e2:us1.getD k undef=us.getD k undef:=by
         simp only [us1,List.getD_eq_getElem?_getD]
         rw [List.getElem?_append_right (by simp;omega),List.getElem?_drop]
         simp only [List.length_append,List.length_take,hc]
         rw [show off+vs.length+(k - (min off us.length+vs.length))=k by omega]
        rw [e1,e2];exact hr k hk)
    refine ⟨us', ?_,by rw [g2,hlen],?_,?_⟩
    ·simp only [List.map_cons,Instr.fill,hp0]
     rw [if_neg (by
      have e1:(a.eval x).cells.size=m:=by omega
      simp [e1];omega)]
     rw [hf]
     exact g1
    ·simp only [Hv,hvs,Option.getD_some];rw [g3,hlen]
    ·simp only [Hv,hvs,Option.getD_some];exact g4
   ·exact h1.elim
theorem Zh:∀ (fs:List Field),fs.all (fun f=>(P.info? f.type).isSome)=true→∀ w', (fs.mapM fun f=>do pure (f.offset,← sizeOf f.type):Sem (List (Nat×Nat))).run P w' = .ok (fs.map fun f=>(f.offset,((P.info? f.type).map (·.size)).getD 0)) w'
 | [],_,w' => rfl
 | f :: fs,h,w' => by
  simp only [List.all_cons,Bool.and_eq_true] at h
  obtain ⟨i,hi⟩:=Option.isSome_iff_exists.1 h.1
  have e1:(do pure (f.offset,← sizeOf f.type):Sem (Nat×Nat)).run P w' = .ok (f.offset,i.size) w' := by simp [sizeOf,typeInfo,hi]
  rw [List.mapM_cons,Cc e1,Cc (Zh fs h.2 w')]
  simp [hi]
theorem Zg {fs:Array Field}:∀ (parts:List (Nat×AX)) (pl:List (Nat×Nat×AX)),Kn P fs parts=some pl→pl.length=parts.length∧∀ m (h:m<parts.length) (h' : m<pl.length),((fs.map fun f=>(f.offset,((P.info? f.type).map (·.size)).getD 0))[parts[m].1]?:Option (Nat×Nat))=some (pl[m].1,pl[m].2.1)∧pl[m].2.2=parts[m].2
 | [],pl,h=>by
  simp only [Kn,Option.some.injEq] at h
  subst h
  exact ⟨rfl,fun m h=>by simp at h⟩
 | (i,x) :: r,pl,h=>by
  simp only [Kn] at h
  split at h
  ·rename_i f l hf hl
   split at h
   ·rename_i j hj
    obtain rfl:=Option.some.inj h
    obtain ⟨h1,h2⟩:=Zg r l hl
    refine ⟨by simp [h1],fun m hm hm' => ?_⟩
    cases m with
    | zero=>simp [hf,hj]
    | succ m=>simpa using h2 m (by simpa using hm) (by simpa using hm')
   ·cases h
  ·cases h
theorem tI {o : Oper} {t : TypeId} {fs : Array Field} {z : Value} {parts : Array (Nat × Operand)} {pl : List (Nat × Nat × AX)} (hR : R N g F H a w) (hop : o.op = .build t parts) (ht : P.underlying t = some (.struct fs)) (hz : (P.info? t).bind (·.zero) = some z)
    (hall:fs.toList.all (fun f=>(P.info? f.type).isSome)=true) (hpl:Kn P fs (parts.toList.map fun (i,x)=>(i,cX x))=some pl) (hq:A5 (.bld z.cells.toList pl) F H):Bj P a w g H o (Am (.bld z.cells.toList pl) F H):=by
 obtain ⟨hok,hone⟩:=hq
 obtain ⟨i,hi,hz'⟩:=Option.bind_eq_some_iff.1 hz
 obtain ⟨h1,h2⟩:=Zg _ _ hpl
 obtain ⟨us', g1,g2,g3,g4⟩:=P4 hR parts.toList pl (fun i=>(fs.map fun f=>(f.offset,((P.info? f.type).map (·.size)).getD 0))[i]?) (z.cells.toList.map .val) z.cells.toList (by simpa using h1)
  (fun m hm hm' => by
   have:=h2 m (by simpa using hm) hm'
   simpa using this) (by simpa using hok) (by simp) (fun m hm=>by
   simp only [List.length_map,Array.length_toList] at hm
   simp [hm];exact .val)
 refine ⟨.agg us'.toArray,fun w' _=>?_,?_⟩
 ·have hz0:∀ w', (zeroValue t).run P w' = .ok z w' := fun w' => by simp [zeroValue,typeInfo,hi,hz']
  have hm:(fs.mapM fun f=>do pure (f.offset,← sizeOf f.type):Sem (Array (Nat×Nat))).run P w' = .ok (fs.map fun f=>(f.offset,((P.info? f.type).map (·.size)).getD 0)) w' := by
   rw [Array.mapM_eq_mapM_toList,Sem.run_map,Zh _ hall]
   simp only [Result.andThen_ok]
   congr 1
   apply Array.ext'
   simp
  have hpp:(parts.map fun (i,x)=>(i,a.eval x)).toList=parts.toList.map fun (i,x)=>(i,a.eval x):=by simp
  simp only [execOp,hop,Instr.build,Sem.run_bind,hz0,Result.andThen_ok,run_underlying ht,hm,hpp]
  simp only [Array.toArray_toList] at g1
  rw [g1]
  rfl
 ·simp only [Am]
  refine .agg (by simp [g3,g2]) fun m hm=>?_
  have:=g4 m hm
  rwa [show us'.toArray.getD m undef=us'.getD m undef by simp [List.getD]]
theorem tJ {o : Oper} {t e : TypeId} {n : Nat} {j : TypeInfo} {z : Value} {parts : Array (Nat × Operand)} (hR : R N g F H a w) (hop : o.op = .build t parts) (ht : P.underlying t = some (.array n e)) (hz : (P.info? t).bind (·.zero) = some z)
    (hj:P.info? e=some j) (hq:A5 (.bld z.cells.toList (parts.toList.map fun (i,x)=>(i*j.size,j.size,cX x))) F H):Bj P a w g H o (Am (.bld z.cells.toList (parts.toList.map fun (i,x)=>(i*j.size,j.size,cX x))) F H):=by
 obtain ⟨hok,hone⟩:=hq
 obtain ⟨i,hi,hz'⟩:=Option.bind_eq_some_iff.1 hz
 obtain ⟨us', g1,g2,g3,g4⟩:=P4 hR parts.toList (parts.toList.map fun (i,x)=>(i*j.size,j.size,cX x)) (fun i=>some (i*j.size,j.size)) (z.cells.toList.map .val) z.cells.toList (by simp)
  (fun m hm hm' => by simp) (by simpa using hok) (by simp) (fun m hm=>by
   simp only [List.length_map,Array.length_toList] at hm
   simp [hm];exact .val)
 refine ⟨.agg us'.toArray,fun w' _=>?_,?_⟩
 ·have hz0:∀ w', (zeroValue t).run P w' = .ok z w' := fun w' => by simp [zeroValue,typeInfo,hi,hz']
  have hs0:∀ w', (sizeOf e).run P w' = .ok j.size w' := fun w' => by simp [sizeOf,typeInfo,hj]
  have hpp:(parts.map fun (i,x)=>(i,a.eval x)).toList=parts.toList.map fun (i,x)=>(i,a.eval x):=by simp
  simp only [execOp,hop,Instr.build,Sem.run_bind,hz0,Result.andThen_ok,run_underlying ht,hs0,hpp]
  simp only [Array.toArray_toList] at g1
  rw [g1]
  rfl
 ·simp only [Am]
  refine .agg (by simp [g3,g2]) fun m hm=>?_
  have:=g4 m hm
  rwa [show us'.toArray.getD m undef=us'.getD m undef by simp [List.getD]]
theorem Ru {ft:TypeId}{d:TypeDesc}{cs:Array Value}{off:Nat}(hd:P.underlying ft=some d)(hg:B7 (some d)=false)(hlt:off<cs.size)(w' : World):(part ft cs off).run P w' = .ok (cs.getD off undef) w' := by
 have hagg:(isAgg ft).run P w' = .ok false w' := by
  unfold isAgg
  rw [Cc (run_underlying hd w')]
  cases d<;>first | rfl | (simp [B7] at hg)
 unfold part
 rw [Cc hagg]
 simp [hlt]
theorem tO {o : Oper} {x : Operand} {t ft : TypeId} {j off : Nat} {d : TypeDesc} (hR : R N g F H a w) (hop : o.op = .field t x j) (hf : Hz P t j = some (off, ft)) (hd : P.underlying ft = some d) (hg : B7 (some d) = false) (hq : A5 (.fldv off (cX x)) F H) :
    Bj P a w g H o (Am (.fldv off (cX x)) F H):=by
 obtain ⟨h1,h2⟩:=hq
 have h3:=At hR x h1
 unfold Hz at hf
 split at hf
 ·rename_i fs hfs
  rw [Option.map_eq_some_iff] at hf
  obtain ⟨f,hff,he⟩:=hf
  simp only [Prod.mk.injEq] at he
  obtain ⟨rfl,rfl⟩:=he
  generalize hxe:st (ax F (cX x))=vx at h2 h3
  have e:∀ cs,vx = .agg cs→Am (.fldv f.offset (cX x)) F H=cs.getD f.offset .any:=fun cs hcs=>by simp only [Am,hxe,hcs]
  split at h2
  ·rename_i cs
   rw [e cs rfl]
   generalize hv:a.eval x=v at h3
   cases h3 with
   | agg hl hr=>
    rename_i vs
    refine ⟨vs.getD f.offset undef,fun w' _=>?_,?_⟩
    ·simp [execOp,hop,hv,Instr.field,run_underlying hfs,hff,asAgg,Ru hd hg (by omega:f.offset<vs.size)]
    ·have:=hr f.offset h2
     rwa [show cs.getD f.offset .any=cs[f.offset] by simp [h2]]
  ·exact h2.elim
 ·cases hf
theorem tE {o : Oper} {x y : Operand} {t e : TypeId} {n : Nat} {i : TypeInfo} (hR : R N g F H a w) (hop : o.op = .indexAddr t x y) (ht : P.underlying t = some (.array n e)) (hi : P.info? e = some i) (hq : A5 (.adx n i.size (cX x) (cX y)) F H) :
    Bj P a w g H o (Am (.adx n i.size (cX x) (cX y)) F H):=by
 obtain ⟨h1,h2,h3⟩:=hq
 have hx:=At hR x h1
 have hy:=At hR y h2
 have run:∀ b o' kk m,a.eval x = .pointer (some ⟨b,o', none⟩)→a.eval y = .int kk m→0≤m→m<(n:Int)→∀ w', (execOp a.eval o).run P w' = .ok (.value (.pointer (some ⟨b,o' + m.toNat*i.size,none⟩))) w' := by
  intro b o' kk m hvx hvy hm0 hm1 w'
  have hsize:∀ w'', (sizeOf e).run P w'' = .ok i.size w'' := fun w'' => by simp [sizeOf,typeInfo,hi]
  simp [execOp,hop,hvx,hvy,Instr.indexAt,Instr.sureAddr,asIntOf,run_underlying ht,hm0,hm1,hsize,Et]
 simp only [Am]
 generalize hxe:st (ax F (cX x))=vx at h3 hx
 generalize hye:st (ax F (cX y))=vy at h3 hy
 split at h3
 ·rename_i cs j' kk m
  have hvy:=hy.val_inv.1
  generalize hvx:a.eval x=v at hx
  cases hx with
  | pto u hG hc hr=>exact ⟨_,fun w' _=>run _ _ _ _ hvx hvy h3.1 h3.2 w', by rw [Nat.add_assoc];exact .pto u hG hc hr⟩
 ·rename_i o' j' kk m
  obtain ⟨hal,hm0,hm1⟩:=h3
  obtain ⟨cs,ho'⟩:=Jx hal
  have hvy:=hy.val_inv.1
  cases hx with
  | ref h00 hv0 h4=>
   have h5:=h4 _ (Gh.tr_some (g:=g) ho')
   dsimp only at h5
   cases hl:g.ρ o' with
   | none=>rw [hl] at h5;exact h5.elim
   | some l=>
    obtain ⟨b,base,sz⟩:=l
    rw [hl] at h5
    refine ⟨_,fun w' _=>run b (base+j') _ _ h5.1 hvy hm0 hm1 w', .ref h00 rfl fun l' hl' => ?_⟩
    rw [Gh.tr_some ho'] at hl'
    obtain rfl:=Option.some.inj (Option.some.inj hl')
    rw [hl]
    exact ⟨by simp [Nat.add_assoc],h5.2⟩
 ·exact h3.elim
theorem tF {o : Oper} {x y : Operand} {t e : TypeId} {n : Nat} {d : TypeDesc} {i : TypeInfo} (hR : R N g F H a w) (hop : o.op = .index t x y) (ht : P.underlying t = some (.array n e)) (hd : P.underlying e = some d) (hi : P.info? e = some i) (hg : B7 (some d) = true) (hq : A5 (.aidx n i.size (cX x) (cX y)) F H) :
    Bj P a w g H o (Am (.aidx n i.size (cX x) (cX y)) F H):=by
 obtain ⟨h1,h2,h3⟩:=hq
 have hx:=At hR x h1
 have hy:=At hR y h2
 have hagg:∀ w', (isAgg e).run P w' = .ok true w' := fun w' => by
  unfold isAgg
  rw [Cc (run_underlying hd w')]
  cases d<;>first | rfl | (simp [B7] at hg)
 simp only [Am]
 generalize hxe:st (ax F (cX x))=vx at h3 hx
 generalize hye:st (ax F (cX y))=vy at h3 hy
 split at h3
 ·rename_i cs kk m
  obtain ⟨hm0,hm1,hm2⟩:=h3
  have hvy:=hy.val_inv.1
  generalize hvx:a.eval x=v at hx
  cases hx with
  | agg hl hr=>
   rename_i vs
   refine ⟨.agg (vs.extract (m.toNat*i.size) (m.toNat*i.size+i.size)),fun w' _=>?_,?_⟩
   ·simp [execOp,hop,hvx,hvy,Instr.index,asIntOf,run_underlying ht,hm0,hm1,part,hagg,sizeOf,typeInfo,hi]
   ·refine .agg (by simp;omega) fun q hq=>?_
    simp only [List.length_take,List.length_drop] at hq
    simp only [List.getElem_take,List.getElem_drop]
    have:=hr (m.toNat*i.size+q) (by omega)
    rwa [show (vs.extract (m.toNat*i.size) (m.toNat*i.size+i.size)).getD q undef=vs.getD (m.toNat*i.size+q) undef by
     have h1:m.toNat*i.size+q<vs.size:=by omega
     have h2:q<min (m.toNat*i.size+i.size) vs.size - m.toNat*i.size:=by omega
     simp [Array.getElem?_extract,h1,h2]]
 ·exact h3.elim
theorem tP {o : Oper} {x : Operand} {t ft : TypeId} {j off : Nat} {d : TypeDesc} {i : TypeInfo} (hR : R N g F H a w) (hop : o.op = .field t x j) (hf : Hz P t j = some (off, ft)) (hd : P.underlying ft = some d) (hi : P.info? ft = some i) (hg : B7 (some d) = true) (hq : A5 (.fldvs off i.size (cX x)) F H) :
    Bj P a w g H o (Am (.fldvs off i.size (cX x)) F H):=by
 obtain ⟨h1,h2⟩:=hq
 have h3:=At hR x h1
 unfold Hz at hf
 split at hf
 ·rename_i fs hfs
  rw [Option.map_eq_some_iff] at hf
  obtain ⟨f,hff,he⟩:=hf
  simp only [Prod.mk.injEq] at he
  obtain ⟨rfl,rfl⟩:=he
  generalize hxe:st (ax F (cX x))=vx at h2 h3
  have e:∀ cs,vx = .agg cs→Am (.fldvs f.offset i.size (cX x)) F H = .agg ((cs.drop f.offset).take i.size):=fun cs hcs=>by simp only [Am,hxe,hcs]
  have hagg:∀ w', (isAgg f.type).run P w' = .ok true w' := fun w' => by
   unfold isAgg
   rw [Cc (run_underlying hd w')]
   cases d<;>first | rfl | (simp [B7] at hg)
  split at h2
  ·rename_i cs
   rw [e cs rfl]
   generalize hv:a.eval x=v at h3
   cases h3 with
   | agg hl hr=>
    rename_i vs
    refine ⟨.agg (vs.extract f.offset (f.offset+i.size)),fun w' _=>?_,?_⟩
    ·simp [execOp,hop,hv,Instr.field,run_underlying hfs,hff,asAgg,part,hagg,sizeOf,typeInfo,hi]
    ·refine .agg (by simp;omega) fun m hm=>?_
     simp only [List.length_take,List.length_drop] at hm
     simp only [List.getElem_take,List.getElem_drop]
     have:=hr (f.offset+m) (by omega)
     rwa [show (vs.extract f.offset (f.offset+i.size)).getD m undef=vs.getD (f.offset+m) undef by
      have h1:f.offset+m<vs.size:=by omega
      have h2:m<min (f.offset+i.size) vs.size - f.offset:=by omega
      simp [Array.getElem?_extract,h1,h2]]
  ·exact h2.elim
 ·cases hf
/-! ### Equality of pairs -/
theorem Z1 {t:TypeId}(d:Nat)(ht:P.underlying t=some (.int .i64))(x y:Int)(w:World):(Op.equalIn (d+1) t (.int .i64 x) (.int .i64 y)).run P w = .ok (x == y) w:=by
 rw [Op.equalIn,Cc (run_underlying ht w)]
 rfl
theorem Ze {t:TypeId}(h:Km P t=true):∃ (f g:Field) (fs:Array Field),P.underlying t=some (.struct fs)∧fs = #[f,g]∧f.name ≠ "_" ∧ g.name ≠ "_" ∧ f.offset=0∧g.offset=1∧P.underlying f.type=some (.int .i64)∧P.underlying g.type=some (.int .i64)∧P.stoodInHeld t=false∧P.eqGuardType P.depth t=false:=by
 unfold Km at h
 split at h
 ·rename_i fs hfs
  split at h
  ·rename_i f g hfg
   simp only [Bool.and_eq_true,bne_iff_ne,beq_iff_eq,Bool.not_eq_true'] at h
   obtain ⟨⟨⟨⟨⟨⟨h1,h2⟩,h3⟩,h4⟩,h5⟩,h6⟩,h7⟩:=h
   split at h5
   ·rename_i ha hb
    exact ⟨f,g,fs,hfs,by rw [← Array.toArray_toList (xs:=fs),hfg],h1,h2,h3,h4,ha,hb,h6,h7⟩
   ·cases h5
  ·cases h
 ·cases h
theorem vO {t:TypeId}(h:Km P t=true)(a b c d:Int)(w:World):(Op.equal t (.agg #[.int .i64 a,.int .i64 b]) (.agg #[.int .i64 c,.int .i64 d])).run P w = .ok (a == c&&b == d) w:=by
 obtain ⟨f,g,fs,ht,rfl,h1,h2,h3,h4,h5,h6,h7,h8⟩:=Ze h
 show (Op.equalIn (9999+1) t _ _).run P w=_
 rw [Op.equalIn,Cc (run_underlying ht w)]
 have e1:∀ u v:Int,∀ w', (part f.type #[.int .i64 u,.int .i64 v] f.offset).run P w' = .ok (.int .i64 u) w' := fun u v w' => by
  rw [h3];exact Ru (off:=0) h5 rfl (by simp) w'
 have e2:∀ u v:Int,∀ w', (part g.type #[.int .i64 u,.int .i64 v] g.offset).run P w' = .ok (.int .i64 v) w' := fun u v w' => by
  rw [h4];exact Ru (off:=1) h6 rfl (by simp) w'
 simp [h1,h2,h7,e1,e2,Z1 9998 h5,Z1 9998 h6]
 by_cases ha:a=c<;>by_cases hb:b=d<;>simp [ha,hb]
theorem Zf {tr:Nat→Option (Option A2)}{G:Nat→Prop}{a b:Int}{v:Value}(h:Rd w tr G (.agg [i64 a,i64 b]) v []):v = .agg #[.int .i64 a,.int .i64 b]:=by
 cases h with
 | agg hl hr=>
  rename_i vs
  have h0:=(hr 0 (by simp)).val_inv.1
  have h1:=(hr 1 (by simp)).val_inv.1
  have e:vs = #[vs.getD 0 undef,vs.getD 1 undef]:=by
   refine Array.ext (by simpa using hl.symm) fun i hi hi' => ?_
   have:i<2:=by simpa using hi'
   rcases i with _ | _ | i
   ·simp [hi]
   ·simp [hi]
   ·omega
  rw [e,h0,h1]
theorem tL {o : Oper} {op : BinOp} {x y : Operand} {t t' : TypeId} {n : Bool} (hR : R N g F H a w) (hop : o.op = .binOp op t x y t') (hp : Km P t = true) (hn : op = if n then .neq else .eql) (hq : A5 (.eqp n (cX x) (cX y)) F H) :
    Bj P a w g H o (Am (.eqp n (cX x) (cX y)) F H):=by
 obtain ⟨h1,h2,h3⟩:=hq
 have hx:=At hR x h1
 have hy:=At hR y h2
 simp only [Am]
 generalize st (ax F (cX x))=vx at h3 hx
 generalize st (ax F (cX y))=vy at h3 hy
 split at h3
 ·rename_i a' b' c' d'
  have hvx:=Zf hx
  have hvy:=Zf hy
  obtain ⟨_,_,_,_,_,_,_,_,_,_,_,_,h8⟩:=Ze hp
  have hg:∀ w', (eqGuard op t x y (.agg #[.int .i64 a', .int .i64 b']) (.agg #[.int .i64 c', .int .i64 d'])).run P w' = .ok () w' := fun w' => by
   subst hn
   cases n<;>simp [eqGuard,h8]
  have he:=vO hp a' b' c' d'
  cases n with
  | false=>
   simp only [Bool.false_eq_true,if_false] at hn
   subst hn
   refine ⟨_,fun w' _=>?_,.val⟩
   simp only [execOp,hop,hvx,hvy,Sem.run_bind,hg,Result.andThen_ok,binOp,he,Sem.run_pure]
  | true=>
   simp only [if_true] at hn
   subst hn
   refine ⟨_,fun w' _=>?_,.val⟩
   simp only [execOp,hop,hvx,hvy,Sem.run_bind,hg,Result.andThen_ok,binOp,he,Sem.run_pure]
 ·exact h3.elim
/-! ### Maps -/
theorem N5 {t e:TypeId}{kk:Option IntKind}(h:I1 P t=some (kk,e)):∃ k,P.underlying t=some (.map k e)∧Hd P k=some kk:=by
 unfold I1 at h
 split at h
 ·rename_i k e' hk
  rw [Option.map_eq_some_iff] at h
  obtain ⟨kk', h1,h2⟩:=h
  simp only [Prod.mk.injEq] at h2
  obtain ⟨rfl,rfl⟩:=h2
  exact ⟨k,hk,h1⟩
 ·cases h
theorem E4 {t:TypeId}{f:Option IntKind→AV→AOp}{x:AOp}(h:I2 P t f=some x):∃ kk k e i z,P.underlying t=some (.map k e)∧Hd P k=some kk∧P.info? e=some i∧i.zero=some z∧x=f kk (Jk z):=by
 unfold I2 at h
 split at h
 ·rename_i kk e hm
  obtain ⟨k,h1,h2⟩:=N5 hm
  split at h
  ·rename_i z hz
   obtain ⟨i,hi,hz'⟩:=Option.bind_eq_some_iff.1 hz
   exact ⟨kk,k,e,i,z,h1,h2,hi,hz', (Option.some.inj h).symm⟩
  ·cases h
 ·cases h
def N3:Option IntKind→TypeDesc→Prop
 | some q,d=>d = .int q
 | none,d=>d = .string
theorem Q6 {k:TypeId}{kk:Option IntKind}(h:Hd P k=some kk):∃ d,P.underlying k=some d∧N3 kk d:=by
 unfold Hd at h
 split at h
 ·rename_i q hq;obtain rfl:=Option.some.inj h;exact ⟨_,hq,rfl⟩
 ·rename_i hq;obtain rfl:=Option.some.inj h;exact ⟨_,hq,rfl⟩
 ·cases h
theorem Kq {kk:Option IntKind}{d:TypeDesc}{kt:TypeId}{k:Value}(hd:P.underlying kt=some d)(hkd:N3 kk d)(hk:Ee kk k=true)(e:Bool)(n:Nat)(w:World):(Instr.checkKey e (n+1) kt k).run P w = .ok () w:=by
 unfold Instr.checkKey
 simp only [Sem.run_bind,run_underlying hd,Result.andThen]
 cases kk<;>cases hkd<;>cases k<;>simp_all [Ee]
theorem Kr {kt:TypeId}{d:TypeDesc}{k:Value}{l:List MapEntry}{r:Option (Nat×Value)}(hd:P.underlying kt=some d)(h:Instr.findNow d k l 0=some r)(w:World):(Instr.findKey kt k l).run P w = .ok r w:=by
 simp [Instr.findKey,run_underlying hd,Result.andThen,h]
theorem vQ {kk:Option IntKind}{d:TypeDesc}{k l:Value}(hkd:N3 kk d)(hk:Ee kk k=true)(hl:Ee kk l=true):Instr.sameNow d k l=some (E3 k l)∧(E3 k l=true→l=k):=by
 cases kk with
 | none=>
  cases hkd
  cases k<;>first | cases hk | skip
  cases l<;>first | cases hl | skip
  exact ⟨rfl,fun h=>by simp only [E3] at h;rw [(Go.MapKept.bytes_beq _ _).1 h]⟩
 | some q=>
  cases hkd
  cases k<;>first | cases hk | skip
  cases l<;>first | cases hl | skip
  simp only [Ee,decide_eq_true_eq] at hk hl
  subst hk;subst hl
  exact ⟨by simp [Instr.sameNow,E3],fun h=>by simp only [E3,beq_iff_eq] at h;rw [h]⟩
theorem Ng {tr:Nat→Option (Option A2)}{G:Nat→Prop}{b:Nat}{k:Value}{x:AV}{e:MapEntry}{bs:List Nat}(h:Rd w tr G (.ent b k x) (F8 e) bs):b=e.born∧k=e.key∧Rd w tr G x e.val bs:=by
 unfold F8 at h
 generalize hv:Value.tuple #[.int .i64 e.born,e.key,e.val]=v at h
 cases h with
 | ent h=>
  simp only [Value.tuple.injEq] at hv
  have hv' := congrArg Array.toList hv
  simp only [List.cons.injEq,and_true,Value.int.injEq,true_and] at hv'
  obtain ⟨h1,h2,h3⟩:=hv'
  exact ⟨by omega,h2.symm,h3 ▸ h⟩
def V1 (kk:Option IntKind)(l:List AV):Bool:=l.all fun x=>match x with
 | .ent _ k _=>Ee kk k
 | _=>false
theorem N9 {tr : Nat → Option (Option A2)} {G : Nat → Prop} {kk : Option IntKind} {d : TypeDesc} {k : Value} (hkd : N3 kk d) (hk : Ee kk k = true) : ∀ (cs : List AV) (es : List MapEntry) (i : Nat), V1 kk cs = true → cs.length = es.length →
    (∀ m (h:m<cs.length) e,es[m]? = some e→∃ bs,Rd w tr G cs[m] (F8 e) bs) →
    (E5 k cs=none→Instr.findNow d k es i=some none)∧∀ j b x,E5 k cs=some (j,b,x)→∃ e,es[j]? = some e∧Instr.findNow d k es i=some (some (i+j,e.val))∧cs[j]? = some (.ent b k x)∧e.key=k∧b=e.born
 | [],es,i,_,hl,_=>by
  obtain rfl:es=[]:=by cases es<;>simp_all
  exact ⟨fun _=>rfl,fun j b x h=>by cases h⟩
 | c :: cs,[],i,_,hl,_=>by simp at hl
 | c :: cs,e :: es,i,hall,hl,hr=>by
  simp only [V1,List.all_cons,Bool.and_eq_true] at hall
  obtain ⟨h1,h2⟩:=hall
  obtain ⟨bs,hr0⟩:=hr 0 (by simp) e (by simp)
  simp only [List.getElem_cons_zero] at hr0
  cases c<;>first | (cases h1;done) | skip
  rename_i b k' x
  obtain ⟨rfl,rfl,hx⟩:=Ng hr0
  dsimp only at h1
  obtain ⟨hs,he⟩:=vQ hkd hk h1
  have ih:=N9 hkd hk cs es (i+1) h2 (by simpa using hl) (fun m hm e' he' => by
   have:=hr (m+1) (by simpa using hm) e' (by simpa using he')
   simpa using this)
  simp only [E5,Instr.findNow,hs]
  by_cases hq:E3 k e.key=true
  ·simp only [hq,if_true]
   refine ⟨fun h=>(by cases h),fun j b' x' h=>?_⟩
   simp only [Option.some.injEq,Prod.mk.injEq] at h
   obtain ⟨rfl,rfl,rfl⟩:=h
   have hk' := he hq
   exact ⟨e,by simp,by simp,by simp [hk'],hk', rfl⟩
  ·simp only [show E3 k e.key=false by simpa using hq,Bool.false_eq_true,if_false]
   refine ⟨fun h=>ih.1 (by simpa using h),fun j b' x' h=>?_⟩
   rw [Option.map_eq_some_iff] at h
   obtain ⟨⟨j', b2,x2⟩,h3,h4⟩:=h
   simp only [Prod.mk.injEq] at h4
   obtain ⟨rfl,rfl,rfl⟩:=h4
   obtain ⟨e', g1,g2,g3,g4,g5⟩:=ih.2 _ _ _ h3
   exact ⟨e', by simpa using g1,by rw [g2];congr 3;omega,by simpa using g3,g4,g5⟩
theorem I3 (es:Array MapEntry)(clock:Nat):(Bo es clock).getD 0 undef = .int .i64 clock:=by
 have:(Bo es clock)[0]? = some (.int .i64 clock):=by unfold Bo;rw [Array.getElem?_append_left (by simp)];rfl
 simp [this]
theorem Hi (es:Array MapEntry)(clock m:Nat)(e:MapEntry)(h:es[m]? = some e):(Bo es clock).getD (m+1) undef=F8 e:=by
 obtain ⟨h1,h2⟩:=Array.getElem?_eq_some_iff.1 h
 have:(Bo es clock)[m+1]? = some (F8 e):=by
  unfold Bo
  rw [Array.getElem?_append_right (by simp)]
  simp [h]
 simp [Array.getD_eq_getD_getElem?,this]
theorem L0 (es:Array MapEntry)(clock:Nat):(Bo es clock).size=es.size+1:=by simp [Bo];omega
theorem mY (hp : HeapR g H w) {x : AV} {v : Value} (hr : Rd w (g.tr H) g.G x v []) {cs : List AV} (h : Ga H x = some cs) :
    ∃ (b:Nat) (es:Array MapEntry) (clock:Nat) (bss:Nat→List Nat),v = .map (some b)∧w.heap[b]? = some (.map es clock)∧cs.length=es.size+1∧∀ m (h:m<cs.length),Rd w (g.tr H) g.G cs[m] ((Bo es clock).getD m undef) (bss m):=by
 cases hr with
 | mpz hG hc hl hr=>
  simp only [Ga,Option.some.injEq] at h
  subst h
  exact ⟨_,_,_,fun _=>[],rfl,hc,by rw [hl,L0],hr⟩
 | mp h00 hv0 h1=>
  rename_i o
  simp only [Ga] at h
  split at h
  ·rename_i cs' hcs
   obtain rfl:=Option.some.inj h
   obtain ⟨r,hl,hv⟩:=(h1 _ (Gh.tr_some (g:=g) hcs)).inv
   dsimp only at hl
   obtain ⟨u,bss,⟨es,clock,hb,_,hu⟩,hr,_⟩:=(hl ▸ hp.obj o _ hcs:ObjR w (g.tr H) g.G _ (g.ob o) (some (r,1,0))).map
   have h0:=hr 0 (by simp)
   rw [hu] at h0
   simp only [List.getElem_cons_zero] at h0
   generalize bss 0=bs0 at h0
   cases h0 with
   | mpc bss' _ hl' hr' => exact ⟨r,es,clock,bss', hv,hb,by rw [hl', L0],hr'⟩
  ·cases h
 | _=>simp [Ga] at h
theorem Rc {tr : Nat → Option (Option A2)} {G : Nat → Prop} {cs : List AV} {es : Array MapEntry} {clock : Nat} {bss : Nat → List Nat} (hl : cs.length = es.size + 1) (hr : ∀ m (h : m < cs.length), Rd w tr G cs[m] ((Bo es clock).getD m undef) (bss m)) :
    (cs.drop 1).length=es.toList.length∧∀ m (h:m<(cs.drop 1).length) e,es.toList[m]? = some e→∃ bs,Rd w tr G (cs.drop 1)[m] (F8 e) bs:=by
 refine ⟨by simp;omega,fun m h e he=>⟨bss (m+1),?_⟩⟩
 have hm:m+1<cs.length:=by simp at h;omega
 have:=hr (m+1) hm
 rw [Hi es clock m e (by simpa using he)] at this
 simp only [List.getElem_drop]
 have e1:cs[1+m]'(by omega)=cs[m+1]:=by congr 1;omega
 rw [e1]
 exact this
theorem bL {tr:Nat→Option (Option A2)}{G:Nat→Prop}(z:Value):Rd w tr G (Jk z) z []:=by
 unfold Jk
 split
 ·refine .agg (by simp) (fun m hm=>?_)
  simp only [List.length_map,Array.length_toList] at hm
  simp [hm]
  exact .val
 ·exact .val
theorem tV {o : Oper} {m x : Operand} {t k e : TypeId} {kk : Option IntKind} {i : TypeInfo} {z : Value} {ok : Bool} (hR : R N g F H a w) (hop : o.op = .lookup t m x ok) (ht : P.underlying t = some (.map k e)) (hkk : Hd P k = some kk) (hi : P.info? e = some i) (hz : i.zero = some z)
    (hq:A5 (.lku kk ok (Jk z) (cX m) (cX x)) F H):Bj P a w g H o (Am (.lku kk ok (Jk z) (cX m) (cX x)) F H):=by
 obtain ⟨h1,h2,h3⟩:=hq
 have hm:=At hR m h1
 have hx:=At hR x h2
 obtain ⟨d,hd,hkd⟩:=Q6 hkk
 split at h3
 ·rename_i cs kv hcs hkv
  obtain ⟨hk,hks,hpl⟩:=h3
  rw [hkv] at hx
  have hxv:=hx.val_inv.1
  obtain ⟨b,es,clock,bss,hv,hb,hln,hr⟩:=mY hR.hp hm hcs
  obtain ⟨hl,hre⟩:=Rc hln hr
  have hf:=N9 (w:=w) hkd hk (cs.drop 1) es.toList 0 hks hl hre
  have hlt:b<w.heap.size:=(Array.getElem?_eq_some_iff.1 hb).1
  have hz0:∀ w', (zeroValue e).run P w' = .ok z w' := fun w' => by simp [zeroValue,typeInfo,hi,hz]
  simp only [Am,hcs,hkv]
  unfold Gb at *
  cases hmf:E5 kv (cs.drop 1) with
  | none=>
   have hfn:=hf.1 hmf
   refine ⟨if ok then .tuple #[z,.bool false] else z,fun w' hw=>?_,?_⟩
   ·have hb' : w'.heap[b]? = some (.map es clock):=(hw (by rw [hop];rfl) b hlt).trans hb
    have hg:(getObj b).run P w' = .ok (.map es clock) w' := by simp [getObj,Sem.run,hb']
    simp only [execOp,hop,hv,hxv,Instr.lookup,Sem.run_bind,run_underlying ht,Result.andThen_ok,hg,Sem.run_pure,Kq hd hkd hk,Kr hd hfn,hz0]
   ·simp only [hmf,Option.map_none]
    cases ok with
    | true=>
     refine .tup rfl (fun m hm=>?_)
     match m,hm with
     | 0,_=>exact bL z
     | 1,_=>exact .val
    | false=>exact bL z
  | some p=>
   obtain ⟨j,bn,y⟩:=p
   obtain ⟨en,g1,g2,g3,g4,g5⟩:=hf.2 j bn y hmf
   simp only [hmf,Option.map_some] at hpl ⊢
   have hy:Rd w (g.tr H) g.G y en.val []:=by
    have hj:j<(cs.drop 1).length:=by
     rcases Nat.lt_or_ge j (cs.drop 1).length with h | h
     ·exact h
     ·rw [List.getElem?_eq_none h] at g3;cases g3
    obtain ⟨bs,h5⟩:=hre j hj en g1
    have e1:(cs.drop 1)[j] = .ent bn kv y:=by
     rw [List.getElem?_eq_getElem hj] at g3
     exact Option.some.inj g3
    rw [e1] at h5
    obtain ⟨_,_,h6⟩:=Ng h5
    obtain rfl:=Oq hpl h6
    exact h6
   refine ⟨if ok then .tuple #[en.val,.bool true] else en.val,fun w' hw=>?_,?_⟩
   ·have hb' : w'.heap[b]? = some (.map es clock):=(hw (by rw [hop];rfl) b hlt).trans hb
    have hg:(getObj b).run P w' = .ok (.map es clock) w' := by simp [getObj,Sem.run,hb']
    simp only [execOp,hop,hv,hxv,Instr.lookup,Sem.run_bind,run_underlying ht,Result.andThen_ok,hg,Sem.run_pure,Kq hd hkd hk,Kr hd g2]
   ·cases ok with
    | true=>
     refine .tup rfl (fun m hm=>?_)
     match m,hm with
     | 0,_=>exact hy
     | 1,_=>exact .val
    | false=>exact hy
 ·exact h3.elim
end
section
variable {P:Program} {N:Nat} {g:Gh} {F:Frame} {H:Heap} {a:Act} {w:World}
theorem nT {cls:Nat}{op:BinOp}{y:AX}{n:Bool}(h:Kh cls op y=some n):cls=3∧op=(if n then .neq else .eql)∧y = .c .nilIface:=by
 unfold Kh at h
 split at h
 ·obtain rfl:=Option.some.inj h;exact ⟨rfl,rfl,rfl⟩
 ·obtain rfl:=Option.some.inj h;exact ⟨rfl,rfl,rfl⟩
 ·cases h
theorem uA {o : Oper} {op : BinOp} {x y : Operand} {t t' : TypeId} {n : Bool} (hR : R N g F H a w) (hop : o.op = .binOp op t x y t') (hn : Kh (Iq (P.underlying t)) op (cX y) = some n) (hq : A5 (.nif n (cX x)) F H) :
    Bj P a w g H o (Am (.nif n (cX x)) F H):=by
 obtain ⟨hcls,hop2,hy⟩:=nT hn
 obtain ⟨ms,ht⟩:∃ ms,P.underlying t=some (.interface ms):=by
  unfold Iq at hcls
  split at hcls<;>first | exact ⟨_,by assumption⟩ | omega
 have hy2:y = .const .nilIface:=by
  cases y with
  | const v=>simp only [cX,AX.c.injEq] at hy;rw [hy]
  | tmp=>cases hy
  | func=>cases hy
  | global=>cases hy
 subst hy2
 obtain ⟨h1,h3⟩:=hq
 have hx:=At hR x h1
 simp only [Am]
 have he:a.eval (.const .nilIface) = .nilIface:=rfl
 have eq1:∀ w', (Op.equal t .nilIface .nilIface).run P w' = .ok true w' := fun w' => by
  have h:∀ d:Nat,(Op.equalIn (d+1) t .nilIface .nilIface).run P w' = .ok true w' := fun d=>by simp [Op.equalIn,run_underlying ht]
  exact h 9999
 have eq2:∀ u v w', (Op.equal t (.iface u v) .nilIface).run P w' = .ok false w' := fun u v w' => by
  have h:∀ d:Nat,(Op.equalIn (d+1) t (.iface u v) .nilIface).run P w' = .ok false w' := fun d=>by simp [Op.equalIn,run_underlying ht]
  exact h 9999
 have b1:binOp .eql t .nilIface .nilIface=(do pure (Value.bool (← Op.equal t .nilIface .nilIface))):=rfl
 have b2:binOp .neq t .nilIface .nilIface=(do pure (Value.bool (!(← Op.equal t .nilIface .nilIface)))):=rfl
 have b3:∀ u v,binOp .eql t (.iface u v) .nilIface=(do pure (Value.bool (← Op.equal t (.iface u v) .nilIface))):=fun _ _=>rfl
 have b4:∀ u v,binOp .neq t (.iface u v) .nilIface=(do pure (Value.bool (!(← Op.equal t (.iface u v) .nilIface)))):=fun _ _=>rfl
 have g1:∀ op w', (eqGuard op t x (.const .nilIface) .nilIface .nilIface).run P w' = .ok () w' := fun op w' => by
  cases op<;>simp [eqGuard]
 have g2:∀ op u v w', (eqGuard op t x (.const .nilIface) (.iface u v) .nilIface).run P w' = .ok () w' := fun op u v w' => by
  cases op<;>simp [eqGuard]
 generalize hxe:st (ax F (cX x))=vx at h3 hx
 split at h3
 ·have hv:=hx.val_inv.1
  cases n with
  | false=>
   obtain rfl:op = .eql:=by simpa using hop2
   refine ⟨.bool true,fun w' _=>?_,.val⟩
   simp only [execOp,hop,hv,he,Sem.run_bind,g1,Result.andThen_ok,b1,eq1,Sem.run_pure]
  | true=>
   obtain rfl:op = .neq:=by simpa using hop2
   refine ⟨.bool false,fun w' _=>?_,.val⟩
   simp only [execOp,hop,hv,he,Sem.run_bind,g1,Result.andThen_ok,b2,eq1,Sem.run_pure,Bool.not_true]
 ·rename_i u v
  have hv:=hx.val_inv.1
  cases n with
  | false=>
   obtain rfl:op = .eql:=by simpa using hop2
   refine ⟨.bool false,fun w' _=>?_,.val⟩
   simp only [execOp,hop,hv,he,Sem.run_bind,g2,Result.andThen_ok,b3,eq2,Sem.run_pure]
  | true=>
   obtain rfl:op = .neq:=by simpa using hop2
   refine ⟨.bool true,fun w' _=>?_,.val⟩
   simp only [execOp,hop,hv,he,Sem.run_bind,g2,Result.andThen_ok,b4,eq2,Sem.run_pure,Bool.not_false]
 ·exact h3.elim
end
end Go.Gov
