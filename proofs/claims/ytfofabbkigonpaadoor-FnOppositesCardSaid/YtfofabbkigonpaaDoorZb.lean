/- Texts that belong together. -/
import Derived.Laws.MakeOwn
import Derived.Test.YtfofabbkigonpaaDoorZa
set_option linter.unusedSimpArgs false
set_option linter.unusedVariables false
namespace Go.Gov
section
variable {P:Program} {N:Nat} {g:Gh} {F:Frame} {H:Heap} {a:Act} {w:World}
theorem O2 (P : Program) (g o : Nat) (t : TypeId) (fz : Nat × Nat) : ∀ (vs : List Value) (i : Nat) (cur : Array Value) (w : World), w.heap[g]? = some (.cells cur t fz) → (fz.2 ≤ fz.1 ∨ cur.size ≤ fz.1) → o + i + vs.length ≤ cur.size → (∀ v ∈ vs, v.oneCell' = true) →
    (storeCells ⟨g,o,none⟩ vs i).run P w = .ok () (w.setRow g (cur.toList.take (o+i)++vs++cur.toList.drop (o+i+vs.length)).toArray)
 | [],i,cur,w,hg,_,_,_=>by
  simp only [storeCells,List.append_nil,List.length_nil,Nat.add_zero,List.take_append_drop,Array.toArray_toList]
  rw [setRow_self w g cur t fz hg]
  rfl
 | v :: rest,i,cur,w,hg,hfz,hl,h1=>by
  have hi:o+i<cur.size:=by simp at hl;omega
  have hadd:(⟨g,o,none⟩:Addr).add i=⟨g,o+i,none⟩:=by unfold Addr.add;split<;>simp_all
  have hcell:w.cell? ⟨g,o+i,none⟩=some cur[o+i]:=by simp [World.cell?,hg,hi]
  have hfro:w.frozen? ⟨g,o+i,none⟩=false:=by
   obtain ⟨lo,hi'⟩:=fz
   simp only [World.frozen?,hg,Bool.and_eq_false_iff,decide_eq_false_iff_not]
   simp only at hfz
   omega
  have hst:(store ((⟨g,o,none⟩:Addr).add i) v).run P w = .ok () (w.setRow g (cur.setIfInBounds (o+i) v)):=by
   rw [hadd,run_store P w _ v _ (h1 v (by simp)),hcell]
   simp [hfro,setCell_eq_setRow w g (o+i) cur t fz v hg]
  have ih:=O2 P g o t fz rest (i+1) (cur.setIfInBounds (o+i) v) (w.setRow g (cur.setIfInBounds (o+i) v)) (setRow_heap w g cur _ t _ hg) (by simpa using hfz) (by simp at hl ⊢;omega) (fun x hx=>h1 x (by simp [hx]))
  simp only [storeCells,Sem.run_bind,hst,Result.andThen_ok,ih,setRow_setRow]
  congr 3
  have e:=list_seg_step cur.toList (o+i) v rest (by simp at hl ⊢;omega)
  simpa [Array.toList_setIfInBounds,Nat.add_assoc] using e
structure Mv (g:Gh) (H:Heap) (w:World) (g' : Gh) (H' : Heap) (w' : World):Prop where
 hp:HeapR g' H' w'
 stp:Step w w' (g.owns H) (g'.owns H') g.G g'.G
 lift:∀ x v,Rd w (g.tr H) g.G x v []→Rd w' (g'.tr H') g'.G x v []
 trk:∀ o d,g.tr H o=some d→g'.tr H' o=some d∨g'.tr H' o=some none
theorem Mv.refl (hp:HeapR g H w):Mv g H w g H w:=⟨hp,Step.refl _ _ _,fun _ _ h=>h,fun _ _ h=>.inl h⟩
theorem Mv.trans {g' g'' : Gh}{H' H'' : Heap}{w' w'' : World}(h:Mv g H w g' H' w')(k:Mv g' H' w' g'' H'' w''):Mv g H w g'' H'' w'' :=
 ⟨k.hp,h.stp.trans k.stp,fun x v hx=>k.lift x v (h.lift x v hx),fun o d hd=>(h.trk o d hd).elim (fun h1=>k.trk o d h1) (fun h1=>.inr ((k.trk o none h1).elim id id))⟩
theorem Ky (g:Gh)(H:Heap)(o:Nat)(o' : Nat)(d:Option A2)(h:g.tr H o' = some d):g.tr (H.set o none) o' = some d∨g.tr (H.set o none) o' = some none:=by
 unfold Gh.tr at *
 by_cases e:o=o'
 ·subst e
  by_cases hlt:o<H.length
  ·right;simp [hlt]
  ·rw [List.getElem?_eq_none (by omega)] at h;cases h
 ·left;rw [List.getElem?_set_ne e];exact h
theorem Cs {H:Heap}{o o' : Nat}{cs:List AV}(h:(H.set o none)[o']? = some (some cs)):o' ≠ o∧H[o']? = some (some cs):=by
 by_cases e:o=o'
 ·subst e
  by_cases hlt:o<H.length
  ·simp [hlt] at h
  ·rw [List.getElem?_eq_none (by simp;omega)] at h;cases h
 ·rw [List.getElem?_set_ne e] at h;exact ⟨fun h=>e h.symm,h⟩
theorem Ly (hp:HeapR g H w)(o:Nat):HeapR g (H.set o none) w:=
 ⟨fun o' cs h=>(hp.obj o' cs (Cs h).2).mono (fun _ h=>h) (fun _ _=>rfl) (Ky g H o) (fun _ _=>rfl),
  fun o' cs h=>hp.nodup o' cs (Cs h).2,fun o1 o2 c1 c2 h1 h2=>hp.apart o1 o2 c1 c2 (Cs h1).2 (Cs h2).2,
  fun o' cs h=>hp.free o' cs (Cs h).2,hp.low⟩
theorem I0 {o:Nat}{x:AV}{v:Value}{bs:List Nat}(h:Rd w (g.tr H) g.G x v bs):Rd w (g.tr (H.set o none)) g.G x v bs:=
 h.mono (fun _ h=>h) (fun _ _=>rfl) (Ky g H o) (fun _ _=>rfl)
theorem Xd (hp:HeapR g H w)(o:Nat):Mv g H w g (H.set o none) w:=
 ⟨Ly hp o,⟨rfl,⟨rfl,Nat.le_refl _⟩,rfl,Nat.le_refl _,fun _ _ _=>rfl,fun b ⟨o', cs,h1,h2⟩=>.inl ⟨o', cs,(Cs h1).2,h2⟩,fun _ h=>h,fun _ h=>.inl h,fun _ _=>rfl⟩,fun _ _ h=>I0 h,Ky g H o⟩
def Gh.add (g:Gh)(n:Nat)(l:C6)(bs:List Nat):Gh:=⟨fun o=>if o=n then l else g.ρ o,fun o=>if o=n then bs else g.ob o,g.G⟩
theorem C8 {H:Heap}{x:Option (List AV)}{o:Nat}{cs:List AV}(h:(H++[x])[o]? = some (some cs)):(o<H.length∧H[o]? = some (some cs))∨(o=H.length∧x=some cs):=by
 rcases Nat.lt_trichotomy o H.length with hlt | rfl | hgt
 ·left;rw [List.getElem?_append_left hlt] at h;exact ⟨hlt,h⟩
 ·right;simp at h;exact ⟨rfl,h⟩
 ·rw [List.getElem?_eq_none (by simp;omega)] at h;cases h
theorem F0 (g:Gh)(H:Heap)(l:C6)(bs:List Nat)(x:Option (List AV))(o:Nat)(d:Option A2)(h:g.tr H o=some d):(g.add H.length l bs).tr (H++[x]) o=some d:=by
 have hlt:o<H.length:=by
  rcases Nat.lt_or_ge o H.length with h' | h'
  ·exact h'
  ·unfold Gh.tr at h;rw [List.getElem?_eq_none h'] at h;cases h
 unfold Gh.tr at *
 rw [List.getElem?_append_left hlt]
 simp only [Gh.add,if_neg (Nat.ne_of_lt hlt)]
 exact h
theorem Ym (hp : HeapR g H w) {w' : World} (hs : w.heap.size ≤ w'.heap.size) {b base sz : Nat} {cs : List AV} (u : Nat → Value) (bss : Nat → List Nat)
    (hkeep:∀ k,k<w.heap.size→k≠b→w'.heap[k]? = w.heap[k]?) (hblk:BlockAt w' b base sz cs.length u) (hr:∀ m (h:m<cs.length),Rd w (g.tr H) g.G cs[m] (u m) (bss m))
    (hfG:¬ g.G b) (hfO:∀ o cs,H[o]? = some (some cs)→b∉g.ob o) (hnd:(b :: (List.range cs.length).flatMap bss).Nodup)
    (hin:∀ b', b' ∈ (List.range cs.length).flatMap bss→¬ g.G b' ∧ ∀ o cs,H[o]? = some (some cs)→b' ∉ g.ob o):
    let g' := g.add H.length (some (b,base,sz)) (b :: (List.range cs.length).flatMap bss)
    HeapR g' (H++[some cs]) w' ∧ (∀ x v bs,b∉bs→Rd w (g.tr H) g.G x v bs→Rd w' (g'.tr (H++[some cs])) g'.G x v bs):=by
 intro g'
 have lift:∀ x v bs,b∉bs→Rd w (g.tr H) g.G x v bs→Rd w' (g'.tr (H++[some cs])) g'.G x v bs:=fun x v bs hnb h=>
  h.mono (fun _ h=>h) (fun b' hb' => hkeep b' (hp.low b' hb') (fun e=>hfG (e ▸ hb'))) (fun o d h=>.inl (F0 g H _ _ _ o d h)) (fun b' hb' => hkeep b' (h.lt b' hb') (fun e=>hnb (e ▸ hb')))
 refine ⟨⟨?_,?_,?_,?_,?_⟩,lift⟩
 ·intro o cs' ho
  rcases C8 ho with ⟨hlt,ho'⟩ | ⟨rfl,he⟩
  ·have h1:=hp.obj o cs' ho'
   have e1:g'.ρ o=g.ρ o:=by simp [g', Gh.add,Nat.ne_of_lt hlt]
   have e2:g'.ob o=g.ob o:=by simp [g', Gh.add,Nat.ne_of_lt hlt]
   rw [e1,e2]
   exact h1.mono (fun _ h=>h) (fun b' hb' => hkeep b' (hp.low b' hb') (fun e=>hfG (e ▸ hb'))) (fun o d h=>.inl (F0 g H _ _ _ o d h)) (fun b' hb' => hkeep b' (h1.all_lt b' hb') (fun e=>hfO o cs' ho' (e ▸ hb')))
  ·obtain rfl:=Option.some.inj he
   have e1:g'.ρ H.length=some (b,base,sz):=by simp [g', Gh.add]
   have e2:g'.ob H.length=b :: (List.range cs.length).flatMap bss:=by simp [g', Gh.add]
   rw [e1,e2]
   refine ⟨u,bss,hblk,fun m hm=>lift _ _ _ (fun hmem=>?_) (hr m hm),rfl⟩
   exact (List.nodup_cons.1 hnd).1 (List.mem_flatMap.2 ⟨m,List.mem_range.2 hm,hmem⟩)
 ·intro o cs' ho
  rcases C8 ho with ⟨hlt,ho'⟩ | ⟨rfl,he⟩
  ·simpa [g', Gh.add,Nat.ne_of_lt hlt] using hp.nodup o cs' ho'
  ·simpa [g', Gh.add] using hnd
 ·intro o o' c c' ho ho' hne b' hb1 hb2
  have key:∀ o c,o<H.length→H[o]? = some (some c)→b' ∈ g.ob o→b' ∉ b :: (List.range cs.length).flatMap bss:=fun o c hlt ho hb1' hb2=>by
   rcases List.mem_cons.1 hb2 with rfl | hb2
   ·exact hfO o c ho hb1'
   ·exact (hin b' hb2).2 o c ho hb1'
  rcases C8 ho with ⟨hlt,ho1⟩ | ⟨rfl,he⟩<;>rcases C8 ho' with ⟨hlt', ho1'⟩ | ⟨rfl,he'⟩
  ·simp only [g', Gh.add,Nat.ne_of_lt hlt,Nat.ne_of_lt hlt', if_false] at hb1 hb2
   exact hp.apart o o' c c' ho1 ho1' hne b' hb1 hb2
  ·simp only [g', Gh.add,Nat.ne_of_lt hlt,if_false,if_true] at hb1 hb2
   exact key o c hlt ho1 hb1 hb2
  ·simp only [g', Gh.add,Nat.ne_of_lt hlt', if_false,if_true] at hb1 hb2
   exact key o' c' hlt' ho1' hb2 hb1
  ·exact hne rfl
 ·intro o c ho b' hb'
  rcases C8 ho with ⟨hlt,ho1⟩ | ⟨rfl,he⟩
  ·simp only [g', Gh.add,Nat.ne_of_lt hlt,if_false] at hb'
   exact hp.free o c ho1 b' hb'
  ·simp only [g', Gh.add,if_true] at hb'
   rcases List.mem_cons.1 hb' with rfl | hb'
   ·exact hfG
   ·exact (hin b' hb').1
 ·exact fun b' hb' => Nat.lt_of_lt_of_le (hp.low b' hb') hs
theorem Of (hp : HeapR g H w) {w' : World} (hs : w.heap.size ≤ w'.heap.size) {b base sz : Nat} {arr : Array Value} {elem : EZ sz} {cs : List AV} (u : Nat → Value) (bss : Nat → List Nat)
    (hkeep:∀ k,k<w.heap.size→k≠b→w'.heap[k]? = w.heap[k]?) (hb:w'.heap[b]? = some (.cells arr elem.1.1 elem.1.2)) (hsz:arr.size=sz) (hbase:base+cs.length≤sz)
    (hc:∀ m,m<cs.length→arr[base+m]? = some (u m)) (hr:∀ m (h:m<cs.length),Rd w (g.tr H) g.G cs[m] (u m) (bss m))
    (hfG:¬ g.G b) (hfO:∀ o cs,H[o]? = some (some cs)→b∉g.ob o) (hnd:(b :: (List.range cs.length).flatMap bss).Nodup)
    (hin:∀ b', b' ∈ (List.range cs.length).flatMap bss→¬ g.G b' ∧ ∀ o cs,H[o]? = some (some cs)→b' ∉ g.ob o):
    let g' := g.add H.length (some (b,base,sz)) (b :: (List.range cs.length).flatMap bss)
    HeapR g' (H++[some cs]) w' ∧ (∀ x v bs,b∉bs→Rd w (g.tr H) g.G x v bs→Rd w' (g'.tr (H++[some cs])) g'.G x v bs):=
 Ym hp hs u bss hkeep (.inl ⟨arr,elem,hb,hsz,hbase,hc⟩) hr hfG hfO hnd hin
theorem Jw {l:C6}{bs:List Nat}{cs:List AV}{b' : Nat}(h:(g.add H.length l bs).owns (H++[some cs]) b'):g.owns H b' ∨ b' ∈ bs:=by
 obtain ⟨o,c,ho,hb⟩:=h
 rcases C8 ho with ⟨hlt,ho1⟩ | ⟨rfl,he⟩
 ·left;exact ⟨o,c,ho1,by simpa [Gh.add,Nat.ne_of_lt hlt] using hb⟩
 ·right;simpa [Gh.add] using hb
theorem flatMap_nil {n:Nat}:(List.range n).flatMap (fun _=>([]:List Nat))=[]:=by simp
theorem nQ (hp : HeapR g H w) {w' : World} (hw : ∀ k, k < w.heap.size → w'.heap[k]? = w.heap[k]?) (hs : w.heap.size ≤ w'.heap.size) (ho : w'.os = w.os) (ht : F5 w w') (hout : w'.output = w.output) (hfz : ∀ a, w'.frozen? a = w.frozen? a) {b base sz : Nat} (hbb : w.heap.size ≤ b) {cs : List AV} (u : Nat → Value)
    (hblk:BlockAt w' b base sz cs.length u) (hr:∀ m (h:m<cs.length),Rd w (g.tr H) g.G cs[m] (u m) []):
    ∃ g', Mv g H w g' (H++[some cs]) w' ∧ g'.ρ H.length=some (b,base,sz):=by
 have hnew:=Ym hp hs (cs:=cs) u (fun _=>[]) (fun k hk _=>hw k hk) hblk hr
  (fun hG=>absurd (hp.low _ hG) (by omega)) (fun o c h hm=>absurd ((hp.obj o c h).all_lt _ hm) (by omega)) (by rw [flatMap_nil];simp) (by rw [flatMap_nil];simp)
 refine ⟨_,⟨hnew.1,⟨ho,ht,hout,hs,fun k hk _=>hw k hk,fun k hk=>?_,fun _ h=>h,fun _ h=>.inl h,fun a _=>hfz a⟩,fun x v h=>hnew.2 x v [] (by simp) h,fun o d h=>.inl (F0 g H _ _ _ o d h)⟩,by simp [Gh.add]⟩
 rcases Jw hk with h | h
 ·exact .inl h
 ·simp only [flatMap_nil,List.mem_cons,List.not_mem_nil,or_false] at h
  exact .inr (by omega)
theorem nP (hp : HeapR g H w) {w' : World} (hw : ∀ k, k < w.heap.size → w'.heap[k]? = w.heap[k]?) (hs : w.heap.size ≤ w'.heap.size) (ho : w'.os = w.os) (ht : F5 w w') (hout : w'.output = w.output) (hfz : ∀ a, w'.frozen? a = w.frozen? a) {b : Nat} (hbb : w.heap.size ≤ b) {arr : Array Value} {elem : TypeId} {cs : List AV} (u : Nat → Value)
    (hb:w'.heap[b]? = some (.cells arr elem (0,0))) (hbase:cs.length≤arr.size)
    (hc:∀ m,m<cs.length→arr[m]? = some (u m)) (hr:∀ m (h:m<cs.length),Rd w (g.tr H) g.G cs[m] (u m) []):
    ∃ g', Mv g H w g' (H++[some cs]) w' ∧ g'.ρ H.length=some (b,0,arr.size):=by
 have hnew:=Of hp hs (base:=0) (elem:=e0 arr.size elem) (cs:=cs) u (fun _=>[]) (fun k hk _=>hw k hk) hb rfl (by omega) (fun m hm=>by rw [Nat.zero_add];exact hc m hm) hr
  (fun hG=>absurd (hp.low _ hG) (by omega)) (fun o c h hm=>absurd ((hp.obj o c h).all_lt _ hm) (by omega)) (by rw [flatMap_nil];simp) (by rw [flatMap_nil];simp)
 refine ⟨_,⟨hnew.1,⟨ho,ht,hout,hs,fun k hk _=>hw k hk,fun k hk=>?_,fun _ h=>h,fun _ h=>.inl h,fun a _=>hfz a⟩,fun x v h=>hnew.2 x v [] (by simp) h,fun o d h=>.inl (F0 g H _ _ _ o d h)⟩,by simp [Gh.add]⟩
 rcases Jw hk with h | h
 ·exact .inl h
 ·simp only [flatMap_nil,List.mem_cons,List.not_mem_nil,or_false] at h
  exact .inr (by omega)
theorem No {f f' : Nat→List Nat}(h:∀ m,(f m).Sublist (f' m)):∀ l:List Nat,(l.flatMap f).Sublist (l.flatMap f')
 | []=>by simp
 | x :: l=>by simp only [List.flatMap_cons];exact (h x).append (No h l)
theorem aK (g : Gh) (H : Heap) (o : Nat) (cs cs' : List AV) (ho : H[o]? = some (some cs)) (hl : cs'.length = cs.length) (bs : List Nat) :
    Gh.tr ⟨g.ρ,fun x=>if x=o then bs else g.ob x,g.G⟩ (H.set o (some cs'))=g.tr H:=by
 funext x
 unfold Gh.tr
 by_cases e:o=x
 ·subst e
  have hlt:o<H.length:=(List.getElem?_eq_some_iff.1 ho).1
  rw [List.getElem?_set_self hlt,ho]
  simp only [hl]
 ·rw [List.getElem?_set_ne e]
theorem Ie {H:Heap}{o o' : Nat}{cs c:List AV}(h:(H.set o (some cs))[o']? = some (some c)):(o' = o∧c=cs)∨(o' ≠ o∧H[o']? = some (some c)):=by
 by_cases e:o=o'
 ·subst e
  by_cases hlt:o<H.length
  ·simp [hlt] at h;exact .inl ⟨rfl,h.symm⟩
  ·rw [List.getElem?_eq_none (by simp;omega)] at h;cases h
 ·rw [List.getElem?_set_ne e] at h;exact .inr ⟨fun h=>e h.symm,h⟩
theorem Z6 (hp : HeapR g H w) {o b base sz j : Nat} {cs vs : List AV} (ho : H[o]? = some (some cs)) (hl : g.ρ o = some (b, base, sz)) (hj : j + vs.length ≤ cs.length) {us : List Value} (hus : us.length = vs.length)
    (hr:∀ m (h:m<vs.length),Rd w (g.tr H) g.G vs[m] (us.getD m undef) []) {arr:Array Value} {elem:EZ sz} (hb:w.heap[b]? = some (.cells arr elem.1.1 elem.1.2)):
    ∃ g', Mv g H w g' (H.set o (some (cs.take j++vs++cs.drop (j+vs.length)))) (w.setRow b (arr.toList.take (base+j)++us++arr.toList.drop (base+j+us.length)).toArray):=by
 have hle:base≤sz:=by
  have h0:=hl ▸ hp.obj o cs ho
  obtain ⟨u,bss,hbl,_,_⟩:=h0
  rcases hbl with ⟨arr', elem', h1,h2,h3,_⟩ | ⟨_,_,es,clock,h1,_⟩ | ⟨_,_,mr,since,seen,stp,h1,_⟩
  ·omega
  ·rw [hb] at h1;cases h1
  ·rw [hb] at h1;cases h1
 obtain ⟨arr', elem', u,bss,hb', hsz,hbase,hc,hrr,hob⟩:=(hl ▸ hp.obj o cs ho:ObjR w (g.tr H) g.G cs (g.ob o) (some (b,base,sz))).cells hle
 rw [hb] at hb'
 simp only [Option.some.injEq,Obj.cells.injEq] at hb'
 obtain ⟨rfl,_⟩:=hb'
 have hlen:(cs.take j++vs++cs.drop (j+vs.length)).length=cs.length:=by simp;omega
 let bss' : Nat→List Nat:=fun m=>if j≤m∧m<j+vs.length then [] else bss m
 let bs' := b :: (List.range cs.length).flatMap bss'
 have hsub:bs'.Sublist (g.ob o):=by
  rw [hob]
  exact (No (fun m=>by dsimp only [bss'];split<;>simp) _).cons_cons b
 let g' : Gh:=⟨g.ρ,fun x=>if x=o then bs' else g.ob x,g.G⟩
 have htr:=aK g H o cs _ ho hlen bs'
 have hbo:b∈g.ob o:=by rw [hob];simp
 have hnG:¬ g.G b:=hp.free o cs ho b hbo
 have hsz' : base+cs.length≤arr.size:=by omega
 let w' := w.setRow b (arr.toList.take (base+j)++us++arr.toList.drop (base+j+us.length)).toArray
 have hother:∀ k,k≠b→w'.heap[k]? = w.heap[k]?:=fun k hk=>setRow_other w b k _ hk
 have hbsub:∀ x c,(H.set o (some (cs.take j++vs++cs.drop (j+vs.length))))[x]? = some (some c)→∃ c', H[x]? = some (some c')∧∀ y,y∈g'.ob x→y∈g.ob x:=fun x c hx=>by
  rcases Ie hx with ⟨rfl,_⟩ | ⟨hne,hx'⟩
  ·exact ⟨cs,ho,fun y hy=>hsub.subset (by simpa [g'] using hy)⟩
  ·exact ⟨c,hx', fun y hy=>by simpa [g', hne] using hy⟩
 refine ⟨g', ⟨⟨?_,?_,?_,?_,?_⟩,?_,?_,fun o d h=>.inl (by rw [htr];exact h)⟩⟩
 ·intro x c hx
  rw [htr]
  rcases Ie hx with ⟨rfl,rfl⟩ | ⟨hne,hx'⟩
  ·show ObjR w' (g.tr H) g.G _ (g'.ob x) (g.ρ x)
   rw [hl]
   have e2:g'.ob x=bs' := by simp [g']
   rw [e2]
   refine .ofCells ⟨_,elem,fun m=>if j≤m∧m<j+vs.length then us.getD (m - j) undef else u m,bss', setRow_heap w b arr _ elem.1.1 _ hb,?_,by omega,?_,?_,by rw [hlen]⟩
   ·simp;omega
   ·intro m hm
    rw [hlen] at hm
    have hm' := hc m hm
    simp only [List.getElem?_toArray]
    by_cases h1:m<j
    ·rw [if_neg (by omega),List.append_assoc,List.getElem?_append_left (by simp;omega),List.getElem?_take_of_lt (by omega)]
     simpa using hm'
    ·by_cases h2:m<j+vs.length
     ·rw [if_pos ⟨by omega,h2⟩,List.append_assoc,List.getElem?_append_right (by simp;omega),List.getElem?_append_left (by simp;omega)]
      simp only [List.length_take,Array.length_toList]
      rw [show base+m - min (base+j) arr.size=m - j by omega]
      simp [show m - j<us.length by omega]
     ·rw [if_neg (by omega),List.getElem?_append_right (by simp;omega),List.getElem?_drop]
      simp only [List.length_append,List.length_take,Array.length_toList]
      rw [show base+j+us.length+(base+m - (min (base+j) arr.size+us.length))=base+m by omega]
      simpa using hm'
   ·intro m hm
    have hm2:=hm
    rw [hlen] at hm2
    by_cases h1:m<j
    ·have e1 : (cs.take j ++ vs ++ cs.drop (j + vs.length))[m] = cs[m] := by
       rw [List.getElem_append_left (by simp;omega),List.getElem_append_left (by simp;omega),List.getElem_take]
     rw [e1]
     simp only [bss', if_neg (show ¬ (j≤m∧m<j+vs.length) by omega)]
     refine (hrr m hm2).mono (fun _ h=>h) (fun b' hb' => hother b' (fun e=>hnG (e ▸ hb'))) (fun _ _ h=>.inl h) (fun b' hb' => hother b' (fun e=>?_))
     have:=hp.nodup x cs ho
     rw [hob] at this
     exact (List.nodup_cons.1 this).1 (List.mem_flatMap.2 ⟨m,List.mem_range.2 hm2,e ▸ hb'⟩)
    ·by_cases h2:m<j+vs.length
     ·have e1 : (cs.take j ++ vs ++ cs.drop (j + vs.length))[m] = vs[m - j] := by
        rw [List.getElem_append_left (by simp;omega),List.getElem_append_right (by simp;omega)]
        congr 1;simp;omega
      rw [e1]
      simp only [bss', if_pos (show j≤m∧m<j+vs.length from ⟨by omega,h2⟩)]
      exact (hr (m - j) (by omega)).mono (fun _ h=>h) (fun b' hb' => hother b' (fun e=>hnG (e ▸ hb'))) (fun _ _ h=>.inl h) (by simp)
     ·have e1 : (cs.take j ++ vs ++ cs.drop (j + vs.length))[m] = cs[m] := by
        rw [List.getElem_append_right (by simp;omega),List.getElem_drop]
        congr 1;simp;omega
      rw [e1]
      simp only [bss', if_neg (show ¬ (j≤m∧m<j+vs.length) by omega)]
      refine (hrr m hm2).mono (fun _ h=>h) (fun b' hb' => hother b' (fun e=>hnG (e ▸ hb'))) (fun _ _ h=>.inl h) (fun b' hb' => hother b' (fun e=>?_))
      have:=hp.nodup x cs ho
      rw [hob] at this
      exact (List.nodup_cons.1 this).1 (List.mem_flatMap.2 ⟨m,List.mem_range.2 hm2,e ▸ hb'⟩)
  ·have e2:g'.ob x=g.ob x:=by simp [g', hne]
   rw [e2]
   exact (hp.obj x c hx').mono (fun _ h=>h) (fun b' hb' => hother b' (fun e=>hnG (e ▸ hb'))) (fun _ _ h=>.inl h) (fun b' hb' => hother b' (fun e=>hp.apart x o c cs hx' ho hne b' hb' (e ▸ hbo)))
 ·intro x c hx
  rcases Ie hx with ⟨rfl,rfl⟩ | ⟨hne,hx'⟩
  ·have:g'.ob x=bs' := by simp [g']
   rw [this]
   exact (hp.nodup x cs ho).sublist hsub
  ·simpa [g', hne] using hp.nodup x c hx'
 ·intro x y c d hx hy hne b' h1 h2
  obtain ⟨c', hx', hs1⟩:=hbsub x c hx
  obtain ⟨d', hy', hs2⟩:=hbsub y d hy
  exact hp.apart x y c' d' hx' hy' hne b' (hs1 _ h1) (hs2 _ h2)
 ·intro x c hx b' h1
  obtain ⟨c', hx', hs1⟩:=hbsub x c hx
  exact hp.free x c' hx' b' (hs1 _ h1)
 ·intro b' hb'
  show b' < w'.heap.size
  have:w'.heap.size=w.heap.size:=by simp [w', World.setRow]
  rw [this]
  exact hp.low b' hb'
 ·refine ⟨rfl,⟨rfl,Nat.le_refl _⟩,rfl,by simp [World.setRow],fun k _ hO=>hother k (fun e=>hO ⟨o,cs,ho,e ▸ hbo⟩),fun b' ⟨x,c,hx,h1⟩=>?_,fun _ h=>h,fun _ h=>.inl h,fun a _=>Wg hb (setRow_heap w b arr _ elem.1.1 _ hb) hother a⟩
  obtain ⟨c', hx', hs1⟩:=hbsub x c hx
  exact .inl ⟨x,c', hx', hs1 _ h1⟩
 ·intro x v hx
  rw [htr]
  exact hx.mono (fun _ h=>h) (fun b' hb' => hother b' (fun e=>hnG (e ▸ hb'))) (fun _ _ h=>.inl h) (by simp)
theorem vW (hp : HeapR g H w) {o b base sz : Nat} {c c' : AV} {bs' : List Nat} {v' : Value} (ho : H[o]? = some (some [c])) (hl : g.ρ o = some (b, base, sz)) {w' : World} (hother : ∀ k, k ≠ b → w'.heap[k]? = w.heap[k]?) (hsz : w'.heap.size = w.heap.size)
    (hos:w'.os=w.os) (htp:F5 w w') (hout:w'.output=w.output) (hfz:∀ a,w'.frozen? a=w.frozen? a)
    (hblk:BlockAt w' b base sz 1 (fun _=>v')) (hr:Rd w (g.tr H) g.G c' v' bs') (hsub:(b :: bs').Sublist (g.ob o)):
    ∃ g', Mv g H w g' (H.set o (some [c'])) w' := by
 let g' : Gh:=⟨g.ρ,fun x=>if x=o then b :: bs' else g.ob x,g.G⟩
 have htr:=aK g H o [c] [c'] ho rfl (b :: bs')
 have hbo:b∈g.ob o:=hsub.subset (by simp)
 have hnG:¬ g.G b:=hp.free o _ ho b hbo
 have hnb:b∉bs' := (List.nodup_cons.1 ((hp.nodup o _ ho).sublist hsub)).1
 have hbsub:∀ x cx,(H.set o (some [c']))[x]? = some (some cx)→∃ c2,H[x]? = some (some c2)∧∀ y,y∈g'.ob x→y∈g.ob x:=fun x cx hx=>by
  rcases Ie hx with ⟨rfl,_⟩ | ⟨hne,hx'⟩
  ·exact ⟨_,ho,fun y hy=>hsub.subset (by simpa [g'] using hy)⟩
  ·exact ⟨cx,hx', fun y hy=>by simpa [g', hne] using hy⟩
 refine ⟨g', ⟨⟨?_,?_,?_,?_,?_⟩,?_,?_,fun o d h=>.inl (by rw [htr];exact h)⟩⟩
 ·intro x cx hx
  rw [htr]
  rcases Ie hx with ⟨rfl,rfl⟩ | ⟨hne,hx'⟩
  ·show ObjR w' (g.tr H) g.G _ (g'.ob x) (g.ρ x)
   rw [hl]
   have e2:g'.ob x=b :: bs' := by simp [g']
   rw [e2]
   refine ⟨fun _=>v', fun _=>bs', hblk,fun m hm=>?_,by simp [List.range_succ]⟩
   simp only [List.length_cons,List.length_nil,Nat.zero_add] at hm
   obtain rfl:m=0:=by omega
   exact hr.mono (fun _ h=>h) (fun b' hb' => hother b' (fun e=>hnG (e ▸ hb'))) (fun _ _ h=>.inl h) (fun b' hb' => hother b' (fun e=>hnb (e ▸ hb')))
  ·have e2:g'.ob x=g.ob x:=by simp [g', hne]
   rw [e2]
   exact (hp.obj x cx hx').mono (fun _ h=>h) (fun b' hb' => hother b' (fun e=>hnG (e ▸ hb'))) (fun _ _ h=>.inl h) (fun b' hb' => hother b' (fun e=>hp.apart x o cx _ hx' ho hne b' hb' (e ▸ hbo)))
 ·intro x cx hx
  rcases Ie hx with ⟨rfl,rfl⟩ | ⟨hne,hx'⟩
  ·have:g'.ob x=b :: bs' := by simp [g']
   rw [this]
   exact (hp.nodup x _ ho).sublist hsub
  ·simpa [g', hne] using hp.nodup x cx hx'
 ·intro x y cx d hx hy hne b' h1 h2
  obtain ⟨c2,hx', hs1⟩:=hbsub x cx hx
  obtain ⟨d2,hy', hs2⟩:=hbsub y d hy
  exact hp.apart x y c2 d2 hx' hy' hne b' (hs1 _ h1) (hs2 _ h2)
 ·intro x cx hx b' h1
  obtain ⟨c2,hx', hs1⟩:=hbsub x cx hx
  exact hp.free x c2 hx' b' (hs1 _ h1)
 ·intro b' hb'
  rw [hsz]
  exact hp.low b' hb'
 ·refine ⟨hos,htp,hout,by omega,fun k _ hO=>hother k (fun e=>hO ⟨o,_,ho,e ▸ hbo⟩),fun b' ⟨x,cx,hx,h1⟩=>?_,fun _ h=>h,fun _ h=>.inl h,fun a _=>hfz a⟩
  obtain ⟨c2,hx', hs1⟩:=hbsub x cx hx
  exact .inl ⟨x,c2,hx', hs1 _ h1⟩
 ·intro x v hx
  rw [htr]
  exact hx.mono (fun _ h=>h) (fun b' hb' => hother b' (fun e=>hnG (e ▸ hb'))) (fun _ _ h=>.inl h) (by simp)
end
section
variable {P:Program} {N:Nat} {g:Gh} {F:Frame} {H:Heap} {a:Act} {w:World}
def Ia (z:List Value)(n:Nat):List AV:=match z with
 | [v]=>List.replicate n (.val v)
 | z=>(List.range (n*z.length)).map fun i=>.val (z.getD (i%z.length) undef)
def Hq (H:Heap)(k:Nat):AV→Option (Nat×List AV)
 | .slc k' n cs=>if k' = k then some (n,cs) else none
 | .sl o k' off len=>if k' = k then match H[o]? with
  | some (some cs)=>some (len,(cs.drop off).take (len*k))
  | _=>none
  else none
 | .val (.slice _ 0 _)=>some (0,[])
 | _=>none
def Ip (s:ByteArray):List AV:=s.data.toList.map fun b=>.val (.int .u8 (b.toNat:Int))
def Jb (H:Heap)(k:Nat):AV→Option (Nat×List AV)
 | .val (.string s)=>if k=1 then some (s.size,Ip s) else none
 | x=>Hq H k x
def Jc:List AV→Option (List UInt8)
 | []=>some []
 | .val (.int .u8 n) :: l=>(Jc l).map (UInt8.ofNat n.toNat :: ·)
 | _=>none
def Iv (H:Heap)(k:Nat):AV→Option (Nat×List AV×Heap)
 | .val (.slice none 0 0)=>some (0,[],H)
 | .sl o k' off len=>if k' = k then match H[o]? with
  | some (some cs)=>some (len,(cs.drop off).take (len*k),H.set o none)
  | _=>none
  else none
 | _=>none
def zU (z:List Value)(n:Nat):List AV:=(List.range (n*z.length)).map fun i=>.val (z.getD (i%z.length) undef)
def Nh (cs:List AV):Bool:=(cs.drop 1).all fun x=>match x with
 | .ent ..=>true
 | _=>false
def Aam:AV→Bool
 | .val (.int .i64 _)=>true
 | _=>false
def Aaj (c:Int)(cs:List AV):Bool:=cs.all fun x=>match x with
 | .ent b _ y=>decide ((b:Int)<c)&&Bf y
 | _=>false
def Jl (c:Bool)(A B:Prop):Prop:=match c with
 | true=>A
 | false=>B
theorem Ml {A B:Prop}:Jl true A B=A:=rfl
theorem Mk {A B:Prop}:Jl false A B=B:=rfl
@[congr] theorem zZ {c c' : Bool} {A B:Prop} (h:c=c'):Jl c A B=Jl c' A B:=by rw [h]
theorem bM {c:Bool}{A B:Prop}(h:c=true)(k:A):Jl c A B:=by subst h;exact k
def Bp (x:AOp)(F:Frame)(H:Heap)(K:AV→Heap→Prop):Prop:=match x with
 | .alloc z=>K (.ref H.length 0) (H++[some (z.map .val)])
 | .box x=>match cellsOf (ax F x) with
  | some cs=>K (.ref H.length 0) (H++[some cs])
  | none=>False
 | .store n y x=>Ap (ax F y)∧match st (ax F y),cellsOf (ax F x) with
  | .ref o j,some vs=>match H[o]? with
   | some (some cs)=>vs.length=n∧j+n≤cs.length∧vs.all B1=true∧K .any (H.set o (some (Fb cs j vs)))
   | _=>False
  | _,_=>False
 | .mk k bytes z l=>Ap (ax F l)∧match st (ax F l) with
  | .val (.int _ n)=>0≤n∧(bytes:Int)*n≤281474976710656∧n≤9223372036854775807∧K (.sl H.length k 0 n.toNat) (H++[some (Ia z n.toNat)])
  | _=>False
 | .app k bytes s x=>Ap (ax F s)∧Ap (ax F x)∧match Jb H k (st (ax F x)) with
  | some (m,new)=>new.all B1=true∧Jl (new.all Bf)
   (match Iv H k (st (ax F s)) with
    | some (n,old,H1)=>n+m≤140737488355328∧(n+m)*bytes≤140737488355328∧K (.sl H.length k 0 (n+m)) (H1++[some (old++new)])
    | none=>False)
   (match st (ax F x) with
    | .sl o _ _ _=>match Iv (H.set o none) k (st (ax F s)) with
     | some (n,old,H1)=>n+m≤140737488355328∧(n+m)*bytes≤140737488355328∧K (.sl H.length k 0 (n+m)) (H1++[some (old++new)])
     | none=>False
    | _=>False)
  | none=>False
 | .cpy s x=>Ap (ax F s)∧Ap (ax F x)∧match st (ax F s),Hq H 1 (st (ax F x)) with
  | .sl o 1 off n,some (m,new)=>match H[o]? with
   | some (some cs)=>off+n≤cs.length∧new.all Bf=true∧new.all B1=true∧K (.val (.int .i64 (Nat.min m n:Nat))) (H.set o (some (cs.take off++new.take (Nat.min m n)++cs.drop (off+Nat.min m n))))
   | _=>False
  | _,_=>False
 | .str x=>Ap (ax F x)∧match Hq H 1 (st (ax F x)) with
  | some (_,new)=>new.all Bf=true∧match Jc new with
   | some bs=>K (.val (.string ⟨bs.toArray⟩)) H
   | none=>False
  | none=>False
 | .mkm=>K (.mp H.length) (H++[some [.mpc [i64 0]]])
 | .mpu kk m k x=>Ap (ax F m)∧Ap (ax F k)∧Ap (ax F x)∧match st (ax F m),st (ax F k) with
  | .mp o,.val kv=>match Ga H (.mp o) with
   | some cs=>Ee kk kv=true∧He kk cs=true∧(Kf cs).isSome=true∧K .any (H.set o (some [.mpc (I5 kv (st (ax F x)) cs)]))
   | none=>False
  | _,_=>False
 | .mpd kk m k=>Ap (ax F m)∧Ap (ax F k)∧match st (ax F m),st (ax F k) with
  | .mp o,.val kv=>match Ga H (.mp o) with
   | some cs=>Ee kk kv=true∧He kk cs=true∧K (.tup []) (H.set o (some [.mpc (Kg kv cs)]))
   | none=>False
  | _,_=>False
 | .bsl n parts=>parts.map (·.1)=List.range n∧n≤16777216∧parts.all (fun p=>B1 (ax F p.2))=true∧K (.sl H.length 1 0 n) (H++[some (parts.map fun p=>ax F p.2)])
 | _=>False
def Ny:AOp→Bool
 | .alloc _ | .box _ | .mk .. | .bsl .. | .mkm | .lenm _ | .rng _ | .enr _ | .bsk .. | .str _ | .byt _=>true
 | _=>false
def By (P:Program)(a:Act)(w:World)(g:Gh)(H:Heap)(o:Oper)(ext:Bool)(K:AV→Heap→Prop):Prop:=
 ∃ v w' g' av H', ((execOp a.eval o).run P w = .ok (.value v) w' ∨ ((execOp a.eval o).run P w = .ok .skip w' ∧ v=undef))∧Mv g H w g' H' w' ∧ Rd w' (g'.tr H') g'.G av v []∧(ext=true→Ext w w')∧K av H'
theorem getD_some {α:Type}{l:Array α}{m:Nat}{d:α}(h:m<l.size):l[m]? = some (l.getD m d):=by simp [h]
theorem Qp (w:World)(arr:Array Value)(elem:TypeId):∀ a,(w.alloc (.cells arr elem)).frozen? a=w.frozen? a:=
 iJ (b:=w.heap.size) (by simp) (heap_alloc_new w _) fun k hk=>by
  show (w.heap.push _)[k]? = w.heap[k]?
  rw [Array.getElem?_push,if_neg hk]
theorem N4 {K : AV → Heap → Prop} {o : Oper} {ext : Bool} (hp : HeapR g H w) {v : Value} {av : AV} {arr : Array Value} {elem : TypeId} {cs : List AV} (hrun : (execOp a.eval o).run P w = .ok (.value v) (w.alloc (.cells arr elem)))
    (hsz:arr.size=cs.length) (hr:∀ m (h:m<cs.length),Rd w (g.tr H) g.G cs[m] (arr.getD m undef) [])
    (hav:∀ (g' : Gh),g'.ρ H.length=some (w.heap.size,0,arr.size)→Rd (w.alloc (.cells arr elem)) (g'.tr (H++[some cs])) g'.G av v []) (hK:K av (H++[some cs])):By P a w g H o ext K:=by
 obtain ⟨g', hm,hρ⟩:=nP hp (w' := w.alloc (.cells arr elem)) (fun k hk=>heap_alloc_old w _ k hk) (by show w.heap.size≤(w.heap.push _).size;simp) rfl ⟨rfl,by first | exact Nat.le_refl _ | exact Nat.le_succ _⟩ rfl (Qp w arr elem) (Nat.le_refl _) (cs:=cs) (fun m=>arr.getD m undef)
  (heap_alloc_new w _) (by omega) (fun m hm=>getD_some (by omega)) hr
 exact ⟨v,_,g', av,_,.inl hrun,hm,hav g' hρ,fun _ k hk=>heap_alloc_old w _ k hk,hK⟩
theorem Zt {g' : Gh}{cs:List AV}{l:C6}{v:Value}{w' : World}{G:Nat→Prop}(hρ:g'.ρ H.length=l)(hv:Ms l 0 v):Rd w' (g'.tr (H++[some cs])) G (.ref H.length 0) v []:=by
 have htr:g'.tr (H++[some cs]) H.length=some (some (l,cs.length)):=by rw [← hρ];exact Gh.tr_some (by simp)
 refine .ref (by simp [htr]) ?_ fun l' hl' => ?_
 ·cases l with
  | none=>exact hv.elim
  | some l=>obtain ⟨b,base,sz⟩:=l;obtain ⟨rfl,_⟩:=hv;rfl
 ·rw [htr] at hl'
  obtain rfl:=Option.some.inj (Option.some.inj hl')
  exact hv
theorem Ja {g' : Gh}{cs:List AV}{l:C6}{v:Value}{w' : World}{G:Nat→Prop}{k n:Nat}(hρ:g'.ρ H.length=l)(hn:n*k≤cs.length)(hv:Ju l k 0 n v):Rd w' (g'.tr (H++[some cs])) G (.sl H.length k 0 n) v []:=by
 have htr:g'.tr (H++[some cs]) H.length=some (some (l,cs.length)):=by rw [← hρ];exact Gh.tr_some (by simp)
 refine .sl (by simp [htr]) ?_ fun l' hl' => ?_
 ·cases l with
  | none=>obtain ⟨_,a,rfl⟩:=hv;rfl
  | some l=>
   obtain ⟨b,base,sz⟩:=l
   obtain ⟨cap,_,_,_,h⟩:=hv
   rcases h with rfl | ⟨_,a,rfl⟩<;>rfl
 ·rw [htr] at hl'
  obtain rfl:=Option.some.inj (Option.some.inj hl')
  exact ⟨by dsimp only;omega,hv⟩
theorem kW {o:Oper}{t:TypeId}{z:Value}{K:AV→Heap→Prop}{ext:Bool}(hR:R N g F H a w)(hop:o.op = .alloc t)(hz:(P.info? t).bind (·.zero)=some z)(hE:Bp (.alloc z.cells.toList) F H K):By P a w g H o ext K:=by
 obtain ⟨i,hi,hz'⟩:=Option.bind_eq_some_iff.1 hz
 refine N4 (cs:=z.cells.toList.map .val) (arr:=z.cells) (elem:=t) hR.hp (v:=.pointer (some ⟨w.heap.size,0,none⟩)) ?_ (by simp) (fun m hm=>?_) (fun g' hρ=>Zt hρ (by simp [Ms])) hE
 ·simp [execOp,hop,Instr.alloc,zeroValue,typeInfo,hi,hz', newVar,newRow]
 ·simp only [List.length_map,Array.length_toList] at hm
  simp [hm]
  exact .val
theorem kX {o:Oper}{t:TypeId}{x:Operand}{K:AV→Heap→Prop}{ext:Bool}(hR:R N g F H a w)(hop:o.op = .box t x)(hE:Bp (.box (cX x)) F H K):By P a w g H o ext K:=by
 simp only [Bp] at hE
 split at hE
 ·rename_i cs hcs
  obtain ⟨h1,h2⟩:=Qg (Hu hR x) hcs
  refine N4 (cs:=cs) (arr:=(a.eval x).cells) (elem:=t) hR.hp (v:=.pointer (some ⟨w.heap.size,0,none⟩)) ?_ h1 h2 (fun g' hρ=>Zt hρ (by simp [Ms])) hE
  simp [execOp,hop,Instr.box,newVar,newRow]
 ·exact hE.elim
theorem Nf {t:TypeId}{z:List Value}(h:Ex P t=some z):∃ e i zv,P.underlying t=some (.slice e)∧P.info? e=some i∧i.zero=some zv∧zv.cells.toList=z:=by
 unfold Ex at h
 split at h
 ·rename_i e he
  rw [Option.map_eq_some_iff] at h
  obtain ⟨zv,hz,hs⟩:=h
  obtain ⟨i,hi,hz'⟩:=Option.bind_eq_some_iff.1 hz
  exact ⟨e,i,zv,he,hi,hz', hs⟩
 ·cases h
theorem Vt {t e:TypeId}{i:TypeInfo}(he:P.underlying t=some (.slice e))(hi:P.info? e=some i):Ha P t=i.bytes:=by simp [Ha,he,Program.bytesOf,hi]
theorem Oa (z:List Value)(n:Nat):(Ia z n).length=n*z.length:=by
 unfold Ia
 split<;>simp
theorem Xn {o : Oper} {t : TypeId} {l c : Operand} {k : Nat} {z : List Value} {K : AV → Heap → Prop} {ext : Bool} (hR : R N g F H a w) (hop : o.op = .makeSlice t l c) (hlc : a.eval l = a.eval c) (hk : Da P t = some k) (hz : Ex P t = some z) (hzk : z.length = k)
    (hE:Bp (.mk k (Ha P t) z (cX l)) F H K):By P a w g H o ext K:=by
 obtain ⟨h1,hE⟩:=hE
 have hl:=At hR l h1
 split at hE
 ·rename_i kk n hn
  rw [hn] at hl
  have hv:=hl.val_inv.1
  obtain ⟨h0,hb,h63,hK⟩:=hE
  obtain ⟨e,i,zv,he,hi,hz', hzl⟩:=Nf hz
  obtain ⟨e', i', he', hi', hsz⟩:=J2 hk
  obtain rfl:e=e' := by rw [he] at he'; simpa using he'
  obtain rfl:i=i' := by rw [hi] at hi'; simpa using hi'
  rw [Vt he hi] at hb
  have hrun:=run_make (P:=P) w t e i zv he hi hz' kk kk n n h0 (Int.le_refl _) hb h63
  rw [hsz] at hrun
  have hzs:zv.cells.size=z.length:=by rw [← hzl];simp
  refine N4 (cs:=Ia z n.toNat) (arr:=madeCells zv.cells (n.toNat*k)) (elem:=e) hR.hp (v:=.slice (some ⟨w.heap.size,0,none⟩) n.toNat n.toNat) ?_ (by rw [size_madeCells,Oa,hzk]) (fun m hm=>?_) (fun g' hρ=>Ja hρ (by rw [Oa,hzk];omega) ?_) hK
  ·simp [execOp,hop,← hlc,hv,hrun]
  ·rw [Oa,hzk] at hm
   have e1:(madeCells zv.cells (n.toNat*k)).getD m undef=z.getD (m%z.length) undef:=by
    have hpos:0<k:=Nat.pos_of_mul_pos_left (by omega:0<n.toNat*k)
    have hmod:m%z.length<z.length:=Nat.mod_lt _ (by omega)
    have hmod' : m%zv.cells.size<zv.cells.size:=by rw [hzs];exact hmod
    have:zv.cells[m%zv.cells.size]! = z.getD (m%z.length) undef:=by
     subst hzl
     rw [getElem!_pos zv.cells _ hmod']
     simp [hmod', List.getD]
    simp only [madeCells]
    rw [← this]
    simp [hm]
   rw [e1]
   have e2:(Ia z n.toNat)[m]'(by rw [Oa,hzk];exact hm) = .val (z.getD (m%z.length) undef):=by
    unfold Ia
    split
    ·simp [Nat.mod_one]
    ·simp
   rw [e2]
   exact .val
  ·refine ⟨n.toNat,Nat.le_refl _,by unfold maxLen;omega,by rw [size_madeCells];omega,.inl (by simp)⟩
 ·exact hE.elim
theorem lL {o:Oper}{t:TypeId}{x y:Operand}{i:TypeInfo}{K:AV→Heap→Prop}(hR:R N g F H a w)(hop:o.op = .store t y x)(hi:P.info? t=some i)(hE:Bp (.store i.size (cX y) (cX x)) F H K):By P a w g H o false K:=by
 obtain ⟨h1,hE⟩:=hE
 have hy:=At hR y h1
 have hx:=Hu hR x
 split at hE
 ·rename_i o' j vs hy' hvs
  split at hE
  ·rename_i cs ho'
   obtain ⟨h2,h3,h4,hK⟩:=hE
   obtain ⟨h5,h6⟩:=Qg hx hvs
   rw [hy'] at hy
   cases hy with
   | ref h00 hv0 h7=>
    have h8:=h7 _ (Gh.tr_some (g:=g) ho')
    dsimp only at h8
    cases hl:g.ρ o' with
    | none=>rw [hl] at h8;exact h8.elim
    | some l=>
     obtain ⟨b,base,sz⟩:=l
     rw [hl] at h8
     obtain ⟨h8,hle⟩:=h8
     obtain ⟨arr,elem,u,bss,hb,hsz,hbase,hc,hrr,hob⟩:=(hl ▸ hR.hp.obj o' cs ho' : ObjR w (g.tr H) g.G cs (g.ob o') (some (b,base,sz))).cells hle
     have hvl:(a.eval x).cells.toList.length=vs.length:=by simpa using h5
     obtain ⟨g', hm⟩:=Z6 hR.hp ho' hl (j:=j) (vs:=vs) (by omega) (us:=(a.eval x).cells.toList) hvl (fun m hm=>by
      have:=h6 m hm
      rwa [show (a.eval x).cells.getD m undef=(a.eval x).cells.toList.getD m undef by simp [List.getD]] at this) hb
     rw [← aC (by omega)] at hm
     refine ⟨undef,_,g', .any,_,.inr ⟨?_,rfl⟩,hm,.any,fun h=>(by cases h),hK⟩
     have h1c:∀ v∈(a.eval x).cells.toList,v.oneCell' = true:=fun v hv=>by
      obtain ⟨m,hm,rfl⟩:=List.mem_iff_getElem.1 hv
      have:=h6 m (by omega)
      rw [show (a.eval x).cells.getD m undef=(a.eval x).cells.toList[m] by simp [show m<(a.eval x).cells.size by simpa using hm]] at this
      exact Kj this (List.all_eq_true.1 h4 _ (List.getElem_mem _))
     have hst:=O2 P b (base+j) elem.1.1 elem.1.2 (a.eval x).cells.toList 0 arr w hb (hsz ▸ elem.2) (by omega) h1c
     simp only [Nat.add_zero] at hst
     simp [execOp,hop,h8,Instr.storeAt,Instr.sureAddr,storeVar,sizeOf,typeInfo,hi,h5,h2,hst]
  ·exact hE.elim
 ·exact hE.elim
end
section
variable {P:Program} {N:Nat} {g:Gh} {F:Frame} {H:Heap} {a:Act} {w:World}
theorem Wa : ∀ (parts : List (Nat × Value)) (s : Nat) (cells : Array Value), parts.map (·.1) = List.range' s parts.length → (∀ p ∈ parts, p.2.cells = #[p.2]) → cells.size = s + parts.length →
    Instr.fill (fun i=>some (i*1,1)) cells parts=some ((cells.toList.take s++parts.map (·.2)).toArray)
 | [],s,cells,_,_,hs=>by
  simp only [List.length_nil,Nat.add_zero] at hs
  simp only [Instr.fill,List.map_nil,List.append_nil]
  rw [List.take_of_length_le (by simp [hs])]
 | (i,v) :: rest,s,cells,hi,h1,hs=>by
  simp only [List.map_cons,List.length_cons,List.range'_succ,List.cons.injEq] at hi
  obtain ⟨rfl,hi⟩:=hi
  have hv:=h1 (i,v) (by simp)
  dsimp only at hv
  simp only [List.length_cons] at hs
  have e:(v.cells.zipIdx.foldl (fun cs (c,j)=>cs.setIfInBounds (i*1+j) c) cells)=cells.setIfInBounds i v:=by
   rw [hv]
   simp
  have ih:=Wa rest (i+1) (cells.setIfInBounds i v) hi (fun p hp=>h1 p (List.mem_cons_of_mem _ hp)) (by simp;omega)
  have hg:¬ (v.cells.size≠1∨i*1+v.cells.size > cells.size):=by rw [hv];simp;omega
  simp only [Instr.fill]
  rw [if_neg (by simpa using hg),e,ih]
  congr 2
  rw [List.take_succ_eq_append_getElem (by simp;omega)]
  simp [List.take_set_of_le]
theorem lA {o : Oper} {t : TypeId} {n : Nat} {parts : Array (Nat × Operand)} {K : AV → Heap → Prop} {ext : Bool} (hR : R N g F H a w) (hop : o.op = .buildSlice t n parts) (hk : Da P t = some 1) (hz : (Ex P t).isSome = true)
    (hE:Bp (.bsl n (parts.toList.map fun (i,x)=>(i,cX x))) F H K):By P a w g H o ext K:=by
 obtain ⟨h1,h2,h3,hK⟩:=hE
 obtain ⟨e,i,he,hi,hsz⟩:=J2 hk
 obtain ⟨z,hz⟩:=Option.isSome_iff_exists.1 hz
 obtain ⟨e', i', zv,he', hi', hz', hzl⟩:=Nf hz
 obtain rfl:e=e' := by rw [he] at he'; simpa using he'
 obtain rfl:i=i' := by rw [hi] at hi'; simpa using hi'
 have hpl:parts.toList.length=n:=by have:=congrArg List.length h1;simpa using this
 have hones:∀ p∈parts.toList,(a.eval p.2).oneCell' = true:=fun p hp=>by
  have:=List.all_eq_true.1 h3 (p.1,cX p.2) (List.mem_map.2 ⟨p,hp,rfl⟩)
  exact Kj (Hu hR p.2) this
 let vals:=parts.toList.map fun p=>(p.1,a.eval p.2)
 let c0:Array Value:=(Array.range (n*1)).map fun m=>(if n*1=0 then #[] else zv.cells)[m%(if n*1=0 then (#[]:Array Value) else zv.cells).size]!
 have hf := Wa vals 0 c0 (by
     have:vals.map (·.1)=parts.toList.map (·.1):=by simp [vals]
     rw [this]
     simp only [List.map_map] at h1
     rw [List.range_eq_range'] at h1
     simpa [vals,hpl,Function.comp_def] using h1) (fun p hp=>by
     obtain ⟨q,hq,rfl⟩:=List.mem_map.1 hp
     exact Y4 (hones q hq)) (by simp [c0,vals,hpl])
 simp only [List.take_zero,List.nil_append] at hf
 refine N4 (cs:=(parts.toList.map fun (i,x)=>(i,cX x)).map fun p=>ax F p.2) (arr:=(vals.map (·.2)).toArray) (elem:=e) hR.hp (v:=.slice (some ⟨w.heap.size,0,none⟩) n n) ?_ (by simp [vals]) (fun m hm=>?_) (fun g' hρ=>Ja hρ (by simp [hpl]) ?_) hK
 ·have hparts:(parts.map fun (i,x)=>(i,a.eval x)).toList=vals:=by simp [vals]
  simp only [execOp,hop,Instr.buildSlice,Sem.run_bind,run_underlying he,Result.andThen_ok]
  have hs:∀ w', (sizeOf e).run P w' = .ok 1 w' := fun w' => by simp [sizeOf,typeInfo,hi,hsz]
  rw [hs,Result.andThen_ok,if_neg (by omega)]
  simp only [hparts]
  have hf' : Instr.fill (fun i=>some (i*1,1)) ((Array.range (n*1)).map fun m=>(if n*1=0 then #[] else zv.cells)[m%(if n*1=0 then (#[]:Array Value) else zv.cells).size]!) vals=some (vals.map (·.2)).toArray:=hf
  by_cases h0:n*1=0
  ·simp only [h0,if_true] at hf' ⊢
   simp only [Sem.run_bind,Sem.run_pure,Result.andThen_ok,hf']
   simp [newRow]
  ·simp only [h0,if_false] at hf' ⊢
   have hz0:∀ w', (zeroValue e).run P w' = .ok zv w' := fun w' => by simp [zeroValue,typeInfo,hi,hz']
   simp only [Sem.run_bind,Sem.run_pure,Result.andThen_ok,hz0,hf']
   simp [newRow]
 ·simp only [List.length_map,Array.length_toList] at hm
  simp [vals,hm]
  exact Hu hR _
 ·refine ⟨n,Nat.le_refl _,by unfold maxLen;omega,by simp [vals,hpl],.inl (by simp)⟩
theorem kY {o : Oper} {t : TypeId} {n k : Nat} {z : List Value} {parts : Array (Nat × Operand)} {K : AV → Heap → Prop} {ext : Bool} (hR : R N g F H a w) (hop : o.op = .buildSlice t n parts) (hk : Da P t = some k) (hz : Ex P t = some z) (hzk : z.length = k) (hk0 : 0 < k)
    (hE:Bp (.bsk k n z (parts.toList.map fun (i,x)=>(i*k,k,cX x))) F H K):By P a w g H o ext K:=False.elim hE
end
section
variable {P:Program} {N:Nat} {g:Gh} {F:Frame} {H:Heap} {a:Act} {w:World}
def K4 (P:Program)(u:TypeId):Prop:=P.underlying u=some .string∨∃ e,P.underlying u=some (.slice e)
def K5 (xv:Value)(m:Nat):Prop:=(∃ xa mc,xv = .slice xa m mc)∨∃ s,xv = .string s∧s.size=m
theorem vL {t u ty e e' : TypeId} {i : TypeInfo} (ht : P.underlying t = some (.slice e)) (hi : P.info? e = some i) (hu : K4 P u) {b off sLen sCap m : Nat} {xv : Value} (hxv : K5 xv m) {cur : Array Value} {z : Nat × Nat} (hzok : z.2 ≤ z.1 ∨ cur.size ≤ z.1) {news : List Value} (hg : w.heap[b]? = some (.cells cur e' z))
    (hf:(Builtin.firstCells i.size m xv).run P w = .ok news.toArray w) (h1:∀ u∈news,u.oneCell' = true) (hroom:sLen+m≤sCap) (hfit:off+sLen*i.size+news.length≤cur.size):
    (Builtin.append_ #[t,u] ty #[.slice (some ⟨b,off,none⟩) sLen sCap,xv]).run P w =
     .ok (.slice (some ⟨b,off,none⟩) (sLen+m) sCap) (w.setRow b (cur.toList.take (off+sLen*i.size)++news++cur.toList.drop (off+sLen*i.size+news.length)).toArray):=by
 have hst:=O2 P b (off+sLen*i.size) e' z news 0 cur w hg hzok (by omega) h1
 simp only [Nat.add_zero] at hst
 rcases hu with hu | ⟨_,hu⟩<;>rcases hxv with ⟨xa,mc,rfl⟩ | ⟨s,rfl,rfl⟩<;>simp [Builtin.append_,run_underlying ht,run_underlying hu,sizeOf,typeInfo,hi,Builtin.lenOf,hroom,hf,Et,hst]
theorem Zz {t u ty e : TypeId} {i : TypeInfo} (ht : P.underlying t = some (.slice e)) (hi : P.info? e = some i) (hu : K4 P u) {base : Option Addr} {sLen sCap : Nat} {xv : Value} (hxv : K5 xv 0) (hf : (Builtin.firstCells i.size 0 xv).run P w = .ok #[] w) (hroom : sLen ≤ sCap) :
    (Builtin.append_ #[t,u] ty #[.slice base sLen sCap,xv]).run P w = .ok (.slice base sLen sCap) w:=by
 rcases hu with hu | ⟨_,hu⟩<;>rcases hxv with ⟨xa,mc,rfl⟩ | ⟨s,rfl,hs⟩<;>cases base<;>simp [Builtin.append_,run_underlying ht,run_underlying hu,sizeOf,typeInfo,hi,Builtin.lenOf,hroom,hf,storeCells, *]
theorem Zy {t u ty e : TypeId} {i : TypeInfo} {z : Value} (ht : P.underlying t = some (.slice e)) (hi : P.info? e = some i) (hz : i.zero = some z) (hu : K4 P u) {base : Option Addr} {sLen sCap m : Nat} {xv : Value} (hxv : K5 xv m) {olds news : List Value}
    (hfo:(Builtin.firstCells i.size sLen (.slice base sLen sCap)).run P w.drew = .ok olds.toArray w.drew) (hf:(Builtin.firstCells i.size m xv).run P w.drew = .ok news.toArray w.drew)
    (hg:sCap<sLen+m) (h63:sLen+m≤140737488355328) (hfit:(sLen+m)*i.bytes≤140737488355328):
    (Builtin.append_ #[t,u] ty #[.slice base sLen sCap,xv]).run P w =
     .ok (.slice (some ⟨w.heap.size,0,none⟩) (sLen+m) (grownCap w (sLen+m) sCap e)) (w.drew.alloc (.cells (olds++news++(Builtin.zeroCells z.cells (grownCap w (sLen+m) sCap e - (sLen+m))).toList).toArray e)):=by
 have hn:¬ (sLen+m≤sCap):=by omega
 have h63' : ¬ (9223372036854775807<((sLen:Int)+(m:Int))):=by omega
 have h48:=growslice_fits hg hfit
 have h48' : ¬ (281474976710656<Builtin.nextslicecap (sLen+m) sCap*i.bytes):=by omega
 rcases hu with hu | ⟨_,hu⟩<;>rcases hxv with ⟨xa,mc,rfl⟩ | ⟨s,rfl,rfl⟩<;>(simp [Builtin.append_,run_underlying ht,run_underlying hu,sizeOf,typeInfo,zeroValue,hi,hz,Builtin.lenOf,hn,h63', h48', Question.forced,hf,hfo,newRow,grownCap];congr 2;apply Array.ext'; simp)
theorem Sd (hR : R N g F H a w) {k m : Nat} {x : Operand} {new : List AV} (hok : Ap (ax F (cX x))) (hs : Hq H k (st (ax F (cX x))) = some (m, new)) (hpl : new.all Bf = true) :
    ∃ (xa:Option Addr) (mc:Nat) (news:List Value),a.eval x = .slice xa m mc∧news.length=new.length∧new.length=m*k∧(∀ w', Ext w w' → ∀ q,q≤m→(Builtin.firstCells k q (.slice xa m mc)).run P w' = .ok (news.take (q*k)).toArray w') ∧
     ∀ j (h:j<new.length),Rd w (g.tr H) g.G new[j] (news.getD j undef) []:=by
 have hx:=At hR x hok
 generalize hxe:st (ax F (cX x))=vx at hs hx
 have mk : ∀ (b off : Nat) (u : Nat → Value) (mc : Nat), new.length = m * k → b < w.heap.size → (∀ j, j < new.length → w.cell? ⟨b, off + j, none⟩ = some (u j)) → (∀ j (h : j < new.length), Rd w (g.tr H) g.G new[j] (u j) []) → a.eval x = .slice (some ⟨b, off, none⟩) m mc →
     ∃ (xa:Option Addr) (mc:Nat) (news:List Value),a.eval x = .slice xa m mc∧news.length=new.length∧new.length=m*k∧(∀ w', Ext w w' → ∀ q,q≤m→(Builtin.firstCells k q (.slice xa m mc)).run P w' = .ok (news.take (q*k)).toArray w') ∧
     ∀ j (h:j<new.length),Rd w (g.tr H) g.G new[j] (news.getD j undef) []:=by
  intro b off u mc hl hb hc hr hv
  refine ⟨_,mc,(List.range new.length).map u,hv,by simp,hl,fun w' hw q hq=>?_,fun j hj=>?_⟩
  ·have hqk:q*k≤m*k:=Nat.mul_le_mul_right _ hq
   refine run_firstCells_some (P:=P) w' k q ⟨b,off,none⟩ m mc _ (by rw [List.length_take];simp;omega) (fun j v hj=>?_)
   rw [List.getElem?_take] at hj
   split at hj
   rotate_left
   ·cases hj
   rw [List.getElem?_map,Option.map_eq_some_iff] at hj
   obtain ⟨j', hj', rfl⟩:=hj
   obtain ⟨hlt,hjj⟩:=List.getElem?_eq_some_iff.1 hj'
   simp only [List.getElem_range] at hjj
   subst hjj
   rw [Et,hw.cell hb]
   exact hc j (by simpa using hlt)
  ·have:((List.range new.length).map u).getD j undef=u j:=by simp [hj]
   rw [this];exact hr j hj
 have mk0 : ∀ xa mc, m = 0 → new = [] → a.eval x = .slice xa 0 mc → ∃ (xa : Option Addr) (mc : Nat) (news : List Value), a.eval x = .slice xa m mc ∧ news.length = new.length ∧ new.length = m * k ∧ (∀ w', Ext w w' → ∀ q, q ≤ m → (Builtin.firstCells k q (.slice xa m mc)).run P w' = .ok (news.take (q * k)).toArray w') ∧
     ∀ j (h:j<new.length),Rd w (g.tr H) g.G new[j] (news.getD j undef) []:=by
  rintro xa mc rfl rfl hv
  refine ⟨xa,mc,[],hv,rfl,by simp,fun w' _ q hq=>?_,fun j hj=>absurd hj (by simp)⟩
  obtain rfl:q=0:=by omega
  simp only [List.take_nil]
  cases xa with
  | none=>simp [Builtin.firstCells]
  | some b=>exact run_firstCells_some (P:=P) w' k 0 b 0 mc [] (by simp) (by simp)
 unfold Hq at hs
 split at hs
 ·rename_i k' n cs
  by_cases hk:k' = k
  ·rw [if_pos hk] at hs
   simp only [Option.some.injEq,Prod.mk.injEq] at hs
   obtain ⟨rfl,rfl⟩:=hs
   subst hk
   generalize hv:a.eval x=v at hx
   cases hx with
   | slc u hl hn hm hG hc hr=>rw [hv] at mk;exact mk _ _ u _ hl (hR.hp.low _ hG) hc hr rfl
   | slc0 hm=>rw [hv] at mk0;exact mk0 _ _ rfl rfl rfl
  ·rw [if_neg hk] at hs;cases hs
 ·rename_i o' k' off len
  by_cases hk:k' = k
  ·rw [if_pos hk] at hs
   split at hs
   ·rename_i cs ho'
    simp only [Option.some.injEq,Prod.mk.injEq] at hs
    obtain ⟨rfl,rfl⟩:=hs
    subst hk
    cases hx with
    | sl h00 hv0 h4=>
     obtain ⟨h5,h6⟩:=h4 _ (Gh.tr_some (g:=g) ho')
     dsimp only at h5 h6
     have hobj:=hR.hp.obj o' cs ho'
     cases hl:g.ρ o' with
     | none=>rw [hl] at h6;obtain ⟨h6,a0,h7⟩:=h6;exact mk0 _ _ h6 (by simp [h6]) h7
     | some l=>
      obtain ⟨b,base,sz⟩:=l
      rw [hl] at h6 hobj
      obtain ⟨cap,h7,h8,h9,h10⟩:=h6
      obtain ⟨arr,elem,u,bss,hb,hsz,hbase,hc,hrr,hob⟩:=hobj.cells (by omega)
      rcases h10 with h10 | ⟨rfl,aa,h10⟩
      ·have hlen:((cs.drop off).take (len*k')).length=len*k' := by rw [List.length_take,List.length_drop];omega
       refine mk b (base+off) (fun j=>u (off+j)) cap hlen (Array.getElem?_eq_some_iff.1 hb).1 (fun j hj=>?_) (fun j hj=>?_) h10
       ·rw [hlen] at hj
        have:=hc (off+j) (by omega)
        simp only [World.cell?,hb]
        simpa [Nat.add_assoc] using this
       ·have hj' := hj
        rw [hlen] at hj'
        simp only [List.getElem_take,List.getElem_drop]
        have h11:=hrr (off+j) (by omega)
        have h12:Bf cs[off+j]=true:=by
         have:=List.all_eq_true.1 hpl _ (List.getElem_mem hj)
         simpa only [List.getElem_take,List.getElem_drop] using this
        rwa [Oq h12 h11] at h11
      ·obtain rfl:len=0:=by omega
       exact mk0 _ _ rfl (by simp) h10
   ·cases hs
  ·rw [if_neg hk] at hs;cases hs
 ·simp only [Option.some.injEq,Prod.mk.injEq] at hs
  obtain ⟨rfl,rfl⟩:=hs
  exact mk0 _ _ rfl rfl hx.val_inv.1
 ·cases hs
theorem xP {f:Nat→List Nat}{l l' : List Nat}(h:l.Sublist l'):(l.flatMap f).Sublist (l'.flatMap f):=by
 induction h with
 | slnil=>simp
 | cons x _ ih=>simp only [List.flatMap_cons];exact ih.trans (List.sublist_append_right _ _)
 | cons_cons x _ ih=>simp only [List.flatMap_cons];exact (List.Sublist.refl _).append ih
theorem Z8 {f:Nat→List Nat}{off n N L:Nat}(h:off+n≤N)(hL:n≤L):((List.range L).flatMap fun m=>if m<n then f (off+m) else []).Sublist ((List.range N).flatMap f):=by
 obtain ⟨d,rfl⟩:=Nat.exists_eq_add_of_le hL
 rw [List.range_add,List.flatMap_append]
 have e2:(((List.range d).map (n + ·)).flatMap fun m=>if m<n then f (off+m) else [])=[]:=by
  rw [List.flatMap_eq_nil_iff]
  intro x hx
  obtain ⟨y,_,rfl⟩:=List.mem_map.1 hx
  rw [if_neg (by omega)]
 rw [e2,List.append_nil]
 have e1:((List.range n).flatMap fun m=>if m<n then f (off+m) else [])=((List.range n).map (off + ·)).flatMap f:=by
  rw [List.flatMap_map]
  simp only [List.flatMap_def]
  congr 1
  refine List.map_congr_left fun m hm=>?_
  rw [if_pos (List.mem_range.1 hm)]
 rw [e1]
 refine xP ?_
 rw [show N=off+n+(N - (off+n)) by omega,List.range_add,List.range_add]
 exact (List.sublist_append_right _ _).trans (List.sublist_append_left _ _)
theorem wY {f h:Nat→List Nat}{off n L:Nat}:((List.range (n+L)).flatMap fun m=>if m<n then f (off+m) else h (m - n))=((List.range n).flatMap fun m=>if m<n then f (off+m) else [])++(List.range L).flatMap h:=by
 rw [List.range_add,List.flatMap_append]
 congr 1
 ·simp only [List.flatMap_def]
  congr 1
  refine List.map_congr_left fun m hm=>?_
  rw [if_pos (List.mem_range.1 hm),if_pos (List.mem_range.1 hm)]
 ·rw [List.flatMap_map]
  simp only [List.flatMap_def]
  congr 1
  refine List.map_congr_left fun m hm=>?_
  rw [if_neg (by omega),show n+m - n=m by omega]
structure Loose (g:Gh) (H0 H:Heap) (w:World) (new:List AV) (us:Nat→Value) (bn:Nat→List Nat):Prop where
 rd:∀ m (h:m<new.length),Rd w (g.tr H) g.G new[m] (us m) (bn m)
 nd:((List.range new.length).flatMap bn).Nodup
 fr:∀ x,x∈(List.range new.length).flatMap bn→¬ g.G x∧x<w.heap.size∧g.owns H0 x∧∀ o c,H[o]? = some (some c)→x∉g.ob o
theorem We (l:List Nat):(l.flatMap fun _=>([]:List Nat))=[]:=by
 rw [List.flatMap_eq_nil_iff]
 intro _ _
 rfl
theorem Loose.plain {H0:Heap}{new:List AV}{us:Nat→Value}(h:∀ m (h:m<new.length),Rd w (g.tr H) g.G new[m] (us m) []):Loose g H0 H w new us fun _=>[]:=
 ⟨h,by rw [We];exact .nil,fun x hx=>by rw [We] at hx;cases hx⟩
theorem Loose.kill {H0:Heap}{new:List AV}{us:Nat→Value}{bn:Nat→List Nat}(h:Loose g H0 H w new us bn)(o:Nat):Loose g H0 (H.set o none) w new us bn:=
 ⟨fun m hm=>I0 (h.rd m hm),h.nd,fun x hx=>⟨(h.fr x hx).1,(h.fr x hx).2.1,(h.fr x hx).2.2.1,fun o' c h' => (h.fr x hx).2.2.2 o' c (Cs h').2⟩⟩
theorem nO {H0 : Heap} (hk0 : Mv g H0 w g H w) (hsub : ∀ (o : Nat) (c : List AV), H[o]? = some (some c) → H0[o]? = some (some c)) {w' : World} (hw : ∀ k, k < w.heap.size → w'.heap[k]? = w.heap[k]?) (hs : w.heap.size ≤ w'.heap.size) (ho : w'.os = w.os) (ht : F5 w w') (hout : w'.output = w.output) (hfz : ∀ a, w'.frozen? a = w.frozen? a) {b : Nat} (hbb : w.heap.size ≤ b) {arr : Array Value} {elem : TypeId} {cs : List AV} (u : Nat → Value) {bn : Nat → List Nat}
    (hb:w'.heap[b]? = some (.cells arr elem (0,0))) (hbase:cs.length≤arr.size)
    (hc:∀ m,m<cs.length→arr[m]? = some (u m)) (hL:Loose g H0 H w cs u bn):
    ∃ g', Mv g H0 w g' (H++[some cs]) w' ∧ g'.ρ H.length=some (b,0,arr.size):=by
 have hp:=hk0.hp
 have hnew:=Of hp hs (base:=0) (elem:=e0 arr.size elem) (cs:=cs) u bn (fun k hk _=>hw k hk) hb rfl (by omega) (fun m hm=>by rw [Nat.zero_add];exact hc m hm) hL.rd
  (fun hG=>absurd (hp.low _ hG) (by omega)) (fun o c h hm=>absurd ((hp.obj o c h).all_lt _ hm) (by omega)) (List.nodup_cons.2 ⟨fun h=>absurd (hL.fr _ h).2.1 (by omega),hL.nd⟩) (fun x hx=>⟨(hL.fr x hx).1,(hL.fr x hx).2.2.2⟩)
 refine ⟨_,⟨hnew.1,⟨ho,ht,hout,hs,fun k hk _=>hw k hk,fun k hk=>?_,fun _ h=>h,fun _ h=>.inl h,fun a _=>hfz a⟩,fun x v h=>hnew.2 x v [] (by simp) (hk0.lift x v h),fun o d h=>(hk0.trk o d h).imp (F0 g H _ _ _ o d) (F0 g H _ _ _ o none)⟩,by simp [Gh.add]⟩
 rcases Jw hk with ⟨o,c,h1,h2⟩ | h
 ·exact .inl ⟨o,c,hsub o c h1,h2⟩
 ·rcases List.mem_cons.1 h with rfl | h
  ·exact .inr hbb
  ·exact .inl (hL.fr _ h).2.2.1
theorem Ri {H0 : Heap} (hk0 : Mv g H0 w g H w) (hsub0 : ∀ (o : Nat) (c : List AV), H[o]? = some (some c) → H0[o]? = some (some c)) {o b base sz off n : Nat} {cs new : List AV} (ho : H[o]? = some (some cs)) (hl : g.ρ o = some (b, base, sz)) (hle : base ≤ sz) (hon : off + n ≤ cs.length) {w' : World} (hos : w'.os = w.os) (hfz : ∀ a, w'.frozen? a = w.frozen? a) (htape : F5 w w') (hout : w'.output = w.output)
    (hs:w.heap.size≤w'.heap.size) {b' base' sz' : Nat} {arr' : Array Value} {elem' : EZ sz'} (hb' : b' = b∨w.heap.size≤b') (hkeep:∀ k,k<w.heap.size→k≠b' → w'.heap[k]? = w.heap[k]?) (hb:w'.heap[b']? = some (.cells arr' elem'.1.1 elem'.1.2)) (hsz:arr'.size=sz')
    (hbase:base' + (n+new.length)≤sz') (hold:∀ arr (elem:EZ sz),w.heap[b]? = some (.cells arr elem.1.1 elem.1.2)→∀ m,m<n→arr'[base' + m]? = arr[base+off+m]?) (us:Nat→Value) {bn:Nat→List Nat} (hnew:∀ m,m<new.length→arr'[base' + n+m]? = some (us m))
    (hL:Loose g H0 H w new us bn):
    ∃ g', Mv g H0 w g' (H.set o none++[some ((cs.drop off).take n++new)]) w' ∧ g'.ρ H.length=some (b', base', sz'):=by
 have hp:=hk0.hp
 obtain ⟨arr,elem,u,bss,hbb,hszz,hbs,hc,hrr,hob⟩:=(hl ▸ hp.obj o cs ho:ObjR w (g.tr H) g.G cs (g.ob o) (some (b,base,sz))).cells hle
 have hnd:=hp.nodup o cs ho
 rw [hob] at hnd
 have hbo:b∈g.ob o:=by rw [hob];simp
 have hlen1:((cs.drop off).take n).length=n:=by rw [List.length_take,List.length_drop];omega
 have hlen:((cs.drop off).take n++new).length=n+new.length:=by rw [List.length_append,hlen1]
 let bss' : Nat→List Nat:=fun m=>if m<n then bss (off+m) else bn (m - n)
 have hfl:(List.range ((cs.drop off).take n++new).length).flatMap bss' = ((List.range n).flatMap fun m=>if m<n then bss (off+m) else [])++(List.range new.length).flatMap bn:=by
  rw [hlen]
  exact wY
 have hsub:((List.range n).flatMap fun m=>if m<n then bss (off+m) else []).Sublist ((List.range cs.length).flatMap bss):=Z8 hon (Nat.le_refl _)
 have hin:∀ x,x∈(List.range ((cs.drop off).take n++new).length).flatMap bss' → x∈g.ob o∨x∈(List.range new.length).flatMap bn:=fun x hx=>by
  rw [hfl] at hx
  rcases List.mem_append.1 hx with h | h
  ·left;rw [hob];exact List.mem_cons_of_mem _ (hsub.subset h)
  ·exact .inr h
 have hlt:=(hp.obj o cs ho).all_lt
 have hnb:∀ x,x∈(List.range ((cs.drop off).take n++new).length).flatMap bss' → x≠b' := fun x hx e=>by
  rcases hb' with rfl | hge
  ·rw [hfl] at hx
   rcases List.mem_append.1 hx with h | h
   ·exact (List.nodup_cons.1 hnd).1 (e ▸ hsub.subset h)
   ·exact (hL.fr x h).2.2.2 o cs ho (e ▸ hbo)
  ·rcases hin x hx with h | h
   ·have:=hlt x h;omega
   ·have:=(hL.fr x h).2.1;omega
 have hnd2:((List.range ((cs.drop off).take n++new).length).flatMap bss').Nodup:=by
  rw [hfl]
  refine List.nodup_append.2 ⟨(List.nodup_cons.1 hnd).2.sublist hsub,hL.nd,fun x hx y hy e=>?_⟩
  subst e
  exact (hL.fr x hy).2.2.2 o cs ho (by rw [hob];exact List.mem_cons_of_mem _ (hsub.subset hx))
 have hnG:¬ g.G b' := by
  rcases hb' with rfl | hge
  ·exact hp.free o cs ho _ hbo
  ·exact fun h=>absurd (hp.low _ h) (by omega)
 have hnO:∀ o' c,(H.set o none)[o']? = some (some c)→b' ∉ g.ob o' := fun o' c h hm=>by
  obtain ⟨hne,h⟩:=Cs h
  rcases hb' with rfl | hge
  ·exact hp.apart o' o c cs h ho hne _ hm hbo
  ·have:=(hp.obj o' c h).all_lt _ hm;omega
 have hk:=Ly hp o
 have hnew2:=Of hk (w' := w') hs (b:=b') (base:=base') (sz:=sz') (arr:=arr') (elem:=elem') (cs:=(cs.drop off).take n++new) (fun m=>if m<n then u (off+m) else us (m - n)) bss' hkeep hb hsz (by omega)
  (fun m hm=>by
   rw [hlen] at hm
   by_cases h1:m<n
   ·rw [if_pos h1,hold arr elem hbb m h1]
    have:=hc (off+m) (by omega)
    rwa [← Nat.add_assoc] at this
   ·rw [if_neg h1]
    have:=hnew (m - n) (by omega)
    rwa [show base' + n+(m - n)=base' + m by omega] at this)
  (fun m hm=>by
   have hm2:=hm
   rw [hlen] at hm2
   by_cases h1:m<n
   ·have e1 : ((cs.drop off).take n ++ new)[m] = cs[off + m] := by
      rw [List.getElem_append_left (by omega)];simp
    rw [e1,if_pos h1]
    simp only [bss', if_pos h1]
    exact I0 (hrr (off+m) (by omega))
   ·have e1 : ((cs.drop off).take n ++ new)[m] = new[m - n] := by
      rw [List.getElem_append_right (by omega)]
      congr 1;omega
    rw [e1,if_neg h1]
    simp only [bss', if_neg h1]
    exact I0 (hL.rd (m - n) (by omega)))
  hnG hnO (List.nodup_cons.2 ⟨fun h=>hnb _ h rfl,hnd2⟩)
  (fun x hx=>⟨(hin x hx).elim (hp.free o cs ho x) fun h=>(hL.fr x h).1,fun o' c h hm=>by
   obtain ⟨hne,h⟩:=Cs h
   rcases hin x hx with h3 | h3
   ·exact hp.apart o' o c cs h ho hne x hm h3
   ·exact (hL.fr x h3).2.2.2 o' c h hm⟩)
 have htr : ∀ o' d, g.tr H o' = some d → (g.add H.length (some (b', base', sz')) (b' :: (List.range ((cs.drop off).take n ++ new).length).flatMap bss')).tr (H.set o none ++ [some ((cs.drop off).take n ++ new)]) o' = some d ∨
     (g.add H.length (some (b', base', sz')) (b' :: (List.range ((cs.drop off).take n++new).length).flatMap bss')).tr (H.set o none++[some ((cs.drop off).take n++new)]) o' = some none:=fun o' d h=>by
  have key:∀ d,g.tr (H.set o none) o' = some d→(g.add H.length (some (b', base', sz')) (b' :: (List.range ((cs.drop off).take n++new).length).flatMap bss')).tr (H.set o none++[some ((cs.drop off).take n++new)]) o' = some d:=fun d h=>by
   have:=F0 g (H.set o none) (some (b', base', sz')) (b' :: (List.range ((cs.drop off).take n++new).length).flatMap bss') (some ((cs.drop off).take n++new)) o' d h
   simpa only [List.length_set] using this
  exact (Ky g H o o' d h).imp (key d) (key none)
 simp only [List.length_set] at hnew2
 refine ⟨_,⟨hnew2.1,⟨hos,htape,hout,hs,fun k hk hO=>hkeep k hk (fun e=>?_),fun k hk=>?_,fun _ h=>h,fun _ h=>.inl h,fun a _=>hfz a⟩,fun x v h=>hnew2.2 x v [] (by simp) (I0 (hk0.lift x v h)),fun o' d h=>(hk0.trk o' d h).elim (fun h=>htr o' d h) fun h=>.inr ((htr o' none h).elim id id)⟩,by simp [Gh.add]⟩
 ·rcases hb' with rfl | hge
  ·exact hO ⟨o,cs,hsub0 o cs ho,e ▸ hbo⟩
  ·omega
 ·have hk' : (g.add (H.set o none).length (some (b', base', sz')) (b' :: (List.range ((cs.drop off).take n++new).length).flatMap bss')).owns (H.set o none++[some ((cs.drop off).take n++new)]) k:=by simpa only [List.length_set] using hk
  rcases Jw hk' with ⟨o', c,h1,h2⟩ | h
  ·exact .inl ⟨o', c,hsub0 _ _ (Cs h1).2,h2⟩
  ·rcases List.mem_cons.1 h with rfl | h
   ·rcases hb' with rfl | hge
    ·exact .inl ⟨o,cs,hsub0 o cs ho,hbo⟩
    ·exact .inr hge
   ·rcases hin k h with h | h
    ·exact .inl ⟨o,cs,hsub0 o cs ho,h⟩
    ·exact .inl (hL.fr k h).2.2.1
theorem vS (w:World)(b:Nat)(c:Array Value):(w.setRow b c).heap.size=w.heap.size:=by simp [World.setRow]
theorem Yn (hp:HeapR g H w):Mv g H w (g.add H.length none []) (H++[some []]) w:=by
 have lift:∀ x v bs,Rd w (g.tr H) g.G x v bs→Rd w ((g.add H.length none []).tr (H++[some []])) g.G x v bs:=fun x v bs h=>
  h.mono (fun _ h=>h) (fun _ _=>rfl) (fun o d h=>.inl (F0 g H _ _ _ o d h)) (fun _ _=>rfl)
 have hob:∀ o,o<H.length→(g.add H.length none []).ob o=g.ob o:=fun o h=>by simp [Gh.add,Nat.ne_of_lt h]
 have hob' : (g.add H.length none []).ob H.length=[]:=by simp [Gh.add]
 have hρ:∀ o,o<H.length→(g.add H.length none []).ρ o=g.ρ o:=fun o h=>by simp [Gh.add,Nat.ne_of_lt h]
 refine ⟨⟨?_,?_,?_,?_,hp.low⟩,⟨rfl,⟨rfl,Nat.le_refl _⟩,rfl,Nat.le_refl _,fun _ _ _=>rfl,fun k hk=>?_,fun _ h=>h,fun _ h=>.inl h,fun _ _=>rfl⟩,fun x v h=>lift x v [] h,fun o d h=>.inl (F0 g H _ _ _ o d h)⟩
 ·intro o cs ho
  rcases C8 ho with ⟨hlt,ho'⟩ | ⟨rfl,he⟩
  ·rw [hob o hlt,hρ o hlt]
   exact (hp.obj o cs ho').mono (fun _ h=>h) (fun _ _=>rfl) (fun o d h=>.inl (F0 g H _ _ _ o d h)) (fun _ _=>rfl)
  ·obtain rfl:=Option.some.inj he
   rw [hob', show (g.add H.length none []).ρ H.length=none by simp [Gh.add]]
   exact ObjR.nil
 ·intro o cs ho
  rcases C8 ho with ⟨hlt,ho'⟩ | ⟨rfl,he⟩
  ·rw [hob o hlt];exact hp.nodup o cs ho'
  ·rw [hob'];simp
 ·intro o o' c c' ho ho' hne b h1 h2
  rcases C8 ho with ⟨hlt,ho1⟩ | ⟨rfl,he⟩
  ·rcases C8 ho' with ⟨hlt', ho1'⟩ | ⟨rfl,he'⟩
   ·rw [hob o hlt] at h1;rw [hob o' hlt'] at h2;exact hp.apart o o' c c' ho1 ho1' hne b h1 h2
   ·rw [hob'] at h2;cases h2
  ·rw [hob'] at h1;cases h1
 ·intro o c ho b h1
  rcases C8 ho with ⟨hlt,ho1⟩ | ⟨rfl,he⟩
  ·rw [hob o hlt] at h1;exact hp.free o c ho1 b h1
  ·rw [hob'] at h1;cases h1
 ·rcases Jw hk with h | h
  ·exact .inl h
  ·cases h
theorem Tc (w:World)(x:Obj):(w.drew.alloc x).heap.size=w.heap.size+1∧(w.drew.alloc x).heap[w.heap.size]? = some x∧∀ k,k<w.heap.size→(w.drew.alloc x).heap[k]? = w.heap[k]?:=
 ⟨by show (w.heap.push x).size=_;simp,heap_alloc_new w.drew x,fun k hk=>heap_alloc_old w.drew x k hk⟩
theorem xA (hR : R N g F H a w) {k m : Nat} {x : Operand} {new : List AV} (hok : Ap (ax F (cX x))) (hs : Jb H k (st (ax F (cX x))) = some (m, new)) (hpl : new.all Bf = true) :
    ∃ (xv:Value) (news:List Value),a.eval x=xv∧K5 xv m∧news.length=new.length∧new.length=m*k∧(∀ w', Ext w w' → ∀ q,q≤m→(Builtin.firstCells k q xv).run P w' = .ok (news.take (q*k)).toArray w') ∧
     ∀ j (h:j<new.length),Rd w (g.tr H) g.G new[j] (news.getD j undef) []:=by
 by_cases hst:∃ s,st (ax F (cX x)) = .val (.string s)
 ·obtain ⟨s,hst⟩:=hst
  have hx:=At hR x hok
  rw [hst] at hs hx
  by_cases hk:k=1
  ·subst hk
   simp only [Jb,if_true,Option.some.injEq,Prod.mk.injEq] at hs
   obtain ⟨rfl,rfl⟩:=hs
   have hsz:s.size=s.data.toList.length:=rfl
   refine ⟨.string s,s.data.toList.map fun b=>.int .u8 (b.toNat:Int),hx.val_inv.1,.inr ⟨s,rfl,rfl⟩,by simp [Ip],by rw [Nat.mul_one,Ip,List.length_map];exact hsz.symm,fun w' _ q hq=>?_,fun j hj=>?_⟩
   ·simp only [Builtin.firstCells,Nat.mul_one,ByteArray.data_extract]
    show Result.ok _ _=_
    congr 1
    apply Array.ext'
    simp [List.map_take]
   ·have hj' : j<s.data.toList.length:=by simpa [Ip] using hj
    have e:(s.data.toList.map fun b=>Value.int .u8 (b.toNat:Int)).getD j undef = .int .u8 (s.data.toList[j].toNat:Int):=by
     rw [List.getD_eq_getElem?_getD,List.getElem?_map,List.getElem?_eq_getElem hj']
     rfl
    rw [e]
    simp only [Ip,List.getElem_map]
    exact .val
  ·simp only [Jb,if_neg hk] at hs
   cases hs
 ·have hs2 : Hq H k (st (ax F (cX x))) = some (m, new) := by
    unfold Jb at hs
    split at hs
    ·rename_i s he
     exact absurd ⟨s,he⟩ hst
    ·exact hs
  obtain ⟨xa,mc,news,h1,h2,h3,h4,h5⟩:=Sd (P:=P) hR hok hs2 hpl
  exact ⟨_,news,h1,.inl ⟨xa,mc,rfl⟩,h2,h3,h4,h5⟩
theorem xB (hR : R N g F H a w) {k m o2 k2 off len : Nat} {x : Operand} {new : List AV} (hok : Ap (ax F (cX x))) (hx : st (ax F (cX x)) = .sl o2 k2 off len) (hs : Hq H k (.sl o2 k2 off len) = some (m, new)) (hpl : new.all Bf = false) :
    ∃ (xa:Option Addr) (mc:Nat) (news:List Value) (bn:Nat→List Nat),a.eval x = .slice xa m mc∧news.length=new.length∧new.length=m*k∧(∀ w', Ext w w' → ∀ q,q≤m→(Builtin.firstCells k q (.slice xa m mc)).run P w' = .ok (news.take (q*k)).toArray w') ∧
     Loose g H (H.set o2 none) w new (fun j=>news.getD j undef) bn:=by
 have hxr:=At hR x hok
 rw [hx] at hxr
 simp only [Hq] at hs
 by_cases hk:k2=k
 rotate_left
 ·rw [if_neg hk] at hs;cases hs
 rw [if_pos hk] at hs
 subst hk
 split at hs
 rotate_left
 ·cases hs
 rename_i cs ho'
 simp only [Option.some.injEq,Prod.mk.injEq] at hs
 obtain ⟨rfl,rfl⟩:=hs
 cases hxr with
 | sl h00 hv0 h4=>
  obtain ⟨h5,h6⟩:=h4 _ (Gh.tr_some (g:=g) ho')
  dsimp only at h5 h6
  have hobj:=hR.hp.obj o2 cs ho'
  cases hl:g.ρ o2 with
  | none=>
   rw [hl] at h6
   obtain ⟨h6,a0,h7⟩:=h6
   exact absurd hpl (by simp [h6])
  | some l=>
   obtain ⟨b,base,sz⟩:=l
   rw [hl] at h6 hobj
   obtain ⟨cap,h7,h8,h9,h10⟩:=h6
   obtain ⟨arr,elem,u,bss,hb,hsz,hbase,hc,hrr,hob⟩:=hobj.cells (by omega)
   have hnd:=hR.hp.nodup o2 cs ho'
   rw [hob] at hnd
   rcases h10 with h10 | ⟨rfl,aa,h10⟩
   rotate_left
   ·obtain rfl:len=0:=by omega
    exact absurd hpl (by simp)
   have hlen:((cs.drop off).take (len*k2)).length=len*k2:=by rw [List.length_take,List.length_drop];omega
   have hbl:b<w.heap.size:=(Array.getElem?_eq_some_iff.1 hb).1
   have hgd:∀ j,j<len*k2→((List.range (len*k2)).map fun j=>u (off+j)).getD j undef=u (off+j):=fun j hj=>by simp [hj]
   have hfl:((List.range (len*k2)).flatMap fun j=>if j<len*k2 then bss (off+j) else []).Sublist ((List.range cs.length).flatMap bss):=Z8 (by omega) (Nat.le_refl _)
   refine ⟨_,cap,(List.range (len*k2)).map fun j=>u (off+j),fun j=>if j<len*k2 then bss (off+j) else [],h10,by simp [hlen],hlen,fun w' hw q hq=>?_,⟨fun j hj=>?_,?_,fun y hy=>?_⟩⟩
   ·have hqk:q*k2≤len*k2:=Nat.mul_le_mul_right _ hq
    refine run_firstCells_some (P:=P) w' k2 q ⟨b,base+off,none⟩ len cap _ (by rw [List.length_take,List.length_map,List.length_range,Nat.min_eq_left hqk]) (fun j v hj=>?_)
    rw [List.getElem?_take] at hj
    split at hj
    rotate_left
    ·cases hj
    rw [List.getElem?_map,Option.map_eq_some_iff] at hj
    obtain ⟨j', hj', rfl⟩:=hj
    obtain ⟨hlt,hjj⟩:=List.getElem?_eq_some_iff.1 hj'
    simp only [List.getElem_range] at hjj
    subst hjj
    rw [Et,hw.cell hbl]
    have:=hc (off+j) (by simp only [List.length_range] at hlt;omega)
    simp only [World.cell?,hb]
    simpa [Nat.add_assoc] using this
   ·have hj' := hj
    rw [hlen] at hj'
    rw [hgd j hj', if_pos hj']
    simp only [List.getElem_take,List.getElem_drop]
    exact I0 (hrr (off+j) (by omega))
   ·rw [hlen]
    exact (List.nodup_cons.1 hnd).2.sublist hfl
   ·rw [hlen] at hy
    have hyo:y∈g.ob o2:=by rw [hob];exact List.mem_cons_of_mem _ (hfl.subset hy)
    exact ⟨hR.hp.free o2 cs ho' y hyo,(hR.hp.obj o2 cs ho').all_lt _ hyo,⟨o2,cs,ho', hyo⟩,fun o' c h hm=>by
     obtain ⟨hne,h⟩:=Cs h
     exact hR.hp.apart o' o2 c cs h ho' hne y hm hyo⟩
theorem Xm {H0 : Heap} {o : Oper} {t u e : TypeId} {i : TypeInfo} {zv : Value} {s x : Operand} {k m n : Nat} {z : List Value} {K : AV → Heap → Prop} {new old : List AV} {H1 : Heap} {xv : Value} {news : List Value} {bn : Nat → List Nat} (hk0 : Mv g H0 w g H w) (hsub0 : ∀ (o : Nat) (c : List AV), H[o]? = some (some c) → H0[o]? = some (some c)) (hR : R N g F H a w)
    (hop:o.op = .call { callee:=.builtin .append,args:=#[s,x],argTypes:=#[t,u] }) (hu:K4 P u) (he:P.underlying t=some (.slice e)) (hi:P.info? e=some i) (hz' : i.zero=some zv) (hzl:zv.cells.toList=z) (hsz:i.size=k) (hzk:z.length=k) (h1:Ap (ax F (cX s)))
    (hd:Iv H k (st (ax F (cX s)))=some (n,old,H1)) (hvx:a.eval x=xv) (hxv:K5 xv m) (hnl:news.length=new.length) (hnk:new.length=m*k) (hfc:∀ w', Ext w w' → ∀ q,q≤m→(Builtin.firstCells k q xv).run P w' = .ok (news.take (q*k)).toArray w')
    (hL:Loose g H0 H w new (fun j=>news.getD j undef) bn) (hone:new.all B1=true) (h63:n+m≤140737488355328) (hby:(n+m)*Ha P t≤140737488355328) (hK:K (.sl H.length k 0 (n+m)) (H1++[some (old++new)])):By P a w g H0 o false K:=by
 rw [Vt he hi] at hby
 have hones:∀ u∈news,u.oneCell' = true:=fun u hu=>by
  obtain ⟨j,hj,rfl⟩:=List.mem_iff_getElem.1 hu
  have:=hL.rd j (by omega)
  rw [show news.getD j undef=news[j] by simp [hj]] at this
  exact Kj this (List.all_eq_true.1 hone _ (List.getElem_mem _))
 have exec:∀ v r w', a.eval s=v→(Builtin.append_ #[t,u] o.type #[v,xv]).run P w = .ok r w' → (execOp a.eval o).run P w = .ok (.value r) w' := by
  intro v r w' hv hr
  simp [execOp,hop,resolve,invoke,builtin,hv,hvx,hr]
 rw [← hsz] at hfc
 have hnt:news.take (m*i.size)=news:=List.take_of_length_le (by rw [hnl,hnk,hsz];exact Nat.le_refl _)
 have hf0:=hfc w (fun _ _=>rfl) m (Nat.le_refl _)
 have hf1:=hfc w.drew (fun _ _=>rfl) m (Nat.le_refl _)
 rw [hnt] at hf0 hf1
 have hsx:=At hR s h1
 have nild:∀ v,a.eval s=v→(v = .slice none 0 0∨∃ aa,v = .slice aa 0 0)→n=0→old=[]→H1.length=H.length→Mv g H0 w g H1 w→(∀ (o:Nat) (c:List AV),H1[o]? = some (some c)→H0[o]? = some (some c))→Loose g H0 H1 w new (fun j=>news.getD j undef) bn→By P a w g H0 o false K:=by
  intro v hv hv2 hn hold hH1 hmv hs1 hL1
  subst hn hold
  have hv3:∃ aa,v = .slice aa 0 0:=hv2.elim (fun h=>⟨none,h⟩) id
  obtain ⟨aa,rfl⟩:=hv3
  by_cases hm:m=0
  ·subst hm
   have hnew:new=[]:=List.eq_nil_of_length_eq_zero (by simpa using hnk)
   subst hnew
   have hnews:news=[]:=List.eq_nil_of_length_eq_zero (by simpa using hnl)
   subst hnews
   have hmv2:=hmv.trans (Yn hmv.hp)
   refine ⟨_,w,_,_,_,.inl (exec _ _ _ hv (Zz he hi hu hxv hf0 (Nat.le_refl _))),hmv2,?_,fun h=>(by cases h),hK⟩
   rw [← hH1]
   exact Ja (l:=none) (by simp [Gh.add]) (by simp) ⟨by omega,aa,rfl⟩
  ·have hfo : (Builtin.firstCells i.size 0 (.slice aa 0 0)).run P w.drew = .ok ([] : List Value).toArray w.drew := by
     cases aa with
     | none=>simp [Builtin.firstCells]
     | some b=>exact run_firstCells_some (P:=P) w.drew i.size 0 b 0 0 [] (by simp) (by simp)
   have hrun:=Zy (P:=P) (ty:=o.type) he hi hz' hu hxv hfo hf1 (by omega) (by omega) hby
   simp only [List.nil_append,Nat.zero_add] at hrun hK
   obtain ⟨ha1,ha2,ha3⟩:=Tc w (.cells (news++(Builtin.zeroCells zv.cells (grownCap w m 0 e - m)).toList).toArray e)
   obtain ⟨g', hm', hρ⟩:=nO hmv hs1 (w' := w.drew.alloc (.cells (news++(Builtin.zeroCells zv.cells (grownCap w m 0 e - m)).toList).toArray e)) ha3 (by omega) rfl ⟨rfl,by first | exact Nat.le_refl _ | exact Nat.le_succ _⟩ rfl (fun a=>Qp w.drew _ _ a) (Nat.le_refl _) (cs:=new) (fun j=>news.getD j undef) ha2
    (by simp;omega) (fun j hj=>by rw [List.getElem?_toArray,List.getElem?_append_left (by omega)];simp [show j<news.length by omega]) hL1
   refine ⟨_,_,g', _,_,.inl (exec _ _ _ hv hrun),hm', ?_,fun h=>(by cases h),hK⟩
   rw [← hH1]
   refine Ja hρ (by omega) ⟨_,grownCap_ge w m 0 e,grownCap_le_maxLen w m 0 e (by unfold maxLen;omega),?_,.inl (by simp)⟩
   have hge:=grownCap_ge w m 0 e
   have hzs:zv.cells.size=k:=by rw [← hzk,← hzl];simp
   simp only [List.size_toArray,List.length_append,Array.length_toList,size_zeroCells,hzs,hnl,hnk,← Nat.add_mul]
   rw [show m+(grownCap w m 0 e - m)=grownCap w m 0 e by omega]
   omega
 generalize hse:st (ax F (cX s))=vs at hd hsx
 unfold Iv at hd
 split at hd
 ·simp only [Option.some.injEq,Prod.mk.injEq] at hd
  obtain ⟨rfl,rfl,rfl⟩:=hd
  have hv:=hsx.val_inv.1
  exact nild _ hv (.inl rfl) rfl rfl rfl hk0 hsub0 hL
 ·rename_i o' k' off len
  by_cases hkk:k' = k
  ·rw [if_pos hkk] at hd
   subst hkk
   split at hd
   ·rename_i cs ho'
    simp only [Option.some.injEq,Prod.mk.injEq] at hd
    obtain ⟨rfl,rfl,rfl⟩:=hd
    cases hsx with
    | sl h00 hv0 h4=>
     obtain ⟨h5,h6⟩:=h4 _ (Gh.tr_some (g:=g) ho')
     dsimp only at h5 h6
     have hobj:=hR.hp.obj o' cs ho'
     cases hl:g.ρ o' with
     | none=>
      rw [hl] at h6
      obtain ⟨rfl,a0,h7⟩:=h6
      exact nild _ h7 (.inr ⟨a0,rfl⟩) rfl (by simp) (by simp) (hk0.trans (Xd hR.hp o')) (fun o c h=>hsub0 o c (Cs h).2) (hL.kill o')
     | some l=>
      obtain ⟨b,base,sz⟩:=l
      rw [hl] at h6 hobj
      obtain ⟨cap,h7,h8,h9,h10⟩:=h6
      obtain ⟨arr,elem,u,bss,hb,hszz,hbase,hc,hrr,hob⟩:=hobj.cells (by omega)
      have hlen1:((cs.drop off).take (len*k')).length=len*k' := by rw [List.length_take,List.length_drop];omega
      by_cases hm:m=0
      ·-- nothing is appended
       subst hm
       have hnew:new=[]:=List.eq_nil_of_length_eq_zero (by simpa using hnk)
       subst hnew
       have hnews:news=[]:=List.eq_nil_of_length_eq_zero (by simpa using hnl)
       subst hnews
       obtain ⟨g', hm', hρ⟩:=Ri hk0 hsub0 ho' hl (by omega) (off:=off) (n:=len*k') (by omega) (new:=[]) (w' := w) rfl (fun _=>rfl) ⟨rfl,by first | exact Nat.le_refl _ | exact Nat.le_succ _⟩ rfl (Nat.le_refl _) (b' := b) (base' := base+off) (sz' := sz) (elem' := elem) (.inl rfl) (fun _ _ _=>rfl) hb hszz (by simp;omega)
        (fun arr2 elem2 h2 j hj=>by rw [hb] at h2;simp only [Option.some.injEq,Obj.cells.injEq] at h2;obtain ⟨rfl,_⟩:=h2;rfl) (fun _=>undef) (bn:=fun _=>[]) (fun j hj=>absurd hj (by simp)) (Loose.plain fun j hj=>absurd hj (by simp))
       have hv2:∃ base2,a.eval s = .slice base2 len cap:=by
        rcases h10 with h10 | ⟨rfl,aa,h10⟩
        ·exact ⟨_,h10⟩
        ·obtain rfl:len=0:=by omega
         exact ⟨_,h10⟩
       obtain ⟨base2,hv2⟩:=hv2
       refine ⟨_,w,g', _,_,.inl (exec _ _ _ hv2 (Zz he hi hu hxv hf0 h7)),hm', ?_,fun h=>(by cases h),hK⟩
       have:=Ja (H:=H.set o' none) (k:=k') (n:=len+0) (cs:=(cs.drop off).take (len*k')++[]) (v:=.slice base2 len cap) (w' := w) (G:=g'.G) (l:=some (b,base+off,sz)) (by simpa only [List.length_set] using hρ) (by rw [List.append_nil,hlen1];simp)
        ⟨cap,by omega,h8,by omega,by
         rcases h10 with h10 | ⟨hc0,aa,h10⟩
         ·left;rw [hv2] at h10;simpa using h10
         ·right;rw [hv2] at h10;exact ⟨hc0,aa,h10⟩⟩
       simpa only [List.length_set] using this
      ·by_cases hroom:len+m≤cap
       ·-- within the capacity
        rcases h10 with h10 | ⟨rfl,aa,h10⟩
        ·have hfit2:len*k' + m*k' ≤ cap*k' := by rw [← Nat.add_mul];exact Nat.mul_le_mul_right _ hroom
         have hrun:=vL (P:=P) (ty:=o.type) he hi hu hxv (off:=base+off) (sLen:=len) (sCap:=cap) (by rw [hszz];exact elem.2) hb hf0 hones hroom (by rw [hsz];omega)
         rw [hsz] at hrun
         obtain ⟨g', hm', hρ⟩:=Ri hk0 hsub0 ho' hl (by omega) (off:=off) (n:=len*k') (by omega) (new:=new) (w' := w.setRow b (arr.toList.take (base+off+len*k')++news++arr.toList.drop (base+off+len*k' + news.length)).toArray)
          rfl (Wg hb (setRow_heap w b arr _ elem.1.1 _ hb) (fun k hk=>setRow_other w b k _ hk)) ⟨rfl,by first | exact Nat.le_refl _ | exact Nat.le_succ _⟩ rfl (by rw [vS];exact Nat.le_refl _) (b' := b) (base' := base+off) (sz' := sz) (elem' := elem) (.inl rfl) (fun j _ hj=>setRow_other w b j _ hj) (setRow_heap w b arr _ elem.1.1 _ hb) (by simp;omega) (by omega)
          (fun arr2 elem2 h2 j hj=>by
           rw [hb] at h2;simp only [Option.some.injEq,Obj.cells.injEq] at h2;obtain ⟨rfl,_⟩:=h2
           simp only [List.getElem?_toArray]
           rw [List.append_assoc,List.getElem?_append_left (by simp;omega),List.getElem?_take_of_lt (by omega)]
           simp)
          (fun j=>news.getD j undef) (fun j hj=>by
           simp only [List.getElem?_toArray]
           rw [List.append_assoc,List.getElem?_append_right (by simp;omega),List.getElem?_append_left (by simp;omega)]
           simp only [List.length_take,Array.length_toList]
           rw [show base+off+len*k' + j - min (base+off+len*k') arr.size=j by omega]
           simp [show j<news.length by omega]) hL
         refine ⟨_,_,g', _,_,.inl (exec _ _ _ h10 hrun),hm', ?_,fun h=>(by cases h),hK⟩
         have:=Ja (H:=H.set o' none) (k:=k') (n:=len+m) (cs:=(cs.drop off).take (len*k')++new) (v:=.slice (some ⟨b,base+off,none⟩) (len+m) cap) (w' := w.setRow b (arr.toList.take (base+off+len*k')++news++arr.toList.drop (base+off+len*k' + news.length)).toArray) (G:=g'.G) (l:=some (b,base+off,sz)) (by simpa only [List.length_set] using hρ)
          (by rw [List.length_append,hlen1,hnk,Nat.add_mul];exact Nat.le_refl _) ⟨cap,hroom,h8,by omega,.inl (by simp)⟩
         simpa only [List.length_set] using this
        ·omega
       ·-- a new block
        have hge:=grownCap_ge w (len+m) cap e
        have hzs:zv.cells.size=k' := by rw [← hzk,← hzl];simp
        have grow:∀ (base2:Option Addr) (olds:List Value),a.eval s = .slice base2 len cap→olds.length=len*k' → (∀ j,j<len*k' → olds[j]? = arr[base+off+j]?)→(Builtin.firstCells i.size len (.slice base2 len cap)).run P w.drew = .ok olds.toArray w.drew→By P a w g H0 o false K:=by
         intro base2 olds hv hol hoc hfo
         have hrun:=Zy (P:=P) (ty:=o.type) he hi hz' hu hxv hfo hf1 (by omega) (by omega) hby
         obtain ⟨ha1,ha2,ha3⟩:=Tc w (.cells (olds++news++(Builtin.zeroCells zv.cells (grownCap w (len+m) cap e - (len+m))).toList).toArray e)
         have hsz2:(olds++news++(Builtin.zeroCells zv.cells (grownCap w (len+m) cap e - (len+m))).toList).toArray.size=grownCap w (len+m) cap e*k' := by
          simp only [List.size_toArray,List.length_append,Array.length_toList,size_zeroCells,hzs,hnl,hnk,hol,← Nat.add_mul]
          congr 1
          omega
         have hle2:(len+m)*k' ≤ grownCap w (len+m) cap e*k' := Nat.mul_le_mul_right _ hge
         rw [Nat.add_mul] at hle2
         obtain ⟨g', hm', hρ⟩:=Ri hk0 hsub0 ho' hl (by omega) (off:=off) (n:=len*k') (by omega) (new:=new) (w' := w.drew.alloc (.cells (olds++news++(Builtin.zeroCells zv.cells (grownCap w (len+m) cap e - (len+m))).toList).toArray e))
          rfl (fun a=>Qp w.drew _ _ a) ⟨rfl,by first | exact Nat.le_refl _ | exact Nat.le_succ _⟩ rfl (by omega) (b' := w.heap.size) (base' := 0) (elem' := e0 _ e) (.inr (Nat.le_refl _)) (fun j hj _=>ha3 j hj) ha2 hsz2 (by omega)
          (fun arr2 elem2 h2 j hj=>by
           rw [hb] at h2;simp only [Option.some.injEq,Obj.cells.injEq] at h2;obtain ⟨rfl,_⟩:=h2
           simp only [List.getElem?_toArray,Nat.zero_add]
           rw [List.append_assoc,List.getElem?_append_left (by omega)]
           exact hoc j hj)
          (fun j=>news.getD j undef) (fun j hj=>by
           simp only [List.getElem?_toArray]
           rw [List.append_assoc,List.getElem?_append_right (by omega),List.getElem?_append_left (by omega)]
           rw [show 0+len*k' + j - olds.length=j by omega]
           simp [show j<news.length by omega]) hL
         refine ⟨_,_,g', _,_,.inl (exec _ _ _ hv hrun),hm', ?_,fun h=>(by cases h),hK⟩
         have:=Ja (H:=H.set o' none) (k:=k') (n:=len+m) (cs:=(cs.drop off).take (len*k')++new) (v:=.slice (some ⟨w.heap.size,0,none⟩) (len+m) (grownCap w (len+m) cap e)) (w' := w.drew.alloc (.cells (olds++news++(Builtin.zeroCells zv.cells (grownCap w (len+m) cap e - (len+m))).toList).toArray e)) (G:=g'.G) (l:=some (w.heap.size,0,grownCap w (len+m) cap e*k')) (by simpa only [List.length_set] using hρ)
          (by rw [List.length_append,hlen1,hnk,Nat.add_mul];exact Nat.le_refl _) ⟨_,hge,grownCap_le_maxLen w (len+m) cap e (by unfold maxLen;omega),by omega,.inl (by simp)⟩
         simpa only [List.length_set] using this
        rcases h10 with h10 | ⟨rfl,aa,h10⟩
        ·refine grow _ ((List.range (len*k')).map fun j=>u (off+j)) h10 (by simp) (fun j hj=>?_) ?_
         ·have:=hc (off+j) (by omega)
          rw [← Nat.add_assoc] at this
          simp [hj,this]
         ·refine run_firstCells_some (P:=P) w.drew i.size len ⟨b,base+off,none⟩ len cap _ (by simp [hsz]) (fun j v hj=>?_)
          rw [List.getElem?_map,Option.map_eq_some_iff] at hj
          obtain ⟨j', hj', rfl⟩:=hj
          obtain ⟨hlt,hjj⟩:=List.getElem?_eq_some_iff.1 hj'
          simp only [List.getElem_range] at hjj
          subst hjj
          have:=hc (off+j) (by simp only [List.length_range] at hlt;omega)
          rw [Et]
          show w.cell? _=_
          simp only [World.cell?,hb]
          simpa [Nat.add_assoc] using this
        ·obtain rfl:len=0:=by omega
         refine grow _ [] h10 (by simp) (fun j hj=>absurd hj (by omega)) ?_
         cases aa with
         | none=>simp [Builtin.firstCells]
         | some b=>exact run_firstCells_some (P:=P) w.drew i.size 0 b 0 0 [] (by simp) (by simp)
   ·cases hd
  ·rw [if_neg hkk] at hd;cases hd
 ·cases hd
theorem Xl {o : Oper} {t u : TypeId} {s x : Operand} {args : Array Operand} {ts : Array TypeId} {k : Nat} {z : List Value} {K : AV → Heap → Prop} (hR : R N g F H a w) (hop : o.op = .call { callee := .builtin .append, args := args, argTypes := ts }) (ha : args.toList = [s, x]) (hts : ts.toList = [t, u]) (hu : K4 P u)
    (hk:Da P t=some k) (hz:Ex P t=some z) (hzk:z.length=k) (hE:Bp (.app k (Ha P t) (cX s) (cX x)) F H K):By P a w g H o false K:=by
 obtain ⟨h1,h2,hE⟩:=hE
 obtain rfl:args = #[s,x]:=by rw [← Array.toArray_toList (xs:=args),ha]
 obtain rfl:ts = #[t,u]:=by rw [← Array.toArray_toList (xs:=ts),hts]
 obtain ⟨e,i,zv,he,hi,hz', hzl⟩:=Nf hz
 obtain ⟨e', i', he', hi', hsz⟩:=J2 hk
 obtain rfl:e=e' := by rw [he] at he'; simpa using he'
 obtain rfl:i=i' := by rw [hi] at hi'; simpa using hi'
 split at hE
 rotate_left
 ·exact hE.elim
 rename_i m new hs
 obtain ⟨hone,hE⟩:=hE
 cases hpl:new.all Bf with
 | true=>
  rw [hpl,Ml] at hE
  split at hE
  rotate_left
  ·exact hE.elim
  rename_i n old H1 hd
  obtain ⟨h63,hby,hK⟩:=hE
  obtain ⟨xv,news,hvx,hxv,hnl,hnk,hfc,hrn⟩:=xA (P:=P) hR h2 hs hpl
  exact Xm (Mv.refl hR.hp) (fun _ _ h=>h) hR hop hu he hi hz' hzl hsz hzk h1 hd hvx hxv hnl hnk hfc (Loose.plain hrn) hone h63 hby hK
 | false=>
  rw [hpl,Mk] at hE
  split at hE
  rotate_left
  ·exact hE.elim
  rename_i o2 k2 off len hsl
  split at hE
  rotate_left
  ·exact hE.elim
  rename_i n old H1 hd
  rw [hsl] at hs
  obtain ⟨h63,hby,hK⟩:=hE
  obtain ⟨xa,mc,news,bn,hvx,hnl,hnk,hfc,hL⟩:=xB (P:=P) hR h2 hsl hs hpl
  exact Xm (Xd hR.hp o2) (fun o c h=>(Cs h).2) ⟨fun j=>I0 (hR.fr j),Ly hR.hp o2,hR.size,hR.defers⟩ hop hu he hi hz' hzl hsz hzk h1 hd hvx (.inl ⟨xa,mc,rfl⟩) hnl hnk hfc hL hone h63 hby (by rw [List.length_set];exact hK)
theorem lD {o : Oper} {t t2 : TypeId} {s x : Operand} {args : Array Operand} {ts : Array TypeId} {K : AV → Heap → Prop} (hR : R N g F H a w) (hop : o.op = .call { callee := .builtin .copy, args := args, argTypes := ts }) (ha : args.toList = [s, x]) (hts : ts.toList = [t, t2])
    (hk:Da P t=some 1) (hE:Bp (.cpy (cX s) (cX x)) F H K):By P a w g H o false K:=by
 obtain ⟨h1,h2,hE⟩:=hE
 obtain rfl:args = #[s,x]:=by rw [← Array.toArray_toList (xs:=args),ha]
 obtain rfl:ts = #[t,t2]:=by rw [← Array.toArray_toList (xs:=ts),hts]
 obtain ⟨e,i,he,hi,hsz⟩:=J2 hk
 have hsx:=At hR s h1
 generalize hse:st (ax F (cX s))=vs at hE hsx
 split at hE
 ·rename_i o' off n m new hs
  split at hE
  ·rename_i cs ho'
   obtain ⟨hfit,hpl,hone,hK⟩:=hE
   obtain ⟨xa,mc,news,hvx,hnl,hnk,hfc,hrn⟩:=Sd (P:=P) hR h2 hs hpl
   rw [Nat.mul_one] at hnk
   have hmn:Nat.min m n≤m:=Nat.min_le_left _ _
   have hmn2:Nat.min m n≤n:=Nat.min_le_right _ _
   have htl:(new.take (Nat.min m n)).length=Nat.min m n:=by rw [List.length_take];omega
   have htl2:(news.take (Nat.min m n)).length=Nat.min m n:=by rw [List.length_take];omega
   have hsize:∀ w', (sizeOf e).run P w' = .ok 1 w' := fun w' => by simp [sizeOf,typeInfo,hi,hsz]
   have hones:∀ u∈news.take (Nat.min m n),u.oneCell' = true:=fun u hu=>by
    obtain ⟨j,hj,rfl⟩:=List.mem_iff_getElem.1 (List.mem_of_mem_take hu)
    have:=hrn j (by omega)
    rw [show news.getD j undef=news[j] by simp [hj]] at this
    exact Kj this (List.all_eq_true.1 hone _ (List.getElem_mem _))
   have hfc' : (Builtin.firstCells 1 (Nat.min m n) (.slice xa m mc)).run P w = .ok (news.take (Nat.min m n)).toArray w:=by
    have hw:=hfc w (fun _ _=>rfl) (Nat.min m n) hmn
    rw [Nat.mul_one] at hw
    exact hw
   have exec:∀ b cap w', a.eval s = .slice b n cap→(match b with | some ad=>storeCells ad (news.take (Nat.min m n)) | none=>pure ()).run P w = .ok () w' → (execOp a.eval o).run P w = .ok (.value (.int .i64 (Nat.min m n:Nat))) w' := by
    intro b cap w' hv hst
    have hn0:Nat.min (Nat.min m n) n=Nat.min m n:=Nat.min_eq_left hmn2
    cases b with
    | none=>
     simp only [Sem.run_pure,Result.ok.injEq,true_and] at hst
     subst hst
     simp [execOp,hop,resolve,invoke,builtin,Builtin.copy_,run_underlying he,hv,hvx,Builtin.lenOf,hsize,hfc', goInt]
    | some ad=>simp [execOp,hop,resolve,invoke,builtin,Builtin.copy_,run_underlying he,hv,hvx,Builtin.lenOf,hsize,hfc', hst,goInt]
   cases hsx with
   | sl h00 hv0 h4=>
    obtain ⟨h5,h6⟩:=h4 _ (Gh.tr_some (g:=g) ho')
    dsimp only at h5 h6
    cases hl:g.ρ o' with
    | none=>
     rw [hl] at h6
     obtain ⟨rfl,a0,h7⟩:=h6
     have hz:Nat.min m 0=0:=Nat.min_zero m
     have hHe:H.set o' (some (cs.take off++new.take (Nat.min m 0)++cs.drop (off+Nat.min m 0)))=H:=by
      rw [hz,List.take_zero,List.append_nil,Nat.add_zero,List.take_append_drop]
      exact List.ext_getElem? fun q=>by
       by_cases e:o' = q
       ·subst e
        rw [List.getElem?_set_self (List.getElem?_eq_some_iff.1 ho').1,ho']
       ·rw [List.getElem?_set_ne e]
     rw [hHe] at hK
     refine ⟨_,w,g,_,_,.inl (exec _ _ w h7 ?_),Mv.refl hR.hp,.val,fun h=>(by cases h),hK⟩
     rw [hz,List.take_zero]
     cases a0<;>simp [storeCells]
    | some l=>
     obtain ⟨b,base,sz⟩:=l
     rw [hl] at h6
     obtain ⟨cap,h7,h8,h9,h10⟩:=h6
     obtain ⟨arr,elem,u,bss,hb,hszz,hbase,hc,hrr,hob⟩:=(hl ▸ hR.hp.obj o' cs ho' : ObjR w (g.tr H) g.G cs (g.ob o') (some (b,base,sz))).cells (by omega)
     obtain ⟨g', hm⟩:=Z6 hR.hp ho' hl (j:=off) (vs:=new.take (Nat.min m n)) (by omega) (us:=news.take (Nat.min m n)) (by omega) (fun j hj=>by
      have hj' : j<Nat.min m n:=by omega
      have:=hrn j (by omega)
      rw [show (news.take (Nat.min m n)).getD j undef=news.getD j undef by simp [hj', show j<news.length by omega],List.getElem_take]
      exact this) hb
     rw [htl] at hm
     rcases h10 with h10 | ⟨rfl,aa,h10⟩
     ·have hst:=O2 P b (base+off) elem.1.1 elem.1.2 (news.take (Nat.min m n)) 0 arr w hb (by rw [hszz];exact elem.2) (by omega) hones
      simp only [Nat.add_zero] at hst
      exact ⟨_,_,g', _,_,.inl (exec _ _ _ h10 hst),hm,.val,fun h=>(by cases h),hK⟩
     ·obtain rfl:n=0:=by omega
      have hz:Nat.min m 0=0:=Nat.min_zero m
      have hHe:H.set o' (some (cs.take off++new.take (Nat.min m 0)++cs.drop (off+Nat.min m 0)))=H:=by
       rw [hz,List.take_zero,List.append_nil,Nat.add_zero,List.take_append_drop]
       exact List.ext_getElem? fun q=>by
        by_cases e:o' = q
        ·subst e
         rw [List.getElem?_set_self (List.getElem?_eq_some_iff.1 ho').1,ho']
        ·rw [List.getElem?_set_ne e]
      rw [hHe] at hK
      refine ⟨_,w,g,_,_,.inl (exec _ _ w h10 ?_),Mv.refl hR.hp,.val,fun h=>(by cases h),hK⟩
      rw [hz,List.take_zero]
      cases aa<;>simp [storeCells]
  ·exact hE.elim
 ·exact hE.elim
theorem lC {o : Oper} {t : TypeId} {s : Operand} {z : List Value} {args : Array Operand} {ts : Array TypeId} {K : AV → Heap → Prop} (hR : R N g F H a w) (hop : o.op = .call { callee := .builtin .clear, args := args, argTypes := ts }) (ha : args.toList = [s]) (hts : ts.toList = [t])
    (hz:Ex P t=some z) (hzl:z.length=1) (hE:Bp (.clr z (cX s)) F H K):By P a w g H o false K:=False.elim hE
end
section
variable {P:Program} {N:Nat} {g:Gh} {F:Frame} {H:Heap} {a:Act} {w:World}
theorem Yh {o:Nat}{cs:List AV}(h:Ga H (.mp o)=some cs):H[o]? = some (some [.mpc cs]):=by
 simp only [Ga] at h
 split at h
 ·rename_i cs' hcs
  obtain rfl:=Option.some.inj h
  exact hcs
 ·cases h
theorem Yi (hp : HeapR g H w) {o : Nat} {v : Value} (hr : Rd w (g.tr H) g.G (.mp o) v []) {cs : List AV} (h : H[o]? = some (some [.mpc cs])) :
    ∃ (r:Nat) (es:Array MapEntry) (clock:Nat) (bss:Nat→List Nat),v = .map (some r)∧g.ρ o=some (r,1,0)∧w.heap[r]? = some (.map es clock)∧cs.length=es.size+1 ∧
     (∀ m (h:m<cs.length),Rd w (g.tr H) g.G cs[m] ((Bo es clock).getD m undef) (bss m))∧g.ob o=r :: (List.range cs.length).flatMap bss:=by
 cases hr with
 | mp h00 hv0 h1=>
  obtain ⟨r,hl,hv⟩:=(h1 _ (Gh.tr_some (g:=g) h)).inv
  dsimp only at hl
  obtain ⟨u,bss,⟨es,clock,hb,_,hu⟩,hr,hob⟩:=(hl ▸ hp.obj o _ h:ObjR w (g.tr H) g.G _ (g.ob o) (some (r,1,0))).map
  have h0:=hr 0 (by simp)
  rw [hu] at h0
  simp only [List.getElem_cons_zero] at h0
  have hob' : g.ob o=r :: bss 0:=by rw [hob];simp [List.range_succ]
  generalize bss 0=bs0 at h0 hob'
  cases h0 with
  | mpc bss' hbs' hl' hr' => exact ⟨r,es,clock,bss', hv,hl,hb,by rw [hl', L0],hr', hbs' ▸ hob'⟩
theorem iK {w:World}{r:Nat}{es:Array MapEntry}{clock:Nat}{o' : Obj}(hb:w.heap[r]? = some (.map es clock))(ho:∀ c e f,o' ≠ .cells c e f)(a:Addr):({ w with heap:=w.heap.setIfInBounds r o' }:World).frozen? a=w.frozen? a:=by
 unfold World.frozen?
 have hlt:r<w.heap.size:=(Array.getElem?_eq_some_iff.1 hb).1
 by_cases e:a.block=r
 ·rw [e,hb]
  simp only [Array.getElem?_setIfInBounds_self_of_lt hlt]
  cases o' <;> first | rfl | exact absurd rfl (ho _ _ _)
 ·simp only [Array.getElem?_setIfInBounds_ne (Ne.symm e)]
theorem O4 (hp : HeapR g H w) {o r : Nat} {cs cs' : List AV} {es es' : Array MapEntry} {clock clock' : Nat} {bss bss' : Nat → List Nat} (ho : H[o]? = some (some [.mpc cs])) (hl : g.ρ o = some (r, 1, 0)) (hb : w.heap[r]? = some (.map es clock))
    (hob:g.ob o=r :: (List.range cs.length).flatMap bss) (hl' : cs'.length=es'.size+1) (hr' : ∀ m (h:m<cs'.length),Rd w (g.tr H) g.G cs'[m] ((Bo es' clock').getD m undef) (bss' m))
    (hsub:((List.range cs'.length).flatMap bss').Sublist ((List.range cs.length).flatMap bss)):
    ∃ g', Mv g H w g' (H.set o (some [.mpc cs'])) { w with heap:=w.heap.setIfInBounds r (.map es' clock') }:=by
 have hlt:r<w.heap.size:=(Array.getElem?_eq_some_iff.1 hb).1
 refine vW hp (v' := .tuple (Bo es' clock')) ho hl (fun k hk=>by simp [Array.getElem?_setIfInBounds_ne (Ne.symm hk)]) (by simp) rfl ⟨rfl,by first | exact Nat.le_refl _ | exact Nat.le_succ _⟩ rfl (iK hb (by intros;simp)) (.inr (.inl ⟨rfl,rfl,es', clock', by simp [hlt],rfl,rfl⟩)) (.mpc bss' rfl (by rw [L0];exact hl') hr') ?_
 rw [hob]
 exact hsub.cons_cons r
theorem Ns {r:Nat}{es:Array MapEntry}{clock:Nat}(hb:w.heap[r]? = some (.map es clock)):(getObj r).run P w = .ok (.map es clock) w:=by simp [getObj,Sem.run,hb]
theorem O3 {r:Nat}{es:Array MapEntry}{clock:Nat}(x:Obj)(hb:w.heap[r]? = some (.map es clock)):(setObj r x).run P w = .ok () { w with heap:=w.heap.setIfInBounds r x }:=by simp [setObj,Sem.run,hb]
theorem xH {kk:Option IntKind}{k:Value}(hk:Ee kk k=true):(Instr.keyThatStays k k).run P w = .ok k w:=by
 have:Instr.sameBits 10000 k k=true:=by
  cases kk<;>cases k<;>simp_all [Ee,Instr.sameBits,(Go.MapKept.bytes_beq _ _).2 rfl]
 simp [Instr.keyThatStays,this]
theorem Kc {es:Array MapEntry}{clock m:Nat}(h:es.size<m):(Bo es clock).getD m undef=undef:=by
 have:(Bo es clock)[m]? = none:=Array.getElem?_eq_none (by rw [L0];omega)
 simp only [Array.getD_eq_getD_getElem?,this,Option.getD_none]
theorem mJ {es:Array MapEntry}{clock j:Nat}{e:MapEntry}{f:MapEntry→MapEntry}(he:es[j]? = some e)(m:Nat):(Bo (es.modify j f) clock).getD m undef=if m=j+1 then F8 (f e) else (Bo es clock).getD m undef:=by
 have hj:j<es.size:=(Array.getElem?_eq_some_iff.1 he).1
 cases m with
 | zero=>rw [if_neg (by omega),I3,I3]
 | succ m=>
  by_cases hm:m<es.size
  ·have h1:es[m]? = some es[m]:=by simp [hm]
   have h2:(es.modify j f)[m]? = some (if m=j then f es[m] else es[m]):=by
    rw [Array.getElem?_modify]
    split
    ·rename_i h;subst h;simp [h1]
    ·rename_i h;simp [h1,Ne.symm h]
   rw [Hi _ _ m _ h2,Hi _ _ m _ h1]
   by_cases e1:m=j
   ·subst e1
    rw [h1] at he
    simp [Option.some.inj he]
   ·simp [e1]
  ·have e1:¬ m+1=j+1:=by omega
   rw [if_neg e1,Kc (by simp;omega),Kc (by omega)]
theorem mK {es:Array MapEntry}{clock clock' : Nat}{e:MapEntry}(m:Nat)(hm:0<m):(Bo (es.push e) clock').getD m undef=if m=es.size+1 then F8 e else (Bo es clock).getD m undef:=by
 cases m with
 | zero=>omega
 | succ m=>
  rcases Nat.lt_trichotomy m es.size with h | h | h
  ·have h1:es[m]? = some es[m]:=by simp [h]
   have h2:(es.push e)[m]? = some es[m]:=by rw [Array.getElem?_push_lt h]
   rw [Hi _ _ m _ h2,Hi _ _ m _ h1,if_neg (by omega)]
  ·subst h
   rw [Hi _ _ es.size e (by simp),if_pos rfl]
  ·rw [if_neg (by omega),Kc (by simp;omega),Kc (by omega)]
theorem mZ {cs:List AV}{c:Int}(h:Kf cs=some c):∃ l,cs = .val (.int .i64 c) :: l:=by
 unfold Kf at h
 split at h
 ·obtain rfl:=Option.some.inj h;exact ⟨_,rfl⟩
 ·cases h
section
variable {cs:List AV} {es:Array MapEntry} {clock:Nat} {bss:Nat→List Nat}
theorem sZ {tr : Nat → Option (Option A2)} {G : Nat → Prop} {j b : Nat} {e : MapEntry} {k : Value} {x : AV} {v : Value} {f : MapEntry → MapEntry} (hl : cs.length = es.size + 1) (hr : ∀ m (h : m < cs.length), Rd w tr G cs[m] ((Bo es clock).getD m undef) (bss m)) (he : es[j]? = some e) (hb : b = e.born)
    (hf:f e={ key:=k,val:=v,born:=e.born }) (hx:Rd w tr G x v []):
    (cs.set (j+1) (.ent b k x)).length=(es.modify j f).size+1∧(∀ m (h:m<(cs.set (j+1) (.ent b k x)).length),Rd w tr G (cs.set (j+1) (.ent b k x))[m] ((Bo (es.modify j f) clock).getD m undef) (if m=j+1 then [] else bss m)) ∧
     ((List.range (cs.set (j+1) (.ent b k x)).length).flatMap fun m=>if m=j+1 then [] else bss m).Sublist ((List.range cs.length).flatMap bss):=by
 refine ⟨by simp [hl],fun m hm=>?_,?_⟩
 ·rw [mJ he,List.getElem_set]
  by_cases h:m=j+1
  ·subst h
   rw [if_pos rfl,if_pos rfl,if_pos rfl,hf,hb]
   exact .ent hx
  ·rw [if_neg h,if_neg h,if_neg (Ne.symm h)]
   exact hr m (by simpa using hm)
 ·rw [List.length_set]
  exact No (fun m=>by split<;>simp) _
theorem sY {tr : Nat → Option (Option A2)} {G : Nat → Prop} {c : Int} {k : Value} {x : AV} {v : Value} (hl : cs.length = es.size + 1) (hr : ∀ m (h : m < cs.length), Rd w tr G cs[m] ((Bo es clock).getD m undef) (bss m)) (hc : Kf cs = some c) (hx : Rd w tr G x v []) :
    c=clock∧(Eg k x cs).length=(es.push { key:=k,val:=v,born:=clock }).size+1∧(∀ m (h:m<(Eg k x cs).length),Rd w tr G (Eg k x cs)[m] ((Bo (es.push { key:=k,val:=v,born:=clock }) (clock+1)).getD m undef) (if m=cs.length then [] else bss m)) ∧
     ((List.range (Eg k x cs).length).flatMap fun m=>if m=cs.length then [] else bss m).Sublist ((List.range cs.length).flatMap bss):=by
 obtain ⟨l,rfl⟩:=mZ hc
 have h0:=hr 0 (by simp)
 rw [I3] at h0
 simp only [List.getElem_cons_zero] at h0
 obtain ⟨h1,h2⟩:=h0.val_inv
 simp only [Value.int.injEq,true_and] at h1
 obtain rfl:c=clock:=h1.symm
 simp only [List.length_cons] at hl
 refine ⟨rfl,by simp [Eg];omega,fun m hm=>?_,?_⟩
 ·cases m with
  | zero=>
   rw [I3,if_neg (by simp),h2]
   simp only [Eg,List.getElem_cons_zero]
   rw [show ((clock+1:Nat):Int)=(clock:Int)+1 by omega]
   exact .val
  | succ m=>
   rw [mK (clock:=clock) (m+1) (by omega)]
   simp only [Eg,List.length_cons,List.length_append,List.length_nil] at hm
   simp only [Eg,List.getElem_cons_succ,List.length_cons]
   by_cases h:m=l.length
   ·subst h
    rw [if_pos (by omega),if_pos rfl,List.getElem_append_right (by omega)]
    simp only [Nat.sub_self,List.getElem_cons_zero]
    rw [show (clock:Int).toNat=clock by omega]
    exact .ent hx
   ·rw [if_neg (by omega),if_neg (by omega),List.getElem_append_left (by omega)]
    have:=hr (m+1) (by simp;omega)
    simpa using this
 ·have e1:(Eg k x (.val (.int .i64 (clock:Int)) :: l)).length=l.length+1+1:=by simp [Eg]
  rw [e1,List.range_succ,List.flatMap_append]
  simp only [List.length_cons,List.flatMap_cons,List.flatMap_nil,if_true,List.append_nil]
  exact No (fun m=>by split<;>simp) _
end
theorem Xo {o:Oper}{t:TypeId}{r:Option Operand}{k e:TypeId}{K:AV→Heap→Prop}{ext:Bool}(hR:R N g F H a w)(hop:o.op = .makeMap t r)(hr:r=none∨∃ q n,r=some (.const (.int q n)))(ht:P.underlying t=some (.map k e))(hE:Bp .mkm F H K):By P a w g H o ext K:=by
 have hrun:(execOp a.eval o).run P w = .ok (.value (.map (some w.heap.size))) (w.alloc (.map #[] 0)):=by
  rcases hr with rfl | ⟨q,n,rfl⟩
  ·simp [execOp,hop,Instr.makeMap,newObj,Sem.run]
  ·simp [execOp,hop,Instr.makeMap,newObj,Sem.run,run_underlying ht,Act.eval,asInt,asIntOf]
 obtain ⟨g', hm, hρ⟩ := nQ hR.hp (w' := w.alloc (.map #[] 0)) (fun k hk => heap_alloc_old w _ k hk) (by show w.heap.size ≤ (w.heap.push _).size; simp) rfl ⟨rfl, by first | exact Nat.le_refl _ | exact Nat.le_succ _⟩ rfl (fun a => by
     unfold World.frozen?
     by_cases h:a.block=w.heap.size
     ·rw [h,heap_alloc_new];simp
     ·show (match (w.heap.push _)[a.block]? with | some (.cells _ _ (lo,hi))=>decide (lo≤a.off)&&decide (a.off<hi) | _=>false)=_
      rw [Array.getElem?_push,if_neg h]
      generalize w.heap[a.block]? = q
      cases q with
      | none=>rfl
      | some q=>cases q<;>rfl) (b:=w.heap.size) (base:=1) (sz:=0) (Nat.le_refl _) (cs:=[.mpc [i64 0]]) (fun _=>.tuple (Bo #[] 0)) (.inr (.inl ⟨rfl,rfl,#[],0,heap_alloc_new w _,rfl,rfl⟩)) (fun m hm=>by
     simp only [List.length_cons,List.length_nil,Nat.zero_add] at hm
     obtain rfl:m=0:=by omega
     exact .mpc (fun _=>[]) (by simp) (by simp [Bo]) (fun m hm=>by
      simp only [List.length_cons,List.length_nil,Nat.zero_add] at hm
      obtain rfl:m=0:=by omega
      rw [I3];exact .val))
 refine ⟨.map (some w.heap.size),_,g', .mp H.length,_,.inl hrun,hm,.mp (by simp [Gh.tr]) ⟨_,rfl⟩ fun l hl=>?_,fun _ k hk=>heap_alloc_old w _ k hk,hE⟩
 rw [Gh.tr_some (by simp:(H++[some [AV.mpc [i64 0]]])[H.length]? = some (some [.mpc [i64 0]]))] at hl
 obtain rfl:=Option.some.inj (Option.some.inj hl)
 rw [hρ]
 rfl
theorem lG {o : Oper} {x : Operand} {t k e : TypeId} {args : Array Operand} {ts : Array TypeId} {K : AV → Heap → Prop} {ext : Bool} (hR : R N g F H a w) (hop : o.op = .call { callee := .builtin .len, args := args, argTypes := ts }) (ha : args.toList = [x]) (hts : ts.toList = [t]) (ht : P.underlying t = some (.map k e))
    (hE:Bp (.lenm (cX x)) F H K):By P a w g H o ext K:=False.elim hE
theorem Xp {o : Oper} {t k e : TypeId} {m kx x : Operand} {kk : Option IntKind} {K : AV → Heap → Prop} (hR : R N g F H a w) (hop : o.op = .mapUpdate t m kx x ∨ o.op = .insert t m kx x) (ht : P.underlying t = some (.map k e)) (hkk : Hd P k = some kk)
    (hE:Bp (.mpu kk (cX m) (cX kx) (cX x)) F H K):By P a w g H o false K:=by
 obtain ⟨h1,h2,h3,hE⟩:=hE
 have hm:=At hR m h1
 have hk:=At hR kx h2
 have hx:=At hR x h3
 obtain ⟨d,hd,hkd⟩:=Q6 hkk
 split at hE
 ·rename_i ob kv hmo hkv
  rw [hmo] at hm
  rw [hkv] at hk
  have hkv' := hk.val_inv.1
  split at hE
  ·rename_i cs hcs
   obtain ⟨hko,hks,hclk,hE⟩:=hE
   have hcs' := Yh hcs
   obtain ⟨r,es,clock,bss,hv,hρ,hb,hl,hr,hob⟩:=Yi hR.hp hm hcs'
   obtain ⟨hl2,hre⟩:=Rc hl hr
   have hf:=N9 (w:=w) hkd hko (cs.drop 1) es.toList 0 hks hl2 hre
   unfold I5 at hE
   split at hE
   ·rename_i j b y hmf
    obtain ⟨en,g1,g2,g3,g4,g5⟩:=hf.2 j b y hmf
    have g1' : es[j]? = some en:=by simpa using g1
    obtain ⟨p1,p2,p3⟩:=sZ (f:=fun e=>{ e with key:=kv,val:=a.eval x }) (k:=kv) (v:=a.eval x) hl hr g1' g5 rfl hx
    obtain ⟨g', hmv⟩:=O4 hR.hp hcs' hρ hb hob p1 p2 p3
    refine ⟨undef,_,g', .any,_,.inr ⟨?_,rfl⟩,hmv,.any,fun h=>(by cases h),hE⟩
    have hst:(Instr.keyThatStays (((es[j]?).map (·.key)).getD kv) kv).run P w = .ok kv w:=by
     rw [g1'];simp only [Option.map_some,Option.getD_some,g4];exact xH hko
    simp only [Nat.zero_add] at g2
    rcases hop with hop | hop<;>simp only [execOp,hop,hv,hkv', Instr.mapUpdate,Sem.run_bind,run_underlying ht,Result.andThen_ok,Ns hb,Kq hd hkd hko,Kr hd g2,hst,O3 _ hb,Sem.run_pure]
   ·rename_i hmf
    have hfn:=hf.1 hmf
    obtain ⟨c,hc⟩:=Option.isSome_iff_exists.1 hclk
    obtain ⟨rfl,p1,p2,p3⟩:=sY (k:=kv) (v:=a.eval x) hl hr hc hx
    obtain ⟨g', hmv⟩:=O4 hR.hp hcs' hρ hb hob p1 p2 p3
    refine ⟨undef,_,g', .any,_,.inr ⟨?_,rfl⟩,hmv,.any,fun h=>(by cases h),hE⟩
    rcases hop with hop | hop<;>simp only [execOp,hop,hv,hkv', Instr.mapUpdate,Sem.run_bind,run_underlying ht,Result.andThen_ok,Ns hb,Kq hd hkd hko,Kr hd hfn,O3 _ hb,Sem.run_pure]
  ·exact hE.elim
 ·exact hE.elim
theorem vX {o:Nat}{x:Option (List AV)}(h:H[o]? = some x):H.set o x=H:=by
 obtain ⟨h1,h2⟩:=List.getElem?_eq_some_iff.1 h
 rw [← h2,List.set_getElem_self]
theorem lI {o : Oper} {t k e : TypeId} {m kx : Operand} {kk : Option IntKind} {i : TypeInfo} {z : Value} {K : AV → Heap → Prop} (hR : R N g F H a w) (hop : o.op = .mapEntry t m kx) (ht : P.underlying t = some (.map k e)) (hkk : Hd P k = some kk) (hi : P.info? e = some i) (hz : i.zero = some z)
    (hE:Bp (.mpe kk (Jk z) (cX m) (cX kx)) F H K):By P a w g H o false K:=False.elim hE
theorem nD {tr : Nat → Option (Option A2)} {G : Nat → Prop} {s : Int} : ∀ (cs : List AV) (es : List MapEntry), cs.all (fun x => match x with | .ent .. => true | _ => false) = true → cs.length = es.length →
    (∀ m (h:m<cs.length) e,es[m]? = some e→∃ bs,Rd w tr G cs[m] (F8 e) bs)→∀ j k,Re s cs=some (j,k)→∃ e,es[j]? = some e∧es.findIdx? (fun e=>(e.born:Int) == s)=some j∧(e.born:Int)=s∧e.key=k
 | [],es,_,_,_,j,k,h=>by cases h
 | c :: cs,[],_,hl,_,_,_,_=>by simp at hl
 | c :: cs,e :: es,hall,hl,hr,j,k,h=>by
  simp only [List.all_cons,Bool.and_eq_true] at hall
  obtain ⟨h1,h2⟩:=hall
  obtain ⟨bs,hr0⟩:=hr 0 (by simp) e (by simp)
  simp only [List.getElem_cons_zero] at hr0
  cases c<;>first | (cases h1;done) | skip
  rename_i b k' x
  obtain ⟨rfl,rfl,hx⟩:=Ng hr0
  have ih:=nD (s:=s) cs es h2 (by simpa using hl) (fun m hm e' he' => by
   have:=hr (m+1) (by simpa using hm) e' (by simpa using he')
   simpa using this)
  simp only [Re] at h
  by_cases hq:((e.born:Int) == s)=true
  ·rw [if_pos hq] at h
   simp only [Option.some.injEq,Prod.mk.injEq] at h
   obtain ⟨rfl,rfl⟩:=h
   exact ⟨e,by simp,by simp [List.findIdx?_cons,hq],by simpa using hq,rfl⟩
  ·rw [if_neg hq,Option.map_eq_some_iff] at h
   obtain ⟨⟨j', k2⟩,h3,h4⟩:=h
   simp only [Prod.mk.injEq] at h4
   obtain ⟨rfl,rfl⟩:=h4
   obtain ⟨e', g1,g2,g3,g4⟩:=ih _ _ h3
   exact ⟨e', by simpa using g1,by simp [List.findIdx?_cons,hq,g2],g3,g4⟩
theorem lF {o : Oper} {t k e : TypeId} {m s x : Operand} {K : AV → Heap → Prop} (hR : R N g F H a w) (hop : o.op = .entryStore t m s x)
    (hE:Bp (.est (cX m) (cX s) (cX x)) F H K):By P a w g H o false K:=False.elim hE
theorem iF {l l' : List (List Nat)}(h:l.Sublist l'):l.flatten.Sublist l'.flatten:=by
 induction h with
 | slnil=>exact List.Sublist.refl _
 | cons a _ ih=>rw [List.flatten_cons];exact ih.trans (List.sublist_append_right _ _)
 | cons_cons a _ ih=>rw [List.flatten_cons,List.flatten_cons];exact (List.Sublist.refl _).append ih
theorem Aan (mr since:Nat)(sn:Array Nat)(stp:Nat):(D1 mr since sn stp).getD 0 undef = .map (some mr):=by
 have:(D1 mr since sn stp)[0]? = some (.map (some mr)):=by unfold D1;rw [Array.getElem?_append_left (by simp)];rfl
 simp only [Array.getD_eq_getD_getElem?,this,Option.getD_some]
theorem Aao (mr since:Nat)(sn:Array Nat)(stp:Nat):(D1 mr since sn stp).getD 1 undef = .int .i64 since:=by
 have:(D1 mr since sn stp)[1]? = some (.int .i64 since):=by unfold D1;rw [Array.getElem?_append_left (by simp)];rfl
 simp only [Array.getD_eq_getD_getElem?,this,Option.getD_some]
theorem Aap (mr since:Nat)(sn:Array Nat)(stp:Nat):(D1 mr since sn stp).getD 2 undef = .int .i64 stp:=by
 have:(D1 mr since sn stp)[2]? = some (.int .i64 stp):=by unfold D1;rw [Array.getElem?_append_left (by simp)];rfl
 simp only [Array.getD_eq_getD_getElem?,this,Option.getD_some]
theorem Aaq (mr since:Nat)(sn:Array Nat)(stp m s:Nat)(h:sn[m]? = some s):(D1 mr since sn stp).getD (m+3) undef = .int .i64 s:=by
 have:(D1 mr since sn stp)[m+3]? = some (.int .i64 s):=by
  unfold D1
  rw [Array.getElem?_append_right (by simp)]
  simp [h]
 simp only [Array.getD_eq_getD_getElem?,this,Option.getD_some]
theorem Aar (mr since:Nat)(sn:Array Nat)(stp:Nat):(D1 mr since sn stp).size=sn.size+3:=by simp [D1];omega
theorem mH {es:Array MapEntry}{clock j:Nat}(hj:j<es.size)(m:Nat):(Bo (es.eraseIdxIfInBounds j) clock).getD m undef=if m<j+1 then (Bo es clock).getD m undef else (Bo es clock).getD (m+1) undef:=by
 have hE:es.eraseIdxIfInBounds j=es.eraseIdx j:=by simp [Array.eraseIdxIfInBounds,hj]
 cases m with
 | zero=>rw [if_pos (by omega),I3,I3]
 | succ m=>
  rw [hE]
  have hs:(es.eraseIdx j).size=es.size - 1:=by simp
  by_cases hm:m<es.size - 1
  ·have h2 : (es.eraseIdx j)[m]? = some (if m < j then es[m] else es[m + 1]) := by
     rw [Array.getElem?_eraseIdx]
     split
     ·simp [show m<es.size by omega]
     ·simp [show m+1<es.size by omega]
   rw [Hi _ _ m _ h2]
   by_cases e1:m<j
   ·rw [if_pos e1,Hi es clock m es[m] (by simp [show m<es.size by omega]),if_pos (by omega)]
   ·rw [if_neg e1,if_neg (by omega),Hi es clock (m+1) es[m+1] (by simp [show m+1<es.size by omega])]
  ·rw [if_neg (by omega),Kc (by rw [hs];omega),Kc (by omega)]
theorem lH {o : Oper} {m kx : Operand} {t k e t2 : TypeId} {kk : Option IntKind} {args : Array Operand} {ts : Array TypeId} {K : AV → Heap → Prop} (hR : R N g F H a w) (hop : o.op = .call { callee := .builtin .delete, args := args, argTypes := ts }) (ha : args.toList = [m, kx]) (hts : ts.toList = [t, t2]) (ht : P.underlying t = some (.map k e)) (hkk : Hd P k = some kk)
    (hE:Bp (.mpd kk (cX m) (cX kx)) F H K):By P a w g H o false K:=by
 obtain ⟨h1,h2,hE⟩:=hE
 have hm:=At hR m h1
 have hk:=At hR kx h2
 obtain rfl:args = #[m,kx]:=by rw [← Array.toArray_toList (xs:=args),ha]
 obtain rfl:ts = #[t,t2]:=by rw [← Array.toArray_toList (xs:=ts),hts]
 obtain ⟨d,hd,hkd⟩:=Q6 hkk
 split at hE
 ·rename_i ob kv hmo hkv
  rw [hmo] at hm
  rw [hkv] at hk
  have hkv' := hk.val_inv.1
  split at hE
  ·rename_i cs hcs
   obtain ⟨hko,hks,hE⟩:=hE
   have hcs' := Yh hcs
   obtain ⟨r,es,clock,bss,hv,hρ,hb,hl,hr,hob⟩:=Yi hR.hp hm hcs'
   obtain ⟨hl2,hre⟩:=Rc hl hr
   have hf:=N9 (w:=w) hkd hko (cs.drop 1) es.toList 0 hks hl2 hre
   unfold Kg at hE
   split at hE
   ·rename_i j b y hmf
    obtain ⟨en,g1,g2,g3,g4,g5⟩:=hf.2 j b y hmf
    have g1' : es[j]? = some en:=by simpa using g1
    have hj:j<es.size:=(Array.getElem?_eq_some_iff.1 g1').1
    have hlen:(cs.eraseIdx (j+1)).length=es.size:=by rw [List.length_eraseIdx,if_pos (by omega)];omega
    obtain ⟨g', hmv⟩:=O4 (cs' := cs.eraseIdx (j+1)) (es' := es.eraseIdxIfInBounds j) (clock' := clock) (bss' := fun m=>if m<j+1 then bss m else bss (m+1)) hR.hp hcs' hρ hb hob (by rw [hlen];simp [Array.eraseIdxIfInBounds,hj];omega) (fun m hm=>by
     rw [hlen] at hm
     rw [mH hj,List.getElem_eraseIdx]
     by_cases h:m<j+1
     ·simp only [if_pos h,dif_pos h];exact hr m (by omega)
     ·simp only [if_neg h,dif_neg h];exact hr (m+1) (by omega)) (by
     have e1:(List.range (cs.eraseIdx (j+1)).length).map (fun m=>if m<j+1 then bss m else bss (m+1))=((List.range cs.length).map bss).eraseIdx (j+1):=by
      refine List.ext_getElem (by simp [List.length_eraseIdx]) fun m h1 h2=>?_
      simp only [List.length_map,List.length_range] at h1
      rw [List.getElem_eraseIdx]
      by_cases h:m<j+1
      ·simp [h]
      ·simp [h]
     rw [List.flatMap_def,e1,List.flatMap_def]
     exact iF (List.eraseIdx_sublist _ _))
    refine ⟨.tuple #[],_,g', _,_,.inl ?_,hmv,.tup rfl (fun m hm=>by simp at hm),fun h=>(by cases h),hE⟩
    simp only [Nat.zero_add] at g2
    simp [execOp,hop,resolve,invoke,builtin,Builtin.delete_,run_underlying ht,hv,hkv', Ns hb,Kq hd hkd hko,Kr hd g2,O3 _ hb]
   ·rename_i hmf
    have hfn:=hf.1 hmf
    obtain ⟨g', hmv⟩:=O4 (cs' := cs) (es' := es) (clock' := clock) (bss' := bss) hR.hp hcs' hρ hb hob hl hr (List.Sublist.refl _)
    refine ⟨.tuple #[],_,g', _,_,.inl ?_,hmv,.tup rfl (fun m hm=>by simp at hm),fun h=>(by cases h),hE⟩
    simp [execOp,hop,resolve,invoke,builtin,Builtin.delete_,run_underlying ht,hv,hkv', Ns hb,Kq hd hkd hko,Kr hd hfn,O3 _ hb]
  ·exact hE.elim
 ·exact hE.elim
theorem lK {o:Oper}{t k e:TypeId}{x:Operand}{K:AV→Heap→Prop}{ext:Bool}(hR:R N g F H a w)(hop:o.op = .range t x)(ht:P.underlying t=some (.map k e))(hE:Bp (.rng (cX x)) F H K):By P a w g H o ext K:=False.elim hE
theorem Aak (n:Nat)(w:World):∃ k w1,(choose (.mapNext n)).run P w = .ok k w1∧(0<n→k<n)∧(n≤1→k=0)∧w1.heap=w.heap∧w1.os=w.os∧F5 w w1∧w1.output=w.output:=by
 by_cases h:n≤1
 ·exact ⟨0,w,by simp [choose,Sem.run,Question.forced,h],fun h=>h,fun _=>rfl,rfl,rfl,⟨rfl,by first | exact Nat.le_refl _ | exact Nat.le_succ _⟩,rfl⟩
 ·exact ⟨w.tape w.drawn (.mapNext n)%n,{ w with drawn:=w.drawn+1 },by simp [choose,Sem.run,Question.forced,h,Question.cut],fun h=>Nat.mod_lt _ h,fun h' => absurd h' h,rfl,rfl,⟨rfl,by first | exact Nat.le_refl _ | exact Nat.le_succ _⟩,rfl⟩
theorem lJ {o:Oper}{x:Operand}{K:AV→Heap→Prop}(hR:R N g F H a w)(hop:o.op = .next x false)(hE:Bp (.nxt (cX x)) F H K):By P a w g H o false K:=False.elim hE
theorem nE {tr : Nat → Option (Option A2)} {G : Nat → Prop} {s : Int} : ∀ (cs : List AV) (es : List MapEntry), cs.length = es.length →
    (∀ m (h:m<cs.length) e,es[m]? = some e→∃ bs,Rd w tr G cs[m] (F8 e) bs)→∀ k x,Rf s cs=some (k,x)→∃ e bs,es.find? (fun e=>(e.born:Int) == s)=some e∧e.key=k∧Rd w tr G x e.val bs
 | [],es,_,_,k,x,h=>by cases h
 | c :: cs,[],hl,_,_,_,_=>by simp at hl
 | c :: cs,e :: es,hl,hr,k,x,h=>by
  obtain ⟨bs,hr0⟩:=hr 0 (by simp) e (by simp)
  simp only [List.getElem_cons_zero] at hr0
  cases c<;>first | (cases h;done) | skip
  rename_i b k' x'
  obtain ⟨rfl,rfl,hx⟩:=Ng hr0
  have ih:=nE (s:=s) cs es (by simpa using hl) (fun m hm e' he' => by
   have:=hr (m+1) (by simpa using hm) e' (by simpa using he')
   simpa using this)
  simp only [Rf] at h
  by_cases hq:((e.born:Int) == s)=true
  ·rw [if_pos hq] at h
   simp only [Option.some.injEq,Prod.mk.injEq] at h
   obtain ⟨rfl,rfl⟩:=h
   exact ⟨e,bs,by simp [List.find?_cons,hq],rfl,hx⟩
  ·rw [if_neg hq] at h
   obtain ⟨e', bs', h1,h2,h3⟩:=ih _ _ h
   exact ⟨e', bs', by simp [List.find?_cons,hq,h1],h2,h3⟩
theorem lE {o:Oper}{x:Operand}{K:AV→Heap→Prop}{ext:Bool}(hR:R N g F H a w)(hop:o.op = .entry x)(hE:Bp (.enr (cX x)) F H K):By P a w g H o ext K:=False.elim hE
end
end Go.Gov
