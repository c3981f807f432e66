/- Texts that belong together. -/
import Derived.Test.YtaekhhaaphgndaaGreatZe
set_option linter.unusedSimpArgs false
set_option linter.unusedVariables false
namespace Go.Gov
section
variable {P:Program} {N:Nat} {g:Gh} {F:Frame} {H:Heap} {a:Act} {w:World} {M:List Nat} {n0:Nat}
def sole (o:Nat)(H:Heap):Heap:=killL ((List.range H.length).filter fun i=>decide (i≠o)) H
theorem sole_at (o:Nat)(H:Heap):(sole o H)[o]? = H[o]?:=killL_at _ H o (by simp)
theorem sole_get {o i:Nat}{H:Heap}{cs:List AV}(h:(sole o H)[i]? = some (some cs)):i=o∧H[o]? = some (some cs):=by
 obtain ⟨h1,h2⟩:=killL_get _ H i cs h
 have hl:i<H.length:=(List.getElem?_eq_some_iff.1 h2).1
 have:i=o:=by
  refine Classical.byContradiction fun e=>h1 ?_
  simp [hl,e]
 exact ⟨this,this ▸ h2⟩
def ice (o:Nat)(H:Heap):Nat→AV→AV
 | 0,_=>.any
 | d+1,.sl o' k off len=>if o' = o then frz (sole o H) (d+1) (.sl o' k off len) else .sl o' k off len
 | d+1,.ref o' j=>if o' = o then frz (sole o H) (d+1) (.ref o' j) else .ref o' j
 | d+1,.cnd b x=>.cnd b (ice o H d x)
 | d+1,.agg cs=>.agg (cs.map (ice o H d))
 | d+1,.tup cs=>.tup (cs.map (ice o H d))
 | _+1,x=>x
def iceG (g:Gh)(o:Nat)(H:Heap):Gh:=⟨g.ρ,g.ob,fun b=>g.G b∨g.owns (sole o H) b⟩
theorem ice_tr (o x:Nat)(d:Option LocN)(h:g.tr H x=some d):(iceG g o H).tr (H.set o none) x=some d∨(iceG g o H).tr (H.set o none) x=some none:=tr_kill g H o x d h
theorem ice_hp (o:Nat)(hp:HeapR g H w):HeapR (iceG g o H) (H.set o none) w:=by
 have hk:=kill_hp hp o
 refine ⟨fun x cs h=>(hp.obj x cs (alive_kill h).2).mono (fun _ h=>.inl h) (fun _ _=>rfl) (fun y d hd=>ice_tr o y d hd) (fun _ _=>rfl),hk.nodup,hk.apart,fun x cs h b hb=>?_,fun b hb=>?_⟩
 ·rintro (h1 | ⟨y,cy,h1,h2⟩)
  ·exact hk.free x cs h b hb h1
  ·obtain ⟨rfl,h3⟩:=sole_get h1
   exact hp.apart x y cs cy (alive_kill h).2 h3 (alive_kill h).1 b hb h2
 ·rcases hb with h1 | ⟨y,cy,h1,h2⟩
  ·exact hp.low b h1
  ·obtain ⟨rfl,h3⟩:=sole_get h1
   exact (hp.obj y cy h3).all_lt b h2
theorem ice_mv (o:Nat)(hp:HeapR g H w):Mv g H w (iceG g o H) (H.set o none) w:=
 ⟨ice_hp o hp, ⟨rfl, ⟨rfl, Nat.le_refl _⟩, rfl, Nat.le_refl _, fun _ _ _ => rfl, fun b ⟨y, cs, h1, h2⟩ => .inl ⟨y, cs, (alive_kill h1).2, h2⟩, fun _ h => .inl h, fun b h => h.elim .inl fun ⟨y, cs, h1, h2⟩ => by
     obtain ⟨rfl,h3⟩:=sole_get h1
     exact .inr (.inl ⟨y,cs,h3,h2⟩),fun _ _=>rfl⟩,
  fun x v h=>h.mono (fun _ h=>.inl h) (fun _ _=>rfl) (fun y d hd=>ice_tr o y d hd) (by simp),fun y d hd=>ice_tr o y d hd⟩
theorem ice_ok (o:Nat)(hp:HeapR g H w):∀ (d:Nat) (x:AV) (v:Value),Rd w (g.tr H) g.G x v []→Rd w ((iceG g o H).tr (H.set o none)) (iceG g o H).G (ice o H d x) v []:=by
 have hf:∀ (d:Nat) (x:AV) (v:Value),Rd w (g.tr H) g.G x v []→Rd w ((iceG g o H).tr (H.set o none)) (iceG g o H).G (frz (sole o H) d x) v []:=fun d x v h=>
  (frz_own (killL_hp _ hp) d x v [] (h.mono (fun _ h=>h) (fun _ _=>rfl) (fun o d hd=>killL_tr _ o d hd) (fun _ _=>rfl)) (by simp)).mono (fun _ h=>h) (fun _ _=>rfl) (fun _ _ h=>by cases h) (fun _ _=>rfl)
 have hs:∀ (x:AV) (v:Value),Rd w (g.tr H) g.G x v []→Rd w ((iceG g o H).tr (H.set o none)) (iceG g o H).G x v []:=fun x v h=>(ice_mv o hp).lift x v h
 intro d
 induction d with
 | zero=>intro x v _;exact .any
 | succ d ih=>
  intro x v h
  have h' := hf (d+1) x v h
  have h'' := hs x v h
  cases h with
  | sl h0 hv h=>
   simp only [ice]
   split
   ·exact h'
   ·exact h''
  | ref h0 hv h=>
   simp only [ice]
   split
   ·exact h'
   ·exact h''
  | cndF=>simp only [ice];exact .cndF
  | cndT h=>simp only [ice];exact .cndT (ih _ _ h)
  | agg hl hr=>simp only [ice];exact .agg (by simpa using hl) (fun m hm=>by simp only [List.getElem_map];exact ih _ _ (hr m (by simpa using hm)))
  | tup hl hr=>simp only [ice];exact .tup (by simpa using hl) (fun m hm=>by simp only [List.getElem_map];exact ih _ _ (hr m (by simpa using hm)))
  | _=>simpa only [ice] using h''
theorem CallsX.ice (o:Nat){ext:Bool}{f:FuncId}{args' : List AV}{K:AV→Heap→Prop}(h:CallsX P ext f (args'.map (ice o H 6)) (H.set o none) K):CallsX P ext f args' H K:=by
 intro g w vals hp hl hr
 refine (h (iceG g o H) w vals (ice_hp o hp) (by simpa using hl) fun m hm=>?_).mono ?_
 ·simp only [List.getElem_map]
  exact ice_ok o hp 6 _ _ (hr m (by simpa using hm))
 ·rintro e w' ⟨v,g', av,H', he,hm,hx,hE,hk⟩
  exact ⟨v,g', av,H', he,(ice_mv o hp).trans hm,hx,hE,hk⟩
def iceF (o:Nat)(H:Heap)(F:Frame):Frame:=F.map fun p=>(p.1,ice o H 6 p.2)
theorem iceF_get (o:Nat)(H:Heap):∀ (F:Frame) (j:Nat),fget (iceF o H F) j=ice o H 6 (fget F j)∨fget (iceF o H F) j = .any
 | [],_=>.inr rfl
 | (i,x) :: l,j=>by
  simp only [iceF,List.map_cons,get_put]
  by_cases e:i=j
  ·rw [if_pos e,if_pos e];exact .inl rfl
  ·rw [if_neg e,if_neg e];exact iceF_get o H l j
theorem Ref.ice (o:Nat){F' : Frame}{H' : Heap}(hH:H.set o none=H')(hF:sub (iceF o H F) F'):Ref n0 F H F' H' := fun N g a w hR=>by
 subst hH
 refine ⟨iceG g o H,⟨fun j=>?_,ice_hp o hR.hp,hR.size,hR.defers⟩,(ice_mv o hR.hp).toN⟩
 rcases sub_get hF j with e | e
 ·rw [e];exact .any
 ·rw [e]
  rcases iceF_get o H F j with e2 | e2
  ·rw [e2];exact ice_ok o hR.hp 6 _ _ (hR.fr j)
  ·rw [e2];exact .any
theorem pureEG {ext : Bool} {f : FuncId} {args args' : List AV} {α : Type} {Q : α → Prop} {x : α → AV} {H0 : α → Heap} {K : AV → Heap → Prop} (h : PureE P f args Q x H0) (ha : args'.map (rnm fun _ => none) = args)
    (hK:∀ o,Q o→K (rnm (shT H.length) (x o)) (H++rnmH H.length (H0 o))):CallsX P ext f args' H K:=
 ((CallsX.liftG h ha.symm).weak).mono (by rintro av H' ⟨av0,H0', ⟨o,ho,rfl,rfl⟩,rfl,rfl⟩;exact hK o ho)
attribute [go_sem] ice iceF sole_at
end
section
variable {P:Program} {N:Nat} {g:Gh} {F:Frame} {H:Heap} {a:Act} {w:World} {M:List Nat} {n0:Nat}
def cI (p:Value×List Int):AV:=.idn p.1 (ints p.2)
def unid:AV→AV
 | .idn _ x=>x
 | x=>x
theorem unid_ok {tr:Nat→Option (Option LocN)}{G:Nat→Prop}{x:AV}{v:Value}(h:Rd w tr G x v []):Rd w tr G (unid x) v []:=by
 cases h with
 | idn h=>exact h
 | any=>exact .any
 | val=>exact .val
 | cndF=>exact .cndF
 | cndT h=>exact .cndT h
 | slc u hl hn hm hg hc hr=>exact .slc u hl hn hm hg hc hr
 | slc0 hm=>exact .slc0 hm
 | pto u hg hc hr=>exact .pto u hg hc hr
 | sl h0 hv h=>exact .sl h0 hv h
 | ref h0 hv h=>exact .ref h0 hv h
 | osl0=>exact .osl0
 | agg hl hr=>exact .agg hl hr
 | tup hl hr=>exact .tup hl hr
 | clo a b c d=>exact .clo a b c d
 | mp h0 hv h=>exact .mp h0 hv h
 | it h0 hv h=>exact .it h0 hv h
 | mpz a b c d=>exact .mpz a b c d
 | mpc bss h1 h2 h3=>exact .mpc bss h1 h2 h3
 | ent h=>exact .ent h
 | oag bss h1 h2 h3=>exact .oag bss h1 h2 h3
theorem CallsX.unid {ext:Bool}{f:FuncId}{args' : List AV}{K:AV→Heap→Prop}(h:CallsX P ext f (args'.map unid) H K):CallsX P ext f args' H K:=fun g w vals hp hl hr=>
 h g w vals hp (by simpa using hl) fun m hm=>by
  simp only [List.getElem_map]
  exact unid_ok (hr m (by simpa using hm))
theorem rd_cI {tr:Nat→Option (Option LocN)}{G:Nat→Prop}{p:Value×List Int}{v:Value}{bs:List Nat}(h:Rd w tr G (cI p) v bs):v=p.1∧bs=[]:=by
 unfold cI at h
 cases h
 exact ⟨rfl,rfl⟩
theorem rd_int {w' : World}{tr tr' : Nat→Option (Option LocN)}{G G' : Nat→Prop}{n:Int}{v:Value}{bs:List Nat}(h:Rd w tr G (i64 n) v bs):Rd w' tr' G' (i64 n) v []∧bs=[]:=by
 generalize hx:i64 n=x at h
 cases h<;>first | (cases hx;done) | (cases hx;exact ⟨.val,rfl⟩)
theorem intsC_at (xs:List Int)(m:Nat)(h:m<(intsC xs).length):∃ z,(intsC xs)[m]=i64 z:=⟨_,by simp [intsC];rfl⟩
theorem osl_slc {tr tr' : Nat→Option (Option LocN)}{G G' : Nat→Prop}{x:List Int}{v:Value}{bs:List Nat}(h:Rd w tr G (oints x) v bs)(hG:∀ b∈bs,G' b):Rd w tr' G' (ints x) v []:=by
 generalize hx:oints x=y at h
 cases h with
 | osl u bss hl hn hm hb hs hc hr=>
  cases hx
  refine .slc u hl hn hm (hG _ List.mem_cons_self) (fun m hm' => ?_) fun m hm' => ?_
  ·simp only [World.cell?,hb]
   exact hc m hm'
  ·obtain ⟨z,hz⟩:=intsC_at x m hm'
   have h5:=hr m hm'
   rw [hz] at h5 ⊢
   exact (rd_int h5).1
 | osl0=>
  have:x=[]:=by
   cases x with
   | nil=>rfl
   | cons a x=>simp at hx
  subst this
  exact .slc0 (by decide)
 | _=>cases hx
theorem osl_keep {w' : World}{tr tr' : Nat→Option (Option LocN)}{G G' : Nat→Prop}{x:List Int}{v:Value}{bs:List Nat}(h:Rd w tr G (oints x) v bs)(hw:∀ b∈bs,w'.heap[b]? = w.heap[b]?):Rd w' tr' G' (oints x) v bs:=by
 generalize hx:oints x=y at h
 cases h with
 | osl u bss hl hn hm hb hs hc hr=>
  cases hx
  refine .osl u bss hl hn hm ((hw _ List.mem_cons_self).trans hb) hs hc fun m hm' => ?_
  obtain ⟨z,hz⟩:=intsC_at x m hm'
  have h5:=hr m hm'
  rw [hz] at h5 ⊢
  have h6:=rd_int (w' := w') (tr' := tr') (G' := G') h5
  rw [h6.2]
  exact h6.1
 | osl0=>
  have:x=[]:=by
   cases x with
   | nil=>rfl
   | cons a x=>simp at hx
  subst this
  exact .osl0
 | _=>cases hx
theorem flatMap_nils {f:Nat→List Nat}{n:Nat}(h:∀ m,m<n→f m=[]):(List.range n).flatMap f=[]:=List.flatMap_eq_nil_iff.2 fun m hm=>h m (List.mem_range.1 hm)
theorem WriE.thaw {f : FuncId} {args : List AV} {X : List (List Int)} {Q : List (Value × List Int) × Nat → Prop} {x : List (Value × List Int) × Nat → AV}
    (h:∀ vs:List Value,vs.length=X.length→WriE P f args [some ((vs.zip X).map cI)] (fun o=>Q o∧∃ ks:List Nat,ks.Nodup∧(∀ k∈ks,k<X.length)∧o.1=ks.map fun k=>(vs.getD k undef,X.getD k [])) x (fun o=>[some (o.1.map cI++List.replicate o.2 nilS)]))
    (hx:∀ o,nf 6 (x o)=true∧shr id 6 (x o)=x o):
    WriE P f args [some (X.map oints)] Q x (fun o=>[some ((o.1.map (·.2)).map oints++List.replicate o.2 nilS)]):=by
 intro g w vals hp hl hr
 have ho:=hp.obj 0 (X.map oints) rfl
 have hnd:=hp.nodup 0 (X.map oints) rfl
 have hfree:=hp.free 0 (X.map oints) rfl
 obtain ⟨bs,u,hu⟩:∃ (bs:Nat→List Nat) (u:Nat→Value),(∀ m (hm:m<X.length),Rd w (g.tr [some (X.map oints)]) g.G (oints (X.getD m [])) (u m) (bs m))∧((X=[]∧g.ρ 0=none∧g.ob 0=[])∨∃ b base sz,g.ρ 0=some (b,base,sz)∧BlockAt w b base sz X.length u∧g.ob 0=b :: (List.range X.length).flatMap bs):=by
  cases hρ:g.ρ 0 with
  | none=>
   rw [hρ] at ho
   have h1:=ObjR.none_nil ho (fun x hx=>by obtain ⟨y,_,rfl⟩:=List.mem_map.1 hx;rfl)
   obtain ⟨_,h2⟩:=ho
   obtain rfl:X=[]:=by simpa using h1
   exact ⟨fun _=>[],fun _=>undef,fun m hm=>by simp at hm,.inl ⟨rfl,rfl,h2⟩⟩
  | some l=>
   obtain ⟨b,base,sz⟩:=l
   rw [hρ] at ho
   obtain ⟨u,bss,hb,hr2,hob⟩:=ho
   refine ⟨bss,u,fun m hm=>?_,.inr ⟨b,base,sz,rfl,by simpa using hb,by simpa using hob⟩⟩
   have h5:=hr2 m (by simpa using hm)
   have e:(X.map oints)[m]'(by simpa using hm)=oints (X.getD m []):=by simp [hm]
   rwa [e] at h5
 obtain ⟨hrd,hcase⟩:=hu
 obtain ⟨vs,hvs⟩:∃ vs:List Value,vs=(List.range X.length).map u:=⟨_,rfl⟩
 have hvl:vs.length=X.length:=by rw [hvs];simp
 have hvm:∀ m,m<X.length→vs.getD m undef=u m:=fun m hm=>by rw [hvs];simp [hm]
 have hcl:((vs.zip X).map cI).length=X.length:=by simp [hvl]
 have hcm:∀ m (hm:m<X.length),((vs.zip X).map cI)[m]'(by rw [hcl];exact hm) = .idn (u m) (ints (X.getD m [])):=fun m hm=>by
  have:vs[m]'(by omega)=u m:=by have:=hvm m hm;simpa [hvl,hm] using this
  simp [cI,this,hm]
 have hob:∀ m,m<X.length→∀ k∈bs m,k∈g.ob 0:=fun m hm k hk=>by
  rcases hcase with ⟨rfl,_⟩ | ⟨b,base,sz,_,_,h3⟩
  ·simp at hm
  ·rw [h3];exact List.mem_cons_of_mem _ (List.mem_flatMap.2 ⟨m,List.mem_range.2 hm,hk⟩)
 obtain ⟨ob2,hob2⟩:∃ ob2:List Nat,ob2=match g.ρ 0 with | none=>[] | some (b,_,_)=>[b]:=⟨_,rfl⟩
 have hob2s:∀ k∈ob2,k∈g.ob 0∧∀ m,m<X.length→k∉bs m:=fun k hk=>by
  rcases hcase with ⟨_,h2,_⟩ | ⟨b,base,sz,h2,h3,h4⟩
  ·rw [hob2,h2] at hk;simp at hk
  ·rw [hob2,h2] at hk
   obtain rfl:k=b:=by simpa using hk
   rw [h4] at hnd ⊢
   exact ⟨List.mem_cons_self,fun m hm hk2=>(List.nodup_cons.1 hnd).1 (List.mem_flatMap.2 ⟨m,List.mem_range.2 hm,hk2⟩)⟩
 let g2:Gh:=⟨g.ρ,fun _=>ob2,fun k=>g.G k∨∃ m,m<X.length∧k∈bs m⟩
 have one:∀ {cs0:List AV} (o:Nat) (cs:List AV),([some cs0]:Heap)[o]? = some (some cs)→o=0∧cs=cs0:=fun o cs h=>by
  cases o with
  | zero=>simp at h;exact ⟨rfl,h.symm⟩
  | succ o=>simp at h
 have htr:∀ o,g2.tr [some ((vs.zip X).map cI)] o=g.tr [some (X.map oints)] o:=fun o=>by
  unfold Gh.tr
  cases o with
  | zero=>simp [g2,hvl]
  | succ o=>simp
 have hp2:HeapR g2 [some ((vs.zip X).map cI)] w:=by
  refine ⟨fun o cs h5=>?_,fun o cs h5=>?_,fun o o' cs cs' h5 h6 hne=>?_,fun o cs h5 k hk=>?_,fun k hk=>?_⟩
  ·obtain ⟨rfl,rfl⟩:=one o cs h5
   show ObjR w _ _ _ ob2 (g.ρ 0)
   rcases hcase with ⟨h1,h2,_⟩ | ⟨b,base,sz,h2,h3,h4⟩
   ·rw [hob2,h2]
    exact ⟨by subst h1;simpa using Gho.nil,rfl⟩
   ·rw [hob2,h2]
    refine ⟨u,fun _=>[],by rw [hcl];exact h3,fun m hm=>?_,by rw [flatMap_nils fun _ _=>rfl]⟩
    rw [hcl] at hm
    rw [hcm m hm]
    exact .idn (osl_slc (hrd m hm) fun k hk=>.inr ⟨m,hm,hk⟩)
  ·rw [show g2.ob o=ob2 from rfl,hob2]
   split<;>simp
  ·obtain ⟨rfl,_⟩:=one o cs h5
   obtain ⟨rfl,_⟩:=one o' cs' h6
   exact absurd rfl hne
  ·obtain ⟨h6,h7⟩:=hob2s k hk
   rintro (h8 | ⟨m,hm,h8⟩)
   ·exact hfree k h6 h8
   ·exact h7 m hm h8
  ·rcases hk with h8 | ⟨m,hm,h8⟩
   ·exact hp.low k h8
   ·exact ho.all_lt k (hob m hm k h8)
 refine (h vs hvl g2 w vals hp2 hl fun m hm=>(hr m hm).mono (fun _ h=>.inl h) (fun _ _=>rfl) (fun o d hd=>.inl (by rw [htr];exact hd)) (by simp)).mono ?_
 rintro e w' ⟨v,g', av,H', rfl,hmv,hrd', _,⟨R,z⟩,⟨hQ,ks,hk1,hk2,hk3⟩,rfl,rfl⟩
 dsimp only at hk3 hmv hrd' ⊢
 have hRl:R.length=ks.length:=by rw [hk3];simp
 have hlen:(R.map cI++List.replicate z nilS).length=ks.length+z:=by simp [hRl]
 have hlen2:((R.map (·.2)).map oints++List.replicate z nilS).length=ks.length+z:=by simp [hRl]
 have ho' := hmv.hp.obj 0 _ rfl
 have hfree' := hmv.hp.free 0 _ rfl
 have hkeepG:∀ k,g2.G k→w'.heap[k]? = w.heap[k]?:=fun k hk=>hmv.stp.keep k (hp2.low k hk) fun ⟨o,cs,h5,h6⟩=>hp2.free o cs h5 k h6 hk
 let bs2:Nat→List Nat:=fun m=>if m<ks.length then bs (ks.getD m 0) else []
 have hbs2:∀ m k,k∈bs2 m→∃ i,i<X.length∧k∈bs i∧m<ks.length∧i=ks.getD m 0:=fun m k hk=>by
  simp only [bs2] at hk
  split at hk
  ·rename_i hm
   exact ⟨ks.getD m 0,hk2 _ (by simp [hm]),hk,hm,rfl⟩
  ·cases hk
 have hcells:∀ m (hm:m<ks.length+z) (v:Value) (b0:List Nat),Rd w' (g'.tr [some (R.map cI++List.replicate z nilS)]) g'.G ((R.map cI++List.replicate z nilS)[m]'(by omega)) v b0→b0=[]∧∀ tr' G', Rd w' tr' G' (((R.map (·.2)).map oints++List.replicate z nilS)[m]'(by omega)) v (bs2 m):=fun m hm v b0 h5=>by
  by_cases hm2:m<ks.length
  ·have e1 : (R.map cI ++ List.replicate z nilS)[m]'(by omega) = cI (u (ks.getD m 0), X.getD (ks.getD m 0) []) := by
     rw [List.getElem_append_left (by simp [hRl,hm2])]
     subst hk3
     have:=hvm _ (hk2 (ks.getD m 0) (by simp [hm2]))
     simp only [List.getElem_map]
     rw [← this]
     simp [hm2]
   have e2:((R.map (·.2)).map oints++List.replicate z nilS)[m]'(by omega)=oints (X.getD (ks.getD m 0) []):=by
    rw [List.getElem_append_left (by simp [hRl,hm2])]
    subst hk3
    simp [hm2]
   rw [e1] at h5
   obtain ⟨rfl,rfl⟩:=rd_cI h5
   refine ⟨rfl,fun tr' G' => ?_⟩
   rw [e2]
   have hi:=hk2 (ks.getD m 0) (by simp [hm2])
   have:bs2 m=bs (ks.getD m 0):=if_pos hm2
   rw [this]
   exact osl_keep (hrd _ hi) fun k hk=>hkeepG k (.inr ⟨_,hi,hk⟩)
  ·have e1 : (R.map cI ++ List.replicate z nilS)[m]'(by omega) = nilS := by
     rw [List.getElem_append_right (by simp [hRl];omega)]
     simp
   have e2:((R.map (·.2)).map oints++List.replicate z nilS)[m]'(by omega)=nilS:=by
    rw [List.getElem_append_right (by simp [hRl];omega)]
    simp
   rw [e1] at h5
   rw [e2]
   have:bs2 m=[]:=if_neg hm2
   rw [this]
   generalize hy:nilS=y at h5
   cases h5<;>first | (cases hy;done) | (cases hy;exact ⟨rfl,fun _ _=>.val⟩)
 obtain ⟨ob1,hob1⟩:∃ ob1:List Nat,ob1=match g'.ρ 0 with | none=>[] | some (b,_,_)=>b :: (List.range (ks.length+z)).flatMap bs2:=⟨_,rfl⟩
 let g3:Gh:=⟨g'.ρ,fun _=>ob1,g.G⟩
 have htr3:∀ o,g3.tr [some ((R.map (·.2)).map oints++List.replicate z nilS)] o=g'.tr [some (R.map cI++List.replicate z nilS)] o:=fun o=>by
  unfold Gh.tr
  cases o with
  | zero=>simp [g3]
  | succ o=>simp
 have hob1s:∀ k∈ob1,k∈g'.ob 0∨∃ i,i<X.length∧k∈bs i:=fun k hk=>by
  cases hρ:g'.ρ 0 with
  | none=>rw [hob1,hρ] at hk;simp at hk
  | some l=>
   obtain ⟨b,base,sz⟩:=l
   rw [hρ] at ho'
   obtain ⟨u1,bss1,hb1,hr1,h6⟩:=ho'
   rw [hob1,hρ] at hk
   rcases List.mem_cons.1 hk with rfl | hk
   ·exact .inl (by rw [h6];exact List.mem_cons_self)
   ·obtain ⟨m,_,hm⟩:=List.mem_flatMap.1 hk
    obtain ⟨i,hi,h7,_⟩:=hbs2 m k hm
    exact .inr ⟨i,hi,h7⟩
 have hp3:HeapR g3 [some ((R.map (·.2)).map oints++List.replicate z nilS)] w' := by
  refine ⟨fun o cs h5=>?_,fun o cs h5=>?_,fun o o' cs cs' h5 h6 hne=>?_,fun o cs h5 k hk hG=>?_,fun k hk=>Nat.lt_of_lt_of_le (hp.low k hk) hmv.stp.size⟩
  ·obtain ⟨rfl,rfl⟩:=one o cs h5
   show ObjR w' _ _ _ ob1 (g'.ρ 0)
   cases hρ:g'.ρ 0 with
   | none=>
    rw [hρ] at ho'
    have h6:=ObjR.none_nil ho' (fun x hx=>by
     rcases List.mem_append.1 hx with hx | hx
     ·obtain ⟨y,_,rfl⟩:=List.mem_map.1 hx;rfl
     ·rw [(List.mem_replicate.1 hx).2];rfl)
    have h7:=congrArg List.length h6
    rw [hlen] at h7
    simp only [List.length_nil] at h7
    rw [hob1,hρ]
    have h8:(R.map (·.2)).map oints++List.replicate z nilS=[]:=List.eq_nil_of_length_eq_zero (by omega)
    rw [h8]
    exact ⟨Gho.nil,rfl⟩
   | some l=>
    obtain ⟨b,base,sz⟩:=l
    rw [hρ] at ho'
    obtain ⟨u1,bss1,hb1,hr1,h6⟩:=ho'
    rw [hob1,hρ]
    refine ⟨u1,bs2,by rw [hlen2,← hlen];exact hb1,fun m hm=>?_,by rw [hlen2]⟩
    rw [hlen2] at hm
    exact (hcells m hm (u1 m) (bss1 m) (hr1 m (by omega))).2 _ _
  ·show ob1.Nodup
   cases hρ:g'.ρ 0 with
   | none=>rw [hob1,hρ];simp
   | some l=>
    obtain ⟨b,base,sz⟩:=l
    rw [hρ] at ho'
    obtain ⟨u1,bss1,hb1,hr1,h6⟩:=ho'
    rw [hob1,hρ]
    refine List.nodup_cons.2 ⟨fun hk=>?_,?_⟩
    ·obtain ⟨m,_,hm⟩:=List.mem_flatMap.1 hk
     obtain ⟨i,hi,h7,_⟩:=hbs2 m b hm
     exact hfree' b (by rw [h6];exact List.mem_cons_self) (hmv.stp.gin b (.inr ⟨i,hi,h7⟩))
    ·rcases hcase with ⟨h1,_,_⟩ | ⟨b0,base0,sz0,h2,h3,h4⟩
     ·have hks : ks = [] := by
        cases ks with
        | nil=>rfl
        | cons k ks=>have:=hk2 k List.mem_cons_self;rw [h1] at this;simp at this
      rw [flatMap_nils fun m _=>by simp [bs2,hks]]
      exact List.nodup_nil
     ·rw [h4] at hnd
      have hnd2:=(List.nodup_cons.1 hnd).2
      unfold List.flatMap List.Nodup at hnd2 ⊢
      rw [List.pairwise_flatten] at hnd2 ⊢
      obtain ⟨d1,d2⟩:=hnd2
      have d1' : ∀ i,i<X.length→(bs i).Nodup:=fun i hi=>d1 _ (List.mem_map.2 ⟨i,List.mem_range.2 hi,rfl⟩)
      have d2' : ∀ i j,i<X.length→j<X.length→i≠j→∀ k,k∈bs i→k∉bs j:=fun i j hi hj hij k hk1 hk2=>by
       rw [List.pairwise_map] at d2
       rcases Nat.lt_or_gt_of_ne hij with h | h
       ·have:=List.pairwise_iff_getElem.1 d2 i j (by simpa using hi) (by simpa using hj) h
        simp only [List.getElem_range] at this
        exact this k hk1 k hk2 rfl
       ·have:=List.pairwise_iff_getElem.1 d2 j i (by simpa using hj) (by simpa using hi) h
        simp only [List.getElem_range] at this
        exact this k hk2 k hk1 rfl
      refine ⟨fun l hl=>?_,?_⟩
      ·obtain ⟨m,_,rfl⟩:=List.mem_map.1 hl
       simp only [bs2]
       split
       ·rename_i hm
        exact d1' _ (hk2 _ (by simp [hm]))
       ·exact List.nodup_nil
      ·rw [List.pairwise_map]
       refine List.pairwise_iff_getElem.2 fun i j hi hj hij=>?_
       simp only [List.getElem_range]
       rintro k h8 _ h9 rfl
       obtain ⟨i1,hi1,h10,h11,h12⟩:=hbs2 i k h8
       obtain ⟨j1,hj1,h13,h14,h15⟩:=hbs2 j k h9
       have hne:i1≠j1:=fun e=>by
        rw [h12,h15] at e
        have e2:ks[i]=ks[j]:=by simpa [h11,h14] using e
        have:=(List.getElem_inj hk1).1 e2
        omega
       exact d2' i1 j1 hi1 hj1 hne k h10 h13
  ·obtain ⟨rfl,_⟩:=one o cs h5
   obtain ⟨rfl,_⟩:=one o' cs' h6
   exact absurd rfl hne
  ·rcases hob1s k hk with h7 | ⟨i,hi,h7⟩
   ·exact hfree' k h7 (hmv.stp.gin k (.inl hG))
   ·exact hfree k (hob i hi k h7) hG
 have trk:∀ o d,g.tr [some (X.map oints)] o=some d→g3.tr [some ((R.map (·.2)).map oints++List.replicate z nilS)] o=some d∨g3.tr [some ((R.map (·.2)).map oints++List.replicate z nilS)] o=some none:=fun o d hd=>by
  rw [htr3]
  exact hmv.trk o d (by rw [htr];exact hd)
 refine ⟨v,g3,x (R,z),_,rfl,⟨hp3,⟨hmv.stp.os,hmv.stp.tape,hmv.stp.output,hmv.stp.size,fun k hk hO=>hmv.stp.keep k hk fun ⟨o,cs,h5,h6⟩=>hO ⟨0,_,rfl,(hob2s k h6).1⟩,fun k ⟨o,cs,h5,h6⟩=>?_,fun _ h=>h,fun _ h=>.inl h,hmv.stp.fz⟩,
  fun y v' hy=>hy.mono (fun _ h=>h) (fun k hk=>hkeepG k (.inl hk)) trk (by simp),trk⟩,?_,by simp,(R,z),hQ,rfl,rfl⟩
 ·rcases hob1s k h6 with h7 | ⟨i,hi,h7⟩
  ·rcases hmv.stp.own k ⟨0,_,rfl,h7⟩ with ⟨o2,cs2,h8,h9⟩ | h8
   ·exact .inl ⟨0,_,rfl,(hob2s k h9).1⟩
   ·exact .inr h8
  ·exact .inl ⟨0,_,rfl,hob i hi k h7⟩
 ·have h5:=nf_G (G' := g3.G) (hx (R,z)).1 hrd'
  rw [(hx (R,z)).2] at h5
  rw [show g3.tr [some ((R.map (·.2)).map oints++List.replicate z nilS)]=g'.tr [some (R.map cI++List.replicate z nilS)] from funext htr3]
  exact h5
abbrev Rw:=Value×List Int
abbrev rw0:Rw:=(undef,[])
def Rw.length (p:Rw):Nat:=p.2.length
theorem Rw.len (p:Rw):Rw.length p=p.2.length:=rfl
theorem st_cI (p:Rw):st (cI p)=ints p.2:=rfl
theorem stOk_cI (p:Rw):stOk (cI p)=True:=rfl
theorem plainC_cI (p:Rw):plainC (cI p)=true:=rfl
theorem getI (S:List Rw)(k:Nat)(h:k<S.length)(d:AV):(S.map cI).getD k d=cI (S.getD k rw0):=by simp [h]
theorem cellsOf_cI (p:Rw):cellsOf (cI p)=some [cI p]:=rfl
theorem oneA_cI (p:Rw):oneA (cI p)=true:=rfl
theorem getI_cases (S:List Rw)(k:Nat)(d:AV):(∃ p,(S.map cI).getD k d=cI p∧S.getD k rw0=p)∨((S.map cI).getD k d=d∧S.getD k rw0=rw0):=by
 by_cases h:k<S.length
 ·exact .inl ⟨_,getI S k h d,rfl⟩
 ·exact .inr ⟨by simp [h],by simp [h]⟩
theorem plainC_getI (S:List Rw)(k:Nat):plainC ((S.map cI).getD k .any)=true:=by
 rcases getI_cases S k .any with ⟨p,h,_⟩ | ⟨h,_⟩<;>rw [h]<;>rfl
theorem stOk_getI (S:List Rw)(k:Nat):stOk ((S.map cI).getD k (.slc 1 0 []))=True:=by
 rcases getI_cases S k (.slc 1 0 []) with ⟨p,h,_⟩ | ⟨h,_⟩<;>rw [h]<;>rfl
theorem st_getI (S:List Rw)(k:Nat):st ((S.map cI).getD k (.slc 1 0 []))=ints (S.getD k rw0).2:=by
 rcases getI_cases S k (.slc 1 0 []) with ⟨p,h,h2⟩ | ⟨h,h2⟩<;>rw [h,h2]<;>rfl
theorem oneA_getI (S:List Rw)(k:Nat):oneA ((S.map cI).getD k (.slc 1 0 []))=true:=by
 rcases getI_cases S k (.slc 1 0 []) with ⟨p,h,_⟩ | ⟨h,_⟩<;>rw [h]<;>rfl
theorem cellsOf_getI (S:List Rw)(k:Nat):cellsOf ((S.map cI).getD k (.slc 1 0 []))=some [(S.map cI).getD k (.slc 1 0 [])]:=by
 rcases getI_cases S k (.slc 1 0 []) with ⟨p,h,_⟩ | ⟨h,_⟩<;>rw [h]<;>rfl
theorem rnm_cI (τ:Nat→Option Nat)(p:Rw):rnm τ (cI p)=cI p:=by
 simp [cI,rnm,rnmL_ints]
theorem rnmL_cI (τ:Nat→Option Nat)(L:List Rw):rnmL τ (L.map cI)=L.map cI:=by
 rw [rnmL_map,List.map_map]
 exact List.map_congr_left fun p _=>rnm_cI τ p
theorem frz_cI (H:Heap)(d:Nat)(p:Rw):frz H (d+3) (cI p)=cI p:=by
 simp only [cI,frz,map_frz_ints]
theorem map_frz_cI (H:Heap)(d:Nat)(L:List Rw):(L.map cI).map (frz H (d+3))=L.map cI:=by
 rw [List.map_map]
 exact List.map_congr_left fun p _=>frz_cI H d p
theorem shf_cI (n d:Nat)(p:Rw):shf n (d+3) (cI p)=cI p:=by
 simp only [cI,shf,map_shf_ints]
theorem map_shf_cI (n d:Nat)(L:List Rw):(L.map cI).map (shf n (d+3))=L.map cI:=by
 rw [List.map_map]
 exact List.map_congr_left fun p _=>shf_cI n d p
theorem shr_cI (σ:Nat→Nat)(d:Nat)(p:Rw):shr σ (d+3) (cI p)=cI p:=by
 simp [cI,shr,intsC]
theorem map_shr_cI (σ:Nat→Nat)(d:Nat)(L:List Rw):(L.map cI).map (shr σ (d+3))=L.map cI:=by
 rw [List.map_map]
 exact List.map_congr_left fun p _=>shr_cI σ d p
attribute [go_sem] rnm_cI rnmL_cI frz_cI map_frz_cI shf_cI map_shf_cI shr_cI map_shr_cI cellsOf_cI oneA_cI st_cI stOk_cI plainC_cI plainC_getI stOk_getI st_getI oneA_getI cellsOf_getI
end
section
variable {P:Program} {N:Nat} {g:Gh} {F:Frame} {H:Heap} {a:Act} {w:World} {M:List Nat} {n0:Nat}
def WriX (P:Program)(f:FuncId)(args:List AV)(H0:Heap){α:Type}(Q:α→Prop)(x:α→AV)(H1:α→Heap):Prop:=CallsX P true f args H0 fun av H' => ∃ o,Q o∧av=x o∧H' = H1 o
theorem WriX.weak {f:FuncId}{args:List AV}{H0:Heap}{α:Type}{Q:α→Prop}{x:α→AV}{H1:α→Heap}(h:WriX P f args H0 Q x H1):WriE P f args H0 Q x H1:=CallsX.weak h
theorem rd_rw {tr:Nat→Option (Option LocN)}{G:Nat→Prop}{x:List Int}{v:Value}{bs:List Nat}(h:Rd w tr G (ints x) v bs):Rd w tr G (ints x) v []:=by
 generalize hx:ints x=y at h
 cases h<;>first | (cases hx;done) | skip
 ·rename_i u hl hn hm hg hc hr
  exact .slc u hl hn hm hg hc hr
 ·rename_i hm
  exact .slc0 hm
theorem PureE.idn {f : FuncId} {X : List (List Int)} {Q : List Value → List Rw → Prop}
    (h:∀ vs:List Value,vs.length=X.length→PureE P f [.slc 1 X.length ((vs.zip X).map cI)] (Q vs) (fun S=>.sl 0 1 0 S.length) (fun S=>[some (S.map cI)])):
    PureE P f [mat X] (fun S:List (List Int)=>∃ (vs:List Value) (R:List Rw),vs.length=X.length∧Q vs R∧R.map (·.2)=S) (fun S=>.sl 0 1 0 S.length) (fun S=>[some (S.map ints)]):=by
 intro g w vals hp hl hr
 have h0:=hr 0 (by simp)
 simp only [List.getElem_cons_zero] at h0
 obtain ⟨vs,hvl,hrd⟩:∃ vs:List Value,vs.length=X.length∧Rd w (g.tr []) g.G (.slc 1 X.length ((vs.zip X).map cI)) (vals.getD 0 undef) []:=by
  generalize vals.getD 0 undef=v at h0
  generalize hx:mat X=y at h0
  cases h0<;>first | (cases hx;done) | skip
  ·rename_i b off cap u hl hn hm hG hc hr2
   cases hx
   refine ⟨(List.range X.length).map u,by simp,.slc u (by simp) hn hm hG (fun m hm' => hc m (by simpa using hm')) fun m hm' => ?_⟩
   have hm2:m<X.length:=by simpa using hm'
   have h5:=hr2 m (by simpa using hm2)
   have e1:(((List.range X.length).map u).zip X |>.map cI)[m] = .idn (u m) (ints X[m]):=by simp [cI]
   have e2:(X.map ints)[m]'(by simpa using hm2)=ints X[m]:=by simp
   rw [e1]
   rw [e2] at h5
   exact .idn (rd_rw h5)
  ·rename_i a cap hm
   have:X=[]:=by
    cases X with
    | nil=>rfl
    | cons x X=>simp at hx
   subst this
   exact ⟨[],rfl,.slc0 hm⟩
 refine (h vs hvl g w vals hp hl fun m hm=>?_).mono ?_
 ·obtain rfl:m=0:=by simpa using hm
  exact hrd
 ·rintro e w' ⟨v,g', av,H', he,hmv,hrd', hE,R,hQ,rfl,rfl⟩
  have htr:∀ o,g'.tr [some ((R.map (·.2)).map ints)] o=g'.tr [some (R.map cI)] o:=fun o=>by
   unfold Gh.tr
   cases o with
   | zero=>simp
   | succ o=>simp
  have htr' : g'.tr [some ((R.map (·.2)).map ints)]=g'.tr [some (R.map cI)]:=funext htr
  have one:∀ {cs0:List AV} (o:Nat) (cs:List AV),([some cs0]:Heap)[o]? = some (some cs)→o=0∧cs=cs0:=fun o cs h=>by
   cases o with
   | zero=>simp at h;exact ⟨rfl,h.symm⟩
   | succ o=>simp at h
  have hown:∀ b,g'.owns [some ((R.map (·.2)).map ints)] b→g'.owns [some (R.map cI)] b:=fun b ⟨o,cs,h1,h2⟩=>by
   obtain ⟨rfl,_⟩:=one o cs h1
   exact ⟨0,_,rfl,h2⟩
  have hcs:(R.map (·.2)).map ints=(R.map cI).map unid:=by
   rw [List.map_map,List.map_map]
   exact List.map_congr_left fun p _=>rfl
  refine ⟨v,g', _,[some ((R.map (·.2)).map ints)],he,⟨⟨fun o cs h1=>?_,fun o cs h1=>?_,fun o o' cs cs' h1 h2 hne=>?_,fun o cs h1=>?_,hmv.hp.low⟩,?_,fun x v hx=>by rw [htr'];exact hmv.lift x v hx,fun o d hd=>by rw [htr'];exact hmv.trk o d hd⟩,by rw [htr'];exact hrd', hE,R.map (·.2),⟨vs,R,hvl,hQ,rfl⟩,by simp,rfl⟩
  ·obtain ⟨rfl,rfl⟩:=one o cs h1
   rw [htr', hcs]
   refine (hmv.hp.obj 0 _ rfl).tell unid (fun _ _=>rfl) (fun x hx v bs' _ hr=>?_) (fun _ ⟨x,hx,hg⟩=>?_)
   rotate_left
   ·obtain ⟨p,_,rfl⟩:=List.mem_map.1 hx
    cases hg
   obtain ⟨p,_,rfl⟩:=List.mem_map.1 hx
   obtain ⟨rfl,rfl⟩:=rd_cI hr
   exact unid_ok hr
  ·obtain ⟨rfl,_⟩:=one o cs h1
   exact hmv.hp.nodup 0 _ rfl
  ·obtain ⟨rfl,_⟩:=one o cs h1
   obtain ⟨rfl,_⟩:=one o' cs' h2
   exact absurd rfl hne
  ·obtain ⟨rfl,_⟩:=one o cs h1
   exact hmv.hp.free 0 _ rfl
  ·have hs:=hmv.stp
   exact ⟨hs.os,hs.tape,hs.output,hs.size,hs.keep,fun b hb=>hs.own b (hown b hb),hs.gin,hs.gout,hs.fz⟩
theorem PureE.own {f : FuncId} {X : List (List Int)} {Q : List Value → List Rw → Prop}
    (h:∀ vs:List Value,vs.length=X.length→PureE P f [.slc 1 X.length ((vs.zip X).map cI)] (fun R=>Q vs R∧∃ ks:List Nat,ks.Nodup∧(∀ k∈ks,k<X.length)∧R=ks.map fun k=>(vs.getD k undef,X.getD k [])) (fun S=>.sl 0 1 0 S.length) (fun S=>[some (S.map cI)])):
    WriX P f [.sl 0 1 0 X.length] [some (X.map oints)] (fun S:List (List Int)=>∃ (vs:List Value) (R:List Rw),vs.length=X.length∧Q vs R∧R.map (·.2)=S) (fun S=>.sl 1 1 0 S.length) (fun S=>[none,some (S.map oints)]):=by
 intro g w vals hp hl hr
 have ho:=hp.obj 0 (X.map oints) rfl
 have hnd:=hp.nodup 0 (X.map oints) rfl
 have hfree:=hp.free 0 (X.map oints) rfl
 obtain ⟨bs,u,hu⟩:∃ (bs:Nat→List Nat) (u:Nat→Value),(∀ m (hm:m<X.length),Rd w (g.tr [some (X.map oints)]) g.G (oints (X.getD m [])) (u m) (bs m))∧((X=[]∧g.ρ 0=none∧g.ob 0=[])∨∃ b base sz,g.ρ 0=some (b,base,sz)∧BlockAt w b base sz X.length u∧g.ob 0=b :: (List.range X.length).flatMap bs):=by
  cases hρ:g.ρ 0 with
  | none=>
   rw [hρ] at ho
   have h1:=ObjR.none_nil ho (fun x hx=>by obtain ⟨y,_,rfl⟩:=List.mem_map.1 hx;rfl)
   obtain ⟨_,h2⟩:=ho
   obtain rfl:X=[]:=by simpa using h1
   exact ⟨fun _=>[],fun _=>undef,fun m hm=>by simp at hm,.inl ⟨rfl,rfl,h2⟩⟩
  | some l=>
   obtain ⟨b,base,sz⟩:=l
   rw [hρ] at ho
   obtain ⟨u,bss,hb,hr2,hob⟩:=ho
   refine ⟨bss,u,fun m hm=>?_,.inr ⟨b,base,sz,rfl,by simpa using hb,by simpa using hob⟩⟩
   have h5:=hr2 m (by simpa using hm)
   have e:(X.map oints)[m]'(by simpa using hm)=oints (X.getD m []):=by simp [hm]
   rwa [e] at h5
 obtain ⟨hrd,hcase⟩:=hu
 obtain ⟨vs,hvs⟩:∃ vs:List Value,vs=(List.range X.length).map u:=⟨_,rfl⟩
 have hvl:vs.length=X.length:=by rw [hvs];simp
 have hvm:∀ m,m<X.length→vs.getD m undef=u m:=fun m hm=>by rw [hvs];simp [hm]
 have hcl:((vs.zip X).map cI).length=X.length:=by simp [hvl]
 have hcm:∀ m (hm:m<X.length),((vs.zip X).map cI)[m]'(by rw [hcl];exact hm) = .idn (u m) (ints (X.getD m [])):=fun m hm=>by
  have:vs[m]'(by omega)=u m:=by have:=hvm m hm;simpa [hvl,hm] using this
  simp [cI,this,hm]
 have hob:∀ m,m<X.length→∀ k∈bs m,k∈g.ob 0:=fun m hm k hk=>by
  rcases hcase with ⟨rfl,_⟩ | ⟨b,base,sz,_,_,h3⟩
  ·simp at hm
  ·rw [h3];exact List.mem_cons_of_mem _ (List.mem_flatMap.2 ⟨m,List.mem_range.2 hm,hk⟩)
 have h00:=hr 0 (by simp)
 simp only [List.getElem_cons_zero] at h00
 let g2:Gh:=⟨fun _=>none,fun _=>[],fun k=>g.G k∨k∈g.ob 0⟩
 have hno:∀ (o:Nat) (cs:List AV),([]:Heap)[o]? ≠ some (some cs):=fun o cs=>by simp
 have hp2:HeapR g2 [] w:=⟨fun o cs h=>(hno o cs h).elim,fun o cs h=>(hno o cs h).elim,fun o o' cs cs' h=>(hno o cs h).elim,fun o cs h=>(hno o cs h).elim,fun k hk=>hk.elim (hp.low k) (ho.all_lt k)⟩
 have harg:Rd w (g2.tr []) g2.G (.slc 1 X.length ((vs.zip X).map cI)) (vals.getD 0 undef) []:=by
  generalize vals.getD 0 undef=v at h00
  cases h00 with
  | sl h0 hv0 h4=>
   obtain ⟨hle,hS⟩:=h4 _ (Gh.tr_some (g:=g) (H:=[some (X.map oints)]) (o:=0) rfl)
   dsimp only at hS hle
   have nilc:X=[]→∀ a,v = .slice a 0 0→Rd w (g2.tr []) g2.G (.slc 1 X.length ((vs.zip X).map cI)) v []:=by
    rintro rfl a rfl
    simp only [List.zip_nil_right,List.map_nil,List.length_nil]
    exact .slc0 (by decide)
   rcases hcase with ⟨h1,h2,h3⟩ | ⟨b,base,sz,h1,h2,h3⟩
   ·rw [h2] at hS
    obtain ⟨hn,a,rfl⟩:=hS
    exact nilc h1 a rfl
   ·rw [h1] at hS ho
    obtain ⟨cap,k1,k2,k3,k4⟩:=hS
    by_cases hX:X=[]
    ·subst hX
     rcases k4 with rfl | ⟨_,a,rfl⟩
     ·simp only [List.zip_nil_right,List.map_nil,List.length_nil]
      exact .slc0 k2
     ·exact nilc rfl a rfl
    have hX1:0<X.length:=List.length_pos_iff.2 hX
    rcases k4 with rfl | ⟨rfl,a,rfl⟩
    ·obtain ⟨arr,elem,u2,bss2,c1,c2,c3,c4,c5,c6⟩:=ho.cells (by omega)
     have hlen:(X.map oints).length=X.length:=List.length_map ..
     rw [hlen] at c3 c4
     have hbk:w.heap[b]? = some (.cells arr elem.1.1 elem.1.2):=c1
     have hu2:∀ m,m<X.length→u2 m=u m:=fun m hm=>by
      rcases h2 with ⟨arr', elem', d1,d2,d3,d4⟩ | ⟨d1,d2,_⟩ | ⟨d1,d2,_⟩
      ·rw [hbk] at d1
       simp only [Option.some.injEq,Obj.cells.injEq,and_true] at d1
       obtain ⟨rfl,_⟩:=d1
       have:=(c4 m hm).symm.trans (d4 m hm)
       exact Option.some.inj this
      ·omega
      ·omega
     refine .slc u (by simp [hvl]) k1 k2 (.inr (by rw [h3];exact List.mem_cons_self)) (fun m hm=>?_) fun m hm=>?_
     ·rw [hcl] at hm
      have h9:=c4 m hm
      rw [hu2 m hm] at h9
      simp [World.cell?,hbk,h9]
     ·rw [hcl] at hm
      rw [hcm m hm]
      exact .idn (osl_slc (hrd m hm) fun k hk=>.inr (hob m hm k hk))
    ·omega
 refine (h vs hvl g2 w vals hp2 hl fun m hm=>?_).mono ?_
 ·obtain rfl:m=0:=by simpa using hm
  exact harg
 rintro e w' ⟨v,g', av,H', rfl,hmv,hrd', hE,R,⟨hQ,ks,hk1,hk2,hk3⟩,rfl,rfl⟩
 have hRl:R.length=ks.length:=by rw [hk3];simp
 have hlen:(R.map cI).length=ks.length:=by simp [hRl]
 have hlen2:((R.map (·.2)).map oints).length=ks.length:=by simp [hRl]
 have ho' := hmv.hp.obj 0 _ rfl
 have hfree' := hmv.hp.free 0 _ rfl
 have hkeep:∀ k,k<w.heap.size→w'.heap[k]? = w.heap[k]?:=fun k hk=>hmv.stp.keep k hk fun ⟨o,cs,h5,h6⟩=>hno o cs h5
 let bs2:Nat→List Nat:=fun m=>if m<ks.length then bs (ks.getD m 0) else []
 have hbs2:∀ m k,k∈bs2 m→∃ i,i<X.length∧k∈bs i∧m<ks.length∧i=ks.getD m 0:=fun m k hk=>by
  simp only [bs2] at hk
  split at hk
  ·rename_i hm
   exact ⟨ks.getD m 0,hk2 _ (by simp [hm]),hk,hm,rfl⟩
  ·cases hk
 have hcells:∀ m (hm:m<ks.length) (v:Value) (b0:List Nat),Rd w' (g'.tr [some (R.map cI)]) g'.G ((R.map cI)[m]'(by omega)) v b0→b0=[]∧∀ tr' G', Rd w' tr' G' (((R.map (·.2)).map oints)[m]'(by omega)) v (bs2 m):=fun m hm v b0 h5=>by
  have e1:(R.map cI)[m]'(by omega)=cI (u (ks.getD m 0),X.getD (ks.getD m 0) []):=by
   subst hk3
   have:=hvm _ (hk2 (ks.getD m 0) (by simp [hm]))
   simp only [List.getElem_map]
   rw [← this]
   simp [hm]
  have e2:((R.map (·.2)).map oints)[m]'(by omega)=oints (X.getD (ks.getD m 0) []):=by
   subst hk3
   simp [hm]
  rw [e1] at h5
  obtain ⟨rfl,rfl⟩:=rd_cI h5
  refine ⟨rfl,fun tr' G' => ?_⟩
  rw [e2]
  have hi:=hk2 (ks.getD m 0) (by simp [hm])
  have:bs2 m=bs (ks.getD m 0):=if_pos hm
  rw [this]
  exact osl_keep (hrd _ hi) fun k hk=>hkeep k (ho.all_lt k (hob _ hi k hk))
 obtain ⟨ob1,hob1⟩:∃ ob1:List Nat,ob1=match g'.ρ 0 with | none=>[] | some (b,_,_)=>b :: (List.range ks.length).flatMap bs2:=⟨_,rfl⟩
 let g3:Gh:=⟨fun _=>g'.ρ 0,fun _=>ob1,g.G⟩
 have one:∀ {cs0:List AV} (o:Nat) (cs:List AV),([none,some cs0]:Heap)[o]? = some (some cs)→o=1∧cs=cs0:=fun o cs h=>by
  match o,h with
  | 0,h=>simp at h
  | 1,h=>simp at h;exact ⟨rfl,h.symm⟩
  | o+2,h=>simp at h
 have hob1s:∀ k∈ob1,k∈g'.ob 0∨∃ i,i<X.length∧k∈bs i:=fun k hk=>by
  cases hρ:g'.ρ 0 with
  | none=>rw [hob1,hρ] at hk;simp at hk
  | some l=>
   obtain ⟨b,base,sz⟩:=l
   rw [hρ] at ho'
   obtain ⟨u1,bss1,hb1,hr1,h6⟩:=ho'
   rw [hob1,hρ] at hk
   rcases List.mem_cons.1 hk with rfl | hk
   ·exact .inl (by rw [h6];exact List.mem_cons_self)
   ·obtain ⟨m,_,hm⟩:=List.mem_flatMap.1 hk
    obtain ⟨i,hi,h7,_⟩:=hbs2 m k hm
    exact .inr ⟨i,hi,h7⟩
 have hp3:HeapR g3 [none,some ((R.map (·.2)).map oints)] w' := by
  refine ⟨fun o cs h5=>?_,fun o cs h5=>?_,fun o o' cs cs' h5 h6 hne=>?_,fun o cs h5 k hk hG=>?_,fun k hk=>Nat.lt_of_lt_of_le (hp.low k hk) hmv.stp.size⟩
  ·obtain ⟨rfl,rfl⟩:=one o cs h5
   show ObjR w' _ _ _ ob1 (g'.ρ 0)
   cases hρ:g'.ρ 0 with
   | none=>
    rw [hρ] at ho'
    have h6:=ObjR.none_nil ho' (fun x hx=>by obtain ⟨y,_,rfl⟩:=List.mem_map.1 hx;rfl)
    have h7:=congrArg List.length h6
    rw [hlen] at h7
    simp only [List.length_nil] at h7
    rw [hob1,hρ]
    have h8:(R.map (·.2)).map oints=[]:=List.eq_nil_of_length_eq_zero (by omega)
    rw [h8]
    exact ⟨Gho.nil,rfl⟩
   | some l=>
    obtain ⟨b,base,sz⟩:=l
    rw [hρ] at ho'
    obtain ⟨u1,bss1,hb1,hr1,h6⟩:=ho'
    rw [hob1,hρ]
    refine ⟨u1,bs2,by rw [hlen2,← hlen];exact hb1,fun m hm=>?_,by rw [hlen2]⟩
    rw [hlen2] at hm
    exact (hcells m hm (u1 m) (bss1 m) (hr1 m (by omega))).2 _ _
  ·show ob1.Nodup
   cases hρ:g'.ρ 0 with
   | none=>rw [hob1,hρ];simp
   | some l=>
    obtain ⟨b,base,sz⟩:=l
    rw [hρ] at ho'
    obtain ⟨u1,bss1,hb1,hr1,h6⟩:=ho'
    rw [hob1,hρ]
    refine List.nodup_cons.2 ⟨fun hk=>?_,?_⟩
    ·obtain ⟨m,_,hm⟩:=List.mem_flatMap.1 hk
     obtain ⟨i,hi,h7,_⟩:=hbs2 m b hm
     exact hfree' b (by rw [h6];exact List.mem_cons_self) (hmv.stp.gin b (.inr (hob i hi b h7)))
    ·rcases hcase with ⟨h1,_,_⟩ | ⟨b0,base0,sz0,h2,h3,h4⟩
     ·have hks : ks = [] := by
        cases ks with
        | nil=>rfl
        | cons k ks=>have:=hk2 k List.mem_cons_self;rw [h1] at this;simp at this
      rw [flatMap_nils fun m _=>by simp [bs2,hks]]
      exact List.nodup_nil
     ·rw [h4] at hnd
      have hnd2:=(List.nodup_cons.1 hnd).2
      unfold List.flatMap List.Nodup at hnd2 ⊢
      rw [List.pairwise_flatten] at hnd2 ⊢
      obtain ⟨d1,d2⟩:=hnd2
      have d1' : ∀ i,i<X.length→(bs i).Nodup:=fun i hi=>d1 _ (List.mem_map.2 ⟨i,List.mem_range.2 hi,rfl⟩)
      have d2' : ∀ i j,i<X.length→j<X.length→i≠j→∀ k,k∈bs i→k∉bs j:=fun i j hi hj hij k hk1 hk2=>by
       rw [List.pairwise_map] at d2
       rcases Nat.lt_or_gt_of_ne hij with h | h
       ·have:=List.pairwise_iff_getElem.1 d2 i j (by simpa using hi) (by simpa using hj) h
        simp only [List.getElem_range] at this
        exact this k hk1 k hk2 rfl
       ·have:=List.pairwise_iff_getElem.1 d2 j i (by simpa using hj) (by simpa using hi) h
        simp only [List.getElem_range] at this
        exact this k hk2 k hk1 rfl
      refine ⟨fun l hl=>?_,?_⟩
      ·obtain ⟨m,_,rfl⟩:=List.mem_map.1 hl
       simp only [bs2]
       split
       ·rename_i hm
        exact d1' _ (hk2 _ (by simp [hm]))
       ·exact List.nodup_nil
      ·rw [List.pairwise_map]
       refine List.pairwise_iff_getElem.2 fun i j hi hj hij=>?_
       simp only [List.getElem_range]
       rintro k h8 _ h9 rfl
       obtain ⟨i1,hi1,h10,h11,h12⟩:=hbs2 i k h8
       obtain ⟨j1,hj1,h13,h14,h15⟩:=hbs2 j k h9
       have hne:i1≠j1:=fun e=>by
        rw [h12,h15] at e
        have e2:ks[i]=ks[j]:=by simpa [h11,h14] using e
        have:=(List.getElem_inj hk1).1 e2
        omega
       exact d2' i1 j1 hi1 hj1 hne k h10 h13
  ·obtain ⟨rfl,_⟩:=one o cs h5
   obtain ⟨rfl,_⟩:=one o' cs' h6
   exact absurd rfl hne
  ·rcases hob1s k hk with h7 | ⟨i,hi,h7⟩
   ·exact hfree' k h7 (hmv.stp.gin k (.inl hG))
   ·exact hfree k (hob i hi k h7) hG
 have trk:∀ o d,g.tr [some (X.map oints)] o=some d→g3.tr [none,some ((R.map (·.2)).map oints)] o=some d∨g3.tr [none,some ((R.map (·.2)).map oints)] o=some none:=fun o d hd=>by
  have hlt:=tr_lt hd
  obtain rfl:o=0:=by simpa using hlt
  exact .inr rfl
 refine ⟨v,g3,_,_,rfl,⟨hp3,⟨hmv.stp.os,hmv.stp.tape,hmv.stp.output,hmv.stp.size,fun k hk _=>hkeep k hk,fun k ⟨o,cs,h5,h6⟩=>?_,fun _ h=>h,fun _ h=>.inl h,hmv.stp.fz⟩,
  fun y v' hy=>hy.mono (fun _ h=>h) (fun k hk=>hkeep k (hp.low k hk)) trk (by simp),trk⟩,?_,hE,R.map (·.2),⟨vs,R,hvl,hQ,rfl⟩,rfl,rfl⟩
 ·rcases hob1s k h6 with h7 | ⟨i,hi,h7⟩
  ·rcases hmv.stp.own k ⟨0,_,rfl,h7⟩ with ⟨o2,cs2,h8,h9⟩ | h8
   ·exact (hno o2 cs2 h8).elim
   ·exact .inr h8
  ·exact .inl ⟨0,_,rfl,hob i hi k h7⟩
 ·cases hrd' with
  | sl h0 hv0 h4=>
   refine .sl rfl hv0 fun l hl=>?_
   have h5:=h4 (g'.ρ 0,(R.map cI).length) (by simp [Gh.tr])
   have h6:l=(g'.ρ 0,((R.map (·.2)).map oints).length):=by
    simp [Gh.tr,g3] at hl
    rw [← hl]
    simp
   rw [h6]
   simpa using h5
theorem vwC_cI (ks:List Nat)(H:Heap)(p:Rw):vwC ks H (cI p)=cI p:=by
 show rnm _ (cI p)=_
 exact rnm_cI _ p
theorem vw_cI (ks:List Nat)(H:Heap)(d:Nat)(p:Rw):vw ks H (d+3) (cI p)=cI p:=by
 show frz _ (d+3) (cI p)=_
 exact frz_cI _ d p
attribute [go_sem] vwC_cI vw_cI
end
end Go.Gov
