/- Texts that belong together. -/
import Derived.Test.YtnompobcofhkpaaGreatDoorZe
set_option linter.unusedSimpArgs false
set_option linter.unusedVariables false
namespace Go.Gov
section
variable {P:Program} {N:Nat} {g:Gh} {F:Frame} {H:Heap} {a:Act} {w:World} {M:List Nat} {n0:Nat}
def M8 (o:Nat)(H:Heap):Heap:=Eu ((List.range H.length).filter fun i=>decide (i≠o)) H
theorem Aj4 (o:Nat)(H:Heap):(M8 o H)[o]? = H[o]?:=Rn _ H o (by simp)
theorem Xa {o i:Nat}{H:Heap}{cs:List AV}(h:(M8 o H)[i]? = some (some cs)):i=o∧H[o]? = some (some cs):=by
 obtain ⟨h1,h2⟩:=Iq _ H i cs h
 have hl:i<H.length:=(List.getElem?_eq_some_iff.1 h2).1
 have:i=o:=by
  refine Classical.byContradiction fun e=>h1 ?_
  simp [hl,e]
 exact ⟨this,this ▸ h2⟩
def ice (o:Nat)(H:Heap):Nat→AV→AV
 | 0,_=>.any
 | d+1,.sl o' k off len=>if o' = o then Aj (M8 o H) (d+1) (.sl o' k off len) else .sl o' k off len
 | d+1,.ref o' j=>if o' = o then Aj (M8 o H) (d+1) (.ref o' j) else .ref o' j
 | d+1,.cnd b x=>.cnd b (ice o H d x)
 | d+1,.agg cs=>.agg (cs.map (ice o H d))
 | d+1,.tup cs=>.tup (cs.map (ice o H d))
 | _+1,x=>x
def Ha (g:Gh)(o:Nat)(H:Heap):Gh:=⟨g.ρ,g.ob,fun b=>g.G b∨g.owns (M8 o H) b⟩
theorem Vj (o x:Nat)(d:Option Bn)(h:g.tr H x=some d):(Ha g o H).tr (H.set o none) x=some d∨(Ha g o H).tr (H.set o none) x=some none:=Nf g H o x d h
theorem Vh (o:Nat)(hp:HeapR g H w):HeapR (Ha g o H) (H.set o none) w:=by
 have hk:=On hp o
 refine ⟨fun x cs h=>(hp.obj x cs (Ds h).2).mono (fun _ h=>.inl h) (fun _ _=>rfl) (fun y d hd=>Vj o y d hd) (fun _ _=>rfl),hk.nodup,hk.apart,fun x cs h b hb=>?_,fun b hb=>?_⟩
 ·rintro (h1 | ⟨y,cy,h1,h2⟩)
  ·exact hk.free x cs h b hb h1
  ·obtain ⟨rfl,h3⟩:=Xa h1
   exact hp.apart x y cs cy (Ds h).2 h3 (Ds h).1 b hb h2
 ·rcases hb with h1 | ⟨y,cy,h1,h2⟩
  ·exact hp.low b h1
  ·obtain ⟨rfl,h3⟩:=Xa h1
   exact (hp.obj y cy h3).all_lt b h2
theorem Vi (o:Nat)(hp:HeapR g H w):Mv g H w (Ha g o H) (H.set o none) w:=
 ⟨Vh o hp, ⟨rfl, ⟨rfl, Nat.le_refl _⟩, rfl, Nat.le_refl _, fun _ _ _ => rfl, fun b ⟨y, cs, h1, h2⟩ => .inl ⟨y, cs, (Ds h1).2, h2⟩, fun _ h => .inl h, fun b h => h.elim .inl fun ⟨y, cs, h1, h2⟩ => by
     obtain ⟨rfl,h3⟩:=Xa h1
     exact .inr (.inl ⟨y,cs,h3,h2⟩),fun _ _=>rfl⟩,
  fun x v h=>h.mono (fun _ h=>.inl h) (fun _ _=>rfl) (fun y d hd=>Vj o y d hd) (by simp),fun y d hd=>Vj o y d hd⟩
theorem fB (o:Nat)(hp:HeapR g H w):∀ (d:Nat) (x:AV) (v:Value),Rd w (g.tr H) g.G x v []→Rd w ((Ha g o H).tr (H.set o none)) (Ha g o H).G (ice o H d x) v []:=by
 have hf:∀ (d:Nat) (x:AV) (v:Value),Rd w (g.tr H) g.G x v []→Rd w ((Ha g o H).tr (H.set o none)) (Ha g o H).G (Aj (M8 o H) d x) v []:=fun d x v h=>
  (Q7 (fR _ hp) d x v [] (h.mono (fun _ h=>h) (fun _ _=>rfl) (fun o d hd=>Vn _ o d hd) (fun _ _=>rfl)) (by simp)).mono (fun _ h=>h) (fun _ _=>rfl) (fun _ _ h=>by cases h) (fun _ _=>rfl)
 have hs:∀ (x:AV) (v:Value),Rd w (g.tr H) g.G x v []→Rd w ((Ha g o H).tr (H.set o none)) (Ha g o H).G x v []:=fun x v h=>(Vi o hp).lift x v h
 intro d
 induction d with
 | zero=>intro x v _;exact .any
 | succ d ih=>
  intro x v h
  have h' := hf (d+1) x v h
  have h'' := hs x v h
  cases h with
  | sl h0 hv h=>
   simp only [ice]
   split
   ·exact h'
   ·exact h''
  | ref h0 hv h=>
   simp only [ice]
   split
   ·exact h'
   ·exact h''
  | cndF=>simp only [ice];exact .cndF
  | cndT h=>simp only [ice];exact .cndT (ih _ _ h)
  | agg hl hr=>simp only [ice];exact .agg (by simpa using hl) (fun m hm=>by simp only [List.getElem_map];exact ih _ _ (hr m (by simpa using hm)))
  | tup hl hr=>simp only [ice];exact .tup (by simpa using hl) (fun m hm=>by simp only [List.getElem_map];exact ih _ _ (hr m (by simpa using hm)))
  | _=>simpa only [ice] using h''
theorem CallsX.ice (o:Nat){ext:Bool}{f:FuncId}{args' : List AV}{K:AV→Heap→Prop}(h:CallsX P ext f (args'.map (ice o H 6)) (H.set o none) K):CallsX P ext f args' H K:=by
 intro g w vals hp hl hr
 refine (h (Ha g o H) w vals (Vh o hp) (by simpa using hl) fun m hm=>?_).mono ?_
 ·simp only [List.getElem_map]
  exact fB o hp 6 _ _ (hr m (by simpa using hm))
 ·rintro e w' ⟨v,g', av,H', he,hm,hx,hE,hk⟩
  exact ⟨v,g', av,H', he,(Vi o hp).trans hm,hx,hE,hk⟩
def Ol (o:Nat)(H:Heap)(F:Frame):Frame:=F.map fun p=>(p.1,ice o H 6 p.2)
theorem fA (o:Nat)(H:Heap):∀ (F:Frame) (j:Nat),Ab (Ol o H F) j=ice o H 6 (Ab F j)∨Ab (Ol o H F) j = .any
 | [],_=>.inr rfl
 | (i,x) :: l,j=>by
  simp only [Ol,List.map_cons,Dl]
  by_cases e:i=j
  ·rw [if_pos e,if_pos e];exact .inl rfl
  ·rw [if_neg e,if_neg e];exact fA o H l j
theorem Ref.ice (o:Nat){F' : Frame}{H' : Heap}(hH:H.set o none=H')(hF:sub (Ol o H F) F'):Ref n0 F H F' H' := fun N g a w hR=>by
 subst hH
 refine ⟨Ha g o H,⟨fun j=>?_,Vh o hR.hp,hR.size,hR.defers⟩,(Vi o hR.hp).toN⟩
 rcases Lo hF j with e | e
 ·rw [e];exact .any
 ·rw [e]
  rcases fA o H F j with e2 | e2
  ·rw [e2];exact fB o hR.hp 6 _ _ (hR.fr j)
  ·rw [e2];exact .any
theorem Le {ext : Bool} {f : FuncId} {args args' : List AV} {α : Type} {Q : α → Prop} {x : α → AV} {H0 : α → Heap} {K : AV → Heap → Prop} (h : Ea P f args Q x H0) (ha : args'.map (Am fun _ => none) = args)
    (hK:∀ o,Q o→K (Am (H8 H.length) (x o)) (H++Jk H.length (H0 o))):CallsX P ext f args' H K:=
 ((CallsX.liftG h ha.symm).weak).mono (by rintro av H' ⟨av0,H0', ⟨o,ho,rfl,rfl⟩,rfl,rfl⟩;exact hK o ho)
attribute [go_sem] ice Ol Aj4
end
section
variable {P:Program} {N:Nat} {g:Gh} {F:Frame} {H:Heap} {a:Act} {w:World} {M:List Nat} {n0:Nat}
def cI (p:Value×List Int):AV:=.idn p.1 (Ad p.2)
abbrev Rw:=Value×List Int
abbrev Pm:Rw:=(undef,[])
def Rw.length (p:Rw):Nat:=p.2.length
theorem Akf (p:Rw):st (cI p)=Ad p.2:=rfl
theorem Akd (p:Rw):At (cI p)=True:=rfl
theorem Agi (p:Rw):Bp (cI p)=true:=rfl
theorem vQ (S:List Rw)(k:Nat)(h:k<S.length)(d:AV):(S.map cI).getD k d=cI (S.getD k Pm):=by simp [h]
theorem rX (p:Rw):cellsOf (cI p)=some [cI p]:=rfl
theorem Afc (p:Rw):Cq (cI p)=true:=rfl
theorem Oj (S:List Rw)(k:Nat)(d:AV):(∃ p,(S.map cI).getD k d=cI p∧S.getD k Pm=p)∨((S.map cI).getD k d=d∧S.getD k Pm=Pm):=by
 by_cases h:k<S.length
 ·exact .inl ⟨_,vQ S k h d,rfl⟩
 ·exact .inr ⟨by simp [h],by simp [h]⟩
theorem Agj (S:List Rw)(k:Nat):Bp ((S.map cI).getD k .any)=true:=by
 rcases Oj S k .any with ⟨p,h,_⟩ | ⟨h,_⟩<;>rw [h]<;>rfl
theorem Ake (S:List Rw)(k:Nat):At ((S.map cI).getD k (.slc 1 0 []))=True:=by
 rcases Oj S k (.slc 1 0 []) with ⟨p,h,_⟩ | ⟨h,_⟩<;>rw [h]<;>rfl
theorem Akg (S:List Rw)(k:Nat):st ((S.map cI).getD k (.slc 1 0 []))=Ad (S.getD k Pm).2:=by
 rcases Oj S k (.slc 1 0 []) with ⟨p,h,h2⟩ | ⟨h,h2⟩<;>rw [h,h2]<;>rfl
theorem Afd (S:List Rw)(k:Nat):Cq ((S.map cI).getD k (.slc 1 0 []))=true:=by
 rcases Oj S k (.slc 1 0 []) with ⟨p,h,_⟩ | ⟨h,_⟩<;>rw [h]<;>rfl
theorem rY (S:List Rw)(k:Nat):cellsOf ((S.map cI).getD k (.slc 1 0 []))=some [(S.map cI).getD k (.slc 1 0 [])]:=by
 rcases Oj S k (.slc 1 0 []) with ⟨p,h,_⟩ | ⟨h,_⟩<;>rw [h]<;>rfl
attribute [go_sem] rX Afc Akf Akd Agi Agj Ake Akg Afd rY
end
section
variable {P:Program} {N:Nat} {g:Gh} {F:Frame} {H:Heap} {a:Act} {w:World} {M:List Nat} {n0:Nat}
def WriX (P:Program)(f:FuncId)(args:List AV)(H0:Heap){α:Type}(Q:α→Prop)(x:α→AV)(H1:α→Heap):Prop:=CallsX P true f args H0 fun av H' => ∃ o,Q o∧av=x o∧H' = H1 o
theorem WriX.weak {f:FuncId}{args:List AV}{H0:Heap}{α:Type}{Q:α→Prop}{x:α→AV}{H1:α→Heap}(h:WriX P f args H0 Q x H1):E1 P f args H0 Q x H1:=CallsX.weak h
end
end Go.Gov
