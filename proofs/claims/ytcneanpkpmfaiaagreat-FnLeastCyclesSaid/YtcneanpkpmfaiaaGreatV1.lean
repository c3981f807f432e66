/- Texts that belong together. -/
import Derived.Test.YtcneanpkpmfaiaaGreatZe
set_option linter.unusedSimpArgs false
set_option linter.unusedVariables false
namespace Go.Gov
section
variable {P:Program} {N:Nat} {g:Gh} {F:Frame} {H:Heap} {a:Act} {w:World} {M:List Nat} {n0:Nat}
def Ma (o:Nat)(H:Heap):Heap:=Dd ((List.range H.length).filter fun i=>decide (i≠o)) H
theorem Ad9 (o:Nat)(H:Heap):(Ma o H)[o]? = H[o]?:=Qp _ H o (by simp)
theorem Vo {o i:Nat}{H:Heap}{cs:List AV}(h:(Ma o H)[i]? = some (some cs)):i=o∧H[o]? = some (some cs):=by
 obtain ⟨h1,h2⟩:=G0 _ H i cs h
 have hl:i<H.length:=(List.getElem?_eq_some_iff.1 h2).1
 have:i=o:=by
  refine Classical.byContradiction fun e=>h1 ?_
  simp [hl,e]
 exact ⟨this,this ▸ h2⟩
def ice (o:Nat)(H:Heap):Nat→AV→AV
 | 0,_=>.any
 | d+1,.sl o' k off len=>if o' = o then Al (Ma o H) (d+1) (.sl o' k off len) else .sl o' k off len
 | d+1,.ref o' j=>if o' = o then Al (Ma o H) (d+1) (.ref o' j) else .ref o' j
 | d+1,.cnd b x=>.cnd b (ice o H d x)
 | d+1,.agg cs=>.agg (cs.map (ice o H d))
 | d+1,.tup cs=>.tup (cs.map (ice o H d))
 | _+1,x=>x
def Gm (g:Gh)(o:Nat)(H:Heap):Gh:=⟨g.ρ,g.ob,fun b=>g.G b∨g.owns (Ma o H) b⟩
theorem T2 (o x:Nat)(d:Option A8)(h:g.tr H x=some d):(Gm g o H).tr (H.set o none) x=some d∨(Gm g o H).tr (H.set o none) x=some none:=Md g H o x d h
theorem Tz (o:Nat)(hp:HeapR g H w):HeapR (Gm g o H) (H.set o none) w:=by
 have hk:=Nv hp o
 refine ⟨fun x cs h=>(hp.obj x cs (Dt h).2).mono (fun _ h=>.inl h) (fun _ _=>rfl) (fun y d hd=>T2 o y d hd) (fun _ _=>rfl),hk.nodup,hk.apart,fun x cs h b hb=>?_,fun b hb=>?_⟩
 ·rintro (h1 | ⟨y,cy,h1,h2⟩)
  ·exact hk.free x cs h b hb h1
  ·obtain ⟨rfl,h3⟩:=Vo h1
   exact hp.apart x y cs cy (Dt h).2 h3 (Dt h).1 b hb h2
 ·rcases hb with h1 | ⟨y,cy,h1,h2⟩
  ·exact hp.low b h1
  ·obtain ⟨rfl,h3⟩:=Vo h1
   exact (hp.obj y cy h3).all_lt b h2
theorem T1 (o:Nat)(hp:HeapR g H w):Mv g H w (Gm g o H) (H.set o none) w:=
 ⟨Tz o hp, ⟨rfl, ⟨rfl, Nat.le_refl _⟩, rfl, Nat.le_refl _, fun _ _ _ => rfl, fun b ⟨y, cs, h1, h2⟩ => .inl ⟨y, cs, (Dt h1).2, h2⟩, fun _ h => .inl h, fun b h => h.elim .inl fun ⟨y, cs, h1, h2⟩ => by
     obtain ⟨rfl,h3⟩:=Vo h1
     exact .inr (.inl ⟨y,cs,h3,h2⟩),fun _ _=>rfl⟩,
  fun x v h=>h.mono (fun _ h=>.inl h) (fun _ _=>rfl) (fun y d hd=>T2 o y d hd) (by simp),fun y d hd=>T2 o y d hd⟩
theorem aC (o:Nat)(hp:HeapR g H w):∀ (d:Nat) (x:AV) (v:Value),Rd w (g.tr H) g.G x v []→Rd w ((Gm g o H).tr (H.set o none)) (Gm g o H).G (ice o H d x) v []:=by
 have hf:∀ (d:Nat) (x:AV) (v:Value),Rd w (g.tr H) g.G x v []→Rd w ((Gm g o H).tr (H.set o none)) (Gm g o H).G (Al (Ma o H) d x) v []:=fun d x v h=>
  (Ll (aM _ hp) d x v [] (h.mono (fun _ h=>h) (fun _ _=>rfl) (fun o d hd=>Qq _ o d hd) (fun _ _=>rfl)) (by simp)).mono (fun _ h=>h) (fun _ _=>rfl) (fun _ _ h=>by cases h) (fun _ _=>rfl)
 have hs:∀ (x:AV) (v:Value),Rd w (g.tr H) g.G x v []→Rd w ((Gm g o H).tr (H.set o none)) (Gm g o H).G x v []:=fun x v h=>(T1 o hp).lift x v h
 intro d
 induction d with
 | zero=>intro x v _;exact .any
 | succ d ih=>
  intro x v h
  have h' := hf (d+1) x v h
  have h'' := hs x v h
  cases h with
  | sl h0 hv h=>
   simp only [ice]
   split
   ·exact h'
   ·exact h''
  | ref h0 hv h=>
   simp only [ice]
   split
   ·exact h'
   ·exact h''
  | cndF=>simp only [ice];exact .cndF
  | cndT h=>simp only [ice];exact .cndT (ih _ _ h)
  | agg hl hr=>simp only [ice];exact .agg (by simpa using hl) (fun m hm=>by simp only [List.getElem_map];exact ih _ _ (hr m (by simpa using hm)))
  | tup hl hr=>simp only [ice];exact .tup (by simpa using hl) (fun m hm=>by simp only [List.getElem_map];exact ih _ _ (hr m (by simpa using hm)))
  | _=>simpa only [ice] using h''
theorem CallsX.ice (o:Nat){ext:Bool}{f:FuncId}{args' : List AV}{K:AV→Heap→Prop}(h:CallsX P ext f (args'.map (ice o H 6)) (H.set o none) K):CallsX P ext f args' H K:=by
 intro g w vals hp hl hr
 refine (h (Gm g o H) w vals (Tz o hp) (by simpa using hl) fun m hm=>?_).mono ?_
 ·simp only [List.getElem_map]
  exact aC o hp 6 _ _ (hr m (by simpa using hm))
 ·rintro e w' ⟨v,g', av,H', he,hm,hx,hE,hk⟩
  exact ⟨v,g', av,H', he,(T1 o hp).trans hm,hx,hE,hk⟩
def Nu (o:Nat)(H:Heap)(F:Frame):Frame:=F.map fun p=>(p.1,ice o H 6 p.2)
theorem aB (o:Nat)(H:Heap):∀ (F:Frame) (j:Nat),Ab (Nu o H F) j=ice o H 6 (Ab F j)∨Ab (Nu o H F) j = .any
 | [],_=>.inr rfl
 | (i,x) :: l,j=>by
  simp only [Nu,List.map_cons,Dv]
  by_cases e:i=j
  ·rw [if_pos e,if_pos e];exact .inl rfl
  ·rw [if_neg e,if_neg e];exact aB o H l j
theorem Ref.ice (o:Nat){F' : Frame}{H' : Heap}(hH:H.set o none=H')(hF:sub (Nu o H F) F'):Ref n0 F H F' H' := fun N g a w hR=>by
 subst hH
 refine ⟨Gm g o H,⟨fun j=>?_,Tz o hR.hp,hR.size,hR.defers⟩,(T1 o hR.hp).toN⟩
 rcases Kw hF j with e | e
 ·rw [e];exact .any
 ·rw [e]
  rcases aB o H F j with e2 | e2
  ·rw [e2];exact aC o hR.hp 6 _ _ (hR.fr j)
  ·rw [e2];exact .any
theorem Ob {ext : Bool} {f : FuncId} {args args' : List AV} {α : Type} {Q : α → Prop} {x : α → AV} {H0 : α → Heap} {K : AV → Heap → Prop} (h : Cf P f args Q x H0) (ha : args'.map (Ao fun _ => none) = args)
    (hK:∀ o,Q o→K (Ao (Gv H.length) (x o)) (H++Hy H.length (H0 o))):CallsX P ext f args' H K:=
 ((CallsX.liftG h ha.symm).weak).mono (by rintro av H' ⟨av0,H0', ⟨o,ho,rfl,rfl⟩,rfl,rfl⟩;exact hK o ho)
attribute [go_sem] ice Nu Ad9
end
section
variable {P:Program} {N:Nat} {g:Gh} {F:Frame} {H:Heap} {a:Act} {w:World} {M:List Nat} {n0:Nat}
def cI (p:Value×List Int):AV:=.idn p.1 (Ac p.2)
abbrev Rw:=Value×List Int
abbrev Ol:Rw:=(undef,[])
def Rw.length (p:Rw):Nat:=p.2.length
theorem Aep (p:Rw):st (cI p)=Ac p.2:=rfl
theorem Aen (p:Rw):Ay (cI p)=True:=rfl
theorem Aay (p:Rw):Bv (cI p)=true:=rfl
theorem pO (S:List Rw)(k:Nat)(h:k<S.length)(d:AV):(S.map cI).getD k d=cI (S.getD k Ol):=by simp [h]
theorem lX (p:Rw):cellsOf (cI p)=some [cI p]:=rfl
theorem Aag (p:Rw):C7 (cI p)=true:=rfl
theorem Np (S:List Rw)(k:Nat)(d:AV):(∃ p,(S.map cI).getD k d=cI p∧S.getD k Ol=p)∨((S.map cI).getD k d=d∧S.getD k Ol=Ol):=by
 by_cases h:k<S.length
 ·exact .inl ⟨_,pO S k h d,rfl⟩
 ·exact .inr ⟨by simp [h],by simp [h]⟩
theorem Aaz (S:List Rw)(k:Nat):Bv ((S.map cI).getD k .any)=true:=by
 rcases Np S k .any with ⟨p,h,_⟩ | ⟨h,_⟩<;>rw [h]<;>rfl
theorem Aeo (S:List Rw)(k:Nat):Ay ((S.map cI).getD k (.slc 1 0 []))=True:=by
 rcases Np S k (.slc 1 0 []) with ⟨p,h,_⟩ | ⟨h,_⟩<;>rw [h]<;>rfl
theorem Aeq (S:List Rw)(k:Nat):st ((S.map cI).getD k (.slc 1 0 []))=Ac (S.getD k Ol).2:=by
 rcases Np S k (.slc 1 0 []) with ⟨p,h,h2⟩ | ⟨h,h2⟩<;>rw [h,h2]<;>rfl
theorem Aah (S:List Rw)(k:Nat):C7 ((S.map cI).getD k (.slc 1 0 []))=true:=by
 rcases Np S k (.slc 1 0 []) with ⟨p,h,_⟩ | ⟨h,_⟩<;>rw [h]<;>rfl
theorem lY (S:List Rw)(k:Nat):cellsOf ((S.map cI).getD k (.slc 1 0 []))=some [(S.map cI).getD k (.slc 1 0 [])]:=by
 rcases Np S k (.slc 1 0 []) with ⟨p,h,_⟩ | ⟨h,_⟩<;>rw [h]<;>rfl
attribute [go_sem] lX Aag Aep Aen Aay Aaz Aeo Aeq Aah lY
end
section
variable {P:Program} {N:Nat} {g:Gh} {F:Frame} {H:Heap} {a:Act} {w:World} {M:List Nat} {n0:Nat}
def WriX (P:Program)(f:FuncId)(args:List AV)(H0:Heap){α:Type}(Q:α→Prop)(x:α→AV)(H1:α→Heap):Prop:=CallsX P true f args H0 fun av H' => ∃ o,Q o∧av=x o∧H' = H1 o
theorem WriX.weak {f:FuncId}{args:List AV}{H0:Heap}{α:Type}{Q:α→Prop}{x:α→AV}{H1:α→Heap}(h:WriX P f args H0 Q x H1):Ds P f args H0 Q x H1:=CallsX.weak h
end
end Go.Gov
