/- Texts that belong together. -/
import Derived.Test.YtcneanpkpmfaiaaGreatZe
set_option linter.unusedSimpArgs false
set_option linter.unusedVariables false
namespace Go.Gov
section
variable {P:Program} {N:Nat} {g:Gh} {F:Frame} {H:Heap} {a:Act} {w:World} {M:List Nat} {n0:Nat}
def Ln (o:Nat)(H:Heap):Heap:=C2 ((List.range H.length).filter fun i=>decide (i≠o)) H
theorem Ach (o:Nat)(H:Heap):(Ln o H)[o]? = H[o]?:=Pn _ H o (by simp)
theorem Uq {o i:Nat}{H:Heap}{cs:List AV}(h:(Ln o H)[i]? = some (some cs)):i=o∧H[o]? = some (some cs):=by
 obtain ⟨h1,h2⟩:=Gn _ H i cs h
 have hl:i<H.length:=(List.getElem?_eq_some_iff.1 h2).1
 have:i=o:=by
  refine Classical.byContradiction fun e=>h1 ?_
  simp [hl,e]
 exact ⟨this,this ▸ h2⟩
def ice (o:Nat)(H:Heap):Nat→AV→AV
 | 0,_=>.any
 | d+1,.sl o' k off len=>if o' = o then Ak (Ln o H) (d+1) (.sl o' k off len) else .sl o' k off len
 | d+1,.ref o' j=>if o' = o then Ak (Ln o H) (d+1) (.ref o' j) else .ref o' j
 | d+1,.cnd b x=>.cnd b (ice o H d x)
 | d+1,.agg cs=>.agg (cs.map (ice o H d))
 | d+1,.tup cs=>.tup (cs.map (ice o H d))
 | _+1,x=>x
def F0 (g:Gh)(o:Nat)(H:Heap):Gh:=⟨g.ρ,g.ob,fun b=>g.G b∨g.owns (Ln o H) b⟩
theorem S4 (o x:Nat)(d:Option Bc)(h:g.tr H x=some d):(F0 g o H).tr (H.set o none) x=some d∨(F0 g o H).tr (H.set o none) x=some none:=Lt g H o x d h
theorem S2 (o:Nat)(hp:HeapR g H w):HeapR (F0 g o H) (H.set o none) w:=by
 have hk:=M3 hp o
 refine ⟨fun x cs h=>(hp.obj x cs (Dh h).2).mono (fun _ h=>.inl h) (fun _ _=>rfl) (fun y d hd=>S4 o y d hd) (fun _ _=>rfl),hk.nodup,hk.apart,fun x cs h b hb=>?_,fun b hb=>?_⟩
 ·rintro (h1 | ⟨y,cy,h1,h2⟩)
  ·exact hk.free x cs h b hb h1
  ·obtain ⟨rfl,h3⟩:=Uq h1
   exact hp.apart x y cs cy (Dh h).2 h3 (Dh h).1 b hb h2
 ·rcases hb with h1 | ⟨y,cy,h1,h2⟩
  ·exact hp.low b h1
  ·obtain ⟨rfl,h3⟩:=Uq h1
   exact (hp.obj y cy h3).all_lt b h2
theorem S3 (o:Nat)(hp:HeapR g H w):Mv g H w (F0 g o H) (H.set o none) w:=
 ⟨S2 o hp, ⟨rfl, ⟨rfl, Nat.le_refl _⟩, rfl, Nat.le_refl _, fun _ _ _ => rfl, fun b ⟨y, cs, h1, h2⟩ => .inl ⟨y, cs, (Dh h1).2, h2⟩, fun _ h => .inl h, fun b h => h.elim .inl fun ⟨y, cs, h1, h2⟩ => by
     obtain ⟨rfl,h3⟩:=Uq h1
     exact .inr (.inl ⟨y,cs,h3,h2⟩),fun _ _=>rfl⟩,
  fun x v h=>h.mono (fun _ h=>.inl h) (fun _ _=>rfl) (fun y d hd=>S4 o y d hd) (by simp),fun y d hd=>S4 o y d hd⟩
theorem Za (o:Nat)(hp:HeapR g H w):∀ (d:Nat) (x:AV) (v:Value),Rd w (g.tr H) g.G x v []→Rd w ((F0 g o H).tr (H.set o none)) (F0 g o H).G (ice o H d x) v []:=by
 have hf:∀ (d:Nat) (x:AV) (v:Value),Rd w (g.tr H) g.G x v []→Rd w ((F0 g o H).tr (H.set o none)) (F0 g o H).G (Ak (Ln o H) d x) v []:=fun d x v h=>
  (K4 (Zm _ hp) d x v [] (h.mono (fun _ h=>h) (fun _ _=>rfl) (fun o d hd=>Po _ o d hd) (fun _ _=>rfl)) (by simp)).mono (fun _ h=>h) (fun _ _=>rfl) (fun _ _ h=>by cases h) (fun _ _=>rfl)
 have hs:∀ (x:AV) (v:Value),Rd w (g.tr H) g.G x v []→Rd w ((F0 g o H).tr (H.set o none)) (F0 g o H).G x v []:=fun x v h=>(S3 o hp).lift x v h
 intro d
 induction d with
 | zero=>intro x v _;exact .any
 | succ d ih=>
  intro x v h
  have h' := hf (d+1) x v h
  have h'' := hs x v h
  cases h with
  | sl h0 hv h=>
   simp only [ice]
   split
   ·exact h'
   ·exact h''
  | ref h0 hv h=>
   simp only [ice]
   split
   ·exact h'
   ·exact h''
  | cndF=>simp only [ice];exact .cndF
  | cndT h=>simp only [ice];exact .cndT (ih _ _ h)
  | agg hl hr=>simp only [ice];exact .agg (by simpa using hl) (fun m hm=>by simp only [List.getElem_map];exact ih _ _ (hr m (by simpa using hm)))
  | tup hl hr=>simp only [ice];exact .tup (by simpa using hl) (fun m hm=>by simp only [List.getElem_map];exact ih _ _ (hr m (by simpa using hm)))
  | _=>simpa only [ice] using h''
theorem CallsX.ice (o:Nat){ext:Bool}{f:FuncId}{args' : List AV}{K:AV→Heap→Prop}(h:CallsX P ext f (args'.map (ice o H 6)) (H.set o none) K):CallsX P ext f args' H K:=by
 intro g w vals hp hl hr
 refine (h (F0 g o H) w vals (S2 o hp) (by simpa using hl) fun m hm=>?_).mono ?_
 ·simp only [List.getElem_map]
  exact Za o hp 6 _ _ (hr m (by simpa using hm))
 ·rintro e w' ⟨v,g', av,H', he,hm,hx,hE,hk⟩
  exact ⟨v,g', av,H', he,(S3 o hp).trans hm,hx,hE,hk⟩
def M1 (o:Nat)(H:Heap)(F:Frame):Frame:=F.map fun p=>(p.1,ice o H 6 p.2)
theorem Y9 (o:Nat)(H:Heap):∀ (F:Frame) (j:Nat),Ab (M1 o H F) j=ice o H 6 (Ab F j)∨Ab (M1 o H F) j = .any
 | [],_=>.inr rfl
 | (i,x) :: l,j=>by
  simp only [M1,List.map_cons,Dk]
  by_cases e:i=j
  ·rw [if_pos e,if_pos e];exact .inl rfl
  ·rw [if_neg e,if_neg e];exact Y9 o H l j
theorem Ref.ice (o:Nat){F' : Frame}{H' : Heap}(hH:H.set o none=H')(hF:sub (M1 o H F) F'):Ref n0 F H F' H' := fun N g a w hR=>by
 subst hH
 refine ⟨F0 g o H,⟨fun j=>?_,S2 o hR.hp,hR.size,hR.defers⟩,(S3 o hR.hp).toN⟩
 rcases Ki hF j with e | e
 ·rw [e];exact .any
 ·rw [e]
  rcases Y9 o H F j with e2 | e2
  ·rw [e2];exact Za o hR.hp 6 _ _ (hR.fr j)
  ·rw [e2];exact .any
theorem Nf {ext : Bool} {f : FuncId} {args args' : List AV} {α : Type} {Q : α → Prop} {x : α → AV} {H0 : α → Heap} {K : AV → Heap → Prop} (h : B1 P f args Q x H0) (ha : args'.map (An fun _ => none) = args)
    (hK:∀ o,Q o→K (An (Ge H.length) (x o)) (H++He H.length (H0 o))):CallsX P ext f args' H K:=
 ((CallsX.liftG h ha.symm).weak).mono (by rintro av H' ⟨av0,H0', ⟨o,ho,rfl,rfl⟩,rfl,rfl⟩;exact hK o ho)
attribute [go_sem] ice M1 Ach
end
section
variable {P:Program} {N:Nat} {g:Gh} {F:Frame} {H:Heap} {a:Act} {w:World} {M:List Nat} {n0:Nat}
def cI (p:Value×List Int):AV:=.idn p.1 (Ac p.2)
abbrev Rw:=Value×List Int
abbrev Nl:Rw:=(undef,[])
def Rw.length (p:Rw):Nat:=p.2.length
theorem Acy (p:Rw):st (cI p)=Ac p.2:=rfl
theorem Acw (p:Rw):Aw (cI p)=True:=rfl
theorem yT (p:Rw):Bs (cI p)=true:=rfl
theorem nE (S:List Rw)(k:Nat)(h:k<S.length)(d:AV):(S.map cI).getD k d=cI (S.getD k Nl):=by simp [h]
theorem jX (p:Rw):cellsOf (cI p)=some [cI p]:=rfl
theorem xZ (p:Rw):Cw (cI p)=true:=rfl
theorem Mu (S:List Rw)(k:Nat)(d:AV):(∃ p,(S.map cI).getD k d=cI p∧S.getD k Nl=p)∨((S.map cI).getD k d=d∧S.getD k Nl=Nl):=by
 by_cases h:k<S.length
 ·exact .inl ⟨_,nE S k h d,rfl⟩
 ·exact .inr ⟨by simp [h],by simp [h]⟩
theorem yU (S:List Rw)(k:Nat):Bs ((S.map cI).getD k .any)=true:=by
 rcases Mu S k .any with ⟨p,h,_⟩ | ⟨h,_⟩<;>rw [h]<;>rfl
theorem Acx (S:List Rw)(k:Nat):Aw ((S.map cI).getD k (.slc 1 0 []))=True:=by
 rcases Mu S k (.slc 1 0 []) with ⟨p,h,_⟩ | ⟨h,_⟩<;>rw [h]<;>rfl
theorem Acz (S:List Rw)(k:Nat):st ((S.map cI).getD k (.slc 1 0 []))=Ac (S.getD k Nl).2:=by
 rcases Mu S k (.slc 1 0 []) with ⟨p,h,h2⟩ | ⟨h,h2⟩<;>rw [h,h2]<;>rfl
theorem yA (S:List Rw)(k:Nat):Cw ((S.map cI).getD k (.slc 1 0 []))=true:=by
 rcases Mu S k (.slc 1 0 []) with ⟨p,h,_⟩ | ⟨h,_⟩<;>rw [h]<;>rfl
theorem jY (S:List Rw)(k:Nat):cellsOf ((S.map cI).getD k (.slc 1 0 []))=some [(S.map cI).getD k (.slc 1 0 [])]:=by
 rcases Mu S k (.slc 1 0 []) with ⟨p,h,_⟩ | ⟨h,_⟩<;>rw [h]<;>rfl
attribute [go_sem] jX xZ Acy Acw yT yU Acx Acz yA jY
end
section
variable {P:Program} {N:Nat} {g:Gh} {F:Frame} {H:Heap} {a:Act} {w:World} {M:List Nat} {n0:Nat}
def WriX (P:Program)(f:FuncId)(args:List AV)(H0:Heap){α:Type}(Q:α→Prop)(x:α→AV)(H1:α→Heap):Prop:=CallsX P true f args H0 fun av H' => ∃ o,Q o∧av=x o∧H' = H1 o
theorem WriX.weak {f:FuncId}{args:List AV}{H0:Heap}{α:Type}{Q:α→Prop}{x:α→AV}{H1:α→Heap}(h:WriX P f args H0 Q x H1):Dg P f args H0 Q x H1:=CallsX.weak h
end
end Go.Gov
