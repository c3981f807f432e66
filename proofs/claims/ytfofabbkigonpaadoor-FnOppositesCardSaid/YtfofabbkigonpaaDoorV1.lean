/- Texts that belong together. -/
import Derived.Test.YtfofabbkigonpaaDoorZe
set_option linter.unusedSimpArgs false
set_option linter.unusedVariables false
namespace Go.Gov
section
variable {P:Program} {N:Nat} {g:Gh} {F:Frame} {H:Heap} {a:Act} {w:World} {M:List Nat} {n0:Nat}
def Kv (o:Nat)(H:Heap):Heap:=Ch ((List.range H.length).filter fun i=>decide (i≠o)) H
theorem aB (o:Nat)(H:Heap):(Kv o H)[o]? = H[o]?:=N1 _ H o (by simp)
theorem Sb {o i:Nat}{H:Heap}{cs:List AV}(h:(Kv o H)[i]? = some (some cs)):i=o∧H[o]? = some (some cs):=by
 obtain ⟨h1,h2⟩:=F9 _ H i cs h
 have hl:i<H.length:=(List.getElem?_eq_some_iff.1 h2).1
 have:i=o:=by
  refine Classical.byContradiction fun e=>h1 ?_
  simp [hl,e]
 exact ⟨this,this ▸ h2⟩
def ice (o:Nat)(H:Heap):Nat→AV→AV
 | 0,_=>.any
 | d+1,.sl o' k off len=>if o' = o then Ai (Kv o H) (d+1) (.sl o' k off len) else .sl o' k off len
 | d+1,.ref o' j=>if o' = o then Ai (Kv o H) (d+1) (.ref o' j) else .ref o' j
 | d+1,.cnd b x=>.cnd b (ice o H d x)
 | d+1,.agg cs=>.agg (cs.map (ice o H d))
 | d+1,.tup cs=>.tup (cs.map (ice o H d))
 | _+1,x=>x
def Ft (g:Gh)(o:Nat)(H:Heap):Gh:=⟨g.ρ,g.ob,fun b=>g.G b∨g.owns (Kv o H) b⟩
theorem Q1 (o x:Nat)(d:Option A2)(h:g.tr H x=some d):(Ft g o H).tr (H.set o none) x=some d∨(Ft g o H).tr (H.set o none) x=some none:=Ky g H o x d h
theorem Qz (o:Nat)(hp:HeapR g H w):HeapR (Ft g o H) (H.set o none) w:=by
 have hk:=Ly hp o
 refine ⟨fun x cs h=>(hp.obj x cs (Cs h).2).mono (fun _ h=>.inl h) (fun _ _=>rfl) (fun y d hd=>Q1 o y d hd) (fun _ _=>rfl),hk.nodup,hk.apart,fun x cs h b hb=>?_,fun b hb=>?_⟩
 ·rintro (h1 | ⟨y,cy,h1,h2⟩)
  ·exact hk.free x cs h b hb h1
  ·obtain ⟨rfl,h3⟩:=Sb h1
   exact hp.apart x y cs cy (Cs h).2 h3 (Cs h).1 b hb h2
 ·rcases hb with h1 | ⟨y,cy,h1,h2⟩
  ·exact hp.low b h1
  ·obtain ⟨rfl,h3⟩:=Sb h1
   exact (hp.obj y cy h3).all_lt b h2
theorem Q0 (o:Nat)(hp:HeapR g H w):Mv g H w (Ft g o H) (H.set o none) w:=
 ⟨Qz o hp, ⟨rfl, ⟨rfl, Nat.le_refl _⟩, rfl, Nat.le_refl _, fun _ _ _ => rfl, fun b ⟨y, cs, h1, h2⟩ => .inl ⟨y, cs, (Cs h1).2, h2⟩, fun _ h => .inl h, fun b h => h.elim .inl fun ⟨y, cs, h1, h2⟩ => by
     obtain ⟨rfl,h3⟩:=Sb h1
     exact .inr (.inl ⟨y,cs,h3,h2⟩),fun _ _=>rfl⟩,
  fun x v h=>h.mono (fun _ h=>.inl h) (fun _ _=>rfl) (fun y d hd=>Q1 o y d hd) (by simp),fun y d hd=>Q1 o y d hd⟩
theorem Wu (o:Nat)(hp:HeapR g H w):∀ (d:Nat) (x:AV) (v:Value),Rd w (g.tr H) g.G x v []→Rd w ((Ft g o H).tr (H.set o none)) (Ft g o H).G (ice o H d x) v []:=by
 have hf:∀ (d:Nat) (x:AV) (v:Value),Rd w (g.tr H) g.G x v []→Rd w ((Ft g o H).tr (H.set o none)) (Ft g o H).G (Ai (Kv o H) d x) v []:=fun d x v h=>
  (Np (Xc _ hp) d x v [] (h.mono (fun _ h=>h) (fun _ _=>rfl) (fun o d hd=>N2 _ o d hd) (fun _ _=>rfl)) (by simp)).mono (fun _ h=>h) (fun _ _=>rfl) (fun _ _ h=>by cases h) (fun _ _=>rfl)
 have hs:∀ (x:AV) (v:Value),Rd w (g.tr H) g.G x v []→Rd w ((Ft g o H).tr (H.set o none)) (Ft g o H).G x v []:=fun x v h=>(Q0 o hp).lift x v h
 intro d
 induction d with
 | zero=>intro x v _;exact .any
 | succ d ih=>
  intro x v h
  have h' := hf (d+1) x v h
  have h'' := hs x v h
  cases h with
  | sl h0 hv h=>
   simp only [ice]
   split
   ·exact h'
   ·exact h''
  | ref h0 hv h=>
   simp only [ice]
   split
   ·exact h'
   ·exact h''
  | cndF=>simp only [ice];exact .cndF
  | cndT h=>simp only [ice];exact .cndT (ih _ _ h)
  | agg hl hr=>simp only [ice];exact .agg (by simpa using hl) (fun m hm=>by simp only [List.getElem_map];exact ih _ _ (hr m (by simpa using hm)))
  | tup hl hr=>simp only [ice];exact .tup (by simpa using hl) (fun m hm=>by simp only [List.getElem_map];exact ih _ _ (hr m (by simpa using hm)))
  | _=>simpa only [ice] using h''
theorem CallsX.ice (o:Nat){ext:Bool}{f:FuncId}{args' : List AV}{K:AV→Heap→Prop}(h:CallsX P ext f (args'.map (ice o H 6)) (H.set o none) K):CallsX P ext f args' H K:=by
 intro g w vals hp hl hr
 refine (h (Ft g o H) w vals (Qz o hp) (by simpa using hl) fun m hm=>?_).mono ?_
 ·simp only [List.getElem_map]
  exact Wu o hp 6 _ _ (hr m (by simpa using hm))
 ·rintro e w' ⟨v,g', av,H', he,hm,hx,hE,hk⟩
  exact ⟨v,g', av,H', he,(Q0 o hp).trans hm,hx,hE,hk⟩
def J7 (o:Nat)(H:Heap)(F:Frame):Frame:=F.map fun p=>(p.1,ice o H 6 p.2)
theorem Wt (o:Nat)(H:Heap):∀ (F:Frame) (j:Nat),Ac (J7 o H F) j=ice o H 6 (Ac F j)∨Ac (J7 o H F) j = .any
 | [],_=>.inr rfl
 | (i,x) :: l,j=>by
  simp only [J7,List.map_cons,C1]
  by_cases e:i=j
  ·rw [if_pos e,if_pos e];exact .inl rfl
  ·rw [if_neg e,if_neg e];exact Wt o H l j
theorem Ref.ice (o:Nat){F' : Frame}{H' : Heap}(hH:H.set o none=H')(hF:sub (J7 o H F) F'):Ref n0 F H F' H' := fun N g a w hR=>by
 subst hH
 refine ⟨Ft g o H,⟨fun j=>?_,Qz o hR.hp,hR.size,hR.defers⟩,(Q0 o hR.hp).toN⟩
 rcases Kx hF j with e | e
 ·rw [e];exact .any
 ·rw [e]
  rcases Wt o H F j with e2 | e2
  ·rw [e2];exact Wu o hR.hp 6 _ _ (hR.fr j)
  ·rw [e2];exact .any
theorem Ry {ext : Bool} {f : FuncId} {args args' : List AV} {α : Type} {Q : α → Prop} {x : α → AV} {H0 : α → Heap} {K : AV → Heap → Prop} (h : Cr P f args Q x H0) (ha : args'.map (Al fun _ => none) = args)
    (hK:∀ o,Q o→K (Al (Gi H.length) (x o)) (H++Hn H.length (H0 o))):CallsX P ext f args' H K:=
 ((CallsX.liftG h ha.symm).weak).mono (by rintro av H' ⟨av0,H0', ⟨o,ho,rfl,rfl⟩,rfl,rfl⟩;exact hK o ho)
attribute [go_sem] ice J7 aB
end
section
variable {P:Program} {N:Nat} {g:Gh} {F:Frame} {H:Heap} {a:Act} {w:World} {M:List Nat} {n0:Nat}
def cI (p:Value×List Int):AV:=.idn p.1 (Ad p.2)
abbrev Rw:=Value×List Int
abbrev Ma:Rw:=(undef,[])
def Rw.length (p:Rw):Nat:=p.2.length
theorem xF (p:Rw):st (cI p)=Ad p.2:=rfl
theorem xD (p:Rw):Ap (cI p)=True:=rfl
theorem rX (p:Rw):Bf (cI p)=true:=rfl
theorem jB (S:List Rw)(k:Nat)(h:k<S.length)(d:AV):(S.map cI).getD k d=cI (S.getD k Ma):=by simp [h]
theorem eS (p:Rw):cellsOf (cI p)=some [cI p]:=rfl
theorem qP (p:Rw):B1 (cI p)=true:=rfl
theorem Lt (S:List Rw)(k:Nat)(d:AV):(∃ p,(S.map cI).getD k d=cI p∧S.getD k Ma=p)∨((S.map cI).getD k d=d∧S.getD k Ma=Ma):=by
 by_cases h:k<S.length
 ·exact .inl ⟨_,jB S k h d,rfl⟩
 ·exact .inr ⟨by simp [h],by simp [h]⟩
theorem rY (S:List Rw)(k:Nat):Bf ((S.map cI).getD k .any)=true:=by
 rcases Lt S k .any with ⟨p,h,_⟩ | ⟨h,_⟩<;>rw [h]<;>rfl
theorem xE (S:List Rw)(k:Nat):Ap ((S.map cI).getD k (.slc 1 0 []))=True:=by
 rcases Lt S k (.slc 1 0 []) with ⟨p,h,_⟩ | ⟨h,_⟩<;>rw [h]<;>rfl
theorem xG (S:List Rw)(k:Nat):st ((S.map cI).getD k (.slc 1 0 []))=Ad (S.getD k Ma).2:=by
 rcases Lt S k (.slc 1 0 []) with ⟨p,h,h2⟩ | ⟨h,h2⟩<;>rw [h,h2]<;>rfl
theorem qQ (S:List Rw)(k:Nat):B1 ((S.map cI).getD k (.slc 1 0 []))=true:=by
 rcases Lt S k (.slc 1 0 []) with ⟨p,h,_⟩ | ⟨h,_⟩<;>rw [h]<;>rfl
theorem eT (S:List Rw)(k:Nat):cellsOf ((S.map cI).getD k (.slc 1 0 []))=some [(S.map cI).getD k (.slc 1 0 [])]:=by
 rcases Lt S k (.slc 1 0 []) with ⟨p,h,_⟩ | ⟨h,_⟩<;>rw [h]<;>rfl
attribute [go_sem] eS qP xF xD rX rY xE xG qQ eT
end
section
variable {P:Program} {N:Nat} {g:Gh} {F:Frame} {H:Heap} {a:Act} {w:World} {M:List Nat} {n0:Nat}
def WriX (P:Program)(f:FuncId)(args:List AV)(H0:Heap){α:Type}(Q:α→Prop)(x:α→AV)(H1:α→Heap):Prop:=CallsX P true f args H0 fun av H' => ∃ o,Q o∧av=x o∧H' = H1 o
theorem WriX.weak {f:FuncId}{args:List AV}{H0:Heap}{α:Type}{Q:α→Prop}{x:α→AV}{H1:α→Heap}(h:WriX P f args H0 Q x H1):F6 P f args H0 Q x H1:=CallsX.weak h
end
section
variable {P:Program} {N:Nat} {g:Gh} {F:Frame} {H:Heap} {a:Act} {w:World} {M:List Nat} {n0:Nat}
theorem Ref.splitO (o : Nat) {cs cs' cs2 : List AV} (ho : H[o]? = some (some cs)) (hln : cs'.length = cs.length)
    (h:∀ (g:Gh) (w:World),HeapR g H w→∃ (l2:C6) (bsj nb:List Nat),(∀ tr:Nat→Option (Option A2),(∀ x d,g.tr H x=some d→tr x=some d)→tr H.length=some (some (l2,cs2.length))→ObjR w tr g.G cs2 bsj l2∧ObjR w tr g.G cs' nb (g.ρ o))∧(g.ob o).Perm (bsj++nb)):
    Ref n0 F H F (H.set o (some cs')++[some cs2]):=Ref.core fun g w hp=>by
 obtain ⟨l2,bsj,nb,hO,hperm⟩:=h g w hp
 have hol:o<H.length:=(List.getElem?_eq_some_iff.1 ho).1
 let H' : Heap:=H.set o (some cs')++[some cs2]
 let g' : Gh:=⟨fun x=>if x=H.length then l2 else g.ρ x,fun x=>if x=H.length then bsj else if x=o then nb else g.ob x,g.G⟩
 have hnd:=hp.nodup o cs ho
 rw [hperm.nodup_iff,List.nodup_append] at hnd
 have hmem:∀ y,(y∈bsj∨y∈nb)→y∈g.ob o:=fun y hy=>hperm.mem_iff.2 (List.mem_append.2 hy)
 have htr:∀ x d,g.tr H x=some d→g'.tr H' x=some d:=fun x d hd=>by
  have hxl:=Cq hd
  unfold Gh.tr at *
  rw [List.getElem?_append_left (by simpa using hxl)]
  simp only [g', if_neg (Nat.ne_of_lt hxl)]
  by_cases e:o=x
  ·subst e
   rw [List.getElem?_set_self hol]
   rw [ho] at hd
   simpa [hln] using hd
  ·rw [List.getElem?_set_ne e];exact hd
 have hnew:g'.tr H' H.length=some (some (l2,cs2.length)):=by
  have e1:H'[H.length]? = some (some cs2):=by simp [H']
  rw [Gh.tr_some e1]
  simp [g']
 obtain ⟨hO2,hO1⟩:=hO _ htr hnew
 refine ⟨g', ⟨?_,?_,?_,?_,hp.low⟩,fun b' ⟨x,c,hx,hb1⟩=>?_,rfl,fun x d hd=>.inl (htr x d hd)⟩
 ·intro x c hx
  rcases Dd hx hol with ⟨rfl,rfl⟩ | ⟨rfl,h3,rfl⟩ | ⟨h3,h4,h5⟩
  ·have e1:g'.ρ H.length=l2:=by simp [g']
   have e2:g'.ob H.length=bsj:=by simp [g']
   rw [e1,e2]
   exact hO2
  ·have e1:g'.ρ x=g.ρ x:=by simp [g', Nat.ne_of_lt h3]
   have e2:g'.ob x=nb:=by simp [g', Nat.ne_of_lt h3]
   rw [e1,e2]
   exact hO1
  ·have e1:g'.ρ x=g.ρ x:=by simp [g', Nat.ne_of_lt h4]
   have e2:g'.ob x=g.ob x:=by simp [g', Nat.ne_of_lt h4,h3]
   rw [e1,e2]
   exact (hp.obj x c h5).mono (fun _ h=>h) (fun _ _=>rfl) (fun x d h=>.inl (htr x d h)) (fun _ _=>rfl)
 ·intro x c hx
  rcases Dd hx hol with ⟨rfl,rfl⟩ | ⟨rfl,h3,rfl⟩ | ⟨h3,h4,h5⟩
  ·simp only [g', if_true];exact hnd.1
  ·simp only [g', if_neg (Nat.ne_of_lt h3),if_true];exact hnd.2.1
  ·simp only [g', if_neg (Nat.ne_of_lt h4),if_neg h3];exact hp.nodup x c h5
 ·intro x y c d hx hy hxy b' hb1 hb2
  rcases Dd hx hol with ⟨rfl,rfl⟩ | ⟨rfl,h3,rfl⟩ | ⟨h3,h4,h5⟩<;>rcases Dd hy hol with ⟨rfl,rfl⟩ | ⟨rfl,k3,rfl⟩ | ⟨k3,k4,k5⟩
  ·exact hxy rfl
  ·simp only [g', if_true] at hb1
   simp only [g', if_neg (Nat.ne_of_lt k3),if_true] at hb2
   exact hnd.2.2 b' hb1 b' hb2 rfl
  ·simp only [g', if_true] at hb1
   simp only [g', if_neg (Nat.ne_of_lt k4),if_neg k3] at hb2
   exact hp.apart o y cs d ho k5 (Ne.symm k3) b' (hmem _ (.inl hb1)) hb2
  ·simp only [g', if_true] at hb2
   simp only [g', if_neg (Nat.ne_of_lt h3),if_true] at hb1
   exact hnd.2.2 b' hb2 b' hb1 rfl
  ·exact hxy rfl
  ·simp only [g', if_neg (Nat.ne_of_lt h3),if_true] at hb1
   simp only [g', if_neg (Nat.ne_of_lt k4),if_neg k3] at hb2
   exact hp.apart x y cs d ho k5 (Ne.symm k3) b' (hmem _ (.inr hb1)) hb2
  ·simp only [g', if_true] at hb2
   simp only [g', if_neg (Nat.ne_of_lt h4),if_neg h3] at hb1
   exact hp.apart x o c cs h5 ho h3 b' hb1 (hmem _ (.inl hb2))
  ·simp only [g', if_neg (Nat.ne_of_lt h4),if_neg h3] at hb1
   simp only [g', if_neg (Nat.ne_of_lt k3),if_true] at hb2
   exact hp.apart x y c cs h5 ho h3 b' hb1 (hmem _ (.inr hb2))
  ·simp only [g', if_neg (Nat.ne_of_lt h4),if_neg h3] at hb1
   simp only [g', if_neg (Nat.ne_of_lt k4),if_neg k3] at hb2
   exact hp.apart x y c d h5 k5 hxy b' hb1 hb2
 ·intro x c hx b' hb1
  rcases Dd hx hol with ⟨rfl,rfl⟩ | ⟨rfl,h3,rfl⟩ | ⟨h3,h4,h5⟩
  ·simp only [g', if_true] at hb1
   exact hp.free o cs ho b' (hmem _ (.inl hb1))
  ·simp only [g', if_neg (Nat.ne_of_lt h3),if_true] at hb1
   exact hp.free x cs ho b' (hmem _ (.inr hb1))
  ·simp only [g', if_neg (Nat.ne_of_lt h4),if_neg h3] at hb1
   exact hp.free x c h5 b' hb1
 ·rcases Dd hx hol with ⟨rfl,rfl⟩ | ⟨rfl,h3,rfl⟩ | ⟨h3,h4,h5⟩
  ·simp only [g', if_true] at hb1
   exact ⟨o,cs,ho,hmem _ (.inl hb1)⟩
  ·simp only [g', if_neg (Nat.ne_of_lt h3),if_true] at hb1
   exact ⟨x,cs,ho,hmem _ (.inr hb1)⟩
  ·simp only [g', if_neg (Nat.ne_of_lt h4),if_neg h3] at hb1
   exact ⟨x,c,h5,hb1⟩
theorem Ref.openE (o i : Nat) {cs cs2 : List AV} {b k n : Nat} {kv : Value} (ho : H[o]? = some (some [.mpc cs])) (hi : cs[i]? = some (.ent b kv (.osl k n cs2))) :
    Ref n0 F H F (H.set o (some [.mpc (cs.set i (.ent b kv (.sl H.length k 0 n)))])++[some cs2]):=Ref.splitO o ho rfl fun g w hp=>by
 have h1:=hp.obj o _ ho
 cases hl:g.ρ o with
 | none=>rw [hl] at h1;exact absurd (h1.1.gh _ (List.mem_singleton.2 rfl)) (by simp [Gr])
 | some l=>
  obtain ⟨r,base,sz⟩:=l
  rw [hl] at h1
  obtain ⟨u,bss,hblk,hr,hob⟩:=h1
  obtain ⟨hil,hie⟩:=List.getElem?_eq_some_iff.1 hi
  have h0:=hr 0 (by simp)
  simp only [List.getElem_cons_zero] at h0
  have hob' : g.ob o=r :: bss 0:=by rw [hob];simp [List.range_succ]
  generalize bss 0=bs0 at h0 hob'
  generalize hu:u 0=u0 at h0
  cases h0 with
  | mpc bss' hbs' hl' hr' =>
   rename_i vs
   have h2:=hr' i hil
   rw [hie] at h2
   generalize hbi:bss' i=bsi at h2
   generalize hvi:vs.getD i undef=vi at h2
   cases h2 with
   | ent h3=>
    rename_i v3
    have hnew:∃ l2,(∀ (tr:Nat→Option (Option A2)),(∀ x d,g.tr H x=some d→tr x=some d)→ObjR w tr g.G cs2 bsi l2)∧Ju l2 k 0 n v3∧v3.oneCell' = true∧n*k≤cs2.length:=by
     cases h3 with
     | osl u2 bss2 hl2 hn hm hb2 hs hc2 hr2=>
      rename_i b2 off2 cap2 arr2 elem2
      have hnk:n*k≤cap2*k:=Nat.mul_le_mul_right _ hn
      exact ⟨some (b2,off2,arr2.size),fun tr ht=>.ofCells ⟨arr2,elem2,u2,bss2,hb2,rfl,by omega,hc2,fun m hm=>(hr2 m hm).mono (fun _ h=>h) (fun _ _=>rfl) (fun x d h=>.inl (ht x d h)) (fun _ _=>rfl),rfl⟩,⟨cap2,hn,hm,by omega,.inl (by simp)⟩,rfl,by omega⟩
     | osl0=>
      rename_i a0
      exact ⟨none,fun _ _=>ObjR.nil,⟨rfl,a0,rfl⟩,rfl,by omega⟩
    obtain ⟨l2,hO2,hS2,hv2,hnk⟩:=hnew
    let bss2:Nat→List Nat:=fun m=>if m=i then [] else bss' m
    have hp2:((List.range cs.length).flatMap bss').Perm (bsi++(List.range cs.length).flatMap bss2):=by
     have e:bss' = fun m=>if m=i then bsi else bss2 m:=by
      funext m
      by_cases e:m=i
      ·subst e;simp [hbi]
      ·simp [bss2,e]
     conv=>lhs;rw [e]
     exact Lq hil (by simp [bss2]) bsi
    refine ⟨l2,bsi,r :: (List.range cs.length).flatMap bss2,fun tr ht hn=>⟨hO2 tr ht,?_⟩,?_⟩
    ·refine ⟨u,fun _=>(List.range cs.length).flatMap bss2,hblk,fun m hm=>?_,by simp [List.range_succ]⟩
     simp only [List.length_cons,List.length_nil,Nat.zero_add] at hm
     obtain rfl:m=0:=by omega
     simp only [List.getElem_cons_zero]
     rw [hu]
     refine .mpc bss2 (by rw [List.length_set]) (by rw [List.length_set];exact hl') fun m hm=>?_
     simp only [List.length_set] at hm
     by_cases e:m=i
     ·subst e
      simp only [List.getElem_set_self,bss2,if_true]
      rw [hvi]
      refine .ent (.sl (by rw [hn];rfl) hv2 fun l hl=>?_)
      rw [hn] at hl
      obtain rfl:=Option.some.inj (Option.some.inj hl)
      exact ⟨by dsimp only;omega,hS2⟩
     ·rw [List.getElem_set_ne (Ne.symm e)]
      simp only [bss2,if_neg e]
      exact (hr' m hm).mono (fun _ h=>h) (fun _ _=>rfl) (fun x d h=>.inl (ht x d h)) (fun _ _=>rfl)
    ·rw [hob', hbs']
     exact (hp2.cons r).trans List.perm_middle.symm
end
end Go.Gov
