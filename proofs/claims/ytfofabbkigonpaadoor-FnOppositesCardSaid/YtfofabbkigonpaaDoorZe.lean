/- Texts that belong together. -/
import Derived.Attr
import Derived.Test.YtfofabbkigonpaaDoorZd
set_option linter.unusedSimpArgs false
set_option linter.unusedVariables false
namespace Go.Gov
section
attribute [go_sem] D7 Bt B5 bQ B8 A5 Am Cy ax
attribute [go_sem] st Ap C1 if_true if_false Option.map_some Option.map_none H5
attribute [go_sem] P3 Jz Q2 Nx Q5 H8 Fk El Nu J6
attribute [go_sem] G4 Db uZ vA vB Cb Ac
attribute [go_sem] F7 List.map_cons List.map_nil Ny Bp Fu Fq Hh
attribute [go_sem] Ku Vm Nb true_and and_true Bool.false_eq_true Bool.true_eq_false eA
attribute [go_sem] dZ Nc Ef lS List.length_map iY iX iZ
attribute [go_sem] sB sA sE sI sG sC sF sD
attribute [go_sem] rZ List.getD_cons_zero List.getD_cons_succ List.length_cons List.length_nil Int.toNat_natCast yF yG
attribute [go_sem] Nat.mul_one Nat.zero_add Nat.add_zero implies_true and_self fT fU decide_eq_true_eq
attribute [go_sem] decide_eq_false_iff_not Int.not_le Int.not_lt ge_iff_le gt_iff_lt imp_self cond_true cond_false
attribute [go_sem] Bool.and_self_left Bool.and_false Bool.false_and Bool.or_false Bool.or_true Bool.false_or Bool.true_or Bool.and_self
attribute [go_sem] Bool.or_self Bool.not_not false_implies true_implies iW Bool.not_true Bool.not_false eU
attribute [go_sem] eX eV eY fD fC eZ fB fA
attribute [go_sem] eW qU qR qW rF rE qY rD
attribute [go_sem] qZ qT wV wX wW nH uW uV
attribute [go_sem] Ml Mk vV vU Tb Ta List.getElem?_cons_zero List.getElem?_cons_succ List.nil_append List.cons_append
attribute [go_sem] List.append_nil List.set_cons_zero List.set_cons_succ List.drop_zero List.take_succ_cons List.drop_succ_cons List.take_zero List.take_nil
attribute [go_sem] List.drop_nil Option.bind_some id_eq Option.isSome_some List.all_cons List.all_nil Bool.and_true Bool.true_and
attribute [go_sem] Iv Hq Jb List.length_append List.length_take List.length_set List.length_replicate Nat.lt_add_one Nat.zero_lt_succ
attribute [go_sem] Nat.reduceLT Nat.reduceLeDiff Nat.reduceMul
end
section
variable {P:Program} {N:Nat} {g:Gh} {F:Frame} {H:Heap} {a:Act} {w:World} {M:List Nat} {n0:Nat}
structure Br (p q X Y:Prop):Prop where
 t:p→X
 f:q→Y
@[congr] theorem Aaa {p p' q q' X Y:Prop} (h:p=p') (k:q=q'):Br p q X Y=Br p' q' X Y:=by rw [h,k]
theorem bO (X Y:Prop):Br True False X Y=X:=propext ⟨fun h=>h.1 trivial,fun h=>⟨fun _=>h,fun h=>h.elim⟩⟩
theorem bN (X Y:Prop):Br False True X Y=Y:=propext ⟨fun h=>h.2 trivial,fun h=>⟨fun h=>h.elim,fun _=>h⟩⟩
def It (F:Frame)(c:AX)(X Y:Prop):Prop:=match st (ax F c) with
 | .val (.bool b)=>Ap (ax F c)∧Br (b=true) (b=false) X Y
 | _=>False
@[congr] theorem Aal {F F' : Frame} {c:AX} {X Y:Prop} (h:F=F'):It F c X Y=It F' c X Y:=by rw [h]
@[congr] theorem Aaw {n:Frame→Heap→Prop} {Q:Exit→Frame→Heap→Prop} {e:Exit} {F F' : Frame} {H H' : Heap} (hF:F=F') (hH:H=H'):El n Q e F H=El n Q e F' H' := by rw [hF,hH]
@[congr] theorem Aai {id:Nat} {Q:Exit→Frame→Heap→Prop} {e:Exit} {F F' : Frame} {H H' : Heap} (hF:F=F') (hH:H=H'):G4 id Q e F H=G4 id Q e F' H' := by rw [hF,hH]
def V (P:Program)(M:List Nat)(N n0:Nat):ACode→(Exit→Frame→Heap→Prop)→Frame→Heap→Prop
 | .skip,Q=>Q .normal
 | .ops h t,Q=>D8 P true h (D8 P false t (Q .normal))
 | .alts t,Q=>W P M N n0 (.alts t) Q
 | .seq x y,Q=>V P M N n0 x (El (W P M N n0 y Q) Q)
 | .cond c x y,Q=>fun F H=>It F c (V P M N n0 x Q F H) (V P M N n0 y Q F H)
 | .block id x,Q=>V P M N n0 x (G4 id Q)
 | .loop x,Q=>W P M N n0 (.loop x) Q
 | .exit id,Q=>Q (.exit id)
 | .ret,Q=>Q .ret
@[congr] theorem Aah {c:ACode} {Q:Exit→Frame→Heap→Prop} {F F' : Frame} {H H' : Heap} (hF:F=F') (hH:H=H'):V P M N n0 c Q F H=V P M N n0 c Q F' H' := by rw [hF,hH]
theorem Cf:∀ {c:ACode} {Q:Exit→Frame→Heap→Prop} {F:Frame} {H:Heap},V P M N n0 c Q F H→W P M N n0 c Q F H
 | .skip,_,_,_,h=>cZ h
 | .ops _ _,_,_,_,h=>cW h
 | .alts _,_,_,_,h=>h
 | .seq x y,Q,_,_,h=>Mx (Cf (c:=x) h)
 | .cond c x y, Q, F, H, h => cR (by
     have h:It F c (V P M N n0 x Q F H) (V P M N n0 y Q F H):=h
     unfold It at h
     unfold Nc
     split at h
     ·rename_i b hb
      simp only [hb]
      exact ⟨h.1,fun hb=>Cf (h.2.1 hb),fun hb=>Cf (h.2.2 hb)⟩
     ·exact h.elim)
 | .block _ x,_,_,_,h=>cP (Cf (c:=x) h)
 | .loop _,_,_,_,h=>h
 | .exit _,_,_,_,h=>cT h
 | .ret,_,_,_,h=>cY h
section
variable {Q:Exit→Frame→Heap→Prop}
theorem cO:V P M N n0 .skip Q F H=Q .normal F H:=rfl
theorem cJ (h t:List As):V P M N n0 (.ops h t) Q F H=D8 P true h (D8 P false t (Q .normal)) F H:=rfl
theorem cK (t:List As):V P M N n0 (os t) Q F H=D8 P false t (Q .normal) F H:=rfl
theorem cE {t:GT}(h:Bt P false t (Q .normal) F H):V P M N n0 (.alts t) Q F H:=K7 h
theorem cN (x y:ACode):V P M N n0 (.seq x y) Q F H=V P M N n0 x (El (W P M N n0 y Q) Q) F H:=rfl
theorem cG (c:AX)(x y:ACode):V P M N n0 (.cond c x y) Q F H=It F c (V P M N n0 x Q F H) (V P M N n0 y Q F H):=rfl
theorem cF (id:Nat)(x:ACode):V P M N n0 (.block id x) Q F H=V P M N n0 x (G4 id Q) F H:=rfl
theorem cH (id:Nat):V P M N n0 (.exit id) Q F H=Q (.exit id) F H:=rfl
theorem cM:V P M N n0 .ret Q F H=Q .ret F H:=rfl
theorem Hs {c:ACode}{F' : Frame}{H' : Heap}(hr:Ref n0 F H F' H')(h:V P M N n0 c Q F' H'):W P M N n0 c Q F H:=D0 hr (Cf h)
theorem hJ {x:AOp}{K K' : AV→Heap→Prop}(h:Bp x F H K)(hk:∀ av H', K av H' → K' av H'):Bp x F H K' := by
 cases x
 case app k bytes s x=>
  simp only [Bp] at *
  obtain ⟨h1,h2,h3⟩:=h
  refine ⟨h1,h2,?_⟩
  generalize Jb H k (st (ax F x))=sa at *
  cases sa with
  | none=>exact h3.elim
  | some p=>
   obtain ⟨m,new⟩:=p
   refine ⟨h3.1,?_⟩
   have h4:=h3.2
   (try simp only at h4 ⊢)
   cases hc:new.all Bf with
   | true=>
    rw [hc,Ml] at h4
    rw [Ml]
    generalize Iv H k (st (ax F s))=d at *
    cases d with
    | none=>exact h4.elim
    | some d=>exact ⟨h4.1,h4.2.1,hk _ _ h4.2.2⟩
   | false=>
    rw [hc,Mk] at h4
    rw [Mk]
    generalize st (ax F x)=sx at *
    cases sx<;>first | exact h4.elim | skip
    rename_i o k2 off len
    (try simp only at h4 ⊢)
    generalize Iv (H.set o none) k (st (ax F s))=d at *
    cases d with
    | none=>exact h4.elim
    | some d=>exact ⟨h4.1,h4.2.1,hk _ _ h4.2.2⟩
 all_goals (unfold Bp at *;first | exact h.elim | grind)
theorem Sw {gb:Bool}{C K K' : AV→Prop}{D D' : Prop}(h:GCall gb C K D)(hk:∀ av,K av→K' av)(hd:D→D'):GCall gb C K' D' := h.imp (fun h=>h.imp fun av h=>⟨h.1,hk av h.2⟩) fun h=>⟨h.1,hd h.2⟩
theorem bP {g:Option Bool}{A B:Bool→Prop}(h:Gm g A)(hk:∀ b,A b→B b):Gm g B:=by
 cases g with
 | none=>exact h
 | some b=>exact hk b h
theorem Mp {ext:Bool}{x:As}{K K' : Frame→Heap→Prop}(h:B5 P ext x K F H)(hk:∀ F H,K F H→K' F H):B5 P ext x K' F H:=by
 obtain ⟨d,g,o⟩:=x
 cases g with
 | none=>
  unfold B5 at *
  dsimp only at *
  by_cases hq:B8 o=true
  ·rw [if_pos hq] at *
   exact ⟨h.1,hk _ _ h.2⟩
  ·rw [if_neg hq] at *
   split at h
   ·exact ⟨h.1,h.2.mono fun _ _=>hk _ _⟩
   ·refine ⟨h.1,h.2.1,?_⟩
    have h3:=h.2.2
    split at h3
    ·exact ⟨h3.1,h3.2.mono fun _ _=>hk _ _⟩
    ·exact h3.elim
   ·exact ⟨h.1,hJ h.2 fun _ _=>hk _ _⟩
 | some sw=>
  obtain ⟨s,w⟩:=sw
  unfold B5 at *
  dsimp only at *
  refine bP h fun b hb=>?_
  by_cases hq:B8 o=true
  ·rw [if_pos hq] at *
   exact ⟨hb.1,hk _ _ hb.2⟩
  ·rw [if_neg hq] at *
   split at hb
   ·exact Sw hb (fun _=>hk _ _) fun h=>⟨h.1,h.2.mono fun _ _=>hk _ _⟩
   ·refine Sw hb (fun _=>hk _ _) fun h=>⟨h.1,h.2.1,?_⟩
    have h3:=h.2.2
    split at h3
    ·exact ⟨h3.1,h3.2.mono fun _ _=>hk _ _⟩
    ·exact h3.elim
   ·exact hb.elim
theorem G1:∀ {K K' : Frame→Heap→Prop},(∀ F H,K F H→K' F H)→∀ (t:GT) (b:Bool) (F:Frame) (H:Heap),Bt P b t K F H→Bt P b t K' F H
 | _,_,hk,.fin,b,F,H,h=>by
  unfold Bt at *
  cases b with
  | true=>trivial
  | false=>exact hk _ _ h
 | _,_,hk,.reg x t,b,F,H,h=>by
  unfold Bt at *
  exact Mp h (G1 hk t false)
 | _,_,hk,.alt e x t u,b,F,H,h=>by
  unfold Bt at *
  exact ⟨Mp h.1 (G1 hk t false),G1 hk u true _ _ h.2⟩
 | _,_,hk,.regz x t,b,F,H,h=>by
  unfold Bt at *
  exact ⟨h.1,Mp h.2 (G1 hk t false)⟩
 | _,_,hk,.thw t ds x,b,F,H,h=>by
  unfold Bt at *
  exact G1 (fun _ _ h=>Mp h hk) t false _ _ h
theorem Ak {α : Type} (S : α → Frame × Heap) (C : α → Prop) (μ : α → Nat) (x0 : α) (h0 : C x0) (hr : Ref n0 F H (S x0).1 (S x0).2) {c : ACode}
    (round:∀ x,C x→V P M N n0 c (El (fun F' H' => ∃ x', C x' ∧ μ x' < μ x∧Ref n0 F' H' (S x').1 (S x').2) Q) (S x).1 (S x).2):V P M N n0 (.loop c) Q F H:=
 S0 S C μ x0 h0 hr fun x hx=>Cf (round x hx)
end
theorem bX {ext:Bool}{K:Frame→Heap→Prop}:D8 P ext [] K F H=K F H:=rfl
theorem bY {ext:Bool}{K:Frame→Heap→Prop}(x1:As):D8 P ext [x1] K F H=D7 P ext [x1] K F H:=rfl
theorem bZ {ext:Bool}{K:Frame→Heap→Prop}(x1 x2:As):D8 P ext [x1,x2] K F H=D7 P ext [x1,x2] K F H:=rfl
theorem cA {ext:Bool}{K:Frame→Heap→Prop}(x1 x2 x3:As)(l:List As):D8 P ext (x1 :: x2 :: x3 :: l) K F H=D7 P ext [x1,x2,x3] (D8 P ext l K) F H:=rfl
/-! ### Functions and calls -/
theorem Cm {f:FuncId}{ac:ACode}{rs:List AOp}{args:List AV}{x:AV}{H0:Heap}(hc:Aj P M f=some (N,ac,rs))(hl:decide (args.length≤N)=true)(h:V P M N 0 ac (Db rs fun av H' => av=x∧H' = H0) (Cb 0 args) []):Ao P f args x H0:=sU hc hl (Cf h)
theorem Gf {f:FuncId}{ac:ACode}{rs:List AOp}{args:List AV}{x:AV}(hc:Aj P M f=some (N,ac,rs))(hl:decide (args.length≤N)=true)(hx:Al (A3 [] 0) x=x)(h:V P M N 0 ac (Db rs fun av _=>av=x) (Cb 0 args) []):Ao P f args x []:=sW hc hl hx (Cf h)
theorem Rz {f:FuncId}{ac:ACode}{rs:List AOp}{args:List AV}{x:AV}{H0:Heap}(ks:List Nat)(hc:Aj P M f=some (N,ac,rs))(hl:decide (args.length≤N)=true)(h:V P M N 0 ac (Db rs fun av H' => Fp ks H'.length 0=true∧Al (A3 ks 0) av=x∧Aq ks H' = H0) (Cb 0 args) []):Ao P f args x H0:=sX ks hc hl (Cf h)
theorem sN {f : FuncId} {ac : ACode} {rs : List AOp} {args : List AV} {α : Type} {Q : α → Prop} {x : α → AV} {H0 : α → Heap} (ks : List Nat) (hc : Aj P M f = some (N, ac, rs)) (hl : decide (args.length ≤ N) = true)
    (h:V P M N 0 ac (Db rs fun av H' => Fp ks H'.length 0=true∧∃ o,Q o∧Al (A3 ks 0) av=x o∧Aq ks H' = H0 o) (Cb 0 args) []):Cr P f args Q x H0:=sO ks hc hl (Cf h)
theorem Dz {gb:Bool}{C K:AV→Prop}{D:Prop}(av:AV)(h:gb=false)(hk:K av):GCall gb C K D:=GCall.mk av (fun e=>absurd (h ▸ e) (by decide)) hk
theorem E8 {ext:Bool}{f:FuncId}{args args' : List AV}{x:AV}{H0:Heap}{K:AV→Heap→Prop}(h:Ao P f args x H0)(ha:args'.map (Ai H 6)=args)(hx:(nf 6 x&&Cj 6 H0)=true)(hK:K (Az H.length 6 x) (H++Dg H.length 6 H0)):CallsX P ext f args' H K:=
 M3 h ha (Bool.and_eq_true_iff.1 hx).1 (Bool.and_eq_true_iff.1 hx).2 hK
theorem B3 {ext : Bool} {f : FuncId} {args args' : List AV} {α : Type} {Q : α → Prop} {x : α → AV} {H0 : α → Heap} {K : AV → Heap → Prop} (h : Cr P f args Q x H0) (ha : args'.map (Ai H 6) = args) (hx : ∀ o, (nf 6 (x o) && Cj 6 (H0 o)) = true)
    (hK:∀ o,Q o→K (Az H.length 6 (x o)) (H++Dg H.length 6 (H0 o))):CallsX P ext f args' H K:=eL h ha (fun o=>(Bool.and_eq_true_iff.1 (hx o)).1) (fun o=>(Bool.and_eq_true_iff.1 (hx o)).2) hK
theorem aY {f : FuncId} {args args' : List AV} {H0 : Heap} {x : AV} {H1 : Heap} {K : AV → Heap → Prop} (h : Er P f args H0 x H1) (ks : List Nat) (hks : (decide ks.Nodup && ks.all fun o => decide (o < H.length)) = true) (hH : Aq ks H = H0) (ha : args'.map (vw ks H 6) = args) (hx : (nf 6 x && Cj 6 H1) = true)
    (hK:K (shr (Ca ks H.length) 6 x) (Cn ks (Hp (Ca ks H.length) 6 H1) H)):CallsX P false f args' H K:=eO h ks hks hH ha (Bool.and_eq_true_iff.1 hx).1 (Bool.and_eq_true_iff.1 hx).2 hK
theorem Sg {α:Type}(f:α→AV)(L:List α):(L.map f).take L.length=L.map f:=List.take_of_length_le (by simp)
theorem xX {α:Type}(f:α→AV)(L R:List α):((L++R).map f).take L.length=L.map f:=by rw [← List.map_take,List.take_left'];rfl
theorem xU (xs:List Int):(Aa xs).take xs.length=Aa xs:=Sg _ _
theorem xS (xs:List Bool):(Bc xs).take xs.length=Bc xs:=Sg _ _
theorem yB:Int.toNat 0=0:=rfl
theorem yC:Int.toNat 1=1:=rfl
theorem yD:Int.toNat 2=2:=rfl
theorem yE:Int.toNat 3=3:=rfl
attribute [go_sem] yB yC yD yE
attribute [go_sem] Sg xX xU xS not_true_eq_false not_false_eq_true decide_true decide_false bne_self_eq_false beq_self_eq_true
attribute [go_sem] bO bN It cO cJ cK cN cG cF cH cM bX bY bZ cA
attribute [go_sem] gm gz gn gp gq kk Dv gB gK gE gI gL gV gS gT gF gH gA gC gD gX gJ gN gR
attribute [go_sem] Ai I4 mL X9 Gt
attribute [go_sem] Cj nf S9 dI
attribute [go_sem] Az Dg Ya mP
attribute [go_sem] Aq Gq H4 A3 Ej vE Ic Dx R4 vG O0 Al Av
attribute [go_sem] vw Ch shr Ca Hp Cn Hn Gi Dj
attribute [go_sem] H7 bne_eq_false_iff_eq Bool.and_eq_true Bool.or_eq_true Bool.not_eq_true' Bool.not_eq_false' Bool.and_eq_false_iff Bool.or_eq_false_iff
attribute [go_sem] beq_iff_eq beq_eq_false_iff_ne bne_iff_ne ne_eq Bool.not_eq_true Bool.not_eq_false
def Imp (q p:Prop):Prop:=q→p
theorem Imp.one {p:Prop}:Imp p p:=id
theorem Imp.two {q a b:Prop}(h:a)(k:Imp q b):Imp q (a∧b):=fun x=>⟨h,k x⟩
theorem Imp.vw {P:Program}{N:Nat}{M:List Nat}{n0:Nat}{F:Frame}{H:Heap}{Q:Exit→Frame→Heap→Prop}{c:ACode}{q:Prop}(k:Imp q (V P M N n0 c Q F H)):Imp q (W P M N n0 c Q F H):=fun x=>Cf (k x)
theorem Imp.br {q a b X Y:Prop}(h:a→X)(k:Imp q (b→Y)):Imp q (Br a b X Y):=fun x=>⟨h,k x⟩
theorem Imp.yes {p:Prop}(h:p):Imp True p:=fun _=>h
theorem RN {p q:Prop}(h:q)(e:Imp q p:=by
 (repeat first | simp only [go_sem,↓reduceIte,Nat.reduceEqDiff,Nat.reduceAdd,reduceCtorEq] | with_reducible apply Imp.vw | (with_reducible apply Imp.two;focus first | assumption | omega | decide | grind) | (with_reducible apply Imp.br;focus (intros;omega)) | (with_reducible apply Imp.yes;decide))
 first | done | exact Imp.one):p:=e h
theorem RX {p q:Prop}(h:q)(e:Imp q p:=by
 first | with_reducible exact Imp.vw Imp.one | (with_reducible refine Imp.two ?_ Imp.one;focus first | assumption | omega | decide | grind) | (with_reducible refine Imp.br ?_ Imp.one;focus (intros;omega))):p:=e h
theorem Aat {P:Program}{H:Heap}{ext:Bool}{f:FuncId}{args args' : List AV}{x:AV}{H0:Heap}{K:AV→Heap→Prop}(h:Ao P f args x H0)(ha:args'.map (Ai H 6)=args)(hK:K (Az H.length 6 x) (H++Dg H.length 6 H0))(hx:(nf 6 x&&Cj 6 H0)=true:=by first | rfl | simp only [go_sem,↓reduceIte,Nat.reduceEqDiff,Nat.reduceAdd,reduceCtorEq]):CallsX P ext f args' H K:=E8 h ha hx hK
theorem An {P:Program}{H:Heap}{ext:Bool}{f:FuncId}{args args' : List AV}{x:AV}{H0:Heap}{K:AV→Heap→Prop}(h:Ao P f args x H0)(hK:K (Az H.length 6 x) (H++Dg H.length 6 H0))(ha:args'.map (Ai H 6)=args:=by (simp only [go_sem,↓reduceIte,Nat.reduceEqDiff,Nat.reduceAdd,reduceCtorEq]<;>rfl))(hx:(nf 6 x&&Cj 6 H0)=true:=by first | rfl | simp only [go_sem,↓reduceIte,Nat.reduceEqDiff,Nat.reduceAdd,reduceCtorEq]):CallsX P ext f args' H K:=E8 h ha hx hK
theorem G2 {P:Program}{gb:Bool}{C K:AV→Prop}{D:Prop}{f:FuncId}{args:List AV}{x:AV}{H0:Heap}(av:AV)(h:gb=true→Ao P f args x H0)(k:K av)(e:(gb=true→Ao P f args x H0)→gb=true→C av:=by
 intro h hg
 replace h:=h hg
 first | exact E8 h (by simp only [go_sem,↓reduceIte,Nat.reduceEqDiff,Nat.reduceAdd,reduceCtorEq]<;>rfl) (by first | rfl | simp only [go_sem,↓reduceIte,Nat.reduceEqDiff,Nat.reduceAdd,reduceCtorEq]) (by first | exact ⟨rfl,rfl⟩ | simp only [go_sem,↓reduceIte,Nat.reduceEqDiff,Nat.reduceAdd,reduceCtorEq]) | exact ⟨hg,E8 h (by simp only [go_sem,↓reduceIte,Nat.reduceEqDiff,Nat.reduceAdd,reduceCtorEq]<;>rfl) (by first | rfl | simp only [go_sem,↓reduceIte,Nat.reduceEqDiff,Nat.reduceAdd,reduceCtorEq]) (by first | exact ⟨rfl,rfl⟩ | simp only [go_sem,↓reduceIte,Nat.reduceEqDiff,Nat.reduceAdd,reduceCtorEq])⟩ | (refine ⟨?_,E8 h (by simp only [go_sem,↓reduceIte,Nat.reduceEqDiff,Nat.reduceAdd,reduceCtorEq]<;>rfl) (by first | rfl | simp only [go_sem,↓reduceIte,Nat.reduceEqDiff,Nat.reduceAdd,reduceCtorEq]) (by first | exact ⟨rfl,rfl⟩ | simp only [go_sem,↓reduceIte,Nat.reduceEqDiff,Nat.reduceAdd,reduceCtorEq])⟩;clear h;grind)):GCall gb C K D:=GCall.mk av (e h) k
theorem Ref.to1 {n0:Nat}{F:Frame}{H:Heap}{F' : Frame}{H' : Heap}(hH:H=H' := by rfl)(h:sub F F' := by simp [sub,Ac]):Ref n0 F H F' H' := Ref.to hH h
theorem Ref.gc2 {n0:Nat}{F:Frame}{H:Heap}(ks:List Nat){F' : Frame}{H' : Heap}(hk:Fp ks H.length n0=true:=by rfl)(hH:Aq ks H=H' := by (simp only [go_sem,↓reduceIte,Nat.reduceEqDiff,Nat.reduceAdd,reduceCtorEq]<;>rfl))(hF:sub (H4 ks F) F' := by simp [sub,Ac,go_sem,↓reduceIte,Nat.reduceEqDiff,Nat.reduceAdd,reduceCtorEq]):Ref n0 F H F' H' := Ref.gc ks hk hH hF
theorem Pp {P:Program}{H:Heap}{f:FuncId}{args args' : List AV}{H0:Heap}{x:AV}{H1:Heap}{K:AV→Heap→Prop}(h:Er P f args H0 x H1)(ks:List Nat)(hK:K (shr (Ca ks H.length) 6 x) (Cn ks (Hp (Ca ks H.length) 6 H1) H))(hks:(decide ks.Nodup&&ks.all fun o=>decide (o<H.length))=true:=by first | rfl | simp)(hH:Aq ks H=H0:=by (simp only [go_sem,↓reduceIte,Nat.reduceEqDiff,Nat.reduceAdd,reduceCtorEq]<;>rfl))(ha:args'.map (vw ks H 6)=args:=by (simp only [go_sem,↓reduceIte,Nat.reduceEqDiff,Nat.reduceAdd,reduceCtorEq]<;>rfl))(hx:(nf 6 x&&Cj 6 H1)=true:=by first | rfl | simp only [go_sem,↓reduceIte,Nat.reduceEqDiff,Nat.reduceAdd,reduceCtorEq]):CallsX P false f args' H K:=aY h ks hks hH ha hx hK
theorem Ref.gc1 {n0:Nat}{F:Frame}{H:Heap}(ks:List Nat){F' : Frame}{H' : Heap}(hk:Fp ks H.length n0=true:=by rfl)(hH:Aq ks H=H' := by simp only [go_sem,↓reduceIte,Nat.reduceEqDiff,Nat.reduceAdd,reduceCtorEq])(hF:sub (H4 ks F) F' := by simp [sub,Ac,go_sem,↓reduceIte,Nat.reduceEqDiff,Nat.reduceAdd,reduceCtorEq]):Ref n0 F H F' H' := Ref.gc ks hk hH hF
end
section
variable {P:Program} {N:Nat} {g:Gh} {F:Frame} {H:Heap} {a:Act} {w:World} {M:List Nat} {n0:Nat}
def LT (P:Program)(b:Bool)(t:GT)(K:Frame→Heap→Prop)(F:Frame)(H:Heap):Prop:=Bt P b t K F H
@[congr] theorem Aaf {b:Bool} {t:GT} {K:Frame→Heap→Prop} {F' : Frame} {H' : Heap} (hF:F=F') (hH:H=H'):LT P b t K F H=LT P b t K F' H' := by rw [hF,hH]
theorem Ff {K:Frame→Heap→Prop}(h:K F H):LT P false .fin K F H:=h
theorem Fh {K:Frame→Heap→Prop}:LT P true .fin K F H:=trivial
theorem Fg {b:Bool}{x:As}{t:GT}{K:Frame→Heap→Prop}(h:B5 P true x (LT P false t K) F H):LT P b (.reg x t) K F H:=h
theorem bU {b:Bool}{x:As}{t:GT}{K:Frame→Heap→Prop}(hz:Hr (Jj x.op F))(h:B5 P true x (LT P false t K) F H):LT P b (.regz x t) K F H:=⟨hz,h⟩
theorem Fe {b e:Bool}{x:As}{t u:GT}{K:Frame→Heap→Prop}(h:B5 P e x (LT P false t K) F H)(k:LT P true u K F H):LT P b (.alt e x t u) K F H:=⟨h,k⟩
theorem Mu {t:GT}{y:ACode}{Q:Exit→Frame→Heap→Prop}(F1:Frame)(H1:Heap)(hE:LT P false t (fun F' H' => Ref n0 F' H' F1 H1) F H)(hy:W P M N n0 y Q F1 H1):V P M N n0 (.alts t) (El (W P M N n0 y Q) Q) F H:=
 K7 (G1 (fun F' H' h=>D0 h hy) t false F H hE)
theorem Sy {t:GT}{y:ACode}{id:Nat}{Q Q' : Exit→Frame→Heap→Prop}(F1:Frame)(H1:Heap)(hE:LT P false t (fun F' H' => Ref n0 F' H' F1 H1) F H)(hy:W P M N n0 y Q F1 H1):V P M N n0 (.alts t) (G4 id (El (W P M N n0 y Q) Q')) F H:=
 K7 (G1 (fun F' H' h=>D0 h hy) t false F H hE)
attribute [go_sem] Iy Jd Co Ii O7 Cx
theorem Pu {P:Program}{F:Frame}{H:Heap}{b:Bool}{x:As}{t:GT}{K:Frame→Heap→Prop}(h:B5 P true x (LT P false t K) F H)(hz:Hr (Jj x.op F):=by simp only [zS,zT,zW,go_sem,↓reduceIte,Nat.reduceEqDiff,Nat.reduceAdd,reduceCtorEq]):LT P b (.regz x t) K F H:=bU hz h
end
section
def B0:Nat→List (Value×AV)→List AV
 | _,[]=>[]
 | n,p :: l=>.ent n p.1 p.2 :: B0 (n+1) l
def Ci (l:List (Value×AV)):List AV:=i64 l.length :: B0 0 l
theorem Vz:∀ (n:Nat) (l r:List (Value×AV)),B0 n (l++r)=B0 n l++B0 (n+l.length) r
 | n,[],r=>by simp [B0]
 | n,p :: l,r=>by simp [B0,Vz (n+1) l r,Nat.add_assoc,Nat.add_comm 1]
theorem Qm:∀ (n i:Nat) (l:List (Value×AV)) (k:Value) (x:AV),(B0 n l).set i (.ent (n+i) k x)=B0 n (l.set i (k,x))
 | n,i,[],k,x=>by simp [B0]
 | n,0,p :: l,k,x=>by simp [B0]
 | n,i+1,p :: l,k,x=>by
  have:=Qm (n+1) i l k x
  rw [show n+1+i=n+(i+1) by omega] at this
  simp [B0,this]
theorem V0 (f:AV→AV):∀ (n:Nat) (l:List (Value×AV)) (g:AV→AV) (_:∀ b k x,f (.ent b k x) = .ent b k (g x)),(B0 n l).map f=B0 n (l.map fun p=>(p.1,g p.2))
 | _,[],_,_=>rfl
 | n,p :: l,g,h=>by simp [B0,h,V0 f (n+1) l g h]
def Io (k:Value):List (Value×AV)→Option (Nat×AV)
 | []=>none
 | p :: l=>if E3 k p.1 then some (0,p.2) else (Io k l).map fun q=>(q.1+1,q.2)
theorem N8 (k:Value):∀ (n:Nat) (l:List (Value×AV)),E5 k (B0 n l)=(Io k l).map fun q=>(q.1,n+q.1,q.2)
 | _,[]=>rfl
 | n,p :: l=>by
  simp only [B0,E5,Io]
  by_cases h:E3 k p.1=true
  ·simp [h]
  ·simp only [h,Bool.false_eq_true,if_false,N8 k (n+1) l,Option.map_map]
   congr 1
   funext q
   simp [Nat.add_assoc,Nat.add_comm 1]
/-! ### Integer keys, string keys -/
section
variable {α:Type}
def Ba {κ:Type}[BEq κ](n:κ):List (κ×α)→Option (Nat×α)
 | []=>none
 | p :: l=>if n == p.1 then some (0,p.2) else (Ba n l).map fun q=>(q.1+1,q.2)
def A7 {κ:Type}[BEq κ](n:κ)(l:List (κ×α)):Option α:=(Ba n l).map (·.2)
def Bg {κ:Type}[BEq κ](n:κ)(x:α)(l:List (κ×α)):List (κ×α):=match Ba n l with
 | some (i,_)=>l.set i (n,x)
 | none=>l++[(n,x)]
def Cw (f:α→AV)(l:List (Int×α)):List AV:=Ci (l.map fun p=>(.int .i64 p.1,f p.2))
def Ar (f:α→AV)(l:List (ByteArray×α)):List AV:=Ci (l.map fun p=>(.string p.1,f p.2))
theorem S4 (f:α→AV)(n:Int):∀ l:List (Int×α),Io (.int .i64 n) (l.map fun p=>(.int .i64 p.1,f p.2))=(Ba n l).map fun q=>(q.1,f q.2)
 | []=>rfl
 | p :: l=>by
  simp only [List.map_cons,Io,E3,Ba]
  by_cases h:(n == p.1)=true
  ·simp [h]
  ·simp only [h,Bool.false_eq_true,if_false,S4 f n l,Option.map_map]
   rfl
theorem Py (f:α→AV)(n:ByteArray):∀ l:List (ByteArray×α),Io (.string n) (l.map fun p=>(.string p.1,f p.2))=(Ba n l).map fun q=>(q.1,f q.2)
 | []=>rfl
 | p :: l=>by
  simp only [List.map_cons,Io,E3,Ba]
  by_cases h:(n == p.1)=true
  ·simp [h]
  ·simp only [h,Bool.false_eq_true,if_false,Py f n l,Option.map_map]
   rfl
theorem nC (f:α→AV)(l:List (ByteArray×α)):Kf (Ar f l)=some (l.length:Int):=by simp [Ar,Ci,Kf]
theorem K9 {p:AV→Bool}:∀ (n:Nat) (l:List (Value×AV)),(∀ q∈l,∀ b,p (.ent b q.1 q.2)=true)→(B0 n l).all p=true
 | _,[],_=>rfl
 | n,q :: l,h=>by
  simp only [B0,List.all_cons,Bool.and_eq_true]
  exact ⟨h q (by simp) n,K9 (n+1) l fun q hq=>h q (by simp [hq])⟩
theorem kC (f:α→AV)(l:List (Int×α)):He (some .i64) (Cw f l)=true:=by
 simp only [He,Cw,Ci,List.drop_succ_cons,List.drop_zero]
 refine K9 0 _ fun q hq b=>?_
 obtain ⟨p,_,rfl⟩:=List.mem_map.1 hq
 rfl
theorem kD (f:α→AV)(l:List (ByteArray×α)):He none (Ar f l)=true:=by
 simp only [He,Ar,Ci,List.drop_succ_cons,List.drop_zero]
 refine K9 0 _ fun q hq b=>?_
 obtain ⟨p,_,rfl⟩:=List.mem_map.1 hq
 rfl
theorem gW (f:α→AV)(l:List (Int×α)):Nh (Cw f l)=true:=by
 simp only [Nh,Cw,Ci,List.drop_succ_cons,List.drop_zero]
 exact K9 0 _ fun q hq b=>rfl
theorem gY (f:α→AV)(l:List (ByteArray×α)):Nh (Ar f l)=true:=by
 simp only [Nh,Ar,Ci,List.drop_succ_cons,List.drop_zero]
 exact K9 0 _ fun q hq b=>rfl
theorem kB (s:ByteArray):Ee none (.string s)=true:=rfl
theorem nF (f:α→AV)(l:List (Int×α))(n:Int):Gb (.int .i64 n) (Cw f l)=(A7 n l).map f:=by
 simp only [Gb,Cw,Ci,List.drop_succ_cons,List.drop_zero,N8,S4,A7,Option.map_map];rfl
theorem nG (f:α→AV)(l:List (ByteArray×α))(n:ByteArray):Gb (.string n) (Ar f l)=(A7 n l).map f:=by
 simp only [Gb,Ar,Ci,List.drop_succ_cons,List.drop_zero,N8,Py,A7,Option.map_map];rfl
theorem Ye (f:α→AV)(l:List (ByteArray×α))(n:ByteArray):E5 (.string n) ((Ar f l).drop 1)=(Ba n l).map fun q=>(q.1,q.1,f q.2):=by
 simp only [Ar,Ci,List.drop_succ_cons,List.drop_zero,N8,Py,Option.map_map]
 congr 1;funext q;simp
theorem mG (k:Value)(x:AV)(l:List (Value×AV)):Eg k x (Ci l)=Ci (l++[(k,x)]):=by
 simp only [Eg,Ci,Vz,B0,List.length_append,List.length_cons,List.length_nil,Nat.zero_add,Int.toNat_natCast]
 congr 1
theorem X7 (f:α→AV)(l:List (ByteArray×α))(n:ByteArray)(x:α):Eg (.string n) (f x) (Ar f l)=Ar f (l++[(n,x)]):=by simp [Ar,mG]
theorem Oe (f:α→AV)(l:List (ByteArray×α))(n:ByteArray)(x:α):I5 (.string n) (f x) (Ar f l)=Ar f (Bg n x l):=by
 unfold I5 Bg
 rw [Ye]
 cases h:Ba n l with
 | none=>exact X7 f l n x
 | some q=>
  obtain ⟨i,y⟩:=q
  simp only [Option.map_some,Ar,Ci,List.set_cons_succ,List.length_map,List.length_set,List.map_set]
  congr 1
  have:=Qm 0 i (l.map fun p=>(Value.string p.1,f p.2)) (.string n) (f x)
  rwa [Nat.zero_add] at this
theorem R7 (f:α→AV)(l:List (ByteArray×α))(i:Nat)(n:ByteArray)(x:α):(Ar f l).set (i+1) (.ent i (.string n) (f x))=Ar f (l.set i (n,x)):=by
 simp only [Ar,Ci,List.set_cons_succ,List.length_map,List.length_set,List.map_set]
 congr 1
 have:=Qm 0 i (l.map fun p=>(Value.string p.1,f p.2)) (.string n) (f x)
 rwa [Nat.zero_add] at this
theorem H9 {h:AV→AV}{g:AV→AV}(hi:∀ n:Int,h (i64 n)=i64 n)(he:∀ b k x,h (.ent b k x) = .ent b k (g x))(l:List (Value×AV)):(Ci l).map h=Ci (l.map fun p=>(p.1,g p.2)):=by
 simp only [Ci,List.map_cons,hi,V0 h 0 l g he,List.length_map]
theorem iM (H:Heap)(d:Nat)(f:α→AV)(l:List (Int×α)):(Cw f l).map (Ai H (d+1))=Cw (fun x=>Ai H d (f x)) l:=by
 unfold Cw
 rw [H9 (g:=Ai H d) (fun _=>rfl) (fun _ _ _=>rfl),List.map_map];rfl
theorem iQ (H:Heap)(d:Nat)(f:α→AV)(l:List (ByteArray×α)):(Ar f l).map (Ai H (d+1))=Ar (fun x=>Ai H d (f x)) l:=by
 unfold Ar
 rw [H9 (g:=Ai H d) (fun _=>rfl) (fun _ _ _=>rfl),List.map_map];rfl
theorem wB (n d:Nat)(f:α→AV)(l:List (Int×α)):(Cw f l).map (Az n (d+1))=Cw (fun x=>Az n d (f x)) l:=by
 unfold Cw
 rw [H9 (g:=Az n d) (fun _=>rfl) (fun _ _ _=>rfl),List.map_map];rfl
theorem wE (n d:Nat)(f:α→AV)(l:List (ByteArray×α)):(Ar f l).map (Az n (d+1))=Ar (fun x=>Az n d (f x)) l:=by
 unfold Ar
 rw [H9 (g:=Az n d) (fun _=>rfl) (fun _ _ _=>rfl),List.map_map];rfl
theorem wF (σ:Nat→Nat)(d:Nat)(f:α→AV)(l:List (Int×α)):(Cw f l).map (shr σ (d+1))=Cw (fun x=>shr σ d (f x)) l:=by
 unfold Cw
 rw [H9 (g:=shr σ d) (fun _=>rfl) (fun _ _ _=>rfl),List.map_map];rfl
theorem wG (σ:Nat→Nat)(d:Nat)(f:α→AV)(l:List (ByteArray×α)):(Ar f l).map (shr σ (d+1))=Ar (fun x=>shr σ d (f x)) l:=by
 unfold Ar
 rw [H9 (g:=shr σ d) (fun _=>rfl) (fun _ _ _=>rfl),List.map_map];rfl
theorem vK (τ:Nat→Option Nat)(f:α→AV)(l:List (Int×α)):Av τ (Cw f l)=Cw (fun x=>Al τ (f x)) l:=by
 unfold Cw
 rw [A8,H9 (g:=Al τ) (fun _=>by simp [Al]) (fun _ _ _=>by simp [Al]),List.map_map];rfl
theorem R5 (τ:Nat→Option Nat)(f:α→AV)(l:List (ByteArray×α)):Av τ (Ar f l)=Ar (fun x=>Al τ (f x)) l:=by
 unfold Ar
 rw [A8,H9 (g:=Al τ) (fun _=>by simp [Al]) (fun _ _ _=>by simp [Al]),List.map_map];rfl
/-! ### What is found -/
theorem Lu {κ:Type}[BEq κ][LawfulBEq κ]{n:κ}:∀ {l:List (κ×α)} {i:Nat} {x:α},Ba n l=some (i,x)→l[i]? = some (n,x)
 | [],i,x,h=>by cases h
 | p :: l,i,x,h=>by
  simp only [Ba] at h
  by_cases e:(n == p.1)=true
  ·rw [if_pos e] at h
   simp only [Option.some.injEq,Prod.mk.injEq] at h
   obtain ⟨rfl,rfl⟩:=h
   simp [eq_of_beq e]
  ·rw [if_neg e,Option.map_eq_some_iff] at h
   obtain ⟨⟨j,y⟩,h1,h2⟩:=h
   simp only [Prod.mk.injEq] at h2
   obtain ⟨rfl,rfl⟩:=h2
   simpa using Lu h1
theorem ifind_none {κ:Type}[BEq κ][LawfulBEq κ]{n:κ}:∀ {l:List (κ×α)},Ba n l=none ↔ n∉l.map (·.1)
 | []=>by simp [Ba]
 | p :: l=>by
  simp only [Ba,List.map_cons,List.mem_cons,not_or]
  by_cases e:(n == p.1)=true
  ·simp [e,eq_of_beq e]
  ·rw [if_neg e]
   simp only [Option.map_eq_none_iff,ifind_none (l:=l)]
   constructor
   ·exact fun h=>⟨fun e' => e (by simp [e']),h⟩
   ·exact fun h=>h.2
theorem J8 {κ:Type}[BEq κ][LawfulBEq κ]{n:κ}{l:List (κ×α)}{x:α}(h:A7 n l=some x):(n,x)∈l:=by
 unfold A7 at h
 rw [Option.map_eq_some_iff] at h
 obtain ⟨⟨i,y⟩,h1,rfl⟩:=h
 exact List.mem_of_getElem? (Lu h1)
theorem Ww {κ:Type}[BEq κ][LawfulBEq κ]{m:κ}:∀ {l r:List (κ×α)},A7 m (l++r)=(A7 m l).or (A7 m r)
 | [],r=>by simp [A7,Ba]
 | p :: l,r=>by
  have ih:=Ww (m:=m) (l:=l) (r:=r)
  simp only [A7,List.cons_append,Ba] at *
  by_cases e:(m == p.1)=true
  ·simp [e]
  ·simp only [if_neg e,Option.map_map]
   exact ih
theorem Wx {κ:Type}[BEq κ][LawfulBEq κ]{n m:κ}{x:α}:∀ {l:List (κ×α)} {i:Nat} {y:α},Ba n l=some (i,y)→A7 m (l.set i (n,x))=if m == n then some x else A7 m l
 | [],i,y,h=>by cases h
 | p :: l,i,y,h=>by
  simp only [Ba] at h
  by_cases e:(n == p.1)=true
  ·rw [if_pos e] at h
   simp only [Option.some.injEq,Prod.mk.injEq] at h
   obtain ⟨rfl,rfl⟩:=h
   have e' := eq_of_beq e
   simp only [List.set_cons_zero,A7,Ba,← e']
   by_cases hm:(m == n)=true
   ·simp [hm]
   ·simp [hm]
  ·rw [if_neg e,Option.map_eq_some_iff] at h
   obtain ⟨⟨j,z⟩,h1,h2⟩:=h
   simp only [Prod.mk.injEq] at h2
   obtain ⟨rfl,rfl⟩:=h2
   have ih:=Wx (m:=m) (x:=x) h1
   simp only [List.set_cons_succ,A7,Ba] at *
   by_cases hm:(m == p.1)=true
   ·have:¬ (m == n)=true:=fun h=>e (by rw [← eq_of_beq hm,eq_of_beq h];simp)
    simp [hm,this]
   ·simp only [if_neg hm,Option.map_map]
    exact ih
theorem Nw {κ:Type}[BEq κ][LawfulBEq κ](n m:κ)(x:α)(l:List (κ×α)):A7 m (Bg n x l)=if m == n then some x else A7 m l:=by
 unfold Bg
 cases h:Ba n l with
 | none=>
  rw [Ww]
  by_cases hm:(m == n)=true
  ·have e:=eq_of_beq hm
   subst e
   have:A7 m l=none:=by simp [A7,h]
   rw [this]
   simp [A7,Ba]
  ·simp [hm,A7,Ba]
 | some q=>obtain ⟨i,y⟩:=q;exact Wx h
end
instance:LawfulBEq ByteArray where
 eq_of_beq h:=(Go.MapKept.bytes_beq _ _).1 h
 rfl:=(Go.MapKept.bytes_beq _ _).2 rfl
theorem zV (a b:Value):zU [a,b] 1=[.val a,.val b]:=rfl
attribute [go_sem] zV Nat.zero_mul Nat.one_mul
theorem qV (k:IntKind)(n:Int):(Value.int k n).oneCell' = true:=rfl
theorem qX (a:Option Addr)(n c:Nat):(Value.slice a n c).oneCell' = true:=rfl
theorem qS (b:Bool):(Value.bool b).oneCell' = true:=rfl
attribute [go_sem] Mz Hv Option.getD_some qV qX qS Nat.reduceLeDiff
attribute [go_sem] Ga nC kC kD gW gY kB
attribute [go_sem] nF nG Ye X7 Oe
attribute [go_sem] iM iQ wB wE wF wG vK R5
end
section
variable {P:Program} {N:Nat} {g:Gh} {F:Frame} {H:Heap} {a:Act} {w:World} {M:List Nat} {n0:Nat}
theorem Ref.core {H' : Heap}(h:∀ (g:Gh) (w:World),HeapR g H w→∃ g', HeapR g' H' w∧(∀ b,g'.owns H' b→g.owns H b)∧g'.G=g.G∧∀ x d,g.tr H x=some d→g'.tr H' x=some d∨g'.tr H' x=some none):Ref n0 F H F H' := fun N g a w hR=>by
 obtain ⟨g', hp', h1,h2,h3⟩:=h g w hR.hp
 have lift:∀ x v bs,Rd w (g.tr H) g.G x v bs→Rd w (g'.tr H') g'.G x v bs:=fun x v bs h=>h.mono (fun b hb=>h2 ▸ hb) (fun _ _=>rfl) h3 (fun _ _=>rfl)
 exact ⟨g', ⟨fun i=>lift _ _ _ (hR.fr i),hp', hR.size,hR.defers⟩,hp', ⟨rfl,⟨rfl,Nat.le_refl _⟩,rfl,Nat.le_refl _,fun _ _ _=>rfl,fun b hb=>.inl (h1 b hb),fun b hb=>h2 ▸ hb,fun b hb=>.inl (h2 ▸ hb),fun _ _=>rfl⟩,fun x d _ hd=>h3 x d hd⟩
theorem Ref.kill (o:Nat):Ref n0 F H F (H.set o none):=Ref.core fun g w hp=>
 ⟨g,Ly hp o,fun b ⟨o', cs,h1,h2⟩=>⟨o', cs,(Cs h1).2,h2⟩,rfl,fun x d hd=>Ky g H o x d hd⟩
theorem Ref.nilC (o j k:Nat){cs:List AV}(ho:H[o]? = some (some cs))(hj:cs[j]? = some Ag):Ref n0 F H F (H.set o (some (cs.set j (.sl H.length k 0 0)))++[some []]):=Ref.core fun g w hp=>by
 obtain ⟨hjl,hje⟩:=List.getElem?_eq_some_iff.1 hj
 have hol:o<H.length:=(List.getElem?_eq_some_iff.1 ho).1
 let H' : Heap:=H.set o (some (cs.set j (.sl H.length k 0 0)))++[some []]
 let g' : Gh:=⟨fun x=>if x=H.length then none else g.ρ x,fun x=>if x=H.length then [] else g.ob x,g.G⟩
 have htr:∀ x d,g.tr H x=some d→g'.tr H' x=some d:=fun x d hd=>by
  have hxl:=Cq hd
  unfold Gh.tr at *
  rw [List.getElem?_append_left (by simpa using hxl)]
  simp only [g', if_neg (Nat.ne_of_lt hxl)]
  by_cases e:o=x
  ·subst e
   rw [List.getElem?_set_self hol]
   rw [ho] at hd
   simpa using hd
  ·rw [List.getElem?_set_ne e];exact hd
 have lift:∀ x v bs,Rd w (g.tr H) g.G x v bs→Rd w (g'.tr H') g'.G x v bs:=fun x v bs h=>h.mono (fun _ h=>h) (fun _ _=>rfl) (fun x d h=>.inl (htr x d h)) (fun _ _=>rfl)
 have hnew:g'.tr H' H.length=some (some (none,0)):=by
  have e1:H'[H.length]? = some (some []):=by simp [H']
  rw [Gh.tr_some e1]
  simp [g']
 refine ⟨g', ⟨?_,?_,?_,?_,hp.low⟩,fun b ⟨x,c,hx,hb⟩=>?_,rfl,fun x d hd=>.inl (htr x d hd)⟩
 ·intro x c hx
  rcases Dd hx hol with ⟨rfl,rfl⟩ | ⟨rfl,h3,rfl⟩ | ⟨h3,h4,h5⟩
  ·simp only [g', if_true]
   exact ObjR.nil
  ·simp only [g', if_neg (Nat.ne_of_lt h3)]
   have h1:=hp.obj x cs ho
   cases hl:g.ρ x with
   | none=>
    rw [hl] at h1
    have h3:=h1.1.gh _ (List.getElem_mem hjl)
    rw [hje] at h3
    cases h3
   | some l=>
    obtain ⟨b,base,sz⟩:=l
    rw [hl] at h1
    obtain ⟨u,bss,hblk,hr,hob⟩:=h1
    refine ⟨u,bss,by simpa using hblk,fun m hm=>?_,by simpa using hob⟩
    simp only [List.length_set] at hm
    by_cases e:m=j
    ·subst e
     have h2:=hr m hjl
     rw [hje] at h2
     obtain ⟨h3,h4⟩:=h2.val_inv
     simp only [List.getElem_set_self]
     rw [h3,h4]
     refine .sl (by rw [hnew];rfl) rfl fun l hl=>?_
     rw [hnew] at hl
     obtain rfl:=Option.some.inj (Option.some.inj hl)
     exact ⟨by dsimp only;omega,rfl,none,rfl⟩
    ·rw [List.getElem_set_ne (Ne.symm e)]
     exact lift _ _ _ (hr m hm)
  ·simp only [g', if_neg (Nat.ne_of_lt h4)]
   exact (hp.obj x c h5).mono (fun _ h=>h) (fun _ _=>rfl) (fun x d h=>.inl (htr x d h)) (fun _ _=>rfl)
 ·intro x c hx
  rcases Dd hx hol with ⟨rfl,rfl⟩ | ⟨rfl,h3,rfl⟩ | ⟨h3,h4,h5⟩
  ·simp [g']
  ·simp only [g', if_neg (Nat.ne_of_lt h3)];exact hp.nodup x cs ho
  ·simp only [g', if_neg (Nat.ne_of_lt h4)];exact hp.nodup x c h5
 ·intro x y c d hx hy hxy b' hb1 hb2
  have hx' : x=H.length∨∃ c', x<H.length∧H[x]? = some (some c'):=by
   rcases Dd hx hol with ⟨h,_⟩ | ⟨rfl,h3,_⟩ | ⟨_,h4,h5⟩
   ·exact .inl h
   ·exact .inr ⟨cs,h3,ho⟩
   ·exact .inr ⟨c,h4,h5⟩
  have hy' : y=H.length∨∃ c', y<H.length∧H[y]? = some (some c'):=by
   rcases Dd hy hol with ⟨h,_⟩ | ⟨rfl,h3,_⟩ | ⟨_,h4,h5⟩
   ·exact .inl h
   ·exact .inr ⟨cs,h3,ho⟩
   ·exact .inr ⟨d,h4,h5⟩
  rcases hx' with rfl | ⟨c', h1,h2⟩
  ·simp [g'] at hb1
  ·rcases hy' with rfl | ⟨d', h3,h4⟩
   ·simp [g'] at hb2
   ·simp only [g', if_neg (Nat.ne_of_lt h1)] at hb1
    simp only [g', if_neg (Nat.ne_of_lt h3)] at hb2
    exact hp.apart x y c' d' h2 h4 hxy b' hb1 hb2
 ·intro x c hx b' hb1
  rcases Dd hx hol with ⟨rfl,rfl⟩ | ⟨rfl,h3,rfl⟩ | ⟨h3,h4,h5⟩
  ·simp [g'] at hb1
  ·simp only [g', if_neg (Nat.ne_of_lt h3)] at hb1;exact hp.free x cs ho b' hb1
  ·simp only [g', if_neg (Nat.ne_of_lt h4)] at hb1;exact hp.free x c h5 b' hb1
 ·rcases Dd hx hol with ⟨rfl,rfl⟩ | ⟨rfl,h3,rfl⟩ | ⟨h3,h4,h5⟩
  ·simp [g'] at hb
  ·simp only [g', if_neg (Nat.ne_of_lt h3)] at hb;exact ⟨x,cs,ho,hb⟩
  ·simp only [g', if_neg (Nat.ne_of_lt h4)] at hb;exact ⟨x,c,h5,hb⟩
theorem wI (hp : HeapR g H w) {o2 k n : Nat} {cs2 : List AV} {v : Value} {y : List Nat} (h2 : H[o2]? = some (some cs2)) (hlen : cs2.length = n * k) (h : Rd w (g.tr H) g.G (.sl o2 k 0 n) v y) :
    y=[]∧∃ bs', bs'.Sublist (g.ob o2)∧Rd w (g.tr H) g.G (.osl k n cs2) v bs' := by
 cases h with
 | sl h0 hv h=>
  refine ⟨rfl,?_⟩
  obtain ⟨_,hS⟩:=h _ (Gh.tr_some (g:=g) h2)
  have h3:=hp.obj o2 cs2 h2
  dsimp only at hS
  cases hl2:g.ρ o2 with
  | none=>
   rw [hl2] at hS h3
   obtain ⟨rfl,a0,rfl⟩:=hS
   obtain rfl:cs2=[]:=List.eq_nil_of_length_eq_zero (by simpa using hlen)
   exact ⟨[],List.nil_sublist _,.osl0⟩
  | some l2=>
   obtain ⟨b2,base2,sz2⟩:=l2
   rw [hl2] at hS h3
   obtain ⟨cap,hn,hm,hs,hv⟩:=hS
   obtain ⟨arr2,elem2,u2,bss2,hb2,hsz2,hbase2,hc2,hr2,hob2⟩:=h3.cells (by omega)
   subst hsz2
   rcases hv with rfl | ⟨rfl,a0,rfl⟩
   ·refine ⟨g.ob o2,List.Sublist.refl _,?_⟩
    rw [hob2]
    exact .osl (elem:=elem2) u2 bss2 hlen hn hm hb2 (by omega) hc2 hr2
   ·have:n=0:=by omega
    subst this
    have:cs2=[]:=List.eq_nil_of_length_eq_zero (by simpa using hlen)
    subst this
    exact ⟨[],List.nil_sublist _,.osl0⟩
theorem S3 (o : Nat) (ks : List Nat) {cs cs' : List AV} (ho : H[o]? = some (some cs)) (hln : cs'.length = cs.length) (hno : o ∉ ks) (hal : ∀ x ∈ ks, ∃ c, H[x]? = some (some c)) (hnd : ks.Nodup)
    (h:∀ (g:Gh) (w:World),HeapR g H w→∃ nb bsx,ObjR w (g.tr H) g.G cs' nb (g.ρ o)∧nb.Perm (bsx++g.ob o)∧bsx.Sublist (ks.flatMap g.ob)):Ref n0 F H F (Ch ks (H.set o (some cs'))):=Ref.core fun g w hp=>by
 obtain ⟨nb,bsx,hobj,hperm,hsub⟩:=h g w hp
 have hol:o<H.length:=(List.getElem?_eq_some_iff.1 ho).1
 let H1:Heap:=H.set o (some cs')
 let H' : Heap:=Ch ks H1
 let g' : Gh:=⟨g.ρ,fun x=>if x=o then nb else g.ob x,g.G⟩
 have hget:∀ x c,H'[x]? = some (some c)→x∉ks∧((x=o∧c=cs')∨(x≠o∧H[x]? = some (some c))):=fun x c hx=>by
  obtain ⟨h1,h2⟩:=F9 ks H1 x c hx
  exact ⟨h1,Ie h2⟩
 have hmem:∀ y,y∈nb→(∃ x c,x∈ks∧H[x]? = some (some c)∧y∈g.ob x)∨y∈g.ob o:=fun y hy=>by
  rcases List.mem_append.1 (hperm.mem_iff.1 hy) with h1 | h1
  ·obtain ⟨x,hx,hyx⟩:=List.mem_flatMap.1 (hsub.subset h1)
   obtain ⟨c,hc⟩:=hal x hx
   exact .inl ⟨x,c,hx,hc,hyx⟩
  ·exact .inr h1
 have htr:∀ x d,g.tr H x=some d→g'.tr H' x=some d∨g'.tr H' x=some none:=fun x d hd=>by
  have h1:g'.tr H1 x=some d:=by
   unfold Gh.tr at *
   by_cases e:o=x
   ·subst e
    simp only [H1,List.getElem?_set_self hol]
    rw [ho] at hd
    simpa [g', hln] using hd
   ·simp only [H1,List.getElem?_set_ne e];exact hd
  exact N2 ks x d h1
 have lift:∀ {cs bs l},ObjR w (g.tr H) g.G cs bs l→ObjR w (g'.tr H') g'.G cs bs l:=fun h=>h.mono (fun _ h=>h) (fun _ _=>rfl) htr (fun _ _=>rfl)
 have hnk:∀ (l:List Nat),l.Nodup→(∀ x∈l,∃ c,H[x]? = some (some c))→(l.flatMap g.ob).Nodup:=fun l=>by
  induction l with
  | nil=>intro _ _;simp
  | cons x l ih=>
   intro hn hx
   rw [List.flatMap_cons,List.nodup_append]
   obtain ⟨c,hc⟩:=hx x (by simp)
   refine ⟨hp.nodup x c hc,ih (List.nodup_cons.1 hn).2 (fun y hy=>hx y (by simp [hy])),fun y hy z hz e=>?_⟩
   obtain ⟨x2,hx2,hz2⟩:=List.mem_flatMap.1 hz
   obtain ⟨c2,hc2⟩:=hx x2 (by simp [hx2])
   exact hp.apart x x2 c c2 hc hc2 (fun e2=>(List.nodup_cons.1 hn).1 (e2 ▸ hx2)) y hy (e ▸ hz2)
 refine ⟨g', ⟨?_,?_,?_,?_,hp.low⟩,fun b ⟨x,c,hx,hb⟩=>?_,rfl,htr⟩
 ·intro x c hx
  obtain ⟨h3,⟨rfl,rfl⟩ | ⟨h4,h5⟩⟩:=hget x c hx
  ·show ObjR w _ _ _ (g'.ob x) (g.ρ x)
   have e2:g'.ob x=nb:=by simp [g']
   rw [e2];exact lift hobj
  ·have e2:g'.ob x=g.ob x:=by simp [g', h4]
   show ObjR w _ _ _ (g'.ob x) (g.ρ x)
   rw [e2];exact lift (hp.obj x c h5)
 ·intro x c hx
  obtain ⟨h3,⟨rfl,rfl⟩ | ⟨h4,h5⟩⟩:=hget x c hx
  ·have e2:g'.ob x=nb:=by simp [g']
   rw [e2,hperm.nodup_iff,List.nodup_append]
   refine ⟨hsub.nodup (hnk ks hnd hal),hp.nodup x cs ho,fun y hy z hz e=>?_⟩
   obtain ⟨x2,hx2,hy2⟩:=List.mem_flatMap.1 (hsub.subset hy)
   obtain ⟨c2,hc2⟩:=hal x2 hx2
   exact hp.apart x2 x c2 cs hc2 ho (fun e2=>hno (e2 ▸ hx2)) y hy2 (e ▸ hz)
  ·have e2:g'.ob x=g.ob x:=by simp [g', h4]
   rw [e2];exact hp.nodup x c h5
 ·intro x y c d hx hy hxy b' h1 h4
  obtain ⟨h5,⟨rfl,rfl⟩ | ⟨h6,h7⟩⟩:=hget x c hx<;>obtain ⟨k5,⟨rfl,rfl⟩ | ⟨k6,k7⟩⟩:=hget y d hy
  ·exact hxy rfl
  ·simp only [g', if_true] at h1
   simp only [g', if_neg k6] at h4
   rcases hmem b' h1 with ⟨x2,c2,hx2,hc2,h⟩ | h
   ·exact hp.apart x2 y c2 d hc2 k7 (fun e=>k5 (e ▸ hx2)) b' h h4
   ·exact hp.apart x y cs d ho k7 (Ne.symm k6) b' h h4
  ·simp only [g', if_neg h6] at h1
   simp only [g', if_true] at h4
   rcases hmem b' h4 with ⟨x2,c2,hx2,hc2,h⟩ | h
   ·exact hp.apart x x2 c c2 h7 hc2 (fun e=>h5 (e ▸ hx2)) b' h1 h
   ·exact hp.apart x y c cs h7 ho h6 b' h1 h
  ·simp only [g', if_neg h6] at h1
   simp only [g', if_neg k6] at h4
   exact hp.apart x y c d h7 k7 hxy b' h1 h4
 ·intro x c hx b' h1
  obtain ⟨h5,⟨rfl,rfl⟩ | ⟨h6,h7⟩⟩:=hget x c hx
  ·simp only [g', if_true] at h1
   rcases hmem b' h1 with ⟨x2,c2,hx2,hc2,h⟩ | h
   ·exact hp.free x2 c2 hc2 b' h
   ·exact hp.free x cs ho b' h
  ·simp only [g', if_neg h6] at h1
   exact hp.free x c h7 b' h1
 ·obtain ⟨h5,⟨rfl,rfl⟩ | ⟨h6,h7⟩⟩:=hget x c hx
  ·simp only [g', if_true] at hb
   rcases hmem b hb with ⟨x2,c2,hx2,hc2,h⟩ | h
   ·exact ⟨x2,c2,hc2,h⟩
   ·exact ⟨x,cs,ho,h⟩
  ·simp only [g', if_neg h6] at hb
   exact ⟨x,c,h7,hb⟩
theorem gU {tr : Nat → Option (Option A2)} {G : Nat → Prop} {cs : List AV} {i b : Nat} {kv : Value} {x x' : AV} {Pr : List Nat → Prop} {ob : List Nat} {r base sz : Nat} (hi : cs[i]? = some (.ent b kv x)) (h1 : ObjR w tr G [.mpc cs] ob (some (r, base, sz)))
    (hx:∀ v bs,Rd w tr G x v bs→bs=[]∧∃ nb0,Pr nb0∧Rd w tr G x' v nb0):∃ nb nb0,ObjR w tr G [.mpc (cs.set i (.ent b kv x'))] nb (some (r,base,sz))∧nb.Perm (nb0++ob)∧Pr nb0:=by
 obtain ⟨u,bss,hblk,hr,hob⟩:=h1
 obtain ⟨hil,hie⟩:=List.getElem?_eq_some_iff.1 hi
 have h0:=hr 0 (by simp)
 simp only [List.getElem_cons_zero] at h0
 have hob' : ob=r :: bss 0:=by rw [hob];simp [List.range_succ]
 generalize bss 0=bs0 at h0 hob'
 generalize hu:u 0=u0 at h0
 cases h0 with
 | mpc bss' hbs' hl' hr' =>
  rename_i vs
  have h2:=hr' i hil
  rw [hie] at h2
  generalize hbi:bss' i=bsi at h2
  generalize hvi:vs.getD i undef=vi at h2
  cases h2 with
  | ent h3=>
   obtain ⟨rfl,nb0,hPr,h4⟩:=hx _ _ h3
   let bss2:Nat→List Nat:=fun m=>if m=i then nb0 else bss' m
   have hp2:((List.range cs.length).flatMap bss2).Perm (nb0++(List.range cs.length).flatMap bss'):=Lq hil hbi nb0
   refine ⟨r :: (List.range cs.length).flatMap bss2,nb0,⟨u,fun _=>(List.range cs.length).flatMap bss2,hblk,fun m hm=>?_,by simp [List.range_succ]⟩,?_,hPr⟩
   ·simp only [List.length_cons,List.length_nil,Nat.zero_add] at hm
    obtain rfl:m=0:=by omega
    simp only [List.getElem_cons_zero]
    rw [hu]
    refine .mpc bss2 (by rw [List.length_set]) (by rw [List.length_set];exact hl') fun m hm=>?_
    simp only [List.length_set] at hm
    by_cases e:m=i
    ·subst e
     simp only [List.getElem_set_self,bss2,if_true]
     rw [hvi]
     exact .ent h4
    ·rw [List.getElem_set_ne (Ne.symm e)]
     simp only [bss2,if_neg e]
     exact hr' m hm
   ·rw [hob', hbs']
    exact (hp2.cons r).trans List.perm_middle.symm
theorem Ref.closeE (o i o2 : Nat) {cs cs2 : List AV} {b k n : Nat} {kv : Value} (ho : H[o]? = some (some [.mpc cs])) (hi : cs[i]? = some (.ent b kv (.sl o2 k 0 n))) (h2 : H[o2]? = some (some cs2)) (hne : o ≠ o2) (hlen : cs2.length = n * k) :
    Ref n0 F H F (Ch [o2] (H.set o (some [.mpc (cs.set i (.ent b kv (.osl k n cs2)))]))):=S3 o [o2] ho rfl (by simp [hne]) (by simpa using ⟨cs2,h2⟩) (by simp) fun g w hp=>by
 have h1:=hp.obj o _ ho
 cases hl:g.ρ o with
 | none=>rw [hl] at h1;exact absurd (h1.1.gh _ (List.mem_singleton.2 rfl)) (by simp [Gr])
 | some l=>
  obtain ⟨r,base,sz⟩:=l
  rw [hl] at h1
  obtain ⟨nb,nb0,h3,h4,h5⟩:=gU (Pr:=fun l=>l.Sublist (g.ob o2)) (x' := .osl k n cs2) hi h1 fun v bs h=>wI hp h2 hlen h
  exact ⟨nb,nb0,h3,h4,by simpa using h5⟩
end
section
variable {P:Program} {N:Nat} {g:Gh} {F:Frame} {H:Heap} {a:Act} {w:World} {M:List Nat} {n0:Nat}
def F6 (P:Program)(f:FuncId)(args:List AV)(H0:Heap){α:Type}(Q:α→Prop)(x:α→AV)(H1:α→Heap):Prop:=CallsX P false f args H0 fun av H' => ∃ o,Q o∧av=x o∧H' = H1 o
def Gc (k n:Nat)(o:Nat):Option Nat:=some (if o=k then n else o)
def D2 (k:Nat)(H:Heap):Heap:=((H.map (Option.map (Av (Gc k H.length)))).set k none)++[(H.getD k none).map (Av (Gc k H.length))]
def L5 (k n:Nat)(F:Frame):Frame:=F.map fun p=>(p.1,Al (Gc k n) p.2)
theorem Yj (k n:Nat):∀ (F:Frame) (j:Nat),Ac (L5 k n F) j=Al (Gc k n) (Ac F j)∨Ac (L5 k n F) j = .any
 | [],_=>.inr rfl
 | (i,x) :: l,j=>by
  simp only [L5,List.map_cons,C1]
  by_cases e:i=j
  ·rw [if_pos e,if_pos e];exact .inl rfl
  ·rw [if_neg e,if_neg e];exact Yj k n l j
theorem Ref.mv (k:Nat){cs:List AV}(hk:H[k]? = some (some cs)){F' : Frame}{H' : Heap}(hH:D2 k H=H')(hF:sub (L5 k H.length F) F'):Ref n0 F H F' H' := fun N g a w hR=>by
 subst hH
 have hp:=hR.hp
 have hkl:k<H.length:=(List.getElem?_eq_some_iff.1 hk).1
 let n:=H.length
 let g' : Gh:=⟨fun x=>if x=n then g.ρ k else g.ρ x,fun x=>if x=n then g.ob k else g.ob x,g.G⟩
 have hgd:H.getD k none=some cs:=by simp [hk]
 have hat:∀ x,x<n→x≠k→(D2 k H)[x]? = (H[x]?).map (Option.map (Av (Gc k n))):=fun x hx hne=>by
  unfold D2
  rw [List.getElem?_append_left (by simpa using hx),List.getElem?_set_ne (Ne.symm hne),List.getElem?_map]
 have hatk:(D2 k H)[k]? = some none:=by
  unfold D2
  rw [List.getElem?_append_left (by simpa using hkl),List.getElem?_set_self (by simpa using hkl)]
 have hatn:(D2 k H)[n]? = some (some (Av (Gc k n) cs)):=by
  unfold D2
  rw [List.getElem?_append_right (by simp [n]),hgd]
  simp [n]
 have htrn:g'.tr (D2 k H) n=some (some (g.ρ k,cs.length)):=by
  rw [Gh.tr_some hatn];simp [g', A8]
 have htr:∀ x d,x≠k→g.tr H x=some d→g'.tr (D2 k H) x=some d:=fun x d hne hd=>by
  have hxl:=Cq hd
  unfold Gh.tr at *
  rw [hat x hxl hne]
  simp only [g', if_neg (Nat.ne_of_lt hxl)]
  rw [List.getElem?_eq_getElem hxl] at hd ⊢
  cases hh:H[x] with
  | none=>rw [hh] at hd;simpa using hd
  | some c=>
   rw [hh] at hd
   have hxn:¬ x=n:=Nat.ne_of_lt hxl
   simpa [A8,g', hxn] using hd
 have hτ:∀ o o' d,Gc k n o=some o' → g.tr H o=some d→g'.tr (D2 k H) o' = some d∨g'.tr (D2 k H) o' = some none:=fun o o' d ho hd=>by
  left
  unfold Gc at ho
  obtain rfl:=Option.some.inj ho
  by_cases e:o=k
  ·rw [if_pos e,htrn]
   subst e
   rw [Gh.tr_some hk] at hd
   exact hd
  ·rw [if_neg e];exact htr o d e hd
 have hal:∀ x c,(D2 k H)[x]? = some (some c)→(x=n∧c=Av (Gc k n) cs)∨(x≠k∧x<n∧∃ c0,H[x]? = some (some c0)∧c=Av (Gc k n) c0):=fun x c hx=>by
  rcases Nat.lt_trichotomy x n with h | h | h
  ·by_cases e:x=k
   ·subst e;rw [hatk] at hx;cases hx
   ·rw [hat x h e,Option.map_eq_some_iff] at hx
    obtain ⟨y,hy,he⟩:=hx
    rw [Option.map_eq_some_iff] at he
    obtain ⟨c0,rfl,rfl⟩:=he
    exact .inr ⟨e,h,c0,hy,rfl⟩
  ·subst h
   rw [hatn] at hx
   exact .inl ⟨rfl,(Option.some.inj (Option.some.inj hx)).symm⟩
  ·rw [List.getElem?_eq_none (by simp [D2];omega)] at hx;cases hx
 have hp' : HeapR g' (D2 k H) w:=by
  refine ⟨?_,?_,?_,?_,hp.low⟩
  ·intro x c hx
   rcases hal x c hx with ⟨rfl,rfl⟩ | ⟨h1,h2,c0,h3,rfl⟩
   ·simp only [g', if_true]
    rw [A8]
    exact (hp.obj k cs hk).tell (Al _) (fun _ _=>rfl) (fun x _ v bs' _ hr=>E9 hτ hr) (fun hn _=>⟨H6 (hn ▸ hp.obj k cs hk).1,fun _ h=>h,fun _ _=>rfl⟩)
   ·simp only [g', if_neg (Nat.ne_of_lt h2)]
    rw [A8]
    exact (hp.obj x c0 h3).tell (Al _) (fun _ _=>rfl) (fun x _ v bs' _ hr=>E9 hτ hr) (fun hn _=>⟨H6 (hn ▸ hp.obj x c0 h3).1,fun _ h=>h,fun _ _=>rfl⟩)
  ·intro x c hx
   rcases hal x c hx with ⟨rfl,rfl⟩ | ⟨h1,h2,c0,h3,rfl⟩
   ·simp only [g', if_true];exact hp.nodup k cs hk
   ·simp only [g', if_neg (Nat.ne_of_lt h2)];exact hp.nodup x c0 h3
  ·intro x y c d hx hy hxy b' hb1 hb2
   rcases hal x c hx with ⟨rfl,rfl⟩ | ⟨h1,h2,c0,h3,rfl⟩<;>rcases hal y d hy with ⟨rfl,rfl⟩ | ⟨k1,k2,d0,k3,rfl⟩
   ·exact hxy rfl
   ·simp only [g', if_true] at hb1;simp only [g', if_neg (Nat.ne_of_lt k2)] at hb2
    exact hp.apart k y cs d0 hk k3 (Ne.symm k1) b' hb1 hb2
   ·simp only [g', if_true] at hb2;simp only [g', if_neg (Nat.ne_of_lt h2)] at hb1
    exact hp.apart x k c0 cs h3 hk h1 b' hb1 hb2
   ·simp only [g', if_neg (Nat.ne_of_lt h2)] at hb1;simp only [g', if_neg (Nat.ne_of_lt k2)] at hb2
    exact hp.apart x y c0 d0 h3 k3 hxy b' hb1 hb2
  ·intro x c hx b' hb1
   rcases hal x c hx with ⟨rfl,rfl⟩ | ⟨h1,h2,c0,h3,rfl⟩
   ·simp only [g', if_true] at hb1;exact hp.free k cs hk b' hb1
   ·simp only [g', if_neg (Nat.ne_of_lt h2)] at hb1;exact hp.free x c0 h3 b' hb1
 refine ⟨g', ⟨fun j=>?_,hp', hR.size,hR.defers⟩,hp', ⟨rfl,⟨rfl,Nat.le_refl _⟩,rfl,Nat.le_refl _,fun _ _ _=>rfl,fun b' ⟨x,c,hx,hb1⟩=>.inl ?_,fun _ h=>h,fun _ h=>.inl h,fun _ _=>rfl⟩,fun x d _ hd=>?_⟩
 ·rcases Kx hF j with e | e
  ·rw [e];exact .any
  ·rw [e]
   rcases Yj k H.length F j with e2 | e2
   ·rw [e2];exact E9 hτ (hR.fr j)
   ·rw [e2];exact .any
 ·rcases hal x c hx with ⟨rfl,rfl⟩ | ⟨h1,h2,c0,h3,rfl⟩
  ·simp only [g', if_true] at hb1;exact ⟨k,cs,hk,hb1⟩
  ·simp only [g', if_neg (Nat.ne_of_lt h2)] at hb1;exact ⟨x,c0,h3,hb1⟩
 ·by_cases e:x=k
  ·subst e
   right
   have:=hatk
   unfold Gh.tr
   rw [this]
  ·exact .inl (htr x d e hd)
attribute [go_sem] D2 L5 Gc
end
section
variable {P:Program} {N:Nat} {g:Gh} {F:Frame} {H:Heap} {a:Act} {w:World} {M:List Nat} {n0:Nat}
theorem CallsX.refW {ext:Bool}{f:FuncId}{args:List AV}{H0:Heap}{K K' : AV→Heap→Prop}(h:CallsX P ext f args H0 K')(hk:∀ av H', K' av H' → ∃ av2 H2,Ref H0.length [(0,av)] H' [(0,av2)] H2∧K av2 H2):CallsX P ext f args H0 K:=
 fun g w vals hp hl hr=>(h g w vals hp hl hr).mono fun _ w' ⟨v,g', av,H', he,hm,hx,hex,hkk⟩=>by
  obtain ⟨av2,H2,h1,h2⟩:=hk av H' hkk
  have hR:R 1 g' [(0,av)] H' { tmps:=#[v],defers:=[] } w' := by
   refine ⟨fun j=>?_,hm.hp,rfl,rfl⟩
   simp only [C1]
   by_cases e:0=j
   ·rw [if_pos e];subst e;exact hx
   ·rw [if_neg e];exact .any
  obtain ⟨g2,hR2,hm2⟩:=h1 1 g' _ w' hR
  have hx2:=hR2.fr 0
  simp only [C1,if_true] at hx2
  have hmn:MvN H0.length g H0 w g2 H2 w' := (hm.toN).trans hm2
  exact ⟨v,g2,_,_,he,MvN.toMv hp hmn,hx2,hex,h2⟩
theorem G0 {f:FuncId}{ac:ACode}{rs:List AOp}{args:List AV}{H0:Heap}{x:AV}{H1:Heap}(hc:Aj P M f=some (N,ac,rs))(hl:decide (args.length≤N)=true)(h:V P M N H0.length ac (Db rs fun av H' => Ref H0.length [(0,av)] H' [(0,x)] H1) (Cb 0 args) H0):Er P f args H0 x H1:=
 CallsX.refW (G5 hc (of_decide_eq_true hl) (Cf h)) fun _ _ h=>⟨_,_,h,rfl,rfl⟩
theorem Ik {f : FuncId} {ac : ACode} {rs : List AOp} {args : List AV} {H0 : Heap} {α : Type} {Q : α → Prop} {x : α → AV} {H1 : α → Heap} (hc : Aj P M f = some (N, ac, rs)) (hl : decide (args.length ≤ N) = true)
    (h:V P M N H0.length ac (Db rs fun av H' => ∃ o,Q o∧Ref H0.length [(0,av)] H' [(0,x o)] (H1 o)) (Cb 0 args) H0):F6 P f args H0 Q x H1:=
 CallsX.refW (G5 hc (of_decide_eq_true hl) (Cf h)) fun _ _ ⟨o,h1,h2⟩=>⟨_,_,h2,o,h1,rfl,rfl⟩
theorem De {f:FuncId}{ac:ACode}{rs:List AOp}{args:List AV}{x:AV}{H1:Heap}(hc:Aj P M f=some (N,ac,rs))(hl:decide (args.length≤N)=true)(h:V P M N 0 ac (Db rs fun av H' => Ref 0 [(0,av)] H' [(0,x)] H1) (Cb 0 args) []):Ao P f args x H1:=
 CallsX.refW (CallsX.ext_nil (G5 (H:=[]) hc (of_decide_eq_true hl) (Cf h))) fun _ _ h=>⟨_,_,h,rfl,rfl⟩
theorem Fy {f : FuncId} {ac : ACode} {rs : List AOp} {args : List AV} {α : Type} {Q : α → Prop} {x : α → AV} {H1 : α → Heap} (hc : Aj P M f = some (N, ac, rs)) (hl : decide (args.length ≤ N) = true)
    (h:V P M N 0 ac (Db rs fun av H' => ∃ o,Q o∧Ref 0 [(0,av)] H' [(0,x o)] (H1 o)) (Cb 0 args) []):Cr P f args Q x H1:=
 CallsX.refW (CallsX.ext_nil (G5 (H:=[]) hc (of_decide_eq_true hl) (Cf h))) fun _ _ ⟨o,h1,h2⟩=>⟨_,_,h2,o,h1,rfl,rfl⟩
end
section
variable {P:Program} {N:Nat} {g:Gh} {F:Frame} {H:Heap} {a:Act} {w:World} {M:List Nat} {n0:Nat}
def Ek (g:Gh)(ks:List Nat)(H:Heap):Gh:=⟨fun o=>g.ρ (ks.getD o 0),fun o=>g.ob (ks.getD o 0),g.G⟩
theorem O5 {ks:List Nat}(hlt:∀ o∈ks,o<H.length){o' o:Nat}(ho:ks[o']? = some o):(Ek g ks H).tr (Aq ks H) o' = g.tr H o:=by
 have hl:o<H.length:=hlt o (List.mem_of_getElem? ho)
 have e1:(Aq ks H)[o']? = some (Gq ks (H.getD o none)):=by simp only [Aq,List.getElem?_map,ho,Option.map_some]
 have e2:H[o]? = some (H.getD o none):=by simp [hl]
 have e3:(Ek g ks H).ρ o' = g.ρ o:=by simp [Ek,List.getD,ho]
 unfold Gh.tr
 rw [e1,e2,e3]
 cases H.getD o none with
 | none=>rfl
 | some cs=>simp only [Gq,A8,List.length_map]
theorem Kt {ks:List Nat}(hlt:∀ o∈ks,o<H.length){o' : Nat}{c:List AV}(h:(Aq ks H)[o']? = some (some c)):∃ o cs,ks[o']? = some o∧H[o]? = some (some cs)∧c=Av (A3 ks 0) cs∧(Ek g ks H).ρ o' = g.ρ o∧(Ek g ks H).ob o' = g.ob o:=by
 simp only [Aq,List.getElem?_map,Option.map_eq_some_iff] at h
 obtain ⟨o,ho,he⟩:=h
 have hl:o<H.length:=hlt o (List.mem_of_getElem? ho)
 cases hc:H.getD o none with
 | none=>rw [hc] at he;cases he
 | some cs=>
  rw [hc] at he
  refine ⟨o,cs,ho,?_,(Option.some.inj he).symm,by simp [Ek,List.getD,ho],by simp [Ek,List.getD,ho]⟩
  have:H[o]? = some (H.getD o none):=by simp [hl]
  rw [this,hc]
theorem vY {ks:List Nat}(hp:HeapR g H w)(hnd:ks.Nodup)(hlt:∀ o∈ks,o<H.length):HeapR (Ek g ks H) (Aq ks H) w:=by
 have hτ:∀ o o' d,A3 ks 0 o=some o' → g.tr H o=some d→(Ek g ks H).tr (Aq ks H) o' = some d∨(Ek g ks H).tr (Aq ks H) o' = some none:=fun o o' d h hd=>by
  obtain ⟨m,rfl,hm⟩:=E0 ks 0 o o' h
  left;rw [Nat.zero_add,O5 hlt hm,hd]
 have hinj:∀ i j o,ks[i]? = some o→ks[j]? = some o→i=j:=fun i j o hi hj=>by
  obtain ⟨hi1,hi2⟩:=List.getElem?_eq_some_iff.1 hi
  obtain ⟨hj1,hj2⟩:=List.getElem?_eq_some_iff.1 hj
  exact (List.getElem_inj hnd).1 (hi2.trans hj2.symm)
 refine ⟨?_,?_,?_,?_,?_⟩
 ·intro o' c ho
  obtain ⟨o,cs,hk,hc,rfl,e1,e2⟩:=Kt (g:=g) hlt ho
  rw [e1,e2]
  have h1:=hp.obj o cs hc
  rw [A8]
  exact h1.tell (Al _) (fun _ _=>rfl) (fun x _ v bs' _ hr=>E9 hτ hr) (fun hn _=>⟨H6 (hn ▸ h1).1,fun _ h=>h,fun _ _=>rfl⟩)
 ·intro o' c ho
  obtain ⟨o,cs,hk,hc,rfl,e1,e2⟩:=Kt (g:=g) hlt ho
  rw [e2];exact hp.nodup o cs hc
 ·intro o' o2' c c2 ho ho2 hne b hb
  obtain ⟨o,cs,hk,hc,rfl,e1,e2⟩:=Kt (g:=g) hlt ho
  obtain ⟨o2,cs2,hk2,hc2,rfl,e12,e22⟩:=Kt (g:=g) hlt ho2
  rw [e2] at hb
  rw [e22]
  refine hp.apart o o2 cs cs2 hc hc2 (fun e=>hne ?_) b hb
  subst e;exact hinj _ _ _ hk hk2
 ·intro o' c ho b hb
  obtain ⟨o,cs,hk,hc,rfl,e1,e2⟩:=Kt (g:=g) hlt ho
  rw [e2] at hb
  exact hp.free o cs hc b hb
 ·exact fun b h=>hp.low b h
def Ho (ks:List Nat)(n:Nat)(o:Nat):Option Nat:=some (Ca ks n o)
def Ig (ks:List Nat)(n:Nat)(H:Heap):Heap:=H.map (Option.map (Av (Ho ks n)))
theorem CallsX.liftF {ext : Bool} {f : FuncId} {args args' : List AV} {H0 : Heap} {K : AV → Heap → Prop} (ks : List Nat) (h : CallsX P ext f args H0 K) (hnd : ks.Nodup) (hlt : ∀ o ∈ ks, o < H.length) (hH0 : Aq ks H = H0) (ha : args = args'.map (Al (A3 ks 0))) :
    CallsX P ext f args' H fun av H' => ∃ av0 H1,K av0 H1∧av=Al (Ho ks H.length) av0∧H' = Cn ks (Ig ks H.length H1) H:=by
 intro g w vals hp hl hr
 subst hH0
 refine (h (Ek g ks H) w vals (vY hp hnd hlt) (by rw [ha];simpa using hl) (fun m hm=>?_)).mono ?_
 ·subst ha
  simp only [List.getElem_map]
  exact E9 (fun o o' d h hd=>by
   obtain ⟨m,rfl,hm⟩:=E0 ks 0 o o' h
   left;rw [Nat.zero_add,O5 hlt hm,hd]) (hr m (by simpa using hm))
 ·rintro e w' ⟨v,g1,av,H1,he,hm,hx,hE,hk⟩
  have hsz:=hm.stp.size
  have hown0:∀ b,(Ek g ks H).owns (Aq ks H) b→∃ o cs,o∈ks∧H[o]? = some (some cs)∧b∈g.ob o:=fun b ⟨o', c,ho,hb⟩=>by
   obtain ⟨o,cs,hk,hc,rfl,e1,e2⟩:=Kt (g:=g) hlt ho
   exact ⟨o,cs,List.mem_of_getElem? hk,hc,by rwa [e2] at hb⟩
  have hkeepG:∀ b,g.G b→w'.heap[b]? = w.heap[b]?:=fun b hb=>hm.stp.keep b (hp.low b hb) fun ho=>by
   obtain ⟨o,cs,_,hc,hbo⟩:=hown0 b ho
   exact hp.free o cs hc b hbo hb
  have hkeepO:∀ o cs,H[o]? = some (some cs)→o∉ks→∀ b∈g.ob o,w'.heap[b]? = w.heap[b]?:=fun o cs ho hn b hb=>hm.stp.keep b ((hp.obj o cs ho).all_lt b hb) fun hon=>by
   obtain ⟨o2,cs2,h2,hc2,hbo⟩:=hown0 b hon
   exact hp.apart o o2 cs cs2 ho hc2 (fun e=>hn (e ▸ h2)) b hb hbo
  have hlen:ks.length≤H1.length:=by
   rcases Nat.eq_zero_or_pos ks.length with h0 | h0
   ·omega
   ·obtain ⟨o,ho⟩:∃ o,ks[ks.length - 1]? = some o:=⟨_,List.getElem?_eq_getElem (by omega)⟩
    have h1:(Ek g ks H).tr (Aq ks H) (ks.length - 1)=g.tr H o:=O5 hlt ho
    have hol:=hlt o (List.mem_of_getElem? ho)
    have h2:∃ d,g.tr H o=some d:=by
     unfold Gh.tr
     rw [List.getElem?_eq_getElem hol]
     cases H[o]<;>exact ⟨_,rfl⟩
    obtain ⟨dd,hdd⟩:=h2
    have h3:ks.length - 1<H1.length:=by
     rcases hm.trk _ _ (h1.trans hdd) with h | h<;>exact Cq h
    omega
  let σ:=Ca ks H.length
  let H2:=Ig ks H.length H1
  let H' := Cn ks H2 H
  have hlen2:ks.length≤H2.length:=by simpa [H2,Ig] using hlen
  let inv:Nat→Nat:=fun o=>match A3 ks 0 o with
   | some i=>i
   | none=>o - H.length+ks.length
  let isN:Nat→Bool:=fun o=>(A3 ks 0 o).isSome || decide (H.length≤o)
  let g' : Gh:=⟨fun o=>if isN o then g1.ρ (inv o) else g.ρ o,fun o=>if isN o then g1.ob (inv o) else g.ob o,g1.G⟩
  have gcT_of:∀ (l:List Nat) (i o m:Nat),l.Nodup→l[m]? = some o→A3 l i o=some (i+m):=fun l=>by
   induction l with
   | nil=>intro i o m _ h;simp at h
   | cons k l ih=>
    intro i o m hn h
    cases m with
    | zero => obtain rfl : k = o := by simpa using h
              simp [A3]
    | succ m=>
     have h' : l[m]? = some o:=by simpa using h
     have hne:o≠k:=fun e=>(List.nodup_cons.1 hn).1 (e ▸ List.mem_of_getElem? h')
     rw [A3,if_neg hne,ih (i+1) o m (List.nodup_cons.1 hn).2 h']
     congr 1;omega
  have gcT_no:∀ o,o∉ks→A3 ks 0 o=none:=fun o ho=>by
   cases hg:A3 ks 0 o with
   | none=>rfl
   | some i=>
    obtain ⟨m,_,hm⟩:=E0 ks 0 o i hg
    exact absurd (List.mem_of_getElem? hm) ho
  have hisO:∀ o,o∉ks→o<H.length→isN o=false:=fun o h1 h2=>by simp [isN,gcT_no o h1];omega
  have hisN:∀ i o,Ca ks H.length i=o→(ks[i]? = some o∨(ks.length≤i∧H.length≤o))→isN o=true∧inv o=i:=fun i o hs h=>by
   rcases h with h | ⟨h1,h2⟩
   ·have:=gcT_of ks 0 o i hnd h
    rw [Nat.zero_add] at this
    exact ⟨by simp [isN,this],by simp [inv,this]⟩
   ·have hno:o∉ks:=fun hm=>by have:=hlt o hm;omega
    rw [Ih ks _ _ h1] at hs
    refine ⟨by simp [isN];omega,?_⟩
    simp only [inv,gcT_no o hno]
    omega
  have hinv:∀ o cs,H'[o]? = some (some cs)→(o∉ks∧o<H.length∧H[o]? = some (some cs))∨∃ i c,H1[i]? = some (some c)∧cs=Av (Ho ks H.length) c∧isN o=true∧inv o=i:=fun o cs ho=>by
   rcases Zm ks H2 H hnd hlt hlen2 o _ ho with h | ⟨i,h1,h2,h3⟩
   ·exact .inl h
   ·right
    simp only [H2,Ig,List.getElem?_map,Option.map_eq_some_iff] at h1
    obtain ⟨x,hx,he⟩:=h1
    obtain ⟨c,rfl,rfl⟩:=he
    exact ⟨i,c,hx,rfl,hisN i o h2 h3⟩
  have htrO:∀ o d,o∉ks→g.tr H o=some d→g'.tr H' o=some d:=fun o dd hn ho=>by
   have hlo:=Cq ho
   unfold Gh.tr at *
   rw [L7 ks H2 H o hlo hn]
   simp only [g', hisO o hn hlo]
   exact ho
  have htrN:∀ i d,g1.tr H1 i=some d→g'.tr H' (σ i)=some d:=fun i dd hi=>by
   have hli:=Cq hi
   have hat:H'[σ i]? = H2[i]? ∧ isN (σ i)=true∧inv (σ i)=i:=by
    rcases Nat.lt_or_ge i ks.length with h1 | h1
    ·have h2:ks[i]? = some ks[i]:=List.getElem?_eq_getElem h1
     have e:σ i=ks[i]:=Gx ks _ i _ h2
     rw [e]
     exact ⟨Ov ks H2 H i _ hnd hlt hlen2 h2,hisN i _ (Gx ks _ i _ h2) (.inl h2)⟩
    ·have e:σ i=H.length+(i - ks.length):=Ih ks _ i h1
     exact ⟨by rw [e];exact Ow ks H2 H i hlen2 h1,hisN i _ rfl (.inr ⟨h1,by rw [e];omega⟩)⟩
   obtain ⟨h1,h2,h3⟩:=hat
   unfold Gh.tr at *
   rw [h1]
   simp only [H2,Ig,List.getElem?_map,g', h2,h3,if_true]
   rw [List.getElem?_eq_getElem hli] at hi ⊢
   cases hh:H1[i] with
   | none=>rw [hh] at hi;simpa using hi
   | some cs=>rw [hh] at hi;simpa [A8] using hi
  have hτN:∀ o o' d,Ho ks H.length o=some o' → g1.tr H1 o=some d→g'.tr H' o' = some d∨g'.tr H' o' = some none:=fun o o' dd h hd=>by
   obtain rfl:=Option.some.inj h
   exact .inl (htrN o dd hd)
  have htr:∀ o d,g.tr H o=some d→g'.tr H' o=some d∨g'.tr H' o=some none:=fun o dd ho=>by
   by_cases hm' : o∈ks
   ·obtain ⟨i,hi⟩:=List.mem_iff_getElem?.1 hm'
    have e:σ i=o:=Gx ks _ i o hi
    have h1:(Ek g ks H).tr (Aq ks H) i=some dd:=by rw [O5 hlt hi];exact ho
    rw [← e]
    exact (hm.trk i dd h1).imp (htrN i dd) (htrN i none)
   ·exact .inl (htrO o dd hm' ho)
  have hfr:∀ i c,H1[i]? = some (some c)→∀ b∈g1.ob i,(∃ o cs,o∈ks∧H[o]? = some (some cs)∧b∈g.ob o)∨w.heap.size≤b:=fun i c hi b hb=>
   (hm.stp.own b ⟨i,c,hi,hb⟩).imp (hown0 b) id
  have hp' : HeapR g' H' w' := by
   refine ⟨?_,?_,?_,?_,fun b hb=>hm.hp.low b hb⟩
   ·intro o cs ho
    rcases hinv o cs ho with ⟨hn,hlo,ho'⟩ | ⟨i,c,hi,rfl,hN,hI⟩
    ·simp only [g', hisO o hn hlo]
     exact (hp.obj o cs ho').mono hm.stp.gin hkeepG htr (hkeepO o cs ho' hn)
    ·simp only [g', hN,hI,if_true]
     have h1:=hm.hp.obj i c hi
     exact (A8 (Ho ks H.length) c ▸ h1.tell (Al _) (fun _ _=>rfl) (fun x hx v bs' _ hr=>E9 hτN hr) (fun hn _=>⟨H6 (hn ▸ h1).1,fun _ h=>h,fun _ _=>rfl⟩))
   ·intro o cs ho
    rcases hinv o cs ho with ⟨hn,hlo,ho'⟩ | ⟨i,c,hi,rfl,hN,hI⟩
    ·simp only [g', hisO o hn hlo];exact hp.nodup o cs ho'
    ·simp only [g', hN,hI,if_true];exact hm.hp.nodup i c hi
   ·intro o o2 cs cs2 ho ho2 hne b h1 h2
    rcases hinv o cs ho with ⟨hn,hlo,ho'⟩ | ⟨i,c,hi,rfl,hN,hI⟩<;>rcases hinv o2 cs2 ho2 with ⟨hn2,hlo2,ho2'⟩ | ⟨i2,c2,hi2,rfl,hN2,hI2⟩
    ·simp only [g', hisO o hn hlo] at h1;simp only [g', hisO o2 hn2 hlo2] at h2;exact hp.apart o o2 cs cs2 ho' ho2' hne b h1 h2
    ·simp only [g', hisO o hn hlo] at h1;simp only [g', hN2,hI2,if_true] at h2
     rcases hfr i2 c2 hi2 b h2 with ⟨o3,cs3,h3,h4,h5⟩ | h
     ·exact hp.apart o o3 cs cs3 ho' h4 (fun e=>hn (e ▸ h3)) b h1 h5
     ·have:=(hp.obj o cs ho').all_lt b h1;omega
    ·simp only [g', hN,hI,if_true] at h1;simp only [g', hisO o2 hn2 hlo2] at h2
     rcases hfr i c hi b h1 with ⟨o3,cs3,h3,h4,h5⟩ | h
     ·exact hp.apart o2 o3 cs2 cs3 ho2' h4 (fun e=>hn2 (e ▸ h3)) b h2 h5
     ·have:=(hp.obj o2 cs2 ho2').all_lt b h2;omega
    ·simp only [g', hN,hI,if_true] at h1;simp only [g', hN2,hI2,if_true] at h2
     refine hm.hp.apart i i2 c c2 hi hi2 (fun e=>hne ?_) b h1 h2
     subst e
     have:∀ o,isN o=true→σ (inv o)=o:=fun o hN=>by
      simp only [isN,Bool.or_eq_true,decide_eq_true_eq,Option.isSome_iff_exists] at hN
      rcases hN with ⟨j,hj⟩ | hge
      ·obtain ⟨m,rfl,hm⟩:=E0 ks 0 o j hj
       simp only [inv,hj,Nat.zero_add]
       exact Gx ks _ m o hm
      ·have hno:o∉ks:=fun hm=>by have:=hlt o hm;omega
       simp only [inv,gcT_no o hno]
       show Ca ks H.length _=o
       rw [Ih ks _ _ (by omega)];omega
     rw [← this o hN,← this o2 hN2,hI,hI2]
   ·intro o cs ho b h1 hG
    rcases hinv o cs ho with ⟨hn,hlo,ho'⟩ | ⟨i,c,hi,rfl,hN,hI⟩
    ·simp only [g', hisO o hn hlo] at h1
     rcases hm.stp.gout b hG with h | h | h
     ·exact hp.free o cs ho' b h1 h
     ·obtain ⟨o3,cs3,h3,h4,h5⟩:=hown0 b h
      exact hp.apart o o3 cs cs3 ho' h4 (fun e=>hn (e ▸ h3)) b h1 h5
     ·have:=(hp.obj o cs ho').all_lt b h1;omega
    ·simp only [g', hN,hI,if_true] at h1
     exact hm.hp.free i c hi b h1 hG
  refine ⟨v,g', Al (Ho ks H.length) av,H', he,⟨hp', ⟨hm.stp.os,hm.stp.tape,hm.stp.output,hsz,fun b hb hno=>hm.stp.keep b hb fun ho=>?_,fun b ⟨o,cs,ho,h1⟩=>?_,hm.stp.gin,fun b h=>(hm.stp.gout b h).imp id (Or.imp (fun h=>(hown0 b h).elim fun o ⟨cs,_,h4,h5⟩=>⟨o,cs,h4,h5⟩) id),hm.stp.fz⟩,
   fun x v h=>h.mono hm.stp.gin hkeepG htr (by simp),htr⟩,E9 hτN hx,hE,av,H1,hk,rfl,rfl⟩
  ·obtain ⟨o,cs,_,hc,hbo⟩:=hown0 b ho
   exact hno ⟨o,cs,hc,hbo⟩
  ·rcases hinv o cs ho with ⟨hn,hlo,ho'⟩ | ⟨i,c,hi,rfl,hN,hI⟩
   ·left;simp only [g', hisO o hn hlo] at h1;exact ⟨o,cs,ho', h1⟩
   ·simp only [g', hN,hI,if_true] at h1
    exact (hfr i c hi b h1).imp (fun ⟨o3,cs3,h3,h4,h5⟩=>⟨o3,cs3,h4,h5⟩) id
theorem Sr {f : FuncId} {args args' : List AV} {H0 : Heap} {x : AV} {H1 : Heap} {K : AV → Heap → Prop} (h : Er P f args H0 x H1) (ks : List Nat) (hks : (decide ks.Nodup && ks.all fun o => decide (o < H.length)) = true) (hH : Aq ks H = H0) (ha : args'.map (Al (A3 ks 0)) = args)
    (hK:K (Al (Ho ks H.length) x) (Cn ks (Ig ks H.length H1) H)):CallsX P false f args' H K:=by
 simp only [Bool.and_eq_true,decide_eq_true_eq,List.all_eq_true] at hks
 exact (CallsX.liftF ks h hks.1 hks.2 hH ha.symm).mono (by rintro av H' ⟨av0,H0', ⟨rfl,rfl⟩,rfl,rfl⟩;exact hK)
attribute [go_sem] Ho Ig
end
section
variable {P:Program} {N:Nat} {g:Gh} {F:Frame} {H:Heap} {a:Act} {w:World} {M:List Nat} {n0:Nat}
def Cd (ks:List Nat)(H:Heap):AV→AV
 | .clo f fs cs=>vw ks H 6 (.clo f fs cs)
 | .sl o k off len=>vw ks H 6 (.sl o k off len)
 | .ref o j=>vw ks H 6 (.ref o j)
 | x=>Al (A3 ks 0) x
def En (ks:List Nat)(H:Heap):Heap:=ks.map fun o=>(H.getD o none).map (List.map (Cd ks H))
def Jf (ks:List Nat)(H:Heap)(F:Frame):Frame:=F.map fun p=>(p.1,vw ks H 6 p.2)
theorem aO (ks:List Nat)(H:Heap):∀ (F:Frame) (j:Nat),Ac (Jf ks H F) j=vw ks H 6 (Ac F j)∨Ac (Jf ks H F) j = .any
 | [],_=>.inr rfl
 | (i,x) :: l,j=>by
  simp only [Jf,List.map_cons,C1]
  by_cases e:i=j
  ·rw [if_pos e,if_pos e];exact .inl rfl
  ·rw [if_neg e,if_neg e];exact aO ks H l j
theorem zA (g:Gh)(ks:List Nat)(H:Heap)(o:Nat):g.tr (En ks H) o=g.tr (Aq ks H) o:=by
 unfold Gh.tr
 simp only [En,Aq,List.getElem?_map]
 cases ks[o]? with
 | none=>rfl
 | some k=>
  simp only [Option.map_some]
  cases H.getD k none with
  | none=>rfl
  | some cs=>simp only [Option.map_some,Gq,List.length_map,A8]
theorem Ref.sel (ks:List Nat){F' : Frame}{H' : Heap}(hk:Fp ks H.length n0=true)(hH:En ks H=H')(hF:sub (Jf ks H F) F'):Ref n0 F H F' H' := fun N g a w hR=>by
 subst hH
 simp only [Fp,Bool.and_eq_true,decide_eq_true_eq,List.all_eq_true] at hk
 obtain ⟨⟨hnd,hlt⟩,h0⟩:=hk
 have hp:=hR.hp
 have hq:=Z5 (ks:=ks) hp hnd hlt
 have htr:(Bn g ks H).tr (En ks H)=(Bn g ks H).tr (Aq ks H):=funext fun o=>zA _ ks H o
 have hτ:∀ o o' d,A3 ks 0 o=some o' → g.tr H o=some d→(Bn g ks H).tr (En ks H) o' = some d∨(Bn g ks H).tr (En ks H) o' = some none:=fun o o' d h hd=>by
  obtain ⟨m,rfl,hm⟩:=E0 ks 0 o o' h
  left;rw [htr,Nat.zero_add,Gg hlt hm,hd]
 have hal:∀ o' c,(En ks H)[o']? = some (some c)→∃ o cs,ks[o']? = some o∧H[o]? = some (some cs)∧c=cs.map (Cd ks H)∧(Bn g ks H).ρ o' = g.ρ o∧(Bn g ks H).ob o' = g.ob o∧(Aq ks H)[o']? = some (some (Av (A3 ks 0) cs)):=fun o' c h=>by
  simp only [En,List.getElem?_map,Option.map_eq_some_iff] at h
  obtain ⟨o,ho,he⟩:=h
  have hl:o<H.length:=hlt o (List.mem_of_getElem? ho)
  obtain ⟨cs,hc,he⟩:=he
  refine ⟨o,cs,ho,?_,he.symm,by simp [Bn,List.getD,ho],by simp [Bn,List.getD,ho],?_⟩
  ·have:H[o]? = some (H.getD o none):=by simp [hl]
   rw [this,hc]
  ·simp only [Aq,List.getElem?_map,ho,Option.map_some,hc,Gq]
 have hp' : HeapR (Bn g ks H) (En ks H) w:=by
  refine ⟨?_,?_,?_,?_,hq.low⟩
  ·intro o' c ho
   obtain ⟨o,cs,hk,hc,rfl,e1,e2,_⟩:=hal o' c ho
   rw [e1,e2]
   refine (hp.obj o cs hc).tell (Cd ks H) (fun _ _=>rfl) (fun x _ v bs' _ hr=>?_) (fun hn _=>⟨fun x hx hg=>?_,fun _ h=>.inl h,fun _ _=>rfl⟩)
   rotate_left
   ·have h2:=H6 (τ:=A3 ks 0) (hn ▸ hp.obj o cs hc).1 x hx hg
    unfold Cd
    split
    ·cases hg
    ·cases hg
    ·cases hg
    ·exact h2
   have hr2:Rd w ((Bn g ks H).tr (En ks H)) (Bn g ks H).G (Al (A3 ks 0) x) v bs' := (E9 hτ hr).mono (fun _ h=>.inl h) (fun _ _=>rfl) (fun _ _ h=>.inl h) (fun _ _=>rfl)
   have hv:bs' = []→Rd w ((Bn g ks H).tr (En ks H)) (Bn g ks H).G (vw ks H 6 x) v bs' := fun e=>by
    subst e
    rw [htr]
    exact Sj hp hlt 6 x v hr
   unfold Cd
   split
   ·exact hv (by cases hr;rfl)
   ·exact hv (by cases hr;rfl)
   ·exact hv (by cases hr;rfl)
   ·exact hr2
  ·intro o' c ho
   obtain ⟨o,cs,hk,hc,rfl,e1,e2,e3⟩:=hal o' c ho
   exact hq.nodup o' _ e3
  ·intro o' o2' c c2 ho ho2 hne b hb
   obtain ⟨_,_,_,_,_,_,_,e3⟩:=hal o' c ho
   obtain ⟨_,_,_,_,_,_,_,e4⟩:=hal o2' c2 ho2
   exact hq.apart o' o2' _ _ e3 e4 hne b hb
  ·intro o' c ho b hb
   obtain ⟨_,_,_,_,_,_,_,e3⟩:=hal o' c ho
   exact hq.free o' _ e3 b hb
 refine ⟨Bn g ks H,⟨fun j=>?_,hp', hR.size,hR.defers⟩,hp', ⟨rfl,⟨rfl,Nat.le_refl _⟩,rfl,Nat.le_refl _,fun _ _ _=>rfl,fun b ⟨o', c,ho,hb⟩=>.inl ?_,fun _ h=>.inl h,fun b h=>?_,fun _ _=>rfl⟩,fun o d ho hd=>.inl ?_⟩
 ·rcases Kx hF j with e | e
  ·rw [e];exact .any
  ·rw [e]
   rcases aO ks H F j with e2 | e2
   ·rw [e2,htr];exact Sj hp hlt 6 _ _ (hR.fr j)
   ·rw [e2];exact .any
 ·obtain ⟨o,cs,hk,hc,rfl,e1,e2,_⟩:=hal o' c ho
  rw [e2] at hb
  exact ⟨o,cs,hc,hb⟩
 ·rcases h with h | ⟨o,cs,h1,h2⟩
  ·exact .inl h
  ·exact .inr (.inl ⟨o,cs,(F9 ks H o cs h1).2,h2⟩)
 ·have : ks[o]? = some o := by
    have h1:(ks.take n0)[o]? = (List.range n0)[o]?:=by rw [h0]
    rw [List.getElem?_take_of_lt ho,List.getElem?_range ho] at h1
    exact h1
  rw [htr,Gg hlt this,hd]
theorem Ref.tell (o:Nat)(f:AV→AV){cs:List AV}(ho:H[o]? = some (some cs))(hf:∀ x,x∈cs→∀ (w:World) tr G v bs,Rd w tr G x v bs→Rd w tr G (f x) v bs)(hgh:cs.any Gr=false:=by first | rfl | simp [Gr]):Ref n0 F H F (H.set o (some (cs.map f))):=Ref.core fun g w hp=>by
 have hol:o<H.length:=(List.getElem?_eq_some_iff.1 ho).1
 have htr:g.tr (H.set o (some (cs.map f)))=g.tr H:=funext fun x=>by
  unfold Gh.tr
  by_cases e:o=x
  ·subst e
   rw [List.getElem?_set_self hol,ho]
   simp
  ·rw [List.getElem?_set_ne e]
 have hal:∀ x c,(H.set o (some (cs.map f)))[x]? = some (some c)→∃ c0,H[x]? = some (some c0)∧(x=o∧c0=cs∧c=cs.map f∨x≠o∧c=c0):=fun x c h=>by
  by_cases e:o=x
  ·subst e
   rw [List.getElem?_set_self hol] at h
   exact ⟨cs,ho,.inl ⟨rfl,rfl,(Option.some.inj (Option.some.inj h)).symm⟩⟩
  ·rw [List.getElem?_set_ne e] at h
   exact ⟨c,h,.inr ⟨fun h=>e h.symm,rfl⟩⟩
 refine ⟨g,⟨?_,?_,?_,?_,hp.low⟩,?_,rfl,fun x d hd=>.inl (by rw [htr];exact hd)⟩
 ·intro x c hx
  obtain ⟨c0,h1,⟨rfl,rfl,rfl⟩ | ⟨h2,rfl⟩⟩:=hal x c hx
  ·rw [htr]
   exact (hp.obj _ _ h1).tell f (fun _ _=>rfl) (fun y hy v bs' _ hr=>hf y hy _ _ _ _ _ hr) (fun _ ⟨y,hy,hg⟩=>absurd hg (by have:=List.any_eq_false.1 hgh y hy;simpa using this))
  ·rw [htr];exact hp.obj _ _ h1
 ·intro x c hx
  obtain ⟨c0,h1,_⟩:=hal x c hx
  exact hp.nodup x c0 h1
 ·intro x y c d hx hy hne b hb
  obtain ⟨c0,h1,_⟩:=hal x c hx
  obtain ⟨d0,k1,_⟩:=hal y d hy
  exact hp.apart x y c0 d0 h1 k1 hne b hb
 ·intro x c hx b hb
  obtain ⟨c0,h1,_⟩:=hal x c hx
  exact hp.free x c0 h1 b hb
 ·rintro b ⟨x,c,hx,hb⟩
  obtain ⟨c0,h1,_⟩:=hal x c hx
  exact ⟨x,c0,h1,hb⟩
theorem Ref.nils (o k n:Nat)(ho:H[o]? = some (some (List.replicate n Ag))):Ref n0 F H F (H.set o (some (List.replicate n (.osl k 0 [])))):=by
 have:=Ref.tell (n0:=n0) (F:=F) o (fun _=>.osl k 0 []) ho fun x hx w tr G v bs hr=>by
  obtain rfl:=(List.mem_replicate.1 hx).2
  cases hr
  exact .osl0
 rwa [List.map_replicate] at this
attribute [go_sem] En Jf Cd
theorem Ref.sel1 {n0:Nat}{F:Frame}{H:Heap}(ks:List Nat){F' : Frame}{H' : Heap}(hk:Fp ks H.length n0=true:=by rfl)(hH:En ks H=H' := by simp only [go_sem,↓reduceIte,Nat.reduceEqDiff,Nat.reduceAdd,reduceCtorEq])(hF:sub (Jf ks H F) F' := by simp [sub,Ac,go_sem,↓reduceIte,Nat.reduceEqDiff,Nat.reduceAdd,reduceCtorEq]):Ref n0 F H F' H' := Ref.sel ks hk hH hF
end
section
variable {P:Program} {N:Nat} {g:Gh} {F:Frame} {H:Heap} {a:Act} {w:World} {M:List Nat} {n0:Nat}
theorem Bu {f : FuncId} {args args' : List AV} {H0 : Heap} {α : Type} {Q : α → Prop} {x : α → AV} {H1 : α → Heap} {K : AV → Heap → Prop} (h : F6 P f args H0 Q x H1) (ks : List Nat) (hks : (decide ks.Nodup && ks.all fun o => decide (o < H.length)) = true) (hH : Aq ks H = H0) (ha : args'.map (Al (A3 ks 0)) = args)
    (hK:∀ o,Q o→K (Al (Ho ks H.length) (x o)) (Cn ks (Ig ks H.length (H1 o)) H)):CallsX P false f args' H K:=by
 simp only [Bool.and_eq_true,decide_eq_true_eq,List.all_eq_true] at hks
 exact (CallsX.liftF ks h hks.1 hks.2 hH ha.symm).mono (by rintro av H' ⟨av0,H0', ⟨o,ho,rfl,rfl⟩,rfl,rfl⟩;exact hK o ho)
end
section
variable {P:Program} {N:Nat} {g:Gh} {F:Frame} {H:Heap} {a:Act} {w:World} {M:List Nat} {n0:Nat}
theorem CallsX.slc0 {ext:Bool}{f:FuncId}{K:AV→Heap→Prop}{k:Nat}(h:∀ (b:Option Addr) (cap:Nat),CallsX P ext f [.val (.slice b 0 cap)] H K):CallsX P ext f [.slc k 0 []] H K:=fun g w vals hp hl hr=>by
 have h0:=hr 0 (by simp)
 simp only [List.getElem_cons_zero] at h0
 have key:∀ b cap,vals.getD 0 undef = .slice b 0 cap→Calls P f vals w fun e w' => ∃ v g' av H', e = .returned v∧Mv g H w g' H' w' ∧ Rd w' (g'.tr H') g'.G av v []∧(ext=true→Ext w w')∧K av H' := fun b cap e=>by
  refine h b cap g w vals hp hl fun m hm=>?_
  obtain rfl:m=0:=by simpa using hm
  simp only [List.getElem_cons_zero]
  rw [e]
  exact .val
 generalize hv:vals.getD 0 undef=v at h0
 cases h0 with
 | slc u _ _ _ _ _ _=>exact key _ _ hv
 | slc0 hm=>exact key _ _ hv
end
end Go.Gov
