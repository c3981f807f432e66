/- Texts that belong together. -/
import Derived.Attr
import Derived.Test.YtcneanpkpmfaiaaGreatZd
set_option linter.unusedSimpArgs false
set_option linter.unusedVariables false
namespace Go.Gov
section
theorem Tw (σ:Nat→Nat)(d:Nat)(xs:List Int):(Aa xs).map (shr σ d)=Aa xs:=by cases d<;>simp [Aa,shr]
theorem Acd (σ:Nat→Nat)(d:Nat)(xs:List Int):shr σ d (Ad xs)=Ad xs:=by
 cases d with
 | zero=>rfl
 | succ d=>simp only [Ad,shr];rw [Tw]
theorem sY (σ:Nat→Nat)(d:Nat)(xss:List (List Int)):(xss.map Ad).map (shr σ d)=xss.map Ad:=by
 rw [List.map_map];exact List.map_congr_left fun xs _=>Acd σ d xs
attribute [go_sem] Et Cf Cm fZ Cs A8 Ao Dn ax
attribute [go_sem] st Aw Dk if_true if_false Option.map_some Option.map_none Iu
attribute [go_sem] Rs Ky S8 Ph Tb Iy Fw Dx Pf K6
attribute [go_sem] Hl D2 Aa9 Abb Aba Cv Ab
attribute [go_sem] Gi List.map_cons List.map_nil Pj Bz F6 Fy Hx
attribute [go_sem] Lm X4 Oz true_and and_true Bool.false_eq_true Bool.true_eq_false jJ
attribute [go_sem] jI O0 B4 sJ List.length_map mZ mY nC
attribute [go_sem] yY yX zB zF zD yZ zC zA
attribute [go_sem] yW List.getD_cons_zero List.getD_cons_succ List.length_cons List.length_nil Int.toNat_natCast Adp Adq
attribute [go_sem] Nat.mul_one Nat.zero_add Nat.add_zero implies_true and_self kP kQ decide_eq_true_eq
attribute [go_sem] decide_eq_false_iff_not Int.not_le Int.not_lt ge_iff_le gt_iff_lt imp_self cond_true cond_false
attribute [go_sem] Bool.and_self_left Bool.and_false Bool.false_and Bool.or_false Bool.or_true Bool.false_or Bool.true_or Bool.and_self
attribute [go_sem] Bool.or_self Bool.not_not false_implies true_implies mX Bool.not_true Bool.not_false jZ
attribute [go_sem] kC kA kD kI kH kE kG kF
attribute [go_sem] kB yE yB yG yO yN yJ yM
attribute [go_sem] yK yD Acm Aco Acn tN Aa6 Aa5
attribute [go_sem] Nx Nw Ab2 Ab1 iZ iY List.getElem?_cons_zero List.getElem?_cons_succ List.nil_append List.cons_append
attribute [go_sem] List.append_nil List.set_cons_zero List.set_cons_succ List.drop_zero List.take_succ_cons List.drop_succ_cons List.take_zero List.take_nil
attribute [go_sem] List.drop_nil Option.bind_some id_eq Option.isSome_some List.all_cons List.all_nil Bool.and_true Bool.true_and
attribute [go_sem] Jp Kg Kf List.length_append List.length_take List.length_set List.length_replicate Nat.lt_add_one Nat.zero_lt_succ
attribute [go_sem] Nat.reduceLT Nat.reduceLeDiff Nat.reduceMul
end
section
variable {P:Program} {N:Nat} {g:Gh} {F:Frame} {H:Heap} {a:Act} {w:World} {M:List Nat} {n0:Nat}
structure Br (p q X Y:Prop):Prop where
 t:p→X
 f:q→Y
@[congr] theorem Aeg {p p' q q' X Y:Prop} (h:p=p') (k:q=q'):Br p q X Y=Br p' q' X Y:=by rw [h,k]
theorem fW (X Y:Prop):Br True False X Y=X:=propext ⟨fun h=>h.1 trivial,fun h=>⟨fun _=>h,fun h=>h.elim⟩⟩
theorem fU (X Y:Prop):Br False True X Y=Y:=propext ⟨fun h=>h.2 trivial,fun h=>⟨fun h=>h.elim,fun _=>h⟩⟩
def Jn (F:Frame)(c:AX)(X Y:Prop):Prop:=match st (ax F c) with
 | .val (.bool b)=>Aw (ax F c)∧Br (b=true) (b=false) X Y
 | _=>False
@[congr] theorem Aer {F F' : Frame} {c:AX} {X Y:Prop} (h:F=F'):Jn F c X Y=Jn F' c X Y:=by rw [h]
@[congr] theorem Ae0 {n:Frame→Heap→Prop} {Q:Exit→Frame→Heap→Prop} {e:Exit} {F F' : Frame} {H H' : Heap} (hF:F=F') (hH:H=H'):Dx n Q e F H=Dx n Q e F' H' := by rw [hF,hH]
@[congr] theorem Aeq {id:Nat} {Q:Exit→Frame→Heap→Prop} {e:Exit} {F F' : Frame} {H H' : Heap} (hF:F=F') (hH:H=H'):Hl id Q e F H=Hl id Q e F' H' := by rw [hF,hH]
def V (P:Program)(M:List Nat)(N n0:Nat):ACode→(Exit→Frame→Heap→Prop)→Frame→Heap→Prop
 | .skip,Q=>Q .normal
 | .ops h t,Q=>Eu P true h (Eu P false t (Q .normal))
 | .alts t,Q=>W P M N n0 (.alts t) Q
 | .seq x y,Q=>V P M N n0 x (Dx (W P M N n0 y Q) Q)
 | .cond c x y,Q=>fun F H=>Jn F c (V P M N n0 x Q F H) (V P M N n0 y Q F H)
 | .block id x,Q=>V P M N n0 x (Hl id Q)
 | .loop x,Q=>W P M N n0 (.loop x) Q
 | .exit id,Q=>Q (.exit id)
 | .ret,Q=>Q .ret
@[congr] theorem Aep {c:ACode} {Q:Exit→Frame→Heap→Prop} {F F' : Frame} {H H' : Heap} (hF:F=F') (hH:H=H'):V P M N n0 c Q F H=V P M N n0 c Q F' H' := by rw [hF,hH]
theorem Al:∀ {c:ACode} {Q:Exit→Frame→Heap→Prop} {F:Frame} {H:Heap},V P M N n0 c Q F H→W P M N n0 c Q F H
 | .skip,_,_,_,h=>iT h
 | .ops _ _,_,_,_,h=>iQ h
 | .alts _,_,_,_,h=>h
 | .seq x y,Q,_,_,h=>N9 (Al (c:=x) h)
 | .cond c x y, Q, F, H, h => iM (by
     have h:Jn F c (V P M N n0 x Q F H) (V P M N n0 y Q F H):=h
     unfold Jn at h
     unfold O0
     split at h
     ·rename_i b hb
      simp only [hb]
      exact ⟨h.1,fun hb=>Al (h.2.1 hb),fun hb=>Al (h.2.2 hb)⟩
     ·exact h.elim)
 | .block _ x,_,_,_,h=>iK (Al (c:=x) h)
 | .loop _,_,_,_,h=>h
 | .exit _,_,_,_,h=>iO h
 | .ret,_,_,_,h=>iR h
section
variable {Q:Exit→Frame→Heap→Prop}
theorem iJ:V P M N n0 .skip Q F H=Q .normal F H:=rfl
theorem iE (h t:List Az):V P M N n0 (.ops h t) Q F H=Eu P true h (Eu P false t (Q .normal)) F H:=rfl
theorem iF (t:List Az):V P M N n0 (os t) Q F H=Eu P false t (Q .normal) F H:=rfl
theorem Ri {t:GT}(h:Cf P false t (Q .normal) F H):V P M N n0 (.alts t) Q F H:=Kt h
theorem iH (x y:ACode):V P M N n0 (.seq x y) Q F H=V P M N n0 x (Dx (W P M N n0 y Q) Q) F H:=rfl
theorem iC (c:AX)(x y:ACode):V P M N n0 (.cond c x y) Q F H=Jn F c (V P M N n0 x Q F H) (V P M N n0 y Q F H):=rfl
theorem iB (id:Nat)(x:ACode):V P M N n0 (.block id x) Q F H=V P M N n0 x (Hl id Q) F H:=rfl
theorem iD (id:Nat):V P M N n0 (.exit id) Q F H=Q (.exit id) F H:=rfl
theorem iG:V P M N n0 .ret Q F H=Q .ret F H:=rfl
theorem Ft {c:ACode}{F' : Frame}{H' : Heap}(hr:Ref n0 F H F' H')(h:V P M N n0 c Q F' H'):W P M N n0 c Q F H:=Df hr (Al h)
theorem mB {x:AOp}{K K' : AV→Heap→Prop}(h:Bz x F H K)(hk:∀ av H', K av H' → K' av H'):Bz x F H K' := by
 cases x
 case nxt i=>
  simp only [Bz] at *
  refine ⟨h.1,?_⟩
  have h3:=h.2
  clear h
  split at h3
  ·rename_i o hs
   split at h3
   ·rename_i c cs c1 c2 seen ho
    (try simp only [hs]);(try simp only [ho])
    exact ⟨h3.1,h3.2.1,h3.2.2.1,h3.2.2.2.1,fun b k x h1 h2=>hk _ _ (h3.2.2.2.2.1 b k x h1 h2),fun h=>hk _ _ (h3.2.2.2.2.2 h)⟩
   ·exact h3.elim
  ·exact h3.elim
 case enr i=>
  simp only [Bz] at *
  refine ⟨h.1,?_⟩
  have h3:=h.2
  clear h
  split at h3
  ·rename_i o hs
   split at h3
   ·rename_i c cs c1 c2 seen ho
    (try simp only [hs]);(try simp only [ho])
    refine ⟨h3.1,?_⟩
    have h4:=h3.2
    split at h4
    ·rename_i b hl
     (try simp only [hl])
     split at h4
     ·rename_i k x hf
      (try simp only [hf])
      exact ⟨h4.1,hk _ _ h4.2⟩
     ·exact h4.elim
    ·exact h4.elim
   ·exact h3.elim
  ·exact h3.elim
 case app k bytes s x=>
  simp only [Bz] at *
  obtain ⟨h1,h2,h3⟩:=h
  refine ⟨h1,h2,?_⟩
  generalize Kf H k (st (ax F x))=sa at *
  cases sa with
  | none=>exact h3.elim
  | some p=>
   obtain ⟨m,new⟩:=p
   refine ⟨h3.1,?_⟩
   have h4:=h3.2
   (try simp only at h4 ⊢)
   cases hc:new.all Bs with
   | true=>
    rw [hc,Nx] at h4
    rw [Nx]
    generalize Jp H k (st (ax F s))=d at *
    cases d with
    | none=>exact h4.elim
    | some d=>exact ⟨h4.1,h4.2.1,hk _ _ h4.2.2⟩
   | false=>
    rw [hc,Nw] at h4
    rw [Nw]
    generalize st (ax F x)=sx at *
    cases sx<;>first | exact h4.elim | skip
    rename_i o k2 off len
    (try simp only at h4 ⊢)
    generalize Jp (H.set o none) k (st (ax F s))=d at *
    cases d with
    | none=>exact h4.elim
    | some d=>exact ⟨h4.1,h4.2.1,hk _ _ h4.2.2⟩
 all_goals (unfold Bz at *;first | exact h.elim | grind)
theorem U1 {gb:Bool}{C K K' : AV→Prop}{D D' : Prop}(h:GCall gb C K D)(hk:∀ av,K av→K' av)(hd:D→D'):GCall gb C K' D' := h.imp (fun h=>h.imp fun av h=>⟨h.1,hk av h.2⟩) fun h=>⟨h.1,hd h.2⟩
theorem fY {g:Option Bool}{A B:Bool→Prop}(h:Gz g A)(hk:∀ b,A b→B b):Gz g B:=by
 cases g with
 | none=>exact h
 | some b=>exact hk b h
theorem Nz {ext:Bool}{x:Az}{K K' : Frame→Heap→Prop}(h:Cm P ext x K F H)(hk:∀ F H,K F H→K' F H):Cm P ext x K' F H:=by
 obtain ⟨d,g,o⟩:=x
 cases g with
 | none=>
  unfold Cm at *
  dsimp only at *
  by_cases hq:Cs o=true
  ·rw [if_pos hq] at *
   exact ⟨h.1,hk _ _ h.2⟩
  ·rw [if_neg hq] at *
   split at h
   ·exact ⟨h.1,h.2.mono fun _ _=>hk _ _⟩
   ·refine ⟨h.1,h.2.1,?_⟩
    have h3:=h.2.2
    split at h3
    ·exact ⟨h3.1,h3.2.mono fun _ _=>hk _ _⟩
    ·exact h3.elim
   ·exact ⟨h.1,mB h.2 fun _ _=>hk _ _⟩
 | some sw=>
  obtain ⟨s,w⟩:=sw
  unfold Cm at *
  dsimp only at *
  refine fY h fun b hb=>?_
  by_cases hq:Cs o=true
  ·rw [if_pos hq] at *
   exact ⟨hb.1,hk _ _ hb.2⟩
  ·rw [if_neg hq] at *
   split at hb
   ·exact U1 hb (fun _=>hk _ _) fun h=>⟨h.1,h.2.mono fun _ _=>hk _ _⟩
   ·refine U1 hb (fun _=>hk _ _) fun h=>⟨h.1,h.2.1,?_⟩
    have h3:=h.2.2
    split at h3
    ·exact ⟨h3.1,h3.2.mono fun _ _=>hk _ _⟩
    ·exact h3.elim
   ·exact hb.elim
theorem G0:∀ {K K' : Frame→Heap→Prop},(∀ F H,K F H→K' F H)→∀ (t:GT) (b:Bool) (F:Frame) (H:Heap),Cf P b t K F H→Cf P b t K' F H
 | _,_,hk,.fin,b,F,H,h=>by
  unfold Cf at *
  cases b with
  | true=>trivial
  | false=>exact hk _ _ h
 | _,_,hk,.reg x t,b,F,H,h=>by
  unfold Cf at *
  exact Nz h (G0 hk t false)
 | _,_,hk,.alt e x t u,b,F,H,h=>by
  unfold Cf at *
  exact ⟨Nz h.1 (G0 hk t false),G0 hk u true _ _ h.2⟩
 | _,_,hk,.regz x t,b,F,H,h=>by
  unfold Cf at *
  exact ⟨h.1,Nz h.2 (G0 hk t false)⟩
 | _,_,hk,.thw t ds x,b,F,H,h=>by
  unfold Cf at *
  exact G0 (fun _ _ h=>Nz h hk) t false _ _ h
theorem Aj {α : Type} (S : α → Frame × Heap) (C : α → Prop) (μ : α → Nat) (x0 : α) (h0 : C x0) (hr : Ref n0 F H (S x0).1 (S x0).2) {c : ACode}
    (round:∀ x,C x→V P M N n0 c (Dx (fun F' H' => ∃ x', C x' ∧ μ x' < μ x∧Ref n0 F' H' (S x').1 (S x').2) Q) (S x).1 (S x).2):V P M N n0 (.loop c) Q F H:=
 Vb S C μ x0 h0 hr fun x hx=>Al (round x hx)
end
theorem gM {ext:Bool}{K:Frame→Heap→Prop}:Eu P ext [] K F H=K F H:=rfl
theorem gO {ext:Bool}{K:Frame→Heap→Prop}(x1:Az):Eu P ext [x1] K F H=Et P ext [x1] K F H:=rfl
theorem gP {ext:Bool}{K:Frame→Heap→Prop}(x1 x2:Az):Eu P ext [x1,x2] K F H=Et P ext [x1,x2] K F H:=rfl
theorem gQ {ext:Bool}{K:Frame→Heap→Prop}(x1 x2 x3:Az)(l:List Az):Eu P ext (x1 :: x2 :: x3 :: l) K F H=Et P ext [x1,x2,x3] (Eu P ext l K) F H:=rfl
/-! ### Functions and calls -/
theorem Er {f:FuncId}{ac:ACode}{rs:List AOp}{args:List AV}{x:AV}{H0:Heap}(hc:Ai P M f=some (N,ac,rs))(hl:decide (args.length≤N)=true)(h:V P M N 0 ac (D2 rs fun av H' => av=x∧H' = H0) (Cv 0 args) []):Pure P f args x H0:=zN hc hl (Al h)
theorem Bj {f:FuncId}{ac:ACode}{rs:List AOp}{args:List AV}{x:AV}(hc:Ai P M f=some (N,ac,rs))(hl:decide (args.length≤N)=true)(hx:An (A7 [] 0) x=x)(h:V P M N 0 ac (D2 rs fun av _=>av=x) (Cv 0 args) []):Pure P f args x []:=zO hc hl hx (Al h)
theorem Gc {f:FuncId}{ac:ACode}{rs:List AOp}{args:List AV}{x:AV}{H0:Heap}(ks:List Nat)(hc:Ai P M f=some (N,ac,rs))(hl:decide (args.length≤N)=true)(h:V P M N 0 ac (D2 rs fun av H' => Ef ks H'.length 0=true∧An (A7 ks 0) av=x∧A1 ks H' = H0) (Cv 0 args) []):Pure P f args x H0:=zP ks hc hl (Al h)
theorem Ka {f : FuncId} {ac : ACode} {rs : List AOp} {args : List AV} {α : Type} {Q : α → Prop} {x : α → AV} {H0 : α → Heap} (ks : List Nat) (hc : Ai P M f = some (N, ac, rs)) (hl : decide (args.length ≤ N) = true)
    (h:V P M N 0 ac (D2 rs fun av H' => Ef ks H'.length 0=true∧∃ o,Q o∧An (A7 ks 0) av=x o∧A1 ks H' = H0 o) (Cv 0 args) []):B1 P f args Q x H0:=zL ks hc hl (Al h)
theorem Ad3 {f:FuncId}{ac:ACode}{rs:List AOp}{args:List AV}{H0:Heap}{x:AV}{H1:Heap}(ks:List Nat)(hc:Ai P M f=some (N,ac,rs))(hl:decide (args.length≤N)=true)(h:V P M N H0.length ac (D2 rs fun av H' => Ef ks H'.length H0.length=true∧An (A7 ks 0) av=x∧A1 ks H' = H1) (Cv 0 args) H0):Fa P f args H0 x H1:=Ad4 ks hc hl (Al h)
theorem Av {gb:Bool}{C K:AV→Prop}{D:Prop}(av:AV)(h:gb=false)(hk:K av):GCall gb C K D:=GCall.mk av (fun e=>absurd (h ▸ e) (by decide)) hk
theorem Bn {ext:Bool}{f:FuncId}{args args' : List AV}{x:AV}{H0:Heap}{K:AV→Heap→Prop}(h:Pure P f args x H0)(ha:args'.map (Ak H 6)=args)(hx:(nf 6 x&&Db 6 H0)=true)(hK:K (A5 H.length 6 x) (H++D6 H.length 6 H0)):CallsX P ext f args' H K:=
 Oq h ha (Bool.and_eq_true_iff.1 hx).1 (Bool.and_eq_true_iff.1 hx).2 hK
theorem Bx {ext : Bool} {f : FuncId} {args args' : List AV} {α : Type} {Q : α → Prop} {x : α → AV} {H0 : α → Heap} {K : AV → Heap → Prop} (h : B1 P f args Q x H0) (ha : args'.map (Ak H 6) = args) (hx : ∀ o, (nf 6 (x o) && Db 6 (H0 o)) = true)
    (hK:∀ o,Q o→K (A5 H.length 6 (x o)) (H++D6 H.length 6 (H0 o))):CallsX P ext f args' H K:=jR h ha (fun o=>(Bool.and_eq_true_iff.1 (hx o)).1) (fun o=>(Bool.and_eq_true_iff.1 (hx o)).2) hK
theorem Cc {f : FuncId} {args args' : List AV} {H0 : Heap} {x : AV} {H1 : Heap} {K : AV → Heap → Prop} (h : Fa P f args H0 x H1) (ks : List Nat) (hks : (decide ks.Nodup && ks.all fun o => decide (o < H.length)) = true) (hH : A1 ks H = H0) (ha : args'.map (vw ks H 6) = args) (hx : (nf 6 x && Db 6 H1) = true)
    (hK:K (shr (Cj ks H.length) 6 x) (Dd ks (D7 (Cj ks H.length) 6 H1) H)):CallsX P false f args' H K:=jT h ks hks hH ha (Bool.and_eq_true_iff.1 hx).1 (Bool.and_eq_true_iff.1 hx).2 hK
theorem eY {α:Type}(f:α→AV)(L:List α):(L.map f).take L.length=L.map f:=List.take_of_length_le (by simp)
theorem Adj {α:Type}(f:α→AV)(L R:List α):((L++R).map f).take L.length=L.map f:=by rw [← List.map_take,List.take_left'];rfl
theorem Adh (xs:List Int):(Aa xs).take xs.length=Aa xs:=eY _ _
theorem tn0:Int.toNat 0=0:=rfl
theorem tn1:Int.toNat 1=1:=rfl
theorem tn2:Int.toNat 2=2:=rfl
theorem tn3:Int.toNat 3=3:=rfl
attribute [go_sem] tn0 tn1 tn2 tn3
attribute [go_sem] eY Adj Adh not_true_eq_false not_false_eq_true decide_true decide_false bne_self_eq_false beq_self_eq_true
attribute [go_sem] fW fU Jn iJ iE iF iH iC iB iD iG gM gO gP gQ
attribute [go_sem] gm gz gn gp gq kk Be gB gK gE gI gL gV gS gT gF gH gA gC gD gX gJ gN gR
attribute [go_sem] Ak F7 bB E0
attribute [go_sem] Db nf Vh iV
attribute [go_sem] A5 D6 bE sW
attribute [go_sem] A1 G9 Hq A7 De Abg I6 Eb dV Nj An A9
attribute [go_sem] vw C2 shr Cj D7 Dd Tw sY He Ge Cu
attribute [go_sem] Ix bne_eq_false_iff_eq Bool.and_eq_true Bool.or_eq_true Bool.not_eq_true' Bool.not_eq_false' Bool.and_eq_false_iff Bool.or_eq_false_iff
attribute [go_sem] beq_iff_eq beq_eq_false_iff_ne bne_iff_ne ne_eq Bool.not_eq_true Bool.not_eq_false
def Imp (q p:Prop):Prop:=q→p
theorem Imp.one {p:Prop}:Imp p p:=id
theorem Imp.two {q a b:Prop}(h:a)(k:Imp q b):Imp q (a∧b):=fun x=>⟨h,k x⟩
theorem Imp.vw {P:Program}{N:Nat}{M:List Nat}{n0:Nat}{F:Frame}{H:Heap}{Q:Exit→Frame→Heap→Prop}{c:ACode}{q:Prop}(k:Imp q (V P M N n0 c Q F H)):Imp q (W P M N n0 c Q F H):=fun x=>Al (k x)
theorem Imp.br {q a b X Y:Prop}(h:a→X)(k:Imp q (b→Y)):Imp q (Br a b X Y):=fun x=>⟨h,k x⟩
theorem Imp.yes {p:Prop}(h:p):Imp True p:=fun _=>h
theorem RN {p q:Prop}(h:q)(e:Imp q p:=by
 (repeat first | simp only [go_sem,↓reduceIte,Nat.reduceEqDiff,Nat.reduceAdd,reduceCtorEq] | with_reducible apply Imp.vw | (with_reducible apply Imp.two;focus first | assumption | omega | decide | grind) | (with_reducible apply Imp.br;focus (intros;omega)) | (with_reducible apply Imp.yes;decide))
 first | done | exact Imp.one):p:=e h
theorem RX {p q:Prop}(h:q)(e:Imp q p:=by
 first | with_reducible exact Imp.vw Imp.one | (with_reducible refine Imp.two ?_ Imp.one;focus first | assumption | omega | decide | grind) | (with_reducible refine Imp.br ?_ Imp.one;focus (intros;omega))):p:=e h
theorem E4 {P:Program}{H:Heap}{ext:Bool}{f:FuncId}{args args' : List AV}{x:AV}{H0:Heap}{K:AV→Heap→Prop}(h:Pure P f args x H0)(ha:args'.map (Ak H 6)=args)(hK:K (A5 H.length 6 x) (H++D6 H.length 6 H0))(hx:(nf 6 x&&Db 6 H0)=true:=by first | rfl | simp only [go_sem,↓reduceIte,Nat.reduceEqDiff,Nat.reduceAdd,reduceCtorEq]):CallsX P ext f args' H K:=Bn h ha hx hK
theorem Am {P:Program}{H:Heap}{ext:Bool}{f:FuncId}{args args' : List AV}{x:AV}{H0:Heap}{K:AV→Heap→Prop}(h:Pure P f args x H0)(hK:K (A5 H.length 6 x) (H++D6 H.length 6 H0))(ha:args'.map (Ak H 6)=args:=by (simp only [go_sem,↓reduceIte,Nat.reduceEqDiff,Nat.reduceAdd,reduceCtorEq]<;>rfl))(hx:(nf 6 x&&Db 6 H0)=true:=by first | rfl | simp only [go_sem,↓reduceIte,Nat.reduceEqDiff,Nat.reduceAdd,reduceCtorEq]):CallsX P ext f args' H K:=Bn h ha hx hK
theorem G1 {P:Program}{gb:Bool}{C K:AV→Prop}{D:Prop}{f:FuncId}{args:List AV}{x:AV}{H0:Heap}(av:AV)(h:gb=true→Pure P f args x H0)(k:K av)(e:(gb=true→Pure P f args x H0)→gb=true→C av:=by
 intro h hg
 replace h:=h hg
 first | exact Bn h (by simp only [go_sem,↓reduceIte,Nat.reduceEqDiff,Nat.reduceAdd,reduceCtorEq]<;>rfl) (by first | rfl | simp only [go_sem,↓reduceIte,Nat.reduceEqDiff,Nat.reduceAdd,reduceCtorEq]) (by first | exact ⟨rfl,rfl⟩ | simp only [go_sem,↓reduceIte,Nat.reduceEqDiff,Nat.reduceAdd,reduceCtorEq]) | exact ⟨hg,Bn h (by simp only [go_sem,↓reduceIte,Nat.reduceEqDiff,Nat.reduceAdd,reduceCtorEq]<;>rfl) (by first | rfl | simp only [go_sem,↓reduceIte,Nat.reduceEqDiff,Nat.reduceAdd,reduceCtorEq]) (by first | exact ⟨rfl,rfl⟩ | simp only [go_sem,↓reduceIte,Nat.reduceEqDiff,Nat.reduceAdd,reduceCtorEq])⟩ | (refine ⟨?_,Bn h (by simp only [go_sem,↓reduceIte,Nat.reduceEqDiff,Nat.reduceAdd,reduceCtorEq]<;>rfl) (by first | rfl | simp only [go_sem,↓reduceIte,Nat.reduceEqDiff,Nat.reduceAdd,reduceCtorEq]) (by first | exact ⟨rfl,rfl⟩ | simp only [go_sem,↓reduceIte,Nat.reduceEqDiff,Nat.reduceAdd,reduceCtorEq])⟩;clear h;grind)):GCall gb C K D:=GCall.mk av (e h) k
theorem Ref.to1 {n0:Nat}{F:Frame}{H:Heap}{F' : Frame}{H' : Heap}(hH:H=H' := by rfl)(h:sub F F' := by simp [sub,Ab]):Ref n0 F H F' H' := Ref.to hH h
theorem Ref.gc2 {n0:Nat}{F:Frame}{H:Heap}(ks:List Nat){F' : Frame}{H' : Heap}(hk:Ef ks H.length n0=true:=by rfl)(hH:A1 ks H=H' := by (simp only [go_sem,↓reduceIte,Nat.reduceEqDiff,Nat.reduceAdd,reduceCtorEq]<;>rfl))(hF:sub (Hq ks F) F' := by simp [sub,Ab,go_sem,↓reduceIte,Nat.reduceEqDiff,Nat.reduceAdd,reduceCtorEq]):Ref n0 F H F' H' := Ref.gc ks hk hH hF
theorem Jg {P:Program}{H:Heap}{f:FuncId}{args args' : List AV}{H0:Heap}{x:AV}{H1:Heap}{K:AV→Heap→Prop}(h:Fa P f args H0 x H1)(ks:List Nat)(hK:K (shr (Cj ks H.length) 6 x) (Dd ks (D7 (Cj ks H.length) 6 H1) H))(hks:(decide ks.Nodup&&ks.all fun o=>decide (o<H.length))=true:=by first | rfl | simp)(hH:A1 ks H=H0:=by (simp only [go_sem,↓reduceIte,Nat.reduceEqDiff,Nat.reduceAdd,reduceCtorEq]<;>rfl))(ha:args'.map (vw ks H 6)=args:=by (simp only [go_sem,↓reduceIte,Nat.reduceEqDiff,Nat.reduceAdd,reduceCtorEq]<;>rfl))(hx:(nf 6 x&&Db 6 H1)=true:=by first | rfl | simp only [go_sem,↓reduceIte,Nat.reduceEqDiff,Nat.reduceAdd,reduceCtorEq]):CallsX P false f args' H K:=Cc h ks hks hH ha hx hK
theorem Ref.gc1 {n0:Nat}{F:Frame}{H:Heap}(ks:List Nat){F' : Frame}{H' : Heap}(hk:Ef ks H.length n0=true:=by rfl)(hH:A1 ks H=H' := by simp only [go_sem,↓reduceIte,Nat.reduceEqDiff,Nat.reduceAdd,reduceCtorEq])(hF:sub (Hq ks F) F' := by simp [sub,Ab,go_sem,↓reduceIte,Nat.reduceEqDiff,Nat.reduceAdd,reduceCtorEq]):Ref n0 F H F' H' := Ref.gc ks hk hH hF
end
section
variable {P:Program} {N:Nat} {g:Gh} {F:Frame} {H:Heap} {a:Act} {w:World} {M:List Nat} {n0:Nat}
theorem Ref.dead {F' : Frame}(hF:sub (G8 H F) F'):Ref n0 F H F' (Cu H):=fun N g a w hR=>by
 have hm:=O2 hR.hp
 refine ⟨_,⟨fun j=>?_,hm.hp,hR.size,hR.defers⟩,hm.toN⟩
 have h1:=K4 hR.hp 6 _ _ [] (hR.fr j) (by simp)
 have h2:Rd w ((⟨g.ρ,g.ob,fun b=>g.G b∨g.owns H b⟩:Gh).tr (Cu H)) (fun b=>g.G b∨g.owns H b) (Ak H 6 (Ab F j)) (a.tmps.getD j undef) []:=
  h1.mono (fun _ h=>h) (fun _ _=>rfl) (fun _ _ h=>by cases h) (by simp)
 rcases Ki hF j with e | e
 ·rw [e];exact .any
 ·rw [e]
  rcases Sq H F j with e2 | e2
  ·rw [e2];exact h2
  ·rw [e2];exact .any
def LT (P:Program)(b:Bool)(t:GT)(K:Frame→Heap→Prop)(F:Frame)(H:Heap):Prop:=Cf P b t K F H
@[congr] theorem Aem {b:Bool} {t:GT} {K:Frame→Heap→Prop} {F' : Frame} {H' : Heap} (hF:F=F') (hH:H=H'):LT P b t K F H=LT P b t K F' H' := by rw [hF,hH]
theorem Aq {K:Frame→Heap→Prop}(h:K F H):LT P false .fin K F H:=h
theorem As {K:Frame→Heap→Prop}:LT P true .fin K F H:=trivial
theorem Ar {b:Bool}{x:Az}{t:GT}{K:Frame→Heap→Prop}(h:Cm P true x (LT P false t K) F H):LT P b (.reg x t) K F H:=h
theorem N2 {b:Bool}{x:Az}{t:GT}{K:Frame→Heap→Prop}(hz:Ig (Km x.op F))(h:Cm P true x (LT P false t K) F H):LT P b (.regz x t) K F H:=⟨hz,h⟩
theorem Rc {b:Bool}{t:GT}{ds:List Nat}{x:Az}{K:Frame→Heap→Prop}(h:LT P false t (fun F' H' => Cm P false x K (Je H.length F F' ds) (C6 H H')) (G8 H F) (Cu H)):LT P b (.thw t ds x) K F H:=h
theorem Ap {b e:Bool}{x:Az}{t u:GT}{K:Frame→Heap→Prop}(h:Cm P e x (LT P false t K) F H)(k:LT P true u K F H):LT P b (.alt e x t u) K F H:=⟨h,k⟩
theorem Ji {t:GT}{y:ACode}{Q:Exit→Frame→Heap→Prop}(F1:Frame)(H1:Heap)(hE:LT P false t (fun F' H' => Ref n0 F' H' F1 H1) F H)(hy:W P M N n0 y Q F1 H1):V P M N n0 (.alts t) (Dx (W P M N n0 y Q) Q) F H:=
 Kt (G0 (fun F' H' h=>Df h hy) t false F H hE)
theorem hY {t:GT}{y:ACode}{id:Nat}{Q Q' : Exit→Frame→Heap→Prop}(F1:Frame)(H1:Heap)(hE:LT P false t (fun F' H' => Ref n0 F' H' F1 H1) F H)(hy:W P M N n0 y Q F1 H1):V P M N n0 (.alts t) (Hl id (Dx (W P M N n0 y Q) Q')) F H:=
 Kt (G0 (fun F' H' h=>Df h hy) t false F H hE)
theorem iX (n d:Nat)(xs:List Int):(Aa xs).all (C5 n (d+1))=true:=by simp [Aa,C5]
attribute [go_sem] G8 Je C6 Jd Qq C5 iX
theorem Rb {P:Program}{F:Frame}{H:Heap}{b:Bool}{x:Az}{t:GT}{K:Frame→Heap→Prop}(h:Cm P true x (LT P false t K) F H)(hz:Ig (Km x.op F):=by simp only [Q3,Q4,Q5,go_sem,↓reduceIte,Nat.reduceEqDiff,Nat.reduceAdd,reduceCtorEq]):LT P b (.regz x t) K F H:=N2 hz h
end
section
def Bg:Nat→List (Value×AV)→List AV
 | _,[]=>[]
 | n,p :: l=>.ent n p.1 p.2 :: Bg (n+1) l
def B8 (l:List (Value×AV)):List AV:=i64 l.length :: Bg 0 l
theorem Mr:∀ (n:Nat) (l:List (Value×AV)),(Bg n l).length=l.length
 | _,[]=>rfl
 | n,p :: l=>by simp [Bg,Mr (n+1) l]
theorem O5:∀ (n:Nat) (l r:List (Value×AV)),Bg n (l++r)=Bg n l++Bg (n+l.length) r
 | n,[],r=>by simp [Bg]
 | n,p :: l,r=>by simp [Bg,O5 (n+1) l r,Nat.add_assoc,Nat.add_comm 1]
theorem Yd:∀ (n i:Nat) (l:List (Value×AV)) (k:Value) (x:AV),(Bg n l).set i (.ent (n+i) k x)=Bg n (l.set i (k,x))
 | n,i,[],k,x=>by simp [Bg]
 | n,0,p :: l,k,x=>by simp [Bg]
 | n,i+1,p :: l,k,x=>by
  have:=Yd (n+1) i l k x
  rw [show n+1+i=n+(i+1) by omega] at this
  simp [Bg,this]
theorem Yc (f:AV→AV):∀ (n:Nat) (l:List (Value×AV)) (g:AV→AV) (_:∀ b k x,f (.ent b k x) = .ent b k (g x)),(Bg n l).map f=Bg n (l.map fun p=>(p.1,g p.2))
 | _,[],_,_=>rfl
 | n,p :: l,g,h=>by simp [Bg,h,Yc f (n+1) l g h]
def Jj (k:Value):List (Value×AV)→Option (Nat×AV)
 | []=>none
 | p :: l=>if F5 k p.1 then some (0,p.2) else (Jj k l).map fun q=>(q.1+1,q.2)
theorem Pz (k:Value):∀ (n:Nat) (l:List (Value×AV)),Gr k (Bg n l)=(Jj k l).map fun q=>(q.1,n+q.1,q.2)
 | _,[]=>rfl
 | n,p :: l=>by
  simp only [Bg,Gr,Jj]
  by_cases h:F5 k p.1=true
  ·simp [h]
  ·simp only [h,Bool.false_eq_true,if_false,Pz k (n+1) l,Option.map_map]
   congr 1
   funext q
   simp [Nat.add_assoc,Nat.add_comm 1]
/-! ### Integer keys, string keys -/
section
variable {α:Type}
def Co {κ:Type}[BEq κ](n:κ):List (κ×α)→Option (Nat×α)
 | []=>none
 | p :: l=>if n == p.1 then some (0,p.2) else (Co n l).map fun q=>(q.1+1,q.2)
def Bv {κ:Type}[BEq κ](n:κ)(l:List (κ×α)):Option α:=(Co n l).map (·.2)
def Ex {κ:Type}[BEq κ](n:κ)(x:α)(l:List (κ×α)):List (κ×α):=match Co n l with
 | some (i,_)=>l.set i (n,x)
 | none=>l++[(n,x)]
def A4 (f:α→AV)(l:List (Int×α)):List AV:=B8 (l.map fun p=>(.int .i64 p.1,f p.2))
def D8 (f:α→AV)(l:List (ByteArray×α)):List AV:=B8 (l.map fun p=>(.string p.1,f p.2))
theorem Rk (f:α→AV)(n:Int):∀ l:List (Int×α),Jj (.int .i64 n) (l.map fun p=>(.int .i64 p.1,f p.2))=(Co n l).map fun q=>(q.1,f q.2)
 | []=>rfl
 | p :: l=>by
  simp only [List.map_cons,Jj,F5,Co]
  by_cases h:(n == p.1)=true
  ·simp [h]
  ·simp only [h,Bool.false_eq_true,if_false,Rk f n l,Option.map_map]
   rfl
theorem Vg (f:α→AV)(n:ByteArray):∀ l:List (ByteArray×α),Jj (.string n) (l.map fun p=>(.string p.1,f p.2))=(Co n l).map fun q=>(q.1,f q.2)
 | []=>rfl
 | p :: l=>by
  simp only [List.map_cons,Jj,F5,Co]
  by_cases h:(n == p.1)=true
  ·simp [h]
  ·simp only [h,Bool.false_eq_true,if_false,Vg f n l,Option.map_map]
   rfl
theorem tH (f:α→AV)(l:List (Int×α)):Lb (A4 f l)=some (l.length:Int):=by simp [A4,B8,Lb]
theorem Kw {p:AV→Bool}:∀ (n:Nat) (l:List (Value×AV)),(∀ q∈l,∀ b,p (.ent b q.1 q.2)=true)→(Bg n l).all p=true
 | _,[],_=>rfl
 | n,q :: l,h=>by
  simp only [Bg,List.all_cons,Bool.and_eq_true]
  exact ⟨h q (by simp) n,Kw (n+1) l fun q hq=>h q (by simp [hq])⟩
theorem oP (f:α→AV)(l:List (Int×α)):K7 (some .i64) (A4 f l)=true:=by
 simp only [K7,A4,B8,List.drop_succ_cons,List.drop_zero]
 refine Kw 0 _ fun q hq b=>?_
 obtain ⟨p,_,rfl⟩:=List.mem_map.1 hq
 rfl
theorem oQ (f:α→AV)(l:List (ByteArray×α)):K7 none (D8 f l)=true:=by
 simp only [K7,D8,B8,List.drop_succ_cons,List.drop_zero]
 refine Kw 0 _ fun q hq b=>?_
 obtain ⟨p,_,rfl⟩:=List.mem_map.1 hq
 rfl
theorem lY (f:α→AV)(l:List (Int×α)):O4 (A4 f l)=true:=by
 simp only [O4,A4,B8,List.drop_succ_cons,List.drop_zero]
 exact Kw 0 _ fun q hq b=>rfl
theorem lZ (f:α→AV)(l:List (ByteArray×α)):O4 (D8 f l)=true:=by
 simp only [O4,D8,B8,List.drop_succ_cons,List.drop_zero]
 exact Kw 0 _ fun q hq b=>rfl
theorem oN (n:Int):En (some .i64) (.int .i64 n)=true:=by simp [En]
theorem oO (s:ByteArray):En none (.string s)=true:=rfl
theorem tL (f:α→AV)(l:List (Int×α))(n:Int):J3 (.int .i64 n) (A4 f l)=(Bv n l).map f:=by
 simp only [J3,A4,B8,List.drop_succ_cons,List.drop_zero,Pz,Rk,Bv,Option.map_map];rfl
theorem tM (f:α→AV)(l:List (ByteArray×α))(n:ByteArray):J3 (.string n) (D8 f l)=(Bv n l).map f:=by
 simp only [J3,D8,B8,List.drop_succ_cons,List.drop_zero,Pz,Vg,Bv,Option.map_map];rfl
theorem Ty (f:α→AV)(l:List (Int×α))(n:Int):Gr (.int .i64 n) ((A4 f l).drop 1)=(Co n l).map fun q=>(q.1,q.1,f q.2):=by
 simp only [A4,B8,List.drop_succ_cons,List.drop_zero,Pz,Rk,Option.map_map]
 congr 1;funext q;simp
theorem aY (k:Value)(x:AV)(l:List (Value×AV)):Ez k x (B8 l)=B8 (l++[(k,x)]):=by
 simp only [Ez,B8,O5,Bg,List.length_append,List.length_cons,List.length_nil,Nat.zero_add,Int.toNat_natCast]
 congr 1
theorem aX (f:α→AV)(l:List (Int×α))(n:Int)(x:α):Ez (.int .i64 n) (f x) (A4 f l)=A4 f (l++[(n,x)]):=by simp [A4,aY]
theorem bL (f:α→AV)(l:List (Int×α))(n:Int)(x:α):J5 (.int .i64 n) (f x) (A4 f l)=A4 f (Ex n x l):=by
 unfold J5 Ex
 rw [Ty]
 cases h:Co n l with
 | none=>exact aX f l n x
 | some q=>
  obtain ⟨i,y⟩:=q
  simp only [Option.map_some,A4,B8,List.set_cons_succ,List.length_map,List.length_set,List.map_set]
  congr 1
  have:=Yd 0 i (l.map fun p=>(Value.int .i64 p.1,f p.2)) (.int .i64 n) (f x)
  rwa [Nat.zero_add] at this
theorem I1 {h:AV→AV}{g:AV→AV}(hi:∀ n:Int,h (i64 n)=i64 n)(he:∀ b k x,h (.ent b k x) = .ent b k (g x))(l:List (Value×AV)):(B8 l).map h=B8 (l.map fun p=>(p.1,g p.2)):=by
 simp only [B8,List.map_cons,hi,Yc h 0 l g he,List.length_map]
theorem mL (H:Heap)(d:Nat)(f:α→AV)(l:List (Int×α)):(A4 f l).map (Ak H (d+1))=A4 (fun x=>Ak H d (f x)) l:=by
 unfold A4
 rw [I1 (g:=Ak H d) (fun _=>rfl) (fun _ _ _=>rfl),List.map_map];rfl
theorem mO (H:Heap)(d:Nat)(f:α→AV)(l:List (ByteArray×α)):(D8 f l).map (Ak H (d+1))=D8 (fun x=>Ak H d (f x)) l:=by
 unfold D8
 rw [I1 (g:=Ak H d) (fun _=>rfl) (fun _ _ _=>rfl),List.map_map];rfl
theorem Ab7 (n d:Nat)(f:α→AV)(l:List (Int×α)):(A4 f l).map (A5 n (d+1))=A4 (fun x=>A5 n d (f x)) l:=by
 unfold A4
 rw [I1 (g:=A5 n d) (fun _=>rfl) (fun _ _ _=>rfl),List.map_map];rfl
theorem Aca (n d:Nat)(f:α→AV)(l:List (ByteArray×α)):(D8 f l).map (A5 n (d+1))=D8 (fun x=>A5 n d (f x)) l:=by
 unfold D8
 rw [I1 (g:=A5 n d) (fun _=>rfl) (fun _ _ _=>rfl),List.map_map];rfl
theorem Acb (σ:Nat→Nat)(d:Nat)(f:α→AV)(l:List (Int×α)):(A4 f l).map (shr σ (d+1))=A4 (fun x=>shr σ d (f x)) l:=by
 unfold A4
 rw [I1 (g:=shr σ d) (fun _=>rfl) (fun _ _ _=>rfl),List.map_map];rfl
theorem Ace (σ:Nat→Nat)(d:Nat)(f:α→AV)(l:List (ByteArray×α)):(D8 f l).map (shr σ (d+1))=D8 (fun x=>shr σ d (f x)) l:=by
 unfold D8
 rw [I1 (g:=shr σ d) (fun _=>rfl) (fun _ _ _=>rfl),List.map_map];rfl
theorem Abk (τ:Nat→Option Nat)(f:α→AV)(l:List (Int×α)):A9 τ (A4 f l)=A4 (fun x=>An τ (f x)) l:=by
 unfold A4
 rw [Bq,I1 (g:=An τ) (fun _=>by simp [An]) (fun _ _ _=>by simp [An]),List.map_map];rfl
theorem Abn (τ:Nat→Option Nat)(f:α→AV)(l:List (ByteArray×α)):A9 τ (D8 f l)=D8 (fun x=>An τ (f x)) l:=by
 unfold D8
 rw [Bq,I1 (g:=An τ) (fun _=>by simp [An]) (fun _ _ _=>by simp [An]),List.map_map];rfl
theorem uB (d:Nat)(l:List (Value×AV))(h:∀ p∈l,nf d p.2=true):(B8 l).all (nf (d+1))=true:=by
 simp only [B8,List.all_cons,Bool.and_eq_true]
 exact ⟨rfl,Kw 0 l fun q hq b=>by simp only [nf];exact h q hq⟩
theorem uA (d:Nat)(f:α→AV)(l:List (Int×α))(h:∀ x,nf d (f x)=true):(A4 f l).all (nf (d+1))=true:=uB d _ fun p hp=>by
 obtain ⟨q,_,rfl⟩:=List.mem_map.1 hp
 exact h q.2
/-! ### What is found -/
theorem S6 {κ:Type}[BEq κ][LawfulBEq κ]{n:κ}:∀ {l:List (κ×α)} {i:Nat} {x:α},Co n l=some (i,x)→l[i]? = some (n,x)
 | [],i,x,h=>by cases h
 | p :: l,i,x,h=>by
  simp only [Co] at h
  by_cases e:(n == p.1)=true
  ·rw [if_pos e] at h
   simp only [Option.some.injEq,Prod.mk.injEq] at h
   obtain ⟨rfl,rfl⟩:=h
   simp [eq_of_beq e]
  ·rw [if_neg e,Option.map_eq_some_iff] at h
   obtain ⟨⟨j,y⟩,h1,h2⟩:=h
   simp only [Prod.mk.injEq] at h2
   obtain ⟨rfl,rfl⟩:=h2
   simpa using S6 h1
theorem ifind_none {κ:Type}[BEq κ][LawfulBEq κ]{n:κ}:∀ {l:List (κ×α)},Co n l=none ↔ n∉l.map (·.1)
 | []=>by simp [Co]
 | p :: l=>by
  simp only [Co,List.map_cons,List.mem_cons,not_or]
  by_cases e:(n == p.1)=true
  ·simp [e,eq_of_beq e]
  ·rw [if_neg e]
   simp only [Option.map_eq_none_iff,ifind_none (l:=l)]
   constructor
   ·exact fun h=>⟨fun e' => e (by simp [e']),h⟩
   ·exact fun h=>h.2
theorem ilook_none {κ:Type}[BEq κ][LawfulBEq κ]{n:κ}{l:List (κ×α)}:Bv n l=none ↔ n∉l.map (·.1):=by
 unfold Bv;rw [Option.map_eq_none_iff];exact ifind_none
theorem Hu {κ:Type}[BEq κ][LawfulBEq κ]{n:κ}{l:List (κ×α)}{x:α}(h:Bv n l=some x):(n,x)∈l:=by
 unfold Bv at h
 rw [Option.map_eq_some_iff] at h
 obtain ⟨⟨i,y⟩,h1,rfl⟩:=h
 exact List.mem_of_getElem? (S6 h1)
theorem Zc {κ:Type}[BEq κ][LawfulBEq κ]{m:κ}:∀ {l r:List (κ×α)},Bv m (l++r)=(Bv m l).or (Bv m r)
 | [],r=>by simp [Bv,Co]
 | p :: l,r=>by
  have ih:=Zc (m:=m) (l:=l) (r:=r)
  simp only [Bv,List.cons_append,Co] at *
  by_cases e:(m == p.1)=true
  ·simp [e]
  ·simp only [if_neg e,Option.map_map]
   exact ih
theorem Ze {κ:Type}[BEq κ][LawfulBEq κ]{n m:κ}{x:α}:∀ {l:List (κ×α)} {i:Nat} {y:α},Co n l=some (i,y)→Bv m (l.set i (n,x))=if m == n then some x else Bv m l
 | [],i,y,h=>by cases h
 | p :: l,i,y,h=>by
  simp only [Co] at h
  by_cases e:(n == p.1)=true
  ·rw [if_pos e] at h
   simp only [Option.some.injEq,Prod.mk.injEq] at h
   obtain ⟨rfl,rfl⟩:=h
   have e' := eq_of_beq e
   simp only [List.set_cons_zero,Bv,Co,← e']
   by_cases hm:(m == n)=true
   ·simp [hm]
   ·simp [hm]
  ·rw [if_neg e,Option.map_eq_some_iff] at h
   obtain ⟨⟨j,z⟩,h1,h2⟩:=h
   simp only [Prod.mk.injEq] at h2
   obtain ⟨rfl,rfl⟩:=h2
   have ih:=Ze (m:=m) (x:=x) h1
   simp only [List.set_cons_succ,Bv,Co] at *
   by_cases hm:(m == p.1)=true
   ·have:¬ (m == n)=true:=fun h=>e (by rw [← eq_of_beq hm,eq_of_beq h];simp)
    simp [hm,this]
   ·simp only [if_neg hm,Option.map_map]
    exact ih
theorem Zd {κ:Type}[BEq κ][LawfulBEq κ](n m:κ)(x:α)(l:List (κ×α)):Bv m (Ex n x l)=if m == n then some x else Bv m l:=by
 unfold Ex
 cases h:Co n l with
 | none=>
  rw [Zc]
  by_cases hm:(m == n)=true
  ·have e:=eq_of_beq hm
   subst e
   have:Bv m l=none:=by simp [Bv,h]
   rw [this]
   simp [Bv,Co]
  ·simp [hm,Bv,Co]
 | some q=>obtain ⟨i,y⟩:=q;exact Ze h
end
instance:LawfulBEq ByteArray where
 eq_of_beq h:=(Go.MapKept.bytes_beq _ _).1 h
 rfl:=(Go.MapKept.bytes_beq _ _).2 rfl
theorem Aeb (z:List Value):Ie z 0=[]:=by simp [Ie]
theorem Aec (a b:Value):Ie [a,b] 1=[.val a,.val b]:=rfl
attribute [go_sem] Aeb Aec Nat.zero_mul Nat.one_mul
theorem yF (k:IntKind)(n:Int):(Value.int k n).oneCell' = true:=rfl
theorem yH (a:Option Addr)(n c:Nat):(Value.slice a n c).oneCell' = true:=rfl
theorem yC (b:Bool):(Value.bool b).oneCell' = true:=rfl
attribute [go_sem] L8 G2 Option.getD_some yF yH yC Nat.reduceLeDiff
attribute [go_sem] Hc tH oP oQ lY lZ oN oO
attribute [go_sem] tL tM Ty aX bL
attribute [go_sem] mL mO Ab7 Aca Acb Ace Abk Abn
end
section
variable {P:Program} {N:Nat} {g:Gh} {F:Frame} {H:Heap} {a:Act} {w:World} {M:List Nat} {n0:Nat}
theorem Ref.core {H' : Heap}(h:∀ (g:Gh) (w:World),HeapR g H w→∃ g', HeapR g' H' w∧(∀ b,g'.owns H' b→g.owns H b)∧g'.G=g.G∧∀ x d,g.tr H x=some d→g'.tr H' x=some d∨g'.tr H' x=some none):Ref n0 F H F H' := fun N g a w hR=>by
 obtain ⟨g', hp', h1,h2,h3⟩:=h g w hR.hp
 have lift:∀ x v bs,Rd w (g.tr H) g.G x v bs→Rd w (g'.tr H') g'.G x v bs:=fun x v bs h=>h.mono (fun b hb=>h2 ▸ hb) (fun _ _=>rfl) h3 (fun _ _=>rfl)
 exact ⟨g', ⟨fun i=>lift _ _ _ (hR.fr i),hp', hR.size,hR.defers⟩,hp', ⟨rfl,⟨rfl,Nat.le_refl _⟩,rfl,Nat.le_refl _,fun _ _ _=>rfl,fun b hb=>.inl (h1 b hb),fun b hb=>h2 ▸ hb,fun b hb=>.inl (h2 ▸ hb),fun _ _=>rfl⟩,fun x d _ hd=>h3 x d hd⟩
theorem Ref.kill (o:Nat):Ref n0 F H F (H.set o none):=Ref.core fun g w hp=>
 ⟨g,M3 hp o,fun b ⟨o', cs,h1,h2⟩=>⟨o', cs,(Dh h1).2,h2⟩,rfl,fun x d hd=>Lt g H o x d hd⟩
theorem Ref.nilC (o j k:Nat){cs:List AV}(ho:H[o]? = some (some cs))(hj:cs[j]? = some Af):Ref n0 F H F (H.set o (some (cs.set j (.sl H.length k 0 0)))++[some []]):=Ref.core fun g w hp=>by
 obtain ⟨hjl,hje⟩:=List.getElem?_eq_some_iff.1 hj
 have hol:o<H.length:=(List.getElem?_eq_some_iff.1 ho).1
 let H' : Heap:=H.set o (some (cs.set j (.sl H.length k 0 0)))++[some []]
 let g' : Gh:=⟨fun x=>if x=H.length then none else g.ρ x,fun x=>if x=H.length then [] else g.ob x,g.G⟩
 have htr:∀ x d,g.tr H x=some d→g'.tr H' x=some d:=fun x d hd=>by
  have hxl:=Cz hd
  unfold Gh.tr at *
  rw [List.getElem?_append_left (by simpa using hxl)]
  simp only [g', if_neg (Nat.ne_of_lt hxl)]
  by_cases e:o=x
  ·subst e
   rw [List.getElem?_set_self hol]
   rw [ho] at hd
   simpa using hd
  ·rw [List.getElem?_set_ne e];exact hd
 have lift:∀ x v bs,Rd w (g.tr H) g.G x v bs→Rd w (g'.tr H') g'.G x v bs:=fun x v bs h=>h.mono (fun _ h=>h) (fun _ _=>rfl) (fun x d h=>.inl (htr x d h)) (fun _ _=>rfl)
 have hnew:g'.tr H' H.length=some (some (none,0)):=by
  have e1:H'[H.length]? = some (some []):=by simp [H']
  rw [Gh.tr_some e1]
  simp [g']
 refine ⟨g', ⟨?_,?_,?_,?_,hp.low⟩,fun b ⟨x,c,hx,hb⟩=>?_,rfl,fun x d hd=>.inl (htr x d hd)⟩
 ·intro x c hx
  rcases Gb hx hol with ⟨rfl,rfl⟩ | ⟨rfl,h3,rfl⟩ | ⟨h3,h4,h5⟩
  ·simp only [g', if_true]
   exact ObjR.nil
  ·simp only [g', if_neg (Nat.ne_of_lt h3)]
   have h1:=hp.obj x cs ho
   cases hl:g.ρ x with
   | none=>
    rw [hl] at h1
    have h3:=h1.1.gh _ (List.getElem_mem hjl)
    rw [hje] at h3
    cases h3
   | some l=>
    obtain ⟨b,base,sz⟩:=l
    rw [hl] at h1
    obtain ⟨u,bss,hblk,hr,hob⟩:=h1
    refine ⟨u,bss,by simpa using hblk,fun m hm=>?_,by simpa using hob⟩
    simp only [List.length_set] at hm
    by_cases e:m=j
    ·subst e
     have h2:=hr m hjl
     rw [hje] at h2
     obtain ⟨h3,h4⟩:=h2.val_inv
     simp only [List.getElem_set_self]
     rw [h3,h4]
     refine .sl (by rw [hnew];rfl) rfl fun l hl=>?_
     rw [hnew] at hl
     obtain rfl:=Option.some.inj (Option.some.inj hl)
     exact ⟨by dsimp only;omega,rfl,none,rfl⟩
    ·rw [List.getElem_set_ne (Ne.symm e)]
     exact lift _ _ _ (hr m hm)
  ·simp only [g', if_neg (Nat.ne_of_lt h4)]
   exact (hp.obj x c h5).mono (fun _ h=>h) (fun _ _=>rfl) (fun x d h=>.inl (htr x d h)) (fun _ _=>rfl)
 ·intro x c hx
  rcases Gb hx hol with ⟨rfl,rfl⟩ | ⟨rfl,h3,rfl⟩ | ⟨h3,h4,h5⟩
  ·simp [g']
  ·simp only [g', if_neg (Nat.ne_of_lt h3)];exact hp.nodup x cs ho
  ·simp only [g', if_neg (Nat.ne_of_lt h4)];exact hp.nodup x c h5
 ·intro x y c d hx hy hxy b' hb1 hb2
  have hx' : x=H.length∨∃ c', x<H.length∧H[x]? = some (some c'):=by
   rcases Gb hx hol with ⟨h,_⟩ | ⟨rfl,h3,_⟩ | ⟨_,h4,h5⟩
   ·exact .inl h
   ·exact .inr ⟨cs,h3,ho⟩
   ·exact .inr ⟨c,h4,h5⟩
  have hy' : y=H.length∨∃ c', y<H.length∧H[y]? = some (some c'):=by
   rcases Gb hy hol with ⟨h,_⟩ | ⟨rfl,h3,_⟩ | ⟨_,h4,h5⟩
   ·exact .inl h
   ·exact .inr ⟨cs,h3,ho⟩
   ·exact .inr ⟨d,h4,h5⟩
  rcases hx' with rfl | ⟨c', h1,h2⟩
  ·simp [g'] at hb1
  ·rcases hy' with rfl | ⟨d', h3,h4⟩
   ·simp [g'] at hb2
   ·simp only [g', if_neg (Nat.ne_of_lt h1)] at hb1
    simp only [g', if_neg (Nat.ne_of_lt h3)] at hb2
    exact hp.apart x y c' d' h2 h4 hxy b' hb1 hb2
 ·intro x c hx b' hb1
  rcases Gb hx hol with ⟨rfl,rfl⟩ | ⟨rfl,h3,rfl⟩ | ⟨h3,h4,h5⟩
  ·simp [g'] at hb1
  ·simp only [g', if_neg (Nat.ne_of_lt h3)] at hb1;exact hp.free x cs ho b' hb1
  ·simp only [g', if_neg (Nat.ne_of_lt h4)] at hb1;exact hp.free x c h5 b' hb1
 ·rcases Gb hx hol with ⟨rfl,rfl⟩ | ⟨rfl,h3,rfl⟩ | ⟨h3,h4,h5⟩
  ·simp [g'] at hb
  ·simp only [g', if_neg (Nat.ne_of_lt h3)] at hb;exact ⟨x,cs,ho,hb⟩
  ·simp only [g', if_neg (Nat.ne_of_lt h4)] at hb;exact ⟨x,c,h5,hb⟩
theorem eO (hp : HeapR g H w) {o2 k n : Nat} {cs2 : List AV} {v : Value} {y : List Nat} (h2 : H[o2]? = some (some cs2)) (hlen : cs2.length = n * k) (h : Rd w (g.tr H) g.G (.sl o2 k 0 n) v y) :
    y=[]∧∃ bs', bs'.Sublist (g.ob o2)∧Rd w (g.tr H) g.G (.osl k n cs2) v bs' := by
 cases h with
 | sl h0 hv h=>
  refine ⟨rfl,?_⟩
  obtain ⟨_,hS⟩:=h _ (Gh.tr_some (g:=g) h2)
  have h3:=hp.obj o2 cs2 h2
  dsimp only at hS
  cases hl2:g.ρ o2 with
  | none=>
   rw [hl2] at hS h3
   obtain ⟨rfl,a0,rfl⟩:=hS
   obtain rfl:cs2=[]:=List.eq_nil_of_length_eq_zero (by simpa using hlen)
   exact ⟨[],List.nil_sublist _,.osl0⟩
  | some l2=>
   obtain ⟨b2,base2,sz2⟩:=l2
   rw [hl2] at hS h3
   obtain ⟨cap,hn,hm,hs,hv⟩:=hS
   obtain ⟨arr2,elem2,u2,bss2,hb2,hsz2,hbase2,hc2,hr2,hob2⟩:=h3.cells (by omega)
   subst hsz2
   rcases hv with rfl | ⟨rfl,a0,rfl⟩
   ·refine ⟨g.ob o2,List.Sublist.refl _,?_⟩
    rw [hob2]
    exact .osl (elem:=elem2) u2 bss2 hlen hn hm hb2 (by omega) hc2 hr2
   ·have:n=0:=by omega
    subst this
    have:cs2=[]:=List.eq_nil_of_length_eq_zero (by simpa using hlen)
    subst this
    exact ⟨[],List.nil_sublist _,.osl0⟩
theorem Vf (o : Nat) (ks : List Nat) {cs cs' : List AV} (ho : H[o]? = some (some cs)) (hln : cs'.length = cs.length) (hno : o ∉ ks) (hal : ∀ x ∈ ks, ∃ c, H[x]? = some (some c)) (hnd : ks.Nodup)
    (h:∀ (g:Gh) (w:World),HeapR g H w→∃ nb bsx,ObjR w (g.tr H) g.G cs' nb (g.ρ o)∧nb.Perm (bsx++g.ob o)∧bsx.Sublist (ks.flatMap g.ob)):Ref n0 F H F (C2 ks (H.set o (some cs'))):=Ref.core fun g w hp=>by
 obtain ⟨nb,bsx,hobj,hperm,hsub⟩:=h g w hp
 have hol:o<H.length:=(List.getElem?_eq_some_iff.1 ho).1
 let H1:Heap:=H.set o (some cs')
 let H' : Heap:=C2 ks H1
 let g' : Gh:=⟨g.ρ,fun x=>if x=o then nb else g.ob x,g.G⟩
 have hget:∀ x c,H'[x]? = some (some c)→x∉ks∧((x=o∧c=cs')∨(x≠o∧H[x]? = some (some c))):=fun x c hx=>by
  obtain ⟨h1,h2⟩:=Gn ks H1 x c hx
  exact ⟨h1,I7 h2⟩
 have hmem:∀ y,y∈nb→(∃ x c,x∈ks∧H[x]? = some (some c)∧y∈g.ob x)∨y∈g.ob o:=fun y hy=>by
  rcases List.mem_append.1 (hperm.mem_iff.1 hy) with h1 | h1
  ·obtain ⟨x,hx,hyx⟩:=List.mem_flatMap.1 (hsub.subset h1)
   obtain ⟨c,hc⟩:=hal x hx
   exact .inl ⟨x,c,hx,hc,hyx⟩
  ·exact .inr h1
 have htr:∀ x d,g.tr H x=some d→g'.tr H' x=some d∨g'.tr H' x=some none:=fun x d hd=>by
  have h1:g'.tr H1 x=some d:=by
   unfold Gh.tr at *
   by_cases e:o=x
   ·subst e
    simp only [H1,List.getElem?_set_self hol]
    rw [ho] at hd
    simpa [g', hln] using hd
   ·simp only [H1,List.getElem?_set_ne e];exact hd
  exact Po ks x d h1
 have lift:∀ {cs bs l},ObjR w (g.tr H) g.G cs bs l→ObjR w (g'.tr H') g'.G cs bs l:=fun h=>h.mono (fun _ h=>h) (fun _ _=>rfl) htr (fun _ _=>rfl)
 have hnk:∀ (l:List Nat),l.Nodup→(∀ x∈l,∃ c,H[x]? = some (some c))→(l.flatMap g.ob).Nodup:=fun l=>by
  induction l with
  | nil=>intro _ _;simp
  | cons x l ih=>
   intro hn hx
   rw [List.flatMap_cons,List.nodup_append]
   obtain ⟨c,hc⟩:=hx x (by simp)
   refine ⟨hp.nodup x c hc,ih (List.nodup_cons.1 hn).2 (fun y hy=>hx y (by simp [hy])),fun y hy z hz e=>?_⟩
   obtain ⟨x2,hx2,hz2⟩:=List.mem_flatMap.1 hz
   obtain ⟨c2,hc2⟩:=hx x2 (by simp [hx2])
   exact hp.apart x x2 c c2 hc hc2 (fun e2=>(List.nodup_cons.1 hn).1 (e2 ▸ hx2)) y hy (e ▸ hz2)
 refine ⟨g', ⟨?_,?_,?_,?_,hp.low⟩,fun b ⟨x,c,hx,hb⟩=>?_,rfl,htr⟩
 ·intro x c hx
  obtain ⟨h3,⟨rfl,rfl⟩ | ⟨h4,h5⟩⟩:=hget x c hx
  ·show ObjR w _ _ _ (g'.ob x) (g.ρ x)
   have e2:g'.ob x=nb:=by simp [g']
   rw [e2];exact lift hobj
  ·have e2:g'.ob x=g.ob x:=by simp [g', h4]
   show ObjR w _ _ _ (g'.ob x) (g.ρ x)
   rw [e2];exact lift (hp.obj x c h5)
 ·intro x c hx
  obtain ⟨h3,⟨rfl,rfl⟩ | ⟨h4,h5⟩⟩:=hget x c hx
  ·have e2:g'.ob x=nb:=by simp [g']
   rw [e2,hperm.nodup_iff,List.nodup_append]
   refine ⟨hsub.nodup (hnk ks hnd hal),hp.nodup x cs ho,fun y hy z hz e=>?_⟩
   obtain ⟨x2,hx2,hy2⟩:=List.mem_flatMap.1 (hsub.subset hy)
   obtain ⟨c2,hc2⟩:=hal x2 hx2
   exact hp.apart x2 x c2 cs hc2 ho (fun e2=>hno (e2 ▸ hx2)) y hy2 (e ▸ hz)
  ·have e2:g'.ob x=g.ob x:=by simp [g', h4]
   rw [e2];exact hp.nodup x c h5
 ·intro x y c d hx hy hxy b' h1 h4
  obtain ⟨h5,⟨rfl,rfl⟩ | ⟨h6,h7⟩⟩:=hget x c hx<;>obtain ⟨k5,⟨rfl,rfl⟩ | ⟨k6,k7⟩⟩:=hget y d hy
  ·exact hxy rfl
  ·simp only [g', if_true] at h1
   simp only [g', if_neg k6] at h4
   rcases hmem b' h1 with ⟨x2,c2,hx2,hc2,h⟩ | h
   ·exact hp.apart x2 y c2 d hc2 k7 (fun e=>k5 (e ▸ hx2)) b' h h4
   ·exact hp.apart x y cs d ho k7 (Ne.symm k6) b' h h4
  ·simp only [g', if_neg h6] at h1
   simp only [g', if_true] at h4
   rcases hmem b' h4 with ⟨x2,c2,hx2,hc2,h⟩ | h
   ·exact hp.apart x x2 c c2 h7 hc2 (fun e=>h5 (e ▸ hx2)) b' h1 h
   ·exact hp.apart x y c cs h7 ho h6 b' h1 h
  ·simp only [g', if_neg h6] at h1
   simp only [g', if_neg k6] at h4
   exact hp.apart x y c d h7 k7 hxy b' h1 h4
 ·intro x c hx b' h1
  obtain ⟨h5,⟨rfl,rfl⟩ | ⟨h6,h7⟩⟩:=hget x c hx
  ·simp only [g', if_true] at h1
   rcases hmem b' h1 with ⟨x2,c2,hx2,hc2,h⟩ | h
   ·exact hp.free x2 c2 hc2 b' h
   ·exact hp.free x cs ho b' h
  ·simp only [g', if_neg h6] at h1
   exact hp.free x c h7 b' h1
 ·obtain ⟨h5,⟨rfl,rfl⟩ | ⟨h6,h7⟩⟩:=hget x c hx
  ·simp only [g', if_true] at hb
   rcases hmem b hb with ⟨x2,c2,hx2,hc2,h⟩ | h
   ·exact ⟨x2,c2,hc2,h⟩
   ·exact ⟨x,cs,ho,h⟩
  ·simp only [g', if_neg h6] at hb
   exact ⟨x,c,h7,hb⟩
theorem lX {tr : Nat → Option (Option Bc)} {G : Nat → Prop} {cs : List AV} {i b : Nat} {kv : Value} {x x' : AV} {Pr : List Nat → Prop} {ob : List Nat} {r base sz : Nat} (hi : cs[i]? = some (.ent b kv x)) (h1 : ObjR w tr G [.mpc cs] ob (some (r, base, sz)))
    (hx:∀ v bs,Rd w tr G x v bs→bs=[]∧∃ nb0,Pr nb0∧Rd w tr G x' v nb0):∃ nb nb0,ObjR w tr G [.mpc (cs.set i (.ent b kv x'))] nb (some (r,base,sz))∧nb.Perm (nb0++ob)∧Pr nb0:=by
 obtain ⟨u,bss,hblk,hr,hob⟩:=h1
 obtain ⟨hil,hie⟩:=List.getElem?_eq_some_iff.1 hi
 have h0:=hr 0 (by simp)
 simp only [List.getElem_cons_zero] at h0
 have hob' : ob=r :: bss 0:=by rw [hob];simp [List.range_succ]
 generalize bss 0=bs0 at h0 hob'
 generalize hu:u 0=u0 at h0
 cases h0 with
 | mpc bss' hbs' hl' hr' =>
  rename_i vs
  have h2:=hr' i hil
  rw [hie] at h2
  generalize hbi:bss' i=bsi at h2
  generalize hvi:vs.getD i undef=vi at h2
  cases h2 with
  | ent h3=>
   obtain ⟨rfl,nb0,hPr,h4⟩:=hx _ _ h3
   let bss2:Nat→List Nat:=fun m=>if m=i then nb0 else bss' m
   have hp2:((List.range cs.length).flatMap bss2).Perm (nb0++(List.range cs.length).flatMap bss'):=O9 hil hbi nb0
   refine ⟨r :: (List.range cs.length).flatMap bss2,nb0,⟨u,fun _=>(List.range cs.length).flatMap bss2,hblk,fun m hm=>?_,by simp [List.range_succ]⟩,?_,hPr⟩
   ·simp only [List.length_cons,List.length_nil,Nat.zero_add] at hm
    obtain rfl:m=0:=by omega
    simp only [List.getElem_cons_zero]
    rw [hu]
    refine .mpc bss2 (by rw [List.length_set]) (by rw [List.length_set];exact hl') fun m hm=>?_
    simp only [List.length_set] at hm
    by_cases e:m=i
    ·subst e
     simp only [List.getElem_set_self,bss2,if_true]
     rw [hvi]
     exact .ent h4
    ·rw [List.getElem_set_ne (Ne.symm e)]
     simp only [bss2,if_neg e]
     exact hr' m hm
   ·rw [hob', hbs']
    exact (hp2.cons r).trans List.perm_middle.symm
theorem Ref.closeP (o i o2 o3 : Nat) {cs c2 c3 : List AV} {b n2 n3 : Nat} {kv : Value} (ho : H[o]? = some (some [.mpc cs])) (hi : cs[i]? = some (.ent b kv (.agg [.sl o2 1 0 n2, .sl o3 1 0 n3]))) (h2 : H[o2]? = some (some c2)) (h3 : H[o3]? = some (some c3)) (hne : o ≠ o2 ∧ o ≠ o3 ∧ o2 ≠ o3) (hl2 : c2.length = n2) (hl3 : c3.length = n3) :
    Ref n0 F H F (C2 [o2,o3] (H.set o (some [.mpc (cs.set i (.ent b kv (.oag [.osl 1 n2 c2,.osl 1 n3 c3])))]))):=Vf o [o2,o3] ho rfl (by simp [hne]) (by simpa using ⟨⟨c2,h2⟩,⟨c3,h3⟩⟩) (by simp [hne]) fun g w hp=>by
 have h1:=hp.obj o _ ho
 cases hl:g.ρ o with
 | none=>rw [hl] at h1;exact absurd (h1.1.gh _ (List.mem_singleton.2 rfl)) (by simp [Ht])
 | some l=>
  obtain ⟨r,base,sz⟩:=l
  rw [hl] at h1
  obtain ⟨nb,nb0,h4,h5,h6⟩:=lX (Pr:=fun l=>∃ l2 l3,l=l2++l3∧l2.Sublist (g.ob o2)∧l3.Sublist (g.ob o3)) (x' := .oag [.osl 1 n2 c2,.osl 1 n3 c3]) hi h1 fun v bs h=>by
   cases h with
   | agg hla hra=>
    rename_i vs
    have e2:=hra 0 (by simp)
    have e3:=hra 1 (by simp)
    simp only [List.getElem_cons_zero,List.getElem_cons_succ] at e2 e3
    obtain ⟨_,l2,s2,r2⟩:=eO hp h2 (by omega) e2
    obtain ⟨_,l3,s3,r3⟩:=eO hp h3 (by omega) e3
    refine ⟨rfl,l2++l3,⟨l2,l3,rfl,s2,s3⟩,.oag (fun m=>if m=0 then l2 else l3) (by simp [List.range_succ]) (by simpa using hla) fun m hm=>?_⟩
    match m,hm with
    | 0,_=>exact r2
    | 1,_=>exact r3
  obtain ⟨l2,l3,rfl,s2,s3⟩:=h6
  exact ⟨nb,_,h4,h5,by simpa using s2.append s3⟩
end
section
variable {P:Program} {N:Nat} {g:Gh} {F:Frame} {H:Heap} {a:Act} {w:World} {M:List Nat} {n0:Nat}
def Dg (P:Program)(f:FuncId)(args:List AV)(H0:Heap){α:Type}(Q:α→Prop)(x:α→AV)(H1:α→Heap):Prop:=CallsX P false f args H0 fun av H' => ∃ o,Q o∧av=x o∧H' = H1 o
theorem fO {f : FuncId} {ac : ACode} {rs : List AOp} {args : List AV} {H0 : Heap} {α : Type} {Q : α → Prop} {x : α → AV} {H1 : α → Heap} (ks : List Nat) (hc : Ai P M f = some (N, ac, rs)) (hl : decide (args.length ≤ N) = true)
    (h:V P M N H0.length ac (D2 rs fun av H' => Ef ks H'.length H0.length=true∧∃ o,Q o∧An (A7 ks 0) av=x o∧A1 ks H' = H1 o) (Cv 0 args) H0):Dg P f args H0 Q x H1:=
 CallsX.gcW ks (G4 hc (of_decide_eq_true hl) (Al h)) fun _ _ ⟨h1,o,h2,h3,h4⟩=>⟨h1,o,h2,h3,h4⟩
theorem Kl {f : FuncId} {args args' : List AV} {H0 : Heap} {α : Type} {Q : α → Prop} {x : α → AV} {H1 : α → Heap} {K : AV → Heap → Prop} (h : Dg P f args H0 Q x H1) (ks : List Nat) (hks : (decide ks.Nodup && ks.all fun o => decide (o < H.length)) = true) (hH : A1 ks H = H0) (ha : args'.map (vw ks H 6) = args)
    (hx:∀ o,(nf 6 (x o)&&Db 6 (H1 o))=true) (hK:∀ o,Q o→K (shr (Cj ks H.length) 6 (x o)) (Dd ks (D7 (Cj ks H.length) 6 (H1 o)) H)):CallsX P false f args' H K:=by
 simp only [Bool.and_eq_true,decide_eq_true_eq,List.all_eq_true] at hks
 exact (CallsX.liftW ks 6 6 h hks.1 hks.2 hH ha.symm (by rintro av H' ⟨o,_,rfl,rfl⟩;exact Bool.and_eq_true_iff.1 (hx o))).mono (by rintro av H' ⟨av0,H0', ⟨o,ho,rfl,rfl⟩,rfl,rfl⟩;exact hK o ho)
theorem dL {ext : Bool} {f : FuncId} {args args' : List AV} {α : Type} {Q : α → Prop} {x : α → AV} {H0 : α → Heap} {K : AV → Heap → Prop} (h : B1 P f args Q x H0) (ha : (args'.map (Ak H 6)).map (An fun _ => none) = args)
    (hK:∀ o,Q o→K (An (Ge H.length) (x o)) (Cu H++He H.length (H0 o))):CallsX P ext f args' H K:=by
 refine CallsX.freeze ((CallsX.weak (CallsX.liftG h ha.symm)).mono ?_)
 rintro av H' ⟨av0,H1,⟨o,ho,rfl,rfl⟩,rfl,rfl⟩
 have:=hK o ho
 rwa [show H.length=(Cu H).length by simp [Cu]] at this
def Gs (k n:Nat)(o:Nat):Option Nat:=some (if o=k then n else o)
def Eo (k:Nat)(H:Heap):Heap:=((H.map (Option.map (A9 (Gs k H.length)))).set k none)++[(H.getD k none).map (A9 (Gs k H.length))]
def Na (k n:Nat)(F:Frame):Frame:=F.map fun p=>(p.1,An (Gs k n) p.2)
theorem bO (k n:Nat):∀ (F:Frame) (j:Nat),Ab (Na k n F) j=An (Gs k n) (Ab F j)∨Ab (Na k n F) j = .any
 | [],_=>.inr rfl
 | (i,x) :: l,j=>by
  simp only [Na,List.map_cons,Dk]
  by_cases e:i=j
  ·rw [if_pos e,if_pos e];exact .inl rfl
  ·rw [if_neg e,if_neg e];exact bO k n l j
theorem Ref.mv (k:Nat){cs:List AV}(hk:H[k]? = some (some cs)){F' : Frame}{H' : Heap}(hH:Eo k H=H')(hF:sub (Na k H.length F) F'):Ref n0 F H F' H' := fun N g a w hR=>by
 subst hH
 have hp:=hR.hp
 have hkl:k<H.length:=(List.getElem?_eq_some_iff.1 hk).1
 let n:=H.length
 let g' : Gh:=⟨fun x=>if x=n then g.ρ k else g.ρ x,fun x=>if x=n then g.ob k else g.ob x,g.G⟩
 have hgd:H.getD k none=some cs:=by simp [hk]
 have hat:∀ x,x<n→x≠k→(Eo k H)[x]? = (H[x]?).map (Option.map (A9 (Gs k n))):=fun x hx hne=>by
  unfold Eo
  rw [List.getElem?_append_left (by simpa using hx),List.getElem?_set_ne (Ne.symm hne),List.getElem?_map]
 have hatk:(Eo k H)[k]? = some none:=by
  unfold Eo
  rw [List.getElem?_append_left (by simpa using hkl),List.getElem?_set_self (by simpa using hkl)]
 have hatn:(Eo k H)[n]? = some (some (A9 (Gs k n) cs)):=by
  unfold Eo
  rw [List.getElem?_append_right (by simp [n]),hgd]
  simp [n]
 have htrn:g'.tr (Eo k H) n=some (some (g.ρ k,cs.length)):=by
  rw [Gh.tr_some hatn];simp [g', Bq]
 have htr:∀ x d,x≠k→g.tr H x=some d→g'.tr (Eo k H) x=some d:=fun x d hne hd=>by
  have hxl:=Cz hd
  unfold Gh.tr at *
  rw [hat x hxl hne]
  simp only [g', if_neg (Nat.ne_of_lt hxl)]
  rw [List.getElem?_eq_getElem hxl] at hd ⊢
  cases hh:H[x] with
  | none=>rw [hh] at hd;simpa using hd
  | some c=>
   rw [hh] at hd
   have hxn:¬ x=n:=Nat.ne_of_lt hxl
   simpa [Bq,g', hxn] using hd
 have hτ:∀ o o' d,Gs k n o=some o' → g.tr H o=some d→g'.tr (Eo k H) o' = some d∨g'.tr (Eo k H) o' = some none:=fun o o' d ho hd=>by
  left
  unfold Gs at ho
  obtain rfl:=Option.some.inj ho
  by_cases e:o=k
  ·rw [if_pos e,htrn]
   subst e
   rw [Gh.tr_some hk] at hd
   exact hd
  ·rw [if_neg e];exact htr o d e hd
 have hal:∀ x c,(Eo k H)[x]? = some (some c)→(x=n∧c=A9 (Gs k n) cs)∨(x≠k∧x<n∧∃ c0,H[x]? = some (some c0)∧c=A9 (Gs k n) c0):=fun x c hx=>by
  rcases Nat.lt_trichotomy x n with h | h | h
  ·by_cases e:x=k
   ·subst e;rw [hatk] at hx;cases hx
   ·rw [hat x h e,Option.map_eq_some_iff] at hx
    obtain ⟨y,hy,he⟩:=hx
    rw [Option.map_eq_some_iff] at he
    obtain ⟨c0,rfl,rfl⟩:=he
    exact .inr ⟨e,h,c0,hy,rfl⟩
  ·subst h
   rw [hatn] at hx
   exact .inl ⟨rfl,(Option.some.inj (Option.some.inj hx)).symm⟩
  ·rw [List.getElem?_eq_none (by simp [Eo];omega)] at hx;cases hx
 have hp' : HeapR g' (Eo k H) w:=by
  refine ⟨?_,?_,?_,?_,hp.low⟩
  ·intro x c hx
   rcases hal x c hx with ⟨rfl,rfl⟩ | ⟨h1,h2,c0,h3,rfl⟩
   ·simp only [g', if_true]
    rw [Bq]
    exact (hp.obj k cs hk).tell (An _) (fun _ _=>rfl) (fun x _ v bs' _ hr=>Fm hτ hr) (fun hn _=>⟨Iv (hn ▸ hp.obj k cs hk).1,fun _ h=>h,fun _ _=>rfl⟩)
   ·simp only [g', if_neg (Nat.ne_of_lt h2)]
    rw [Bq]
    exact (hp.obj x c0 h3).tell (An _) (fun _ _=>rfl) (fun x _ v bs' _ hr=>Fm hτ hr) (fun hn _=>⟨Iv (hn ▸ hp.obj x c0 h3).1,fun _ h=>h,fun _ _=>rfl⟩)
  ·intro x c hx
   rcases hal x c hx with ⟨rfl,rfl⟩ | ⟨h1,h2,c0,h3,rfl⟩
   ·simp only [g', if_true];exact hp.nodup k cs hk
   ·simp only [g', if_neg (Nat.ne_of_lt h2)];exact hp.nodup x c0 h3
  ·intro x y c d hx hy hxy b' hb1 hb2
   rcases hal x c hx with ⟨rfl,rfl⟩ | ⟨h1,h2,c0,h3,rfl⟩<;>rcases hal y d hy with ⟨rfl,rfl⟩ | ⟨k1,k2,d0,k3,rfl⟩
   ·exact hxy rfl
   ·simp only [g', if_true] at hb1;simp only [g', if_neg (Nat.ne_of_lt k2)] at hb2
    exact hp.apart k y cs d0 hk k3 (Ne.symm k1) b' hb1 hb2
   ·simp only [g', if_true] at hb2;simp only [g', if_neg (Nat.ne_of_lt h2)] at hb1
    exact hp.apart x k c0 cs h3 hk h1 b' hb1 hb2
   ·simp only [g', if_neg (Nat.ne_of_lt h2)] at hb1;simp only [g', if_neg (Nat.ne_of_lt k2)] at hb2
    exact hp.apart x y c0 d0 h3 k3 hxy b' hb1 hb2
  ·intro x c hx b' hb1
   rcases hal x c hx with ⟨rfl,rfl⟩ | ⟨h1,h2,c0,h3,rfl⟩
   ·simp only [g', if_true] at hb1;exact hp.free k cs hk b' hb1
   ·simp only [g', if_neg (Nat.ne_of_lt h2)] at hb1;exact hp.free x c0 h3 b' hb1
 refine ⟨g', ⟨fun j=>?_,hp', hR.size,hR.defers⟩,hp', ⟨rfl,⟨rfl,Nat.le_refl _⟩,rfl,Nat.le_refl _,fun _ _ _=>rfl,fun b' ⟨x,c,hx,hb1⟩=>.inl ?_,fun _ h=>h,fun _ h=>.inl h,fun _ _=>rfl⟩,fun x d _ hd=>?_⟩
 ·rcases Ki hF j with e | e
  ·rw [e];exact .any
  ·rw [e]
   rcases bO k H.length F j with e2 | e2
   ·rw [e2];exact Fm hτ (hR.fr j)
   ·rw [e2];exact .any
 ·rcases hal x c hx with ⟨rfl,rfl⟩ | ⟨h1,h2,c0,h3,rfl⟩
  ·simp only [g', if_true] at hb1;exact ⟨k,cs,hk,hb1⟩
  ·simp only [g', if_neg (Nat.ne_of_lt h2)] at hb1;exact ⟨x,c0,h3,hb1⟩
 ·by_cases e:x=k
  ·subst e
   right
   have:=hatk
   unfold Gh.tr
   rw [this]
  ·exact .inl (htr x d e hd)
attribute [go_sem] Eo Na Gs
end
section
variable {P:Program} {N:Nat} {g:Gh} {F:Frame} {H:Heap} {a:Act} {w:World} {M:List Nat} {n0:Nat}
theorem CallsX.refW {ext:Bool}{f:FuncId}{args:List AV}{H0:Heap}{K K' : AV→Heap→Prop}(h:CallsX P ext f args H0 K')(hk:∀ av H', K' av H' → ∃ av2 H2,Ref H0.length [(0,av)] H' [(0,av2)] H2∧K av2 H2):CallsX P ext f args H0 K:=
 fun g w vals hp hl hr=>(h g w vals hp hl hr).mono fun _ w' ⟨v,g', av,H', he,hm,hx,hex,hkk⟩=>by
  obtain ⟨av2,H2,h1,h2⟩:=hk av H' hkk
  have hR:R 1 g' [(0,av)] H' { tmps:=#[v],defers:=[] } w' := by
   refine ⟨fun j=>?_,hm.hp,rfl,rfl⟩
   simp only [Dk]
   by_cases e:0=j
   ·rw [if_pos e];subst e;exact hx
   ·rw [if_neg e];exact .any
  obtain ⟨g2,hR2,hm2⟩:=h1 1 g' _ w' hR
  have hx2:=hR2.fr 0
  simp only [Dk,if_true] at hx2
  have hmn:MvN H0.length g H0 w g2 H2 w' := (hm.toN).trans hm2
  exact ⟨v,g2,_,_,he,MvN.toMv hp hmn,hx2,hex,h2⟩
theorem Lw {f:FuncId}{ac:ACode}{rs:List AOp}{args:List AV}{H0:Heap}{x:AV}{H1:Heap}(hc:Ai P M f=some (N,ac,rs))(hl:decide (args.length≤N)=true)(h:V P M N H0.length ac (D2 rs fun av H' => Ref H0.length [(0,av)] H' [(0,x)] H1) (Cv 0 args) H0):Fa P f args H0 x H1:=
 CallsX.refW (G4 hc (of_decide_eq_true hl) (Al h)) fun _ _ h=>⟨_,_,h,rfl,rfl⟩
theorem Fq {f : FuncId} {ac : ACode} {rs : List AOp} {args : List AV} {H0 : Heap} {α : Type} {Q : α → Prop} {x : α → AV} {H1 : α → Heap} (hc : Ai P M f = some (N, ac, rs)) (hl : decide (args.length ≤ N) = true)
    (h:V P M N H0.length ac (D2 rs fun av H' => ∃ o,Q o∧Ref H0.length [(0,av)] H' [(0,x o)] (H1 o)) (Cv 0 args) H0):Dg P f args H0 Q x H1:=
 CallsX.refW (G4 hc (of_decide_eq_true hl) (Al h)) fun _ _ ⟨o,h1,h2⟩=>⟨_,_,h2,o,h1,rfl,rfl⟩
theorem Au {f:FuncId}{ac:ACode}{rs:List AOp}{args:List AV}{x:AV}{H1:Heap}(hc:Ai P M f=some (N,ac,rs))(hl:decide (args.length≤N)=true)(h:V P M N 0 ac (D2 rs fun av H' => Ref 0 [(0,av)] H' [(0,x)] H1) (Cv 0 args) []):Pure P f args x H1:=
 CallsX.refW (CallsX.ext_nil (G4 (H:=[]) hc (of_decide_eq_true hl) (Al h))) fun _ _ h=>⟨_,_,h,rfl,rfl⟩
theorem E5 {f : FuncId} {ac : ACode} {rs : List AOp} {args : List AV} {α : Type} {Q : α → Prop} {x : α → AV} {H1 : α → Heap} (hc : Ai P M f = some (N, ac, rs)) (hl : decide (args.length ≤ N) = true)
    (h:V P M N 0 ac (D2 rs fun av H' => ∃ o,Q o∧Ref 0 [(0,av)] H' [(0,x o)] (H1 o)) (Cv 0 args) []):B1 P f args Q x H1:=
 CallsX.refW (CallsX.ext_nil (G4 (H:=[]) hc (of_decide_eq_true hl) (Al h))) fun _ _ ⟨o,h1,h2⟩=>⟨_,_,h2,o,h1,rfl,rfl⟩
end
section
variable {P:Program} {N:Nat} {g:Gh} {F:Frame} {H:Heap} {a:Act} {w:World} {M:List Nat} {n0:Nat}
def E7 (g:Gh)(ks:List Nat)(H:Heap):Gh:=⟨fun o=>g.ρ (ks.getD o 0),fun o=>g.ob (ks.getD o 0),g.G⟩
theorem Qk {ks:List Nat}(hlt:∀ o∈ks,o<H.length){o' o:Nat}(ho:ks[o']? = some o):(E7 g ks H).tr (A1 ks H) o' = g.tr H o:=by
 have hl:o<H.length:=hlt o (List.mem_of_getElem? ho)
 have e1:(A1 ks H)[o']? = some (G9 ks (H.getD o none)):=by simp only [A1,List.getElem?_map,ho,Option.map_some]
 have e2:H[o]? = some (H.getD o none):=by simp [hl]
 have e3:(E7 g ks H).ρ o' = g.ρ o:=by simp [E7,List.getD,ho]
 unfold Gh.tr
 rw [e1,e2,e3]
 cases H.getD o none with
 | none=>rfl
 | some cs=>simp only [G9,Bq,List.length_map]
theorem Ll {ks:List Nat}(hlt:∀ o∈ks,o<H.length){o' : Nat}{c:List AV}(h:(A1 ks H)[o']? = some (some c)):∃ o cs,ks[o']? = some o∧H[o]? = some (some cs)∧c=A9 (A7 ks 0) cs∧(E7 g ks H).ρ o' = g.ρ o∧(E7 g ks H).ob o' = g.ob o:=by
 simp only [A1,List.getElem?_map,Option.map_eq_some_iff] at h
 obtain ⟨o,ho,he⟩:=h
 have hl:o<H.length:=hlt o (List.mem_of_getElem? ho)
 cases hc:H.getD o none with
 | none=>rw [hc] at he;cases he
 | some cs=>
  rw [hc] at he
  refine ⟨o,cs,ho,?_,(Option.some.inj he).symm,by simp [E7,List.getD,ho],by simp [E7,List.getD,ho]⟩
  have:H[o]? = some (H.getD o none):=by simp [hl]
  rw [this,hc]
theorem Ab4 {ks:List Nat}(hp:HeapR g H w)(hnd:ks.Nodup)(hlt:∀ o∈ks,o<H.length):HeapR (E7 g ks H) (A1 ks H) w:=by
 have hτ:∀ o o' d,A7 ks 0 o=some o' → g.tr H o=some d→(E7 g ks H).tr (A1 ks H) o' = some d∨(E7 g ks H).tr (A1 ks H) o' = some none:=fun o o' d h hd=>by
  obtain ⟨m,rfl,hm⟩:=Fh ks 0 o o' h
  left;rw [Nat.zero_add,Qk hlt hm,hd]
 have hinj:∀ i j o,ks[i]? = some o→ks[j]? = some o→i=j:=fun i j o hi hj=>by
  obtain ⟨hi1,hi2⟩:=List.getElem?_eq_some_iff.1 hi
  obtain ⟨hj1,hj2⟩:=List.getElem?_eq_some_iff.1 hj
  exact (List.getElem_inj hnd).1 (hi2.trans hj2.symm)
 refine ⟨?_,?_,?_,?_,?_⟩
 ·intro o' c ho
  obtain ⟨o,cs,hk,hc,rfl,e1,e2⟩:=Ll (g:=g) hlt ho
  rw [e1,e2]
  have h1:=hp.obj o cs hc
  rw [Bq]
  exact h1.tell (An _) (fun _ _=>rfl) (fun x _ v bs' _ hr=>Fm hτ hr) (fun hn _=>⟨Iv (hn ▸ h1).1,fun _ h=>h,fun _ _=>rfl⟩)
 ·intro o' c ho
  obtain ⟨o,cs,hk,hc,rfl,e1,e2⟩:=Ll (g:=g) hlt ho
  rw [e2];exact hp.nodup o cs hc
 ·intro o' o2' c c2 ho ho2 hne b hb
  obtain ⟨o,cs,hk,hc,rfl,e1,e2⟩:=Ll (g:=g) hlt ho
  obtain ⟨o2,cs2,hk2,hc2,rfl,e12,e22⟩:=Ll (g:=g) hlt ho2
  rw [e2] at hb
  rw [e22]
  refine hp.apart o o2 cs cs2 hc hc2 (fun e=>hne ?_) b hb
  subst e;exact hinj _ _ _ hk hk2
 ·intro o' c ho b hb
  obtain ⟨o,cs,hk,hc,rfl,e1,e2⟩:=Ll (g:=g) hlt ho
  rw [e2] at hb
  exact hp.free o cs hc b hb
 ·exact fun b h=>hp.low b h
def I8 (ks:List Nat)(n:Nat)(o:Nat):Option Nat:=some (Cj ks n o)
def Ke (ks:List Nat)(n:Nat)(H:Heap):Heap:=H.map (Option.map (A9 (I8 ks n)))
theorem CallsX.liftF {ext : Bool} {f : FuncId} {args args' : List AV} {H0 : Heap} {K : AV → Heap → Prop} (ks : List Nat) (h : CallsX P ext f args H0 K) (hnd : ks.Nodup) (hlt : ∀ o ∈ ks, o < H.length) (hH0 : A1 ks H = H0) (ha : args = args'.map (An (A7 ks 0))) :
    CallsX P ext f args' H fun av H' => ∃ av0 H1,K av0 H1∧av=An (I8 ks H.length) av0∧H' = Dd ks (Ke ks H.length H1) H:=by
 intro g w vals hp hl hr
 subst hH0
 refine (h (E7 g ks H) w vals (Ab4 hp hnd hlt) (by rw [ha];simpa using hl) (fun m hm=>?_)).mono ?_
 ·subst ha
  simp only [List.getElem_map]
  exact Fm (fun o o' d h hd=>by
   obtain ⟨m,rfl,hm⟩:=Fh ks 0 o o' h
   left;rw [Nat.zero_add,Qk hlt hm,hd]) (hr m (by simpa using hm))
 ·rintro e w' ⟨v,g1,av,H1,he,hm,hx,hE,hk⟩
  have hsz:=hm.stp.size
  have hown0:∀ b,(E7 g ks H).owns (A1 ks H) b→∃ o cs,o∈ks∧H[o]? = some (some cs)∧b∈g.ob o:=fun b ⟨o', c,ho,hb⟩=>by
   obtain ⟨o,cs,hk,hc,rfl,e1,e2⟩:=Ll (g:=g) hlt ho
   exact ⟨o,cs,List.mem_of_getElem? hk,hc,by rwa [e2] at hb⟩
  have hkeepG:∀ b,g.G b→w'.heap[b]? = w.heap[b]?:=fun b hb=>hm.stp.keep b (hp.low b hb) fun ho=>by
   obtain ⟨o,cs,_,hc,hbo⟩:=hown0 b ho
   exact hp.free o cs hc b hbo hb
  have hkeepO:∀ o cs,H[o]? = some (some cs)→o∉ks→∀ b∈g.ob o,w'.heap[b]? = w.heap[b]?:=fun o cs ho hn b hb=>hm.stp.keep b ((hp.obj o cs ho).all_lt b hb) fun hon=>by
   obtain ⟨o2,cs2,h2,hc2,hbo⟩:=hown0 b hon
   exact hp.apart o o2 cs cs2 ho hc2 (fun e=>hn (e ▸ h2)) b hb hbo
  have hlen:ks.length≤H1.length:=by
   rcases Nat.eq_zero_or_pos ks.length with h0 | h0
   ·omega
   ·obtain ⟨o,ho⟩:∃ o,ks[ks.length - 1]? = some o:=⟨_,List.getElem?_eq_getElem (by omega)⟩
    have h1:(E7 g ks H).tr (A1 ks H) (ks.length - 1)=g.tr H o:=Qk hlt ho
    have hol:=hlt o (List.mem_of_getElem? ho)
    have h2:∃ d,g.tr H o=some d:=by
     unfold Gh.tr
     rw [List.getElem?_eq_getElem hol]
     cases H[o]<;>exact ⟨_,rfl⟩
    obtain ⟨dd,hdd⟩:=h2
    have h3:ks.length - 1<H1.length:=by
     rcases hm.trk _ _ (h1.trans hdd) with h | h<;>exact Cz h
    omega
  let σ:=Cj ks H.length
  let H2:=Ke ks H.length H1
  let H' := Dd ks H2 H
  have hlen2:ks.length≤H2.length:=by simpa [H2,Ke] using hlen
  let inv:Nat→Nat:=fun o=>match A7 ks 0 o with
   | some i=>i
   | none=>o - H.length+ks.length
  let isN:Nat→Bool:=fun o=>(A7 ks 0 o).isSome || decide (H.length≤o)
  let g' : Gh:=⟨fun o=>if isN o then g1.ρ (inv o) else g.ρ o,fun o=>if isN o then g1.ob (inv o) else g.ob o,g1.G⟩
  have gcT_of:∀ (l:List Nat) (i o m:Nat),l.Nodup→l[m]? = some o→A7 l i o=some (i+m):=fun l=>by
   induction l with
   | nil=>intro i o m _ h;simp at h
   | cons k l ih=>
    intro i o m hn h
    cases m with
    | zero => obtain rfl : k = o := by simpa using h
              simp [A7]
    | succ m=>
     have h' : l[m]? = some o:=by simpa using h
     have hne:o≠k:=fun e=>(List.nodup_cons.1 hn).1 (e ▸ List.mem_of_getElem? h')
     rw [A7,if_neg hne,ih (i+1) o m (List.nodup_cons.1 hn).2 h']
     congr 1;omega
  have gcT_no:∀ o,o∉ks→A7 ks 0 o=none:=fun o ho=>by
   cases hg:A7 ks 0 o with
   | none=>rfl
   | some i=>
    obtain ⟨m,_,hm⟩:=Fh ks 0 o i hg
    exact absurd (List.mem_of_getElem? hm) ho
  have hisO:∀ o,o∉ks→o<H.length→isN o=false:=fun o h1 h2=>by simp [isN,gcT_no o h1];omega
  have hisN:∀ i o,Cj ks H.length i=o→(ks[i]? = some o∨(ks.length≤i∧H.length≤o))→isN o=true∧inv o=i:=fun i o hs h=>by
   rcases h with h | ⟨h1,h2⟩
   ·have:=gcT_of ks 0 o i hnd h
    rw [Nat.zero_add] at this
    exact ⟨by simp [isN,this],by simp [inv,this]⟩
   ·have hno:o∉ks:=fun hm=>by have:=hlt o hm;omega
    rw [I9 ks _ _ h1] at hs
    refine ⟨by simp [isN];omega,?_⟩
    simp only [inv,gcT_no o hno]
    omega
  have hinv:∀ o cs,H'[o]? = some (some cs)→(o∉ks∧o<H.length∧H[o]? = some (some cs))∨∃ i c,H1[i]? = some (some c)∧cs=A9 (I8 ks H.length) c∧isN o=true∧inv o=i:=fun o cs ho=>by
   rcases dN ks H2 H hnd hlt hlen2 o _ ho with h | ⟨i,h1,h2,h3⟩
   ·exact .inl h
   ·right
    simp only [H2,Ke,List.getElem?_map,Option.map_eq_some_iff] at h1
    obtain ⟨x,hx,he⟩:=h1
    obtain ⟨c,rfl,rfl⟩:=he
    exact ⟨i,c,hx,rfl,hisN i o h2 h3⟩
  have htrO:∀ o d,o∉ks→g.tr H o=some d→g'.tr H' o=some d:=fun o dd hn ho=>by
   have hlo:=Cz ho
   unfold Gh.tr at *
   rw [Ng ks H2 H o hlo hn]
   simp only [g', hisO o hn hlo]
   exact ho
  have htrN:∀ i d,g1.tr H1 i=some d→g'.tr H' (σ i)=some d:=fun i dd hi=>by
   have hli:=Cz hi
   have hat:H'[σ i]? = H2[i]? ∧ isN (σ i)=true∧inv (σ i)=i:=by
    rcases Nat.lt_or_ge i ks.length with h1 | h1
    ·have h2:ks[i]? = some ks[i]:=List.getElem?_eq_getElem h1
     have e:σ i=ks[i]:=Hg ks _ i _ h2
     rw [e]
     exact ⟨Qc ks H2 H i _ hnd hlt hlen2 h2,hisN i _ (Hg ks _ i _ h2) (.inl h2)⟩
    ·have e:σ i=H.length+(i - ks.length):=I9 ks _ i h1
     exact ⟨by rw [e];exact Qd ks H2 H i hlen2 h1,hisN i _ rfl (.inr ⟨h1,by rw [e];omega⟩)⟩
   obtain ⟨h1,h2,h3⟩:=hat
   unfold Gh.tr at *
   rw [h1]
   simp only [H2,Ke,List.getElem?_map,g', h2,h3,if_true]
   rw [List.getElem?_eq_getElem hli] at hi ⊢
   cases hh:H1[i] with
   | none=>rw [hh] at hi;simpa using hi
   | some cs=>rw [hh] at hi;simpa [Bq] using hi
  have hτN:∀ o o' d,I8 ks H.length o=some o' → g1.tr H1 o=some d→g'.tr H' o' = some d∨g'.tr H' o' = some none:=fun o o' dd h hd=>by
   obtain rfl:=Option.some.inj h
   exact .inl (htrN o dd hd)
  have htr:∀ o d,g.tr H o=some d→g'.tr H' o=some d∨g'.tr H' o=some none:=fun o dd ho=>by
   by_cases hm' : o∈ks
   ·obtain ⟨i,hi⟩:=List.mem_iff_getElem?.1 hm'
    have e:σ i=o:=Hg ks _ i o hi
    have h1:(E7 g ks H).tr (A1 ks H) i=some dd:=by rw [Qk hlt hi];exact ho
    rw [← e]
    exact (hm.trk i dd h1).imp (htrN i dd) (htrN i none)
   ·exact .inl (htrO o dd hm' ho)
  have hfr:∀ i c,H1[i]? = some (some c)→∀ b∈g1.ob i,(∃ o cs,o∈ks∧H[o]? = some (some cs)∧b∈g.ob o)∨w.heap.size≤b:=fun i c hi b hb=>
   (hm.stp.own b ⟨i,c,hi,hb⟩).imp (hown0 b) id
  have hp' : HeapR g' H' w' := by
   refine ⟨?_,?_,?_,?_,fun b hb=>hm.hp.low b hb⟩
   ·intro o cs ho
    rcases hinv o cs ho with ⟨hn,hlo,ho'⟩ | ⟨i,c,hi,rfl,hN,hI⟩
    ·simp only [g', hisO o hn hlo]
     exact (hp.obj o cs ho').mono hm.stp.gin hkeepG htr (hkeepO o cs ho' hn)
    ·simp only [g', hN,hI,if_true]
     have h1:=hm.hp.obj i c hi
     exact (Bq (I8 ks H.length) c ▸ h1.tell (An _) (fun _ _=>rfl) (fun x hx v bs' _ hr=>Fm hτN hr) (fun hn _=>⟨Iv (hn ▸ h1).1,fun _ h=>h,fun _ _=>rfl⟩))
   ·intro o cs ho
    rcases hinv o cs ho with ⟨hn,hlo,ho'⟩ | ⟨i,c,hi,rfl,hN,hI⟩
    ·simp only [g', hisO o hn hlo];exact hp.nodup o cs ho'
    ·simp only [g', hN,hI,if_true];exact hm.hp.nodup i c hi
   ·intro o o2 cs cs2 ho ho2 hne b h1 h2
    rcases hinv o cs ho with ⟨hn,hlo,ho'⟩ | ⟨i,c,hi,rfl,hN,hI⟩<;>rcases hinv o2 cs2 ho2 with ⟨hn2,hlo2,ho2'⟩ | ⟨i2,c2,hi2,rfl,hN2,hI2⟩
    ·simp only [g', hisO o hn hlo] at h1;simp only [g', hisO o2 hn2 hlo2] at h2;exact hp.apart o o2 cs cs2 ho' ho2' hne b h1 h2
    ·simp only [g', hisO o hn hlo] at h1;simp only [g', hN2,hI2,if_true] at h2
     rcases hfr i2 c2 hi2 b h2 with ⟨o3,cs3,h3,h4,h5⟩ | h
     ·exact hp.apart o o3 cs cs3 ho' h4 (fun e=>hn (e ▸ h3)) b h1 h5
     ·have:=(hp.obj o cs ho').all_lt b h1;omega
    ·simp only [g', hN,hI,if_true] at h1;simp only [g', hisO o2 hn2 hlo2] at h2
     rcases hfr i c hi b h1 with ⟨o3,cs3,h3,h4,h5⟩ | h
     ·exact hp.apart o2 o3 cs2 cs3 ho2' h4 (fun e=>hn2 (e ▸ h3)) b h2 h5
     ·have:=(hp.obj o2 cs2 ho2').all_lt b h2;omega
    ·simp only [g', hN,hI,if_true] at h1;simp only [g', hN2,hI2,if_true] at h2
     refine hm.hp.apart i i2 c c2 hi hi2 (fun e=>hne ?_) b h1 h2
     subst e
     have:∀ o,isN o=true→σ (inv o)=o:=fun o hN=>by
      simp only [isN,Bool.or_eq_true,decide_eq_true_eq,Option.isSome_iff_exists] at hN
      rcases hN with ⟨j,hj⟩ | hge
      ·obtain ⟨m,rfl,hm⟩:=Fh ks 0 o j hj
       simp only [inv,hj,Nat.zero_add]
       exact Hg ks _ m o hm
      ·have hno:o∉ks:=fun hm=>by have:=hlt o hm;omega
       simp only [inv,gcT_no o hno]
       show Cj ks H.length _=o
       rw [I9 ks _ _ (by omega)];omega
     rw [← this o hN,← this o2 hN2,hI,hI2]
   ·intro o cs ho b h1 hG
    rcases hinv o cs ho with ⟨hn,hlo,ho'⟩ | ⟨i,c,hi,rfl,hN,hI⟩
    ·simp only [g', hisO o hn hlo] at h1
     rcases hm.stp.gout b hG with h | h | h
     ·exact hp.free o cs ho' b h1 h
     ·obtain ⟨o3,cs3,h3,h4,h5⟩:=hown0 b h
      exact hp.apart o o3 cs cs3 ho' h4 (fun e=>hn (e ▸ h3)) b h1 h5
     ·have:=(hp.obj o cs ho').all_lt b h1;omega
    ·simp only [g', hN,hI,if_true] at h1
     exact hm.hp.free i c hi b h1 hG
  refine ⟨v,g', An (I8 ks H.length) av,H', he,⟨hp', ⟨hm.stp.os,hm.stp.tape,hm.stp.output,hsz,fun b hb hno=>hm.stp.keep b hb fun ho=>?_,fun b ⟨o,cs,ho,h1⟩=>?_,hm.stp.gin,fun b h=>(hm.stp.gout b h).imp id (Or.imp (fun h=>(hown0 b h).elim fun o ⟨cs,_,h4,h5⟩=>⟨o,cs,h4,h5⟩) id),hm.stp.fz⟩,
   fun x v h=>h.mono hm.stp.gin hkeepG htr (by simp),htr⟩,Fm hτN hx,hE,av,H1,hk,rfl,rfl⟩
  ·obtain ⟨o,cs,_,hc,hbo⟩:=hown0 b ho
   exact hno ⟨o,cs,hc,hbo⟩
  ·rcases hinv o cs ho with ⟨hn,hlo,ho'⟩ | ⟨i,c,hi,rfl,hN,hI⟩
   ·left;simp only [g', hisO o hn hlo] at h1;exact ⟨o,cs,ho', h1⟩
   ·simp only [g', hN,hI,if_true] at h1
    exact (hfr i c hi b h1).imp (fun ⟨o3,cs3,h3,h4,h5⟩=>⟨o3,cs3,h4,h5⟩) id
attribute [go_sem] I8 Ke
end
section
variable {P:Program} {N:Nat} {g:Gh} {F:Frame} {H:Heap} {a:Act} {w:World} {M:List Nat} {n0:Nat}
def Dp (ks:List Nat)(H:Heap):AV→AV
 | .clo f fs cs=>vw ks H 6 (.clo f fs cs)
 | .sl o k off len=>vw ks H 6 (.sl o k off len)
 | .ref o j=>vw ks H 6 (.ref o j)
 | x=>An (A7 ks 0) x
def Fp (ks:List Nat)(H:Heap):Heap:=ks.map fun o=>(H.getD o none).map (List.map (Dp ks H))
def Lu (ks:List Nat)(H:Heap)(F:Frame):Frame:=F.map fun p=>(p.1,vw ks H 6 p.2)
theorem fG (ks:List Nat)(H:Heap):∀ (F:Frame) (j:Nat),Ab (Lu ks H F) j=vw ks H 6 (Ab F j)∨Ab (Lu ks H F) j = .any
 | [],_=>.inr rfl
 | (i,x) :: l,j=>by
  simp only [Lu,List.map_cons,Dk]
  by_cases e:i=j
  ·rw [if_pos e,if_pos e];exact .inl rfl
  ·rw [if_neg e,if_neg e];exact fG ks H l j
theorem Adt (g:Gh)(ks:List Nat)(H:Heap)(o:Nat):g.tr (Fp ks H) o=g.tr (A1 ks H) o:=by
 unfold Gh.tr
 simp only [Fp,A1,List.getElem?_map]
 cases ks[o]? with
 | none=>rfl
 | some k=>
  simp only [Option.map_some]
  cases H.getD k none with
  | none=>rfl
  | some cs=>simp only [Option.map_some,G9,List.length_map,Bq]
theorem Ref.sel (ks:List Nat){F' : Frame}{H' : Heap}(hk:Ef ks H.length n0=true)(hH:Fp ks H=H')(hF:sub (Lu ks H F) F'):Ref n0 F H F' H' := fun N g a w hR=>by
 subst hH
 simp only [Ef,Bool.and_eq_true,decide_eq_true_eq,List.all_eq_true] at hk
 obtain ⟨⟨hnd,hlt⟩,h0⟩:=hk
 have hp:=hR.hp
 have hq:=eG (ks:=ks) hp hnd hlt
 have htr:(By g ks H).tr (Fp ks H)=(By g ks H).tr (A1 ks H):=funext fun o=>Adt _ ks H o
 have hτ:∀ o o' d,A7 ks 0 o=some o' → g.tr H o=some d→(By g ks H).tr (Fp ks H) o' = some d∨(By g ks H).tr (Fp ks H) o' = some none:=fun o o' d h hd=>by
  obtain ⟨m,rfl,hm⟩:=Fh ks 0 o o' h
  left;rw [htr,Nat.zero_add,Gu hlt hm,hd]
 have hal:∀ o' c,(Fp ks H)[o']? = some (some c)→∃ o cs,ks[o']? = some o∧H[o]? = some (some cs)∧c=cs.map (Dp ks H)∧(By g ks H).ρ o' = g.ρ o∧(By g ks H).ob o' = g.ob o∧(A1 ks H)[o']? = some (some (A9 (A7 ks 0) cs)):=fun o' c h=>by
  simp only [Fp,List.getElem?_map,Option.map_eq_some_iff] at h
  obtain ⟨o,ho,he⟩:=h
  have hl:o<H.length:=hlt o (List.mem_of_getElem? ho)
  obtain ⟨cs,hc,he⟩:=he
  refine ⟨o,cs,ho,?_,he.symm,by simp [By,List.getD,ho],by simp [By,List.getD,ho],?_⟩
  ·have:H[o]? = some (H.getD o none):=by simp [hl]
   rw [this,hc]
  ·simp only [A1,List.getElem?_map,ho,Option.map_some,hc,G9]
 have hp' : HeapR (By g ks H) (Fp ks H) w:=by
  refine ⟨?_,?_,?_,?_,hq.low⟩
  ·intro o' c ho
   obtain ⟨o,cs,hk,hc,rfl,e1,e2,_⟩:=hal o' c ho
   rw [e1,e2]
   refine (hp.obj o cs hc).tell (Dp ks H) (fun _ _=>rfl) (fun x _ v bs' _ hr=>?_) (fun hn _=>⟨fun x hx hg=>?_,fun _ h=>.inl h,fun _ _=>rfl⟩)
   rotate_left
   ·have h2:=Iv (τ:=A7 ks 0) (hn ▸ hp.obj o cs hc).1 x hx hg
    unfold Dp
    split
    ·cases hg
    ·cases hg
    ·cases hg
    ·exact h2
   have hr2:Rd w ((By g ks H).tr (Fp ks H)) (By g ks H).G (An (A7 ks 0) x) v bs' := (Fm hτ hr).mono (fun _ h=>.inl h) (fun _ _=>rfl) (fun _ _ h=>.inl h) (fun _ _=>rfl)
   have hv:bs' = []→Rd w ((By g ks H).tr (Fp ks H)) (By g ks H).G (vw ks H 6 x) v bs' := fun e=>by
    subst e
    rw [htr]
    exact Ux hp hlt 6 x v hr
   unfold Dp
   split
   ·exact hv (by cases hr;rfl)
   ·exact hv (by cases hr;rfl)
   ·exact hv (by cases hr;rfl)
   ·exact hr2
  ·intro o' c ho
   obtain ⟨o,cs,hk,hc,rfl,e1,e2,e3⟩:=hal o' c ho
   exact hq.nodup o' _ e3
  ·intro o' o2' c c2 ho ho2 hne b hb
   obtain ⟨_,_,_,_,_,_,_,e3⟩:=hal o' c ho
   obtain ⟨_,_,_,_,_,_,_,e4⟩:=hal o2' c2 ho2
   exact hq.apart o' o2' _ _ e3 e4 hne b hb
  ·intro o' c ho b hb
   obtain ⟨_,_,_,_,_,_,_,e3⟩:=hal o' c ho
   exact hq.free o' _ e3 b hb
 refine ⟨By g ks H,⟨fun j=>?_,hp', hR.size,hR.defers⟩,hp', ⟨rfl,⟨rfl,Nat.le_refl _⟩,rfl,Nat.le_refl _,fun _ _ _=>rfl,fun b ⟨o', c,ho,hb⟩=>.inl ?_,fun _ h=>.inl h,fun b h=>?_,fun _ _=>rfl⟩,fun o d ho hd=>.inl ?_⟩
 ·rcases Ki hF j with e | e
  ·rw [e];exact .any
  ·rw [e]
   rcases fG ks H F j with e2 | e2
   ·rw [e2,htr];exact Ux hp hlt 6 _ _ (hR.fr j)
   ·rw [e2];exact .any
 ·obtain ⟨o,cs,hk,hc,rfl,e1,e2,_⟩:=hal o' c ho
  rw [e2] at hb
  exact ⟨o,cs,hc,hb⟩
 ·rcases h with h | ⟨o,cs,h1,h2⟩
  ·exact .inl h
  ·exact .inr (.inl ⟨o,cs,(Gn ks H o cs h1).2,h2⟩)
 ·have : ks[o]? = some o := by
    have h1:(ks.take n0)[o]? = (List.range n0)[o]?:=by rw [h0]
    rw [List.getElem?_take_of_lt ho,List.getElem?_range ho] at h1
    exact h1
  rw [htr,Gu hlt this,hd]
theorem Ref.tell (o:Nat)(f:AV→AV){cs:List AV}(ho:H[o]? = some (some cs))(hf:∀ x,x∈cs→∀ (w:World) tr G v bs,Rd w tr G x v bs→Rd w tr G (f x) v bs)(hgh:cs.any Ht=false:=by first | rfl | simp [Ht]):Ref n0 F H F (H.set o (some (cs.map f))):=Ref.core fun g w hp=>by
 have hol:o<H.length:=(List.getElem?_eq_some_iff.1 ho).1
 have htr:g.tr (H.set o (some (cs.map f)))=g.tr H:=funext fun x=>by
  unfold Gh.tr
  by_cases e:o=x
  ·subst e
   rw [List.getElem?_set_self hol,ho]
   simp
  ·rw [List.getElem?_set_ne e]
 have hal:∀ x c,(H.set o (some (cs.map f)))[x]? = some (some c)→∃ c0,H[x]? = some (some c0)∧(x=o∧c0=cs∧c=cs.map f∨x≠o∧c=c0):=fun x c h=>by
  by_cases e:o=x
  ·subst e
   rw [List.getElem?_set_self hol] at h
   exact ⟨cs,ho,.inl ⟨rfl,rfl,(Option.some.inj (Option.some.inj h)).symm⟩⟩
  ·rw [List.getElem?_set_ne e] at h
   exact ⟨c,h,.inr ⟨fun h=>e h.symm,rfl⟩⟩
 refine ⟨g,⟨?_,?_,?_,?_,hp.low⟩,?_,rfl,fun x d hd=>.inl (by rw [htr];exact hd)⟩
 ·intro x c hx
  obtain ⟨c0,h1,⟨rfl,rfl,rfl⟩ | ⟨h2,rfl⟩⟩:=hal x c hx
  ·rw [htr]
   exact (hp.obj _ _ h1).tell f (fun _ _=>rfl) (fun y hy v bs' _ hr=>hf y hy _ _ _ _ _ hr) (fun _ ⟨y,hy,hg⟩=>absurd hg (by have:=List.any_eq_false.1 hgh y hy;simpa using this))
  ·rw [htr];exact hp.obj _ _ h1
 ·intro x c hx
  obtain ⟨c0,h1,_⟩:=hal x c hx
  exact hp.nodup x c0 h1
 ·intro x y c d hx hy hne b hb
  obtain ⟨c0,h1,_⟩:=hal x c hx
  obtain ⟨d0,k1,_⟩:=hal y d hy
  exact hp.apart x y c0 d0 h1 k1 hne b hb
 ·intro x c hx b hb
  obtain ⟨c0,h1,_⟩:=hal x c hx
  exact hp.free x c0 h1 b hb
 ·rintro b ⟨x,c,hx,hb⟩
  obtain ⟨c0,h1,_⟩:=hal x c hx
  exact ⟨x,c0,h1,hb⟩
attribute [go_sem] Fp Lu Dp
theorem Ref.sel1 {n0:Nat}{F:Frame}{H:Heap}(ks:List Nat){F' : Frame}{H' : Heap}(hk:Ef ks H.length n0=true:=by rfl)(hH:Fp ks H=H' := by simp only [go_sem,↓reduceIte,Nat.reduceEqDiff,Nat.reduceAdd,reduceCtorEq])(hF:sub (Lu ks H F) F' := by simp [sub,Ab,go_sem,↓reduceIte,Nat.reduceEqDiff,Nat.reduceAdd,reduceCtorEq]):Ref n0 F H F' H' := Ref.sel ks hk hH hF
end
section
variable {P:Program} {N:Nat} {g:Gh} {F:Frame} {H:Heap} {a:Act} {w:World} {M:List Nat} {n0:Nat}
theorem Bb {f : FuncId} {args args' : List AV} {H0 : Heap} {α : Type} {Q : α → Prop} {x : α → AV} {H1 : α → Heap} {K : AV → Heap → Prop} (h : Dg P f args H0 Q x H1) (ks : List Nat) (hks : (decide ks.Nodup && ks.all fun o => decide (o < H.length)) = true) (hH : A1 ks H = H0) (ha : args'.map (An (A7 ks 0)) = args)
    (hK:∀ o,Q o→K (An (I8 ks H.length) (x o)) (Dd ks (Ke ks H.length (H1 o)) H)):CallsX P false f args' H K:=by
 simp only [Bool.and_eq_true,decide_eq_true_eq,List.all_eq_true] at hks
 exact (CallsX.liftF ks h hks.1 hks.2 hH ha.symm).mono (by rintro av H' ⟨av0,H0', ⟨o,ho,rfl,rfl⟩,rfl,rfl⟩;exact hK o ho)
theorem fV {p q X Y:Prop}{α:Type}(C:α→Prop){J:α→Prop}(hx:p→(∀ o,C o→J o)→X)(hy:q→(∀ o,C o→J o)→Y)(hn:∀ o,C o→J o):Br p q X Y:=⟨fun h=>hx h hn,fun h=>hy h hn⟩
theorem Vd {z:ACode}{Q:Exit→Frame→Heap→Prop}{α:Type}(C:α→Prop)(F1:α→Frame)(H1:α→Heap)(hn:∀ o,C o→W P M N n0 z Q (F1 o) (H1 o))(o:α)(ho:C o)(hr:Ref n0 F H (F1 o) (H1 o)):W P M N n0 z Q F H:=Df hr (hn o ho)
end
section
variable {P:Program} {N:Nat} {g:Gh} {F:Frame} {H:Heap} {a:Act} {w:World} {M:List Nat} {n0:Nat}
theorem CallsX.slc0 {ext:Bool}{f:FuncId}{K:AV→Heap→Prop}{k:Nat}(h:∀ (b:Option Addr) (cap:Nat),CallsX P ext f [.val (.slice b 0 cap)] H K):CallsX P ext f [.slc k 0 []] H K:=fun g w vals hp hl hr=>by
 have h0:=hr 0 (by simp)
 simp only [List.getElem_cons_zero] at h0
 have key:∀ b cap,vals.getD 0 undef = .slice b 0 cap→Calls P f vals w fun e w' => ∃ v g' av H', e = .returned v∧Mv g H w g' H' w' ∧ Rd w' (g'.tr H') g'.G av v []∧(ext=true→Ext w w')∧K av H' := fun b cap e=>by
  refine h b cap g w vals hp hl fun m hm=>?_
  obtain rfl:m=0:=by simpa using hm
  simp only [List.getElem_cons_zero]
  rw [e]
  exact .val
 generalize hv:vals.getD 0 undef=v at h0
 cases h0 with
 | slc u _ _ _ _ _ _=>exact key _ _ hv
 | slc0 hm=>exact key _ _ hv
end
end Go.Gov
