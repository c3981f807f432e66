/- Texts that belong together. -/
import Derived.Attr
import Derived.Test.YtaekhhaaphgndaaGreatZd
set_option linter.unusedSimpArgs false
set_option linter.unusedVariables false
namespace Go.Gov
section
theorem map_shr_ints (σ:Nat→Nat)(d:Nat)(xs:List Int):(intsC xs).map (shr σ d)=intsC xs:=by cases d<;>simp [intsC,shr]
theorem map_shr_bools (σ:Nat→Nat)(d:Nat)(xs:List Bool):(boolsC xs).map (shr σ d)=boolsC xs:=by cases d<;>simp [boolsC,shr]
theorem shr_oints (σ:Nat→Nat)(d:Nat)(xs:List Int):shr σ d (oints xs)=oints xs:=by
 cases d with
 | zero=>rfl
 | succ d=>simp only [oints,shr];rw [map_shr_ints]
theorem map_shr_orows (σ:Nat→Nat)(d:Nat)(xss:List (List Int)):(xss.map oints).map (shr σ d)=xss.map oints:=by
 rw [List.map_map];exact List.map_congr_left fun xs _=>shr_oints σ d xs
attribute [go_sem] EvOps EvT EvG EvGrd_some isQuiet qOk qVal putF ax
attribute [go_sem] st stOk get_put if_true if_false Option.map_some Option.map_none gcond
attribute [go_sem] binOk binV intOk intV isSh isEq cellsAt thenA ghoAt ghoOf
attribute [go_sem] blockA endQ retQ_none retQ_one retQ_two retQ_three mkF fget
attribute [go_sem] argsOk List.map_cons List.map_nil isExt evLoud loOf hiOf loOk
attribute [go_sem] slOk conOk conV true_and and_true Bool.false_eq_true Bool.true_eq_false beqT
attribute [go_sem] beqF condQ len_intsC len_boolsC List.length_map getD_intsC getD_boolsC getD_rows
attribute [go_sem] plain_intsC plain_boolsC plain_rows plain_val plain_slc plain_pto plain_sl plain_ref
attribute [go_sem] plain_any List.getD_cons_zero List.getD_cons_succ List.length_cons List.length_nil Int.toNat_natCast toNat_pred toNat_succ
attribute [go_sem] Nat.mul_one Nat.zero_add Nat.add_zero implies_true and_self cond_f cond_t decide_eq_true_eq
attribute [go_sem] decide_eq_false_iff_not Int.not_le Int.not_lt ge_iff_le gt_iff_lt imp_self cond_true cond_false
attribute [go_sem] Bool.and_self_left Bool.and_false Bool.false_and Bool.or_false Bool.or_true Bool.false_or Bool.true_or Bool.and_self
attribute [go_sem] Bool.or_self Bool.not_not false_implies true_implies gcond_bl Bool.not_true Bool.not_false cells_agg
attribute [go_sem] cells_i64 cells_bl cells_nil cells_str cells_slc cells_pto cells_sl cells_ref
attribute [go_sem] cells_clo one_int one_bl one_nil one_str one_slc one_pto one_sl
attribute [go_sem] one_ref one_clo splice_one splice_two splice_three mk_one rep_intsC rep_boolsC
attribute [go_sem] AppK_t AppK_f set_intsC set_boolsC all_plain_intsC all_one_intsC List.getElem?_cons_zero List.getElem?_cons_succ List.nil_append List.cons_append
attribute [go_sem] List.append_nil List.set_cons_zero List.set_cons_succ List.drop_zero List.take_succ_cons List.drop_succ_cons List.take_zero List.take_nil
attribute [go_sem] List.drop_nil Option.bind_some id_eq Option.isSome_some List.all_cons List.all_nil Bool.and_true Bool.true_and
attribute [go_sem] dstOf srcOf srcA List.length_append List.length_take List.length_set List.length_replicate Nat.lt_add_one Nat.zero_lt_succ
attribute [go_sem] Nat.reduceLT Nat.reduceLeDiff Nat.reduceMul
end
section
variable {P:Program} {N:Nat} {g:Gh} {F:Frame} {H:Heap} {a:Act} {w:World} {M:List Nat} {n0:Nat}
structure Br (p q X Y:Prop):Prop where
 t:p→X
 f:q→Y
@[congr] theorem Br_congr {p p' q q' X Y:Prop} (h:p=p') (k:q=q'):Br p q X Y=Br p' q' X Y:=by rw [h,k]
theorem Br_t (X Y:Prop):Br True False X Y=X:=propext ⟨fun h=>h.1 trivial,fun h=>⟨fun _=>h,fun h=>h.elim⟩⟩
theorem Br_f (X Y:Prop):Br False True X Y=Y:=propext ⟨fun h=>h.2 trivial,fun h=>⟨fun h=>h.elim,fun _=>h⟩⟩
def condV (F:Frame)(c:AX)(X Y:Prop):Prop:=match st (ax F c) with
 | .val (.bool b)=>stOk (ax F c)∧Br (b=true) (b=false) X Y
 | _=>False
@[congr] theorem condV_congr {F F' : Frame} {c:AX} {X Y:Prop} (h:F=F'):condV F c X Y=condV F' c X Y:=by rw [h]
@[congr] theorem thenA_congr {n:Frame→Heap→Prop} {Q:Exit→Frame→Heap→Prop} {e:Exit} {F F' : Frame} {H H' : Heap} (hF:F=F') (hH:H=H'):thenA n Q e F H=thenA n Q e F' H' := by rw [hF,hH]
@[congr] theorem blockA_congr {id:Nat} {Q:Exit→Frame→Heap→Prop} {e:Exit} {F F' : Frame} {H H' : Heap} (hF:F=F') (hH:H=H'):blockA id Q e F H=blockA id Q e F' H' := by rw [hF,hH]
def V (P:Program)(M:List Nat)(N n0:Nat):ACode→(Exit→Frame→Heap→Prop)→Frame→Heap→Prop
 | .skip,Q=>Q .normal
 | .ops h t,Q=>Later P true h (Later P false t (Q .normal))
 | .alts t,Q=>W P M N n0 (.alts t) Q
 | .seq x y,Q=>V P M N n0 x (thenA (W P M N n0 y Q) Q)
 | .cond c x y,Q=>fun F H=>condV F c (V P M N n0 x Q F H) (V P M N n0 y Q F H)
 | .block id x,Q=>V P M N n0 x (blockA id Q)
 | .loop x,Q=>W P M N n0 (.loop x) Q
 | .exit id,Q=>Q (.exit id)
 | .ret,Q=>Q .ret
@[congr] theorem V_congr {c:ACode} {Q:Exit→Frame→Heap→Prop} {F F' : Frame} {H H' : Heap} (hF:F=F') (hH:H=H'):V P M N n0 c Q F H=V P M N n0 c Q F' H' := by rw [hF,hH]
theorem V_W:∀ {c:ACode} {Q:Exit→Frame→Heap→Prop} {F:Frame} {H:Heap},V P M N n0 c Q F H→W P M N n0 c Q F H
 | .skip,_,_,_,h=>W_skip h
 | .ops _ _,_,_,_,h=>W_ops2 h
 | .alts _,_,_,_,h=>h
 | .seq x y,Q,_,_,h=>W_seq (V_W (c:=x) h)
 | .cond c x y, Q, F, H, h => W_cond2 (by
     have h:condV F c (V P M N n0 x Q F H) (V P M N n0 y Q F H):=h
     unfold condV at h
     unfold condQ
     split at h
     ·rename_i b hb
      simp only [hb]
      exact ⟨h.1,fun hb=>V_W (h.2.1 hb),fun hb=>V_W (h.2.2 hb)⟩
     ·exact h.elim)
 | .block _ x,_,_,_,h=>W_block (V_W (c:=x) h)
 | .loop _,_,_,_,h=>h
 | .exit _,_,_,_,h=>W_exit h
 | .ret,_,_,_,h=>W_ret h
section
variable {Q:Exit→Frame→Heap→Prop}
theorem V_skip:V P M N n0 .skip Q F H=Q .normal F H:=rfl
theorem V_ops (h t:List GOp):V P M N n0 (.ops h t) Q F H=Later P true h (Later P false t (Q .normal)) F H:=rfl
theorem V_os (t:List GOp):V P M N n0 (os t) Q F H=Later P false t (Q .normal) F H:=rfl
theorem V_alts {t:GT}(h:EvT P false t (Q .normal) F H):V P M N n0 (.alts t) Q F H:=W_alts h
theorem V_seq (x y:ACode):V P M N n0 (.seq x y) Q F H=V P M N n0 x (thenA (W P M N n0 y Q) Q) F H:=rfl
theorem V_cond (c:AX)(x y:ACode):V P M N n0 (.cond c x y) Q F H=condV F c (V P M N n0 x Q F H) (V P M N n0 y Q F H):=rfl
theorem V_block (id:Nat)(x:ACode):V P M N n0 (.block id x) Q F H=V P M N n0 x (blockA id Q) F H:=rfl
theorem V_exit (id:Nat):V P M N n0 (.exit id) Q F H=Q (.exit id) F H:=rfl
theorem V_ret:V P M N n0 .ret Q F H=Q .ret F H:=rfl
theorem V_ref {c:ACode}{F' : Frame}{H' : Heap}(hr:Ref n0 F H F' H')(h:V P M N n0 c Q F' H'):W P M N n0 c Q F H:=W_ref hr (V_W h)
theorem evLoud_mono {x:AOp}{K K' : AV→Heap→Prop}(h:evLoud x F H K)(hk:∀ av H', K av H' → K' av H'):evLoud x F H K' := by
 cases x
 case mpe kk z m k=>
  simp only [evLoud] at *
  refine ⟨h.1,h.2.1,?_⟩
  have h3:=h.2.2
  clear h
  generalize st (ax F m)=vm at *
  generalize st (ax F k)=vk at *
  cases vm<;>first | exact h3.elim | skip
  cases vk<;>first | exact h3.elim | skip
  simp only at h3 ⊢
  rename_i o kv
  generalize mcells H (.mp o)=mc at *
  cases mc<;>first | exact h3.elim | skip
  rename_i cs
  simp only at h3 ⊢
  refine ⟨h3.1,h3.2.1,?_⟩
  have h4:=h3.2.2
  generalize mfind kv (cs.drop 1)=mf at *
  cases mf with
  | some p=>obtain ⟨i,b,y⟩:=p;exact ⟨h4.1,hk _ _ h4.2⟩
  | none=>
   generalize mclk cs=mc at *
   cases mc with
   | none=>exact h4.elim
   | some c=>exact hk _ _ h4
 case nxt i=>
  simp only [evLoud] at *
  refine ⟨h.1,?_⟩
  have h3:=h.2
  clear h
  split at h3
  ·rename_i o hs
   split at h3
   ·rename_i c cs c1 c2 seen ho
    (try simp only [hs]);(try simp only [ho])
    exact ⟨h3.1,h3.2.1,h3.2.2.1,h3.2.2.2.1,fun b k x h1 h2=>hk _ _ (h3.2.2.2.2.1 b k x h1 h2),fun h=>hk _ _ (h3.2.2.2.2.2 h)⟩
   ·exact h3.elim
  ·exact h3.elim
 case enr i=>
  simp only [evLoud] at *
  refine ⟨h.1,?_⟩
  have h3:=h.2
  clear h
  split at h3
  ·rename_i o hs
   split at h3
   ·rename_i c cs c1 c2 seen ho
    (try simp only [hs]);(try simp only [ho])
    refine ⟨h3.1,?_⟩
    have h4:=h3.2
    split at h4
    ·rename_i b hl
     (try simp only [hl])
     split at h4
     ·rename_i k x hf
      (try simp only [hf])
      exact ⟨h4.1,hk _ _ h4.2⟩
     ·exact h4.elim
    ·exact h4.elim
   ·exact h3.elim
  ·exact h3.elim
 case est m s x=>
  simp only [evLoud] at *
  refine ⟨h.1,h.2.1,h.2.2.1,?_⟩
  have h3:=h.2.2.2
  clear h
  generalize st (ax F m)=vm at *
  generalize st (ax F s)=vk at *
  cases vm<;>first | exact h3.elim | skip
  cases vk<;>first | exact h3.elim | skip
  rename_i o kv
  cases kv<;>first | exact h3.elim | skip
  rename_i q n
  simp only at h3 ⊢
  generalize mcells H (.mp o)=mc at *
  cases mc<;>first | exact h3.elim | skip
  rename_i cs
  simp only at h3 ⊢
  refine ⟨h3.1,?_⟩
  have h4:=h3.2
  generalize mfindB n (cs.drop 1)=mf at *
  cases mf with
  | some p=>exact hk _ _ h4
  | none=>exact h4.elim
 case app k bytes s x=>
  simp only [evLoud] at *
  obtain ⟨h1,h2,h3⟩:=h
  refine ⟨h1,h2,?_⟩
  generalize srcA H k (st (ax F x))=sa at *
  cases sa with
  | none=>exact h3.elim
  | some p=>
   obtain ⟨m,new⟩:=p
   refine ⟨h3.1,?_⟩
   have h4:=h3.2
   (try simp only at h4 ⊢)
   cases hc:new.all plainC with
   | true=>
    rw [hc,AppK_t] at h4
    rw [AppK_t]
    generalize dstOf H k (st (ax F s))=d at *
    cases d with
    | none=>exact h4.elim
    | some d=>exact ⟨h4.1,h4.2.1,hk _ _ h4.2.2⟩
   | false=>
    rw [hc,AppK_f] at h4
    rw [AppK_f]
    generalize st (ax F x)=sx at *
    cases sx<;>first | exact h4.elim | skip
    rename_i o k2 off len
    (try simp only at h4 ⊢)
    generalize dstOf (H.set o none) k (st (ax F s))=d at *
    cases d with
    | none=>exact h4.elim
    | some d=>exact ⟨h4.1,h4.2.1,hk _ _ h4.2.2⟩
 all_goals (unfold evLoud at *;first | exact h.elim | grind)
theorem GCall_mono {gb:Bool}{C K K' : AV→Prop}{D D' : Prop}(h:GCall gb C K D)(hk:∀ av,K av→K' av)(hd:D→D'):GCall gb C K' D' := h.imp (fun h=>h.imp fun av h=>⟨h.1,hk av h.2⟩) fun h=>⟨h.1,hd h.2⟩
theorem EvGrd_mono {g:Option Bool}{A B:Bool→Prop}(h:EvGrd g A)(hk:∀ b,A b→B b):EvGrd g B:=by
 cases g with
 | none=>exact h
 | some b=>exact hk b h
theorem EvG_mono {ext:Bool}{x:GOp}{K K' : Frame→Heap→Prop}(h:EvG P ext x K F H)(hk:∀ F H,K F H→K' F H):EvG P ext x K' F H:=by
 obtain ⟨d,g,o⟩:=x
 cases g with
 | none=>
  unfold EvG at *
  dsimp only at *
  by_cases hq:isQuiet o=true
  ·rw [if_pos hq] at *
   exact ⟨h.1,hk _ _ h.2⟩
  ·rw [if_neg hq] at *
   split at h
   ·exact ⟨h.1,h.2.mono fun _ _=>hk _ _⟩
   ·refine ⟨h.1,h.2.1,?_⟩
    have h3:=h.2.2
    split at h3
    ·exact ⟨h3.1,h3.2.mono fun _ _=>hk _ _⟩
    ·exact h3.elim
   ·exact ⟨h.1,evLoud_mono h.2 fun _ _=>hk _ _⟩
 | some sw=>
  obtain ⟨s,w⟩:=sw
  unfold EvG at *
  dsimp only at *
  refine EvGrd_mono h fun b hb=>?_
  by_cases hq:isQuiet o=true
  ·rw [if_pos hq] at *
   exact ⟨hb.1,hk _ _ hb.2⟩
  ·rw [if_neg hq] at *
   split at hb
   ·exact GCall_mono hb (fun _=>hk _ _) fun h=>⟨h.1,h.2.mono fun _ _=>hk _ _⟩
   ·refine GCall_mono hb (fun _=>hk _ _) fun h=>⟨h.1,h.2.1,?_⟩
    have h3:=h.2.2
    split at h3
    ·exact ⟨h3.1,h3.2.mono fun _ _=>hk _ _⟩
    ·exact h3.elim
   ·exact hb.elim
theorem EvT_mono:∀ {K K' : Frame→Heap→Prop},(∀ F H,K F H→K' F H)→∀ (t:GT) (b:Bool) (F:Frame) (H:Heap),EvT P b t K F H→EvT P b t K' F H
 | _,_,hk,.fin,b,F,H,h=>by
  unfold EvT at *
  cases b with
  | true=>trivial
  | false=>exact hk _ _ h
 | _,_,hk,.reg x t,b,F,H,h=>by
  unfold EvT at *
  exact EvG_mono h (EvT_mono hk t false)
 | _,_,hk,.alt e x t u,b,F,H,h=>by
  unfold EvT at *
  exact ⟨EvG_mono h.1 (EvT_mono hk t false),EvT_mono hk u true _ _ h.2⟩
 | _,_,hk,.regz x t,b,F,H,h=>by
  unfold EvT at *
  exact ⟨h.1,EvG_mono h.2 (EvT_mono hk t false)⟩
 | _,_,hk,.thw t ds x,b,F,H,h=>by
  unfold EvT at *
  exact EvT_mono (fun _ _ h=>EvG_mono h hk) t false _ _ h
theorem V_altsR {t:GT}{y:ACode}(F1:Frame)(H1:Heap)(hE:EvT P false t (fun F' H' => Ref n0 F' H' F1 H1) F H)(hy:W P M N n0 y Q F1 H1):V P M N n0 (.alts t) (thenA (W P M N n0 y Q) Q) F H:=
 W_alts (EvT_mono (fun F' H' h=>W_ref h hy) t false F H hE)
theorem V_loop {α : Type} (S : α → Frame × Heap) (C : α → Prop) (μ : α → Nat) (x0 : α) (h0 : C x0) (hr : Ref n0 F H (S x0).1 (S x0).2) {c : ACode}
    (round:∀ x,C x→V P M N n0 c (thenA (fun F' H' => ∃ x', C x' ∧ μ x' < μ x∧Ref n0 F' H' (S x').1 (S x').2) Q) (S x).1 (S x).2):V P M N n0 (.loop c) Q F H:=
 W_loop S C μ x0 h0 hr fun x hx=>V_W (round x hx)
end
theorem Later_0 {ext:Bool}{K:Frame→Heap→Prop}:Later P ext [] K F H=K F H:=rfl
theorem Later_1 {ext:Bool}{K:Frame→Heap→Prop}(x1:GOp):Later P ext [x1] K F H=EvOps P ext [x1] K F H:=rfl
theorem Later_2 {ext:Bool}{K:Frame→Heap→Prop}(x1 x2:GOp):Later P ext [x1,x2] K F H=EvOps P ext [x1,x2] K F H:=rfl
theorem Later_3 {ext:Bool}{K:Frame→Heap→Prop}(x1 x2 x3:GOp)(l:List GOp):Later P ext (x1 :: x2 :: x3 :: l) K F H=EvOps P ext [x1,x2,x3] (Later P ext l K) F H:=rfl
/-! ### Functions and calls -/
theorem pureV {f:FuncId}{ac:ACode}{rs:List AOp}{args:List AV}{x:AV}{H0:Heap}(hc:compileFn P M f=some (N,ac,rs))(hl:decide (args.length≤N)=true)(h:V P M N 0 ac (endQ rs fun av H' => av=x∧H' = H0) (mkF 0 args) []):Pure P f args x H0:=pure_of_W hc hl (V_W h)
theorem pureV0 {f:FuncId}{ac:ACode}{rs:List AOp}{args:List AV}{x:AV}(hc:compileFn P M f=some (N,ac,rs))(hl:decide (args.length≤N)=true)(hx:rnm (gcT [] 0) x=x)(h:V P M N 0 ac (endQ rs fun av _=>av=x) (mkF 0 args) []):Pure P f args x []:=pure_of_W0 hc hl hx (V_W h)
theorem pureVg {f:FuncId}{ac:ACode}{rs:List AOp}{args:List AV}{x:AV}{H0:Heap}(ks:List Nat)(hc:compileFn P M f=some (N,ac,rs))(hl:decide (args.length≤N)=true)(h:V P M N 0 ac (endQ rs fun av H' => gcOk ks H'.length 0=true∧rnm (gcT ks 0) av=x∧gcH ks H' = H0) (mkF 0 args) []):Pure P f args x H0:=pure_of_Wg ks hc hl (V_W h)
theorem pureEV {f : FuncId} {ac : ACode} {rs : List AOp} {args : List AV} {α : Type} {Q : α → Prop} {x : α → AV} {H0 : α → Heap} (ks : List Nat) (hc : compileFn P M f = some (N, ac, rs)) (hl : decide (args.length ≤ N) = true)
    (h:V P M N 0 ac (endQ rs fun av H' => gcOk ks H'.length 0=true∧∃ o,Q o∧rnm (gcT ks 0) av=x o∧gcH ks H' = H0 o) (mkF 0 args) []):PureE P f args Q x H0:=pureE_of_Wg ks hc hl (V_W h)
theorem GCall_no {gb:Bool}{C K:AV→Prop}{D:Prop}(av:AV)(h:gb=false)(hk:K av):GCall gb C K D:=GCall.mk av (fun e=>absurd (h ▸ e) (by decide)) hk
theorem pureC {ext:Bool}{f:FuncId}{args args' : List AV}{x:AV}{H0:Heap}{K:AV→Heap→Prop}(h:Pure P f args x H0)(ha:args'.map (frz H 6)=args)(hx:(nf 6 x&&nfH 6 H0)=true)(hK:K (shf H.length 6 x) (H++shfH H.length 6 H0)):CallsX P ext f args' H K:=
 call_pure h ha (Bool.and_eq_true_iff.1 hx).1 (Bool.and_eq_true_iff.1 hx).2 hK
theorem pureEC {ext : Bool} {f : FuncId} {args args' : List AV} {α : Type} {Q : α → Prop} {x : α → AV} {H0 : α → Heap} {K : AV → Heap → Prop} (h : PureE P f args Q x H0) (ha : args'.map (frz H 6) = args) (hx : ∀ o, (nf 6 (x o) && nfH 6 (H0 o)) = true)
    (hK:∀ o,Q o→K (shf H.length 6 (x o)) (H++shfH H.length 6 (H0 o))):CallsX P ext f args' H K:=call_pureE h ha (fun o=>(Bool.and_eq_true_iff.1 (hx o)).1) (fun o=>(Bool.and_eq_true_iff.1 (hx o)).2) hK
theorem wriC {f : FuncId} {args args' : List AV} {H0 : Heap} {x : AV} {H1 : Heap} {K : AV → Heap → Prop} (h : Wri P f args H0 x H1) (ks : List Nat) (hks : (decide ks.Nodup && ks.all fun o => decide (o < H.length)) = true) (hH : gcH ks H = H0) (ha : args'.map (vw ks H 6) = args) (hx : (nf 6 x && nfH 6 H1) = true)
    (hK:K (shr (sgm ks H.length) 6 x) (putB ks (shrH (sgm ks H.length) 6 H1) H)):CallsX P false f args' H K:=call_wri h ks hks hH ha (Bool.and_eq_true_iff.1 hx).1 (Bool.and_eq_true_iff.1 hx).2 hK
theorem take_map_len {α:Type}(f:α→AV)(L:List α):(L.map f).take L.length=L.map f:=List.take_of_length_le (by simp)
theorem take_map_app {α:Type}(f:α→AV)(L R:List α):((L++R).map f).take L.length=L.map f:=by rw [← List.map_take,List.take_left'];rfl
theorem take_ints_len (xs:List Int):(intsC xs).take xs.length=intsC xs:=take_map_len _ _
theorem take_ints_app (xs ys:List Int):(intsC (xs++ys)).take xs.length=intsC xs:=take_map_app _ _ _
theorem take_bools_len (xs:List Bool):(boolsC xs).take xs.length=boolsC xs:=take_map_len _ _
theorem tn0:Int.toNat 0=0:=rfl
theorem tn1:Int.toNat 1=1:=rfl
theorem tn2:Int.toNat 2=2:=rfl
theorem tn3:Int.toNat 3=3:=rfl
attribute [go_sem] tn0 tn1 tn2 tn3
attribute [go_sem] take_map_len take_map_app take_ints_len take_ints_app take_bools_len not_true_eq_false not_false_eq_true decide_true decide_false bne_self_eq_false beq_self_eq_true
attribute [go_sem] Br_t Br_f condV V_skip V_ops V_os V_seq V_cond V_block V_exit V_ret Later_0 Later_1 Later_2 Later_3
attribute [go_sem] gm gz gn gp gq kk ldi gB gK gE gI gL gV gS gT gF gH gA gC gD gX gJ gN gR
attribute [go_sem] frz map_frz_ints map_frz_bools map_frz_rows map_frz_orows take_all_intsC take_all_orows
attribute [go_sem] nfH nf all_nf_ints all_nf_bools all_nf_orows
attribute [go_sem] shf shfH map_shf_ints map_shf_bools map_shf_orows
attribute [go_sem] gcH gcC gcF gcT rnmL_ints rnmL_bools rnmL_rows rnmL_orows rnmL_app rnmL_rep rnmL_set rnm rnmL
attribute [go_sem] vw killL shr sgm shrH putB map_shr_ints map_shr_bools map_shr_orows rnmH shT deadH
attribute [go_sem] inI64 bne_eq_false_iff_eq Bool.and_eq_true Bool.or_eq_true Bool.not_eq_true' Bool.not_eq_false' Bool.and_eq_false_iff Bool.or_eq_false_iff
attribute [go_sem] beq_iff_eq beq_eq_false_iff_ne bne_iff_ne ne_eq Bool.not_eq_true Bool.not_eq_false
def Imp (q p:Prop):Prop:=q→p
theorem Imp.one {p:Prop}:Imp p p:=id
theorem Imp.two {q a b:Prop}(h:a)(k:Imp q b):Imp q (a∧b):=fun x=>⟨h,k x⟩
theorem Imp.vw {P:Program}{N:Nat}{M:List Nat}{n0:Nat}{F:Frame}{H:Heap}{Q:Exit→Frame→Heap→Prop}{c:ACode}{q:Prop}(k:Imp q (V P M N n0 c Q F H)):Imp q (W P M N n0 c Q F H):=fun x=>V_W (k x)
theorem Imp.br {q a b X Y:Prop}(h:a→X)(k:Imp q (b→Y)):Imp q (Br a b X Y):=fun x=>⟨h,k x⟩
theorem Imp.yes {p:Prop}(h:p):Imp True p:=fun _=>h
theorem RN {p q:Prop}(h:q)(e:Imp q p:=by
 (repeat first | simp only [go_sem,↓reduceIte,Nat.reduceEqDiff,Nat.reduceAdd,reduceCtorEq] | with_reducible apply Imp.vw | (with_reducible apply Imp.two;focus first | assumption | omega | decide | grind) | (with_reducible apply Imp.br;focus (intros;omega)) | (with_reducible apply Imp.yes;decide))
 first | done | exact Imp.one):p:=e h
theorem RX {p q:Prop}(h:q)(e:Imp q p:=by
 first | with_reducible exact Imp.vw Imp.one | (with_reducible refine Imp.two ?_ Imp.one;focus first | assumption | omega | decide | grind) | (with_reducible refine Imp.br ?_ Imp.one;focus (intros;omega))):p:=e h
theorem pureC2 {P:Program}{H:Heap}{ext:Bool}{f:FuncId}{args args' : List AV}{x:AV}{H0:Heap}{K:AV→Heap→Prop}(h:Pure P f args x H0)(ha:args'.map (frz H 6)=args)(hK:K (shf H.length 6 x) (H++shfH H.length 6 H0))(hx:(nf 6 x&&nfH 6 H0)=true:=by first | rfl | simp only [go_sem,↓reduceIte,Nat.reduceEqDiff,Nat.reduceAdd,reduceCtorEq]):CallsX P ext f args' H K:=pureC h ha hx hK
theorem pureC1 {P:Program}{H:Heap}{ext:Bool}{f:FuncId}{args args' : List AV}{x:AV}{H0:Heap}{K:AV→Heap→Prop}(h:Pure P f args x H0)(hK:K (shf H.length 6 x) (H++shfH H.length 6 H0))(ha:args'.map (frz H 6)=args:=by (simp only [go_sem,↓reduceIte,Nat.reduceEqDiff,Nat.reduceAdd,reduceCtorEq]<;>rfl))(hx:(nf 6 x&&nfH 6 H0)=true:=by first | rfl | simp only [go_sem,↓reduceIte,Nat.reduceEqDiff,Nat.reduceAdd,reduceCtorEq]):CallsX P ext f args' H K:=pureC h ha hx hK
theorem GC1 {P:Program}{gb:Bool}{C K:AV→Prop}{D:Prop}{f:FuncId}{args:List AV}{x:AV}{H0:Heap}(av:AV)(h:gb=true→Pure P f args x H0)(k:K av)(e:(gb=true→Pure P f args x H0)→gb=true→C av:=by
 intro h hg
 replace h:=h hg
 first | exact pureC h (by simp only [go_sem,↓reduceIte,Nat.reduceEqDiff,Nat.reduceAdd,reduceCtorEq]<;>rfl) (by first | rfl | simp only [go_sem,↓reduceIte,Nat.reduceEqDiff,Nat.reduceAdd,reduceCtorEq]) (by first | exact ⟨rfl,rfl⟩ | simp only [go_sem,↓reduceIte,Nat.reduceEqDiff,Nat.reduceAdd,reduceCtorEq]) | exact ⟨hg,pureC h (by simp only [go_sem,↓reduceIte,Nat.reduceEqDiff,Nat.reduceAdd,reduceCtorEq]<;>rfl) (by first | rfl | simp only [go_sem,↓reduceIte,Nat.reduceEqDiff,Nat.reduceAdd,reduceCtorEq]) (by first | exact ⟨rfl,rfl⟩ | simp only [go_sem,↓reduceIte,Nat.reduceEqDiff,Nat.reduceAdd,reduceCtorEq])⟩ | (refine ⟨?_,pureC h (by simp only [go_sem,↓reduceIte,Nat.reduceEqDiff,Nat.reduceAdd,reduceCtorEq]<;>rfl) (by first | rfl | simp only [go_sem,↓reduceIte,Nat.reduceEqDiff,Nat.reduceAdd,reduceCtorEq]) (by first | exact ⟨rfl,rfl⟩ | simp only [go_sem,↓reduceIte,Nat.reduceEqDiff,Nat.reduceAdd,reduceCtorEq])⟩;clear h;grind)):GCall gb C K D:=GCall.mk av (e h) k
theorem Ref.to1 {n0:Nat}{F:Frame}{H:Heap}{F' : Frame}{H' : Heap}(hH:H=H' := by rfl)(h:sub F F' := by simp [sub,fget]):Ref n0 F H F' H' := Ref.to hH h
theorem Ref.gc2 {n0:Nat}{F:Frame}{H:Heap}(ks:List Nat){F' : Frame}{H' : Heap}(hk:gcOk ks H.length n0=true:=by rfl)(hH:gcH ks H=H' := by (simp only [go_sem,↓reduceIte,Nat.reduceEqDiff,Nat.reduceAdd,reduceCtorEq]<;>rfl))(hF:sub (gcF ks F) F' := by simp [sub,fget,go_sem,↓reduceIte,Nat.reduceEqDiff,Nat.reduceAdd,reduceCtorEq]):Ref n0 F H F' H' := Ref.gc ks hk hH hF
theorem wriC1 {P:Program}{H:Heap}{f:FuncId}{args args' : List AV}{H0:Heap}{x:AV}{H1:Heap}{K:AV→Heap→Prop}(h:Wri P f args H0 x H1)(ks:List Nat)(hK:K (shr (sgm ks H.length) 6 x) (putB ks (shrH (sgm ks H.length) 6 H1) H))(hks:(decide ks.Nodup&&ks.all fun o=>decide (o<H.length))=true:=by first | rfl | simp)(hH:gcH ks H=H0:=by (simp only [go_sem,↓reduceIte,Nat.reduceEqDiff,Nat.reduceAdd,reduceCtorEq]<;>rfl))(ha:args'.map (vw ks H 6)=args:=by (simp only [go_sem,↓reduceIte,Nat.reduceEqDiff,Nat.reduceAdd,reduceCtorEq]<;>rfl))(hx:(nf 6 x&&nfH 6 H1)=true:=by first | rfl | simp only [go_sem,↓reduceIte,Nat.reduceEqDiff,Nat.reduceAdd,reduceCtorEq]):CallsX P false f args' H K:=wriC h ks hks hH ha hx hK
theorem Ref.gc1 {n0:Nat}{F:Frame}{H:Heap}(ks:List Nat){F' : Frame}{H' : Heap}(hk:gcOk ks H.length n0=true:=by rfl)(hH:gcH ks H=H' := by simp only [go_sem,↓reduceIte,Nat.reduceEqDiff,Nat.reduceAdd,reduceCtorEq])(hF:sub (gcF ks F) F' := by simp [sub,fget,go_sem,↓reduceIte,Nat.reduceEqDiff,Nat.reduceAdd,reduceCtorEq]):Ref n0 F H F' H' := Ref.gc ks hk hH hF
end
section
variable {P:Program} {N:Nat} {g:Gh} {F:Frame} {H:Heap} {a:Act} {w:World} {M:List Nat} {n0:Nat}
theorem Ref.dead {F' : Frame}(hF:sub (frzF H F) F'):Ref n0 F H F' (deadH H):=fun N g a w hR=>by
 have hm:=dead_mv hR.hp
 refine ⟨_,⟨fun j=>?_,hm.hp,hR.size,hR.defers⟩,hm.toN⟩
 have h1:=frz_own hR.hp 6 _ _ [] (hR.fr j) (by simp)
 have h2:Rd w ((⟨g.ρ,g.ob,fun b=>g.G b∨g.owns H b⟩:Gh).tr (deadH H)) (fun b=>g.G b∨g.owns H b) (frz H 6 (fget F j)) (a.tmps.getD j undef) []:=
  h1.mono (fun _ h=>h) (fun _ _=>rfl) (fun _ _ h=>by cases h) (by simp)
 rcases sub_get hF j with e | e
 ·rw [e];exact .any
 ·rw [e]
  rcases frzF_get H F j with e2 | e2
  ·rw [e2];exact h2
  ·rw [e2];exact .any
def LT (P:Program)(b:Bool)(t:GT)(K:Frame→Heap→Prop)(F:Frame)(H:Heap):Prop:=EvT P b t K F H
@[congr] theorem LT_congr {b:Bool} {t:GT} {K:Frame→Heap→Prop} {F' : Frame} {H' : Heap} (hF:F=F') (hH:H=H'):LT P b t K F H=LT P b t K F' H' := by rw [hF,hH]
theorem LT_fin {K:Frame→Heap→Prop}(h:K F H):LT P false .fin K F H:=h
theorem LT_tt {K:Frame→Heap→Prop}:LT P true .fin K F H:=trivial
theorem LT_reg {b:Bool}{x:GOp}{t:GT}{K:Frame→Heap→Prop}(h:EvG P true x (LT P false t K) F H):LT P b (.reg x t) K F H:=h
theorem LT_regz {b:Bool}{x:GOp}{t:GT}{K:Frame→Heap→Prop}(hz:zPt (zAd x.op F))(h:EvG P true x (LT P false t K) F H):LT P b (.regz x t) K F H:=⟨hz,h⟩
theorem LT_alt {b e:Bool}{x:GOp}{t u:GT}{K:Frame→Heap→Prop}(h:EvG P e x (LT P false t K) F H)(k:LT P true u K F H):LT P b (.alt e x t u) K F H:=⟨h,k⟩
theorem V_altsS {t:GT}{y:ACode}{Q:Exit→Frame→Heap→Prop}(F1:Frame)(H1:Heap)(hE:LT P false t (fun F' H' => Ref n0 F' H' F1 H1) F H)(hy:W P M N n0 y Q F1 H1):V P M N n0 (.alts t) (thenA (W P M N n0 y Q) Q) F H:=
 W_alts (EvT_mono (fun F' H' h=>W_ref h hy) t false F H hE)
theorem V_altsB {t:GT}{y:ACode}{id:Nat}{Q Q' : Exit→Frame→Heap→Prop}(F1:Frame)(H1:Heap)(hE:LT P false t (fun F' H' => Ref n0 F' H' F1 H1) F H)(hy:W P M N n0 y Q F1 H1):V P M N n0 (.alts t) (blockA id (thenA (W P M N n0 y Q) Q')) F H:=
 W_alts (EvT_mono (fun F' H' h=>W_ref h hy) t false F H hE)
theorem all_nfn_ints (n d:Nat)(xs:List Int):(intsC xs).all (nfn n (d+1))=true:=by simp [intsC,nfn]
theorem all_nfn_orows (n d:Nat)(xss:List (List Int)):(xss.map oints).all (nfn n (d+2))=true:=by simp [intsC,nfn]
attribute [go_sem] frzF thwF thwH thwC thwA nfn all_nfn_ints all_nfn_orows
theorem LT_regz1 {P:Program}{F:Frame}{H:Heap}{b:Bool}{x:GOp}{t:GT}{K:Frame→Heap→Prop}(h:EvG P true x (LT P false t K) F H)(hz:zPt (zAd x.op F):=by simp only [zAd_load,zAd_loads,zPt_pto,go_sem,↓reduceIte,Nat.reduceEqDiff,Nat.reduceAdd,reduceCtorEq]):LT P b (.regz x t) K F H:=LT_regz hz h
end
section
def entsF:Nat→List (Value×AV)→List AV
 | _,[]=>[]
 | n,p :: l=>.ent n p.1 p.2 :: entsF (n+1) l
def mpC (l:List (Value×AV)):List AV:=i64 l.length :: entsF 0 l
theorem entsF_len:∀ (n:Nat) (l:List (Value×AV)),(entsF n l).length=l.length
 | _,[]=>rfl
 | n,p :: l=>by simp [entsF,entsF_len (n+1) l]
theorem entsF_app:∀ (n:Nat) (l r:List (Value×AV)),entsF n (l++r)=entsF n l++entsF (n+l.length) r
 | n,[],r=>by simp [entsF]
 | n,p :: l,r=>by simp [entsF,entsF_app (n+1) l r,Nat.add_assoc,Nat.add_comm 1]
theorem entsF_set:∀ (n i:Nat) (l:List (Value×AV)) (k:Value) (x:AV),(entsF n l).set i (.ent (n+i) k x)=entsF n (l.set i (k,x))
 | n,i,[],k,x=>by simp [entsF]
 | n,0,p :: l,k,x=>by simp [entsF]
 | n,i+1,p :: l,k,x=>by
  have:=entsF_set (n+1) i l k x
  rw [show n+1+i=n+(i+1) by omega] at this
  simp [entsF,this]
theorem entsF_map (f:AV→AV):∀ (n:Nat) (l:List (Value×AV)) (g:AV→AV) (_:∀ b k x,f (.ent b k x) = .ent b k (g x)),(entsF n l).map f=entsF n (l.map fun p=>(p.1,g p.2))
 | _,[],_,_=>rfl
 | n,p :: l,g,h=>by simp [entsF,h,entsF_map f (n+1) l g h]
def afind (k:Value):List (Value×AV)→Option (Nat×AV)
 | []=>none
 | p :: l=>if keq k p.1 then some (0,p.2) else (afind k l).map fun q=>(q.1+1,q.2)
theorem mfind_entsF (k:Value):∀ (n:Nat) (l:List (Value×AV)),mfind k (entsF n l)=(afind k l).map fun q=>(q.1,n+q.1,q.2)
 | _,[]=>rfl
 | n,p :: l=>by
  simp only [entsF,mfind,afind]
  by_cases h:keq k p.1=true
  ·simp [h]
  ·simp only [h,Bool.false_eq_true,if_false,mfind_entsF k (n+1) l,Option.map_map]
   congr 1
   funext q
   simp [Nat.add_assoc,Nat.add_comm 1]
/-! ### Integer keys, string keys -/
section
variable {α:Type}
def ifind {κ:Type}[BEq κ](n:κ):List (κ×α)→Option (Nat×α)
 | []=>none
 | p :: l=>if n == p.1 then some (0,p.2) else (ifind n l).map fun q=>(q.1+1,q.2)
def ilook {κ:Type}[BEq κ](n:κ)(l:List (κ×α)):Option α:=(ifind n l).map (·.2)
def iput {κ:Type}[BEq κ](n:κ)(x:α)(l:List (κ×α)):List (κ×α):=match ifind n l with
 | some (i,_)=>l.set i (n,x)
 | none=>l++[(n,x)]
def imap (f:α→AV)(l:List (Int×α)):List AV:=mpC (l.map fun p=>(.int .i64 p.1,f p.2))
def smap (f:α→AV)(l:List (ByteArray×α)):List AV:=mpC (l.map fun p=>(.string p.1,f p.2))
theorem afind_int (f:α→AV)(n:Int):∀ l:List (Int×α),afind (.int .i64 n) (l.map fun p=>(.int .i64 p.1,f p.2))=(ifind n l).map fun q=>(q.1,f q.2)
 | []=>rfl
 | p :: l=>by
  simp only [List.map_cons,afind,keq,ifind]
  by_cases h:(n == p.1)=true
  ·simp [h]
  ·simp only [h,Bool.false_eq_true,if_false,afind_int f n l,Option.map_map]
   rfl
theorem afind_str (f:α→AV)(n:ByteArray):∀ l:List (ByteArray×α),afind (.string n) (l.map fun p=>(.string p.1,f p.2))=(ifind n l).map fun q=>(q.1,f q.2)
 | []=>rfl
 | p :: l=>by
  simp only [List.map_cons,afind,keq,ifind]
  by_cases h:(n == p.1)=true
  ·simp [h]
  ·simp only [h,Bool.false_eq_true,if_false,afind_str f n l,Option.map_map]
   rfl
theorem mclk_imap (f:α→AV)(l:List (Int×α)):mclk (imap f l)=some (l.length:Int):=by simp [imap,mpC,mclk]
theorem mclk_smap (f:α→AV)(l:List (ByteArray×α)):mclk (smap f l)=some (l.length:Int):=by simp [smap,mpC,mclk]
theorem all_entsF {p:AV→Bool}:∀ (n:Nat) (l:List (Value×AV)),(∀ q∈l,∀ b,p (.ent b q.1 q.2)=true)→(entsF n l).all p=true
 | _,[],_=>rfl
 | n,q :: l,h=>by
  simp only [entsF,List.all_cons,Bool.and_eq_true]
  exact ⟨h q (by simp) n,all_entsF (n+1) l fun q hq=>h q (by simp [hq])⟩
theorem keysOk_imap (f:α→AV)(l:List (Int×α)):keysOk (some .i64) (imap f l)=true:=by
 simp only [keysOk,imap,mpC,List.drop_succ_cons,List.drop_zero]
 refine all_entsF 0 _ fun q hq b=>?_
 obtain ⟨p,_,rfl⟩:=List.mem_map.1 hq
 rfl
theorem keysOk_smap (f:α→AV)(l:List (ByteArray×α)):keysOk none (smap f l)=true:=by
 simp only [keysOk,smap,mpC,List.drop_succ_cons,List.drop_zero]
 refine all_entsF 0 _ fun q hq b=>?_
 obtain ⟨p,_,rfl⟩:=List.mem_map.1 hq
 rfl
theorem entsB_imap (f:α→AV)(l:List (Int×α)):entsB (imap f l)=true:=by
 simp only [entsB,imap,mpC,List.drop_succ_cons,List.drop_zero]
 exact all_entsF 0 _ fun q hq b=>rfl
theorem entsB_smap (f:α→AV)(l:List (ByteArray×α)):entsB (smap f l)=true:=by
 simp only [entsB,smap,mpC,List.drop_succ_cons,List.drop_zero]
 exact all_entsF 0 _ fun q hq b=>rfl
theorem keyOk_int (n:Int):keyOk (some .i64) (.int .i64 n)=true:=by simp [keyOk]
theorem keyOk_str (s:ByteArray):keyOk none (.string s)=true:=rfl
theorem mget_imap (f:α→AV)(l:List (Int×α))(n:Int):mget (.int .i64 n) (imap f l)=(ilook n l).map f:=by
 simp only [mget,imap,mpC,List.drop_succ_cons,List.drop_zero,mfind_entsF,afind_int,ilook,Option.map_map];rfl
theorem mget_smap (f:α→AV)(l:List (ByteArray×α))(n:ByteArray):mget (.string n) (smap f l)=(ilook n l).map f:=by
 simp only [mget,smap,mpC,List.drop_succ_cons,List.drop_zero,mfind_entsF,afind_str,ilook,Option.map_map];rfl
theorem mfind_imap (f:α→AV)(l:List (Int×α))(n:Int):mfind (.int .i64 n) ((imap f l).drop 1)=(ifind n l).map fun q=>(q.1,q.1,f q.2):=by
 simp only [imap,mpC,List.drop_succ_cons,List.drop_zero,mfind_entsF,afind_int,Option.map_map]
 congr 1;funext q;simp
theorem mfind_smap (f:α→AV)(l:List (ByteArray×α))(n:ByteArray):mfind (.string n) ((smap f l).drop 1)=(ifind n l).map fun q=>(q.1,q.1,f q.2):=by
 simp only [smap,mpC,List.drop_succ_cons,List.drop_zero,mfind_entsF,afind_str,Option.map_map]
 congr 1;funext q;simp
theorem madd_mpC (k:Value)(x:AV)(l:List (Value×AV)):madd k x (mpC l)=mpC (l++[(k,x)]):=by
 simp only [madd,mpC,entsF_app,entsF,List.length_append,List.length_cons,List.length_nil,Nat.zero_add,Int.toNat_natCast]
 congr 1
theorem madd_imap (f:α→AV)(l:List (Int×α))(n:Int)(x:α):madd (.int .i64 n) (f x) (imap f l)=imap f (l++[(n,x)]):=by simp [imap,madd_mpC]
theorem madd_smap (f:α→AV)(l:List (ByteArray×α))(n:ByteArray)(x:α):madd (.string n) (f x) (smap f l)=smap f (l++[(n,x)]):=by simp [smap,madd_mpC]
theorem mput_imap (f:α→AV)(l:List (Int×α))(n:Int)(x:α):mput (.int .i64 n) (f x) (imap f l)=imap f (iput n x l):=by
 unfold mput iput
 rw [mfind_imap]
 cases h:ifind n l with
 | none=>exact madd_imap f l n x
 | some q=>
  obtain ⟨i,y⟩:=q
  simp only [Option.map_some,imap,mpC,List.set_cons_succ,List.length_map,List.length_set,List.map_set]
  congr 1
  have:=entsF_set 0 i (l.map fun p=>(Value.int .i64 p.1,f p.2)) (.int .i64 n) (f x)
  rwa [Nat.zero_add] at this
theorem mput_smap (f:α→AV)(l:List (ByteArray×α))(n:ByteArray)(x:α):mput (.string n) (f x) (smap f l)=smap f (iput n x l):=by
 unfold mput iput
 rw [mfind_smap]
 cases h:ifind n l with
 | none=>exact madd_smap f l n x
 | some q=>
  obtain ⟨i,y⟩:=q
  simp only [Option.map_some,smap,mpC,List.set_cons_succ,List.length_map,List.length_set,List.map_set]
  congr 1
  have:=entsF_set 0 i (l.map fun p=>(Value.string p.1,f p.2)) (.string n) (f x)
  rwa [Nat.zero_add] at this
theorem len_imap (f:α→AV)(l:List (Int×α)):((imap f l).length:Int) - 1=l.length:=by simp [imap,mpC,entsF_len]
theorem len_smap (f:α→AV)(l:List (ByteArray×α)):((smap f l).length:Int) - 1=l.length:=by simp [smap,mpC,entsF_len]
theorem map_mpC {h:AV→AV}{g:AV→AV}(hi:∀ n:Int,h (i64 n)=i64 n)(he:∀ b k x,h (.ent b k x) = .ent b k (g x))(l:List (Value×AV)):(mpC l).map h=mpC (l.map fun p=>(p.1,g p.2)):=by
 simp only [mpC,List.map_cons,hi,entsF_map h 0 l g he,List.length_map]
theorem frz_imap (H:Heap)(d:Nat)(f:α→AV)(l:List (Int×α)):(imap f l).map (frz H (d+1))=imap (fun x=>frz H d (f x)) l:=by
 unfold imap
 rw [map_mpC (g:=frz H d) (fun _=>rfl) (fun _ _ _=>rfl),List.map_map];rfl
theorem frz_smap (H:Heap)(d:Nat)(f:α→AV)(l:List (ByteArray×α)):(smap f l).map (frz H (d+1))=smap (fun x=>frz H d (f x)) l:=by
 unfold smap
 rw [map_mpC (g:=frz H d) (fun _=>rfl) (fun _ _ _=>rfl),List.map_map];rfl
theorem shf_imap (n d:Nat)(f:α→AV)(l:List (Int×α)):(imap f l).map (shf n (d+1))=imap (fun x=>shf n d (f x)) l:=by
 unfold imap
 rw [map_mpC (g:=shf n d) (fun _=>rfl) (fun _ _ _=>rfl),List.map_map];rfl
theorem shf_smap (n d:Nat)(f:α→AV)(l:List (ByteArray×α)):(smap f l).map (shf n (d+1))=smap (fun x=>shf n d (f x)) l:=by
 unfold smap
 rw [map_mpC (g:=shf n d) (fun _=>rfl) (fun _ _ _=>rfl),List.map_map];rfl
theorem shr_imap (σ:Nat→Nat)(d:Nat)(f:α→AV)(l:List (Int×α)):(imap f l).map (shr σ (d+1))=imap (fun x=>shr σ d (f x)) l:=by
 unfold imap
 rw [map_mpC (g:=shr σ d) (fun _=>rfl) (fun _ _ _=>rfl),List.map_map];rfl
theorem shr_smap (σ:Nat→Nat)(d:Nat)(f:α→AV)(l:List (ByteArray×α)):(smap f l).map (shr σ (d+1))=smap (fun x=>shr σ d (f x)) l:=by
 unfold smap
 rw [map_mpC (g:=shr σ d) (fun _=>rfl) (fun _ _ _=>rfl),List.map_map];rfl
theorem rnm_imap (τ:Nat→Option Nat)(f:α→AV)(l:List (Int×α)):rnmL τ (imap f l)=imap (fun x=>rnm τ (f x)) l:=by
 unfold imap
 rw [rnmL_map,map_mpC (g:=rnm τ) (fun _=>by simp [rnm]) (fun _ _ _=>by simp [rnm]),List.map_map];rfl
theorem rnm_smap (τ:Nat→Option Nat)(f:α→AV)(l:List (ByteArray×α)):rnmL τ (smap f l)=smap (fun x=>rnm τ (f x)) l:=by
 unfold smap
 rw [rnmL_map,map_mpC (g:=rnm τ) (fun _=>by simp [rnm]) (fun _ _ _=>by simp [rnm]),List.map_map];rfl
/-! ### What is found -/
end
instance:LawfulBEq ByteArray where
 eq_of_beq h:=(Go.MapKept.bytes_beq _ _).1 h
 rfl:=(Go.MapKept.bytes_beq _ _).2 rfl
theorem zCells_0 (z:List Value):zCells z 0=[]:=by simp [zCells]
theorem zCells_1 (a b:Value):zCells [a,b] 1=[.val a,.val b]:=rfl
attribute [go_sem] zCells_0 zCells_1 Nat.zero_mul Nat.one_mul
theorem one_int_val (k:IntKind)(n:Int):(Value.int k n).oneCell' = true:=rfl
theorem one_nil_val (a:Option Addr)(n c:Nat):(Value.slice a n c).oneCell' = true:=rfl
theorem one_bool_val (b:Bool):(Value.bool b).oneCell' = true:=rfl
attribute [go_sem] bldOk bldV Option.getD_some one_int_val one_nil_val one_bool_val Nat.reduceLeDiff
attribute [go_sem] mcells mclk_imap mclk_smap keysOk_imap keysOk_smap entsB_imap entsB_smap keyOk_int keyOk_str
attribute [go_sem] mget_imap mget_smap mfind_imap mfind_smap madd_imap madd_smap mput_imap mput_smap len_imap len_smap
attribute [go_sem] frz_imap frz_smap shf_imap shf_smap shr_imap shr_smap rnm_imap rnm_smap
end
section
variable {P:Program} {N:Nat} {g:Gh} {F:Frame} {H:Heap} {a:Act} {w:World} {M:List Nat} {n0:Nat}
theorem Ref.core {H' : Heap}(h:∀ (g:Gh) (w:World),HeapR g H w→∃ g', HeapR g' H' w∧(∀ b,g'.owns H' b→g.owns H b)∧g'.G=g.G∧∀ x d,g.tr H x=some d→g'.tr H' x=some d∨g'.tr H' x=some none):Ref n0 F H F H' := fun N g a w hR=>by
 obtain ⟨g', hp', h1,h2,h3⟩:=h g w hR.hp
 have lift:∀ x v bs,Rd w (g.tr H) g.G x v bs→Rd w (g'.tr H') g'.G x v bs:=fun x v bs h=>h.mono (fun b hb=>h2 ▸ hb) (fun _ _=>rfl) h3 (fun _ _=>rfl)
 exact ⟨g', ⟨fun i=>lift _ _ _ (hR.fr i),hp', hR.size,hR.defers⟩,hp', ⟨rfl,⟨rfl,Nat.le_refl _⟩,rfl,Nat.le_refl _,fun _ _ _=>rfl,fun b hb=>.inl (h1 b hb),fun b hb=>h2 ▸ hb,fun b hb=>.inl (h2 ▸ hb),fun _ _=>rfl⟩,fun x d _ hd=>h3 x d hd⟩
theorem Ref.kill (o:Nat):Ref n0 F H F (H.set o none):=Ref.core fun g w hp=>
 ⟨g,kill_hp hp o,fun b ⟨o', cs,h1,h2⟩=>⟨o', cs,(alive_kill h1).2,h2⟩,rfl,fun x d hd=>tr_kill g H o x d hd⟩
theorem Ref.nilC (o j k:Nat){cs:List AV}(ho:H[o]? = some (some cs))(hj:cs[j]? = some nilS):Ref n0 F H F (H.set o (some (cs.set j (.sl H.length k 0 0)))++[some []]):=Ref.core fun g w hp=>by
 obtain ⟨hjl,hje⟩:=List.getElem?_eq_some_iff.1 hj
 have hol:o<H.length:=(List.getElem?_eq_some_iff.1 ho).1
 let H' : Heap:=H.set o (some (cs.set j (.sl H.length k 0 0)))++[some []]
 let g' : Gh:=⟨fun x=>if x=H.length then none else g.ρ x,fun x=>if x=H.length then [] else g.ob x,g.G⟩
 have htr:∀ x d,g.tr H x=some d→g'.tr H' x=some d:=fun x d hd=>by
  have hxl:=tr_lt hd
  unfold Gh.tr at *
  rw [List.getElem?_append_left (by simpa using hxl)]
  simp only [g', if_neg (Nat.ne_of_lt hxl)]
  by_cases e:o=x
  ·subst e
   rw [List.getElem?_set_self hol]
   rw [ho] at hd
   simpa using hd
  ·rw [List.getElem?_set_ne e];exact hd
 have lift:∀ x v bs,Rd w (g.tr H) g.G x v bs→Rd w (g'.tr H') g'.G x v bs:=fun x v bs h=>h.mono (fun _ h=>h) (fun _ _=>rfl) (fun x d h=>.inl (htr x d h)) (fun _ _=>rfl)
 have hnew:g'.tr H' H.length=some (some (none,0)):=by
  have e1:H'[H.length]? = some (some []):=by simp [H']
  rw [Gh.tr_some e1]
  simp [g']
 refine ⟨g', ⟨?_,?_,?_,?_,hp.low⟩,fun b ⟨x,c,hx,hb⟩=>?_,rfl,fun x d hd=>.inl (htr x d hd)⟩
 ·intro x c hx
  rcases opn_al hx hol with ⟨rfl,rfl⟩ | ⟨rfl,h3,rfl⟩ | ⟨h3,h4,h5⟩
  ·simp only [g', if_true]
   exact ObjR.nil
  ·simp only [g', if_neg (Nat.ne_of_lt h3)]
   have h1:=hp.obj x cs ho
   cases hl:g.ρ x with
   | none=>
    rw [hl] at h1
    have h3:=h1.1.gh _ (List.getElem_mem hjl)
    rw [hje] at h3
    cases h3
   | some l=>
    obtain ⟨b,base,sz⟩:=l
    rw [hl] at h1
    obtain ⟨u,bss,hblk,hr,hob⟩:=h1
    refine ⟨u,bss,by simpa using hblk,fun m hm=>?_,by simpa using hob⟩
    simp only [List.length_set] at hm
    by_cases e:m=j
    ·subst e
     have h2:=hr m hjl
     rw [hje] at h2
     obtain ⟨h3,h4⟩:=h2.val_inv
     simp only [List.getElem_set_self]
     rw [h3,h4]
     refine .sl (by rw [hnew];rfl) rfl fun l hl=>?_
     rw [hnew] at hl
     obtain rfl:=Option.some.inj (Option.some.inj hl)
     exact ⟨by dsimp only;omega,rfl,none,rfl⟩
    ·rw [List.getElem_set_ne (Ne.symm e)]
     exact lift _ _ _ (hr m hm)
  ·simp only [g', if_neg (Nat.ne_of_lt h4)]
   exact (hp.obj x c h5).mono (fun _ h=>h) (fun _ _=>rfl) (fun x d h=>.inl (htr x d h)) (fun _ _=>rfl)
 ·intro x c hx
  rcases opn_al hx hol with ⟨rfl,rfl⟩ | ⟨rfl,h3,rfl⟩ | ⟨h3,h4,h5⟩
  ·simp [g']
  ·simp only [g', if_neg (Nat.ne_of_lt h3)];exact hp.nodup x cs ho
  ·simp only [g', if_neg (Nat.ne_of_lt h4)];exact hp.nodup x c h5
 ·intro x y c d hx hy hxy b' hb1 hb2
  have hx' : x=H.length∨∃ c', x<H.length∧H[x]? = some (some c'):=by
   rcases opn_al hx hol with ⟨h,_⟩ | ⟨rfl,h3,_⟩ | ⟨_,h4,h5⟩
   ·exact .inl h
   ·exact .inr ⟨cs,h3,ho⟩
   ·exact .inr ⟨c,h4,h5⟩
  have hy' : y=H.length∨∃ c', y<H.length∧H[y]? = some (some c'):=by
   rcases opn_al hy hol with ⟨h,_⟩ | ⟨rfl,h3,_⟩ | ⟨_,h4,h5⟩
   ·exact .inl h
   ·exact .inr ⟨cs,h3,ho⟩
   ·exact .inr ⟨d,h4,h5⟩
  rcases hx' with rfl | ⟨c', h1,h2⟩
  ·simp [g'] at hb1
  ·rcases hy' with rfl | ⟨d', h3,h4⟩
   ·simp [g'] at hb2
   ·simp only [g', if_neg (Nat.ne_of_lt h1)] at hb1
    simp only [g', if_neg (Nat.ne_of_lt h3)] at hb2
    exact hp.apart x y c' d' h2 h4 hxy b' hb1 hb2
 ·intro x c hx b' hb1
  rcases opn_al hx hol with ⟨rfl,rfl⟩ | ⟨rfl,h3,rfl⟩ | ⟨h3,h4,h5⟩
  ·simp [g'] at hb1
  ·simp only [g', if_neg (Nat.ne_of_lt h3)] at hb1;exact hp.free x cs ho b' hb1
  ·simp only [g', if_neg (Nat.ne_of_lt h4)] at hb1;exact hp.free x c h5 b' hb1
 ·rcases opn_al hx hol with ⟨rfl,rfl⟩ | ⟨rfl,h3,rfl⟩ | ⟨h3,h4,h5⟩
  ·simp [g'] at hb
  ·simp only [g', if_neg (Nat.ne_of_lt h3)] at hb;exact ⟨x,cs,ho,hb⟩
  ·simp only [g', if_neg (Nat.ne_of_lt h4)] at hb;exact ⟨x,c,h5,hb⟩
end
section
variable {P:Program} {N:Nat} {g:Gh} {F:Frame} {H:Heap} {a:Act} {w:World} {M:List Nat} {n0:Nat}
def WriE (P:Program)(f:FuncId)(args:List AV)(H0:Heap){α:Type}(Q:α→Prop)(x:α→AV)(H1:α→Heap):Prop:=CallsX P false f args H0 fun av H' => ∃ o,Q o∧av=x o∧H' = H1 o
def mvT (k n:Nat)(o:Nat):Option Nat:=some (if o=k then n else o)
def mvH (k:Nat)(H:Heap):Heap:=((H.map (Option.map (rnmL (mvT k H.length)))).set k none)++[(H.getD k none).map (rnmL (mvT k H.length))]
def mvF (k n:Nat)(F:Frame):Frame:=F.map fun p=>(p.1,rnm (mvT k n) p.2)
theorem mvF_get (k n:Nat):∀ (F:Frame) (j:Nat),fget (mvF k n F) j=rnm (mvT k n) (fget F j)∨fget (mvF k n F) j = .any
 | [],_=>.inr rfl
 | (i,x) :: l,j=>by
  simp only [mvF,List.map_cons,get_put]
  by_cases e:i=j
  ·rw [if_pos e,if_pos e];exact .inl rfl
  ·rw [if_neg e,if_neg e];exact mvF_get k n l j
theorem Ref.mv (k:Nat){cs:List AV}(hk:H[k]? = some (some cs)){F' : Frame}{H' : Heap}(hH:mvH k H=H')(hF:sub (mvF k H.length F) F'):Ref n0 F H F' H' := fun N g a w hR=>by
 subst hH
 have hp:=hR.hp
 have hkl:k<H.length:=(List.getElem?_eq_some_iff.1 hk).1
 let n:=H.length
 let g' : Gh:=⟨fun x=>if x=n then g.ρ k else g.ρ x,fun x=>if x=n then g.ob k else g.ob x,g.G⟩
 have hgd:H.getD k none=some cs:=by simp [hk]
 have hat:∀ x,x<n→x≠k→(mvH k H)[x]? = (H[x]?).map (Option.map (rnmL (mvT k n))):=fun x hx hne=>by
  unfold mvH
  rw [List.getElem?_append_left (by simpa using hx),List.getElem?_set_ne (Ne.symm hne),List.getElem?_map]
 have hatk:(mvH k H)[k]? = some none:=by
  unfold mvH
  rw [List.getElem?_append_left (by simpa using hkl),List.getElem?_set_self (by simpa using hkl)]
 have hatn:(mvH k H)[n]? = some (some (rnmL (mvT k n) cs)):=by
  unfold mvH
  rw [List.getElem?_append_right (by simp [n]),hgd]
  simp [n]
 have htrn:g'.tr (mvH k H) n=some (some (g.ρ k,cs.length)):=by
  rw [Gh.tr_some hatn];simp [g', rnmL_map]
 have htr:∀ x d,x≠k→g.tr H x=some d→g'.tr (mvH k H) x=some d:=fun x d hne hd=>by
  have hxl:=tr_lt hd
  unfold Gh.tr at *
  rw [hat x hxl hne]
  simp only [g', if_neg (Nat.ne_of_lt hxl)]
  rw [List.getElem?_eq_getElem hxl] at hd ⊢
  cases hh:H[x] with
  | none=>rw [hh] at hd;simpa using hd
  | some c=>
   rw [hh] at hd
   have hxn:¬ x=n:=Nat.ne_of_lt hxl
   simpa [rnmL_map,g', hxn] using hd
 have hτ:∀ o o' d,mvT k n o=some o' → g.tr H o=some d→g'.tr (mvH k H) o' = some d∨g'.tr (mvH k H) o' = some none:=fun o o' d ho hd=>by
  left
  unfold mvT at ho
  obtain rfl:=Option.some.inj ho
  by_cases e:o=k
  ·rw [if_pos e,htrn]
   subst e
   rw [Gh.tr_some hk] at hd
   exact hd
  ·rw [if_neg e];exact htr o d e hd
 have hal:∀ x c,(mvH k H)[x]? = some (some c)→(x=n∧c=rnmL (mvT k n) cs)∨(x≠k∧x<n∧∃ c0,H[x]? = some (some c0)∧c=rnmL (mvT k n) c0):=fun x c hx=>by
  rcases Nat.lt_trichotomy x n with h | h | h
  ·by_cases e:x=k
   ·subst e;rw [hatk] at hx;cases hx
   ·rw [hat x h e,Option.map_eq_some_iff] at hx
    obtain ⟨y,hy,he⟩:=hx
    rw [Option.map_eq_some_iff] at he
    obtain ⟨c0,rfl,rfl⟩:=he
    exact .inr ⟨e,h,c0,hy,rfl⟩
  ·subst h
   rw [hatn] at hx
   exact .inl ⟨rfl,(Option.some.inj (Option.some.inj hx)).symm⟩
  ·rw [List.getElem?_eq_none (by simp [mvH];omega)] at hx;cases hx
 have hp' : HeapR g' (mvH k H) w:=by
  refine ⟨?_,?_,?_,?_,hp.low⟩
  ·intro x c hx
   rcases hal x c hx with ⟨rfl,rfl⟩ | ⟨h1,h2,c0,h3,rfl⟩
   ·simp only [g', if_true]
    rw [rnmL_map]
    exact (hp.obj k cs hk).tell (rnm _) (fun _ _=>rfl) (fun x _ v bs' _ hr=>rnm_rd hτ hr) (fun hn _=>⟨gh_rnm (hn ▸ hp.obj k cs hk).1,fun _ h=>h,fun _ _=>rfl⟩)
   ·simp only [g', if_neg (Nat.ne_of_lt h2)]
    rw [rnmL_map]
    exact (hp.obj x c0 h3).tell (rnm _) (fun _ _=>rfl) (fun x _ v bs' _ hr=>rnm_rd hτ hr) (fun hn _=>⟨gh_rnm (hn ▸ hp.obj x c0 h3).1,fun _ h=>h,fun _ _=>rfl⟩)
  ·intro x c hx
   rcases hal x c hx with ⟨rfl,rfl⟩ | ⟨h1,h2,c0,h3,rfl⟩
   ·simp only [g', if_true];exact hp.nodup k cs hk
   ·simp only [g', if_neg (Nat.ne_of_lt h2)];exact hp.nodup x c0 h3
  ·intro x y c d hx hy hxy b' hb1 hb2
   rcases hal x c hx with ⟨rfl,rfl⟩ | ⟨h1,h2,c0,h3,rfl⟩<;>rcases hal y d hy with ⟨rfl,rfl⟩ | ⟨k1,k2,d0,k3,rfl⟩
   ·exact hxy rfl
   ·simp only [g', if_true] at hb1;simp only [g', if_neg (Nat.ne_of_lt k2)] at hb2
    exact hp.apart k y cs d0 hk k3 (Ne.symm k1) b' hb1 hb2
   ·simp only [g', if_true] at hb2;simp only [g', if_neg (Nat.ne_of_lt h2)] at hb1
    exact hp.apart x k c0 cs h3 hk h1 b' hb1 hb2
   ·simp only [g', if_neg (Nat.ne_of_lt h2)] at hb1;simp only [g', if_neg (Nat.ne_of_lt k2)] at hb2
    exact hp.apart x y c0 d0 h3 k3 hxy b' hb1 hb2
  ·intro x c hx b' hb1
   rcases hal x c hx with ⟨rfl,rfl⟩ | ⟨h1,h2,c0,h3,rfl⟩
   ·simp only [g', if_true] at hb1;exact hp.free k cs hk b' hb1
   ·simp only [g', if_neg (Nat.ne_of_lt h2)] at hb1;exact hp.free x c0 h3 b' hb1
 refine ⟨g', ⟨fun j=>?_,hp', hR.size,hR.defers⟩,hp', ⟨rfl,⟨rfl,Nat.le_refl _⟩,rfl,Nat.le_refl _,fun _ _ _=>rfl,fun b' ⟨x,c,hx,hb1⟩=>.inl ?_,fun _ h=>h,fun _ h=>.inl h,fun _ _=>rfl⟩,fun x d _ hd=>?_⟩
 ·rcases sub_get hF j with e | e
  ·rw [e];exact .any
  ·rw [e]
   rcases mvF_get k H.length F j with e2 | e2
   ·rw [e2];exact rnm_rd hτ (hR.fr j)
   ·rw [e2];exact .any
 ·rcases hal x c hx with ⟨rfl,rfl⟩ | ⟨h1,h2,c0,h3,rfl⟩
  ·simp only [g', if_true] at hb1;exact ⟨k,cs,hk,hb1⟩
  ·simp only [g', if_neg (Nat.ne_of_lt h2)] at hb1;exact ⟨x,c0,h3,hb1⟩
 ·by_cases e:x=k
  ·subst e
   right
   have:=hatk
   unfold Gh.tr
   rw [this]
  ·exact .inl (htr x d e hd)
attribute [go_sem] mvH mvF mvT
end
section
variable {P:Program} {N:Nat} {g:Gh} {F:Frame} {H:Heap} {a:Act} {w:World} {M:List Nat} {n0:Nat}
theorem CallsX.refW {ext:Bool}{f:FuncId}{args:List AV}{H0:Heap}{K K' : AV→Heap→Prop}(h:CallsX P ext f args H0 K')(hk:∀ av H', K' av H' → ∃ av2 H2,Ref H0.length [(0,av)] H' [(0,av2)] H2∧K av2 H2):CallsX P ext f args H0 K:=
 fun g w vals hp hl hr=>(h g w vals hp hl hr).mono fun _ w' ⟨v,g', av,H', he,hm,hx,hex,hkk⟩=>by
  obtain ⟨av2,H2,h1,h2⟩:=hk av H' hkk
  have hR:R 1 g' [(0,av)] H' { tmps:=#[v],defers:=[] } w' := by
   refine ⟨fun j=>?_,hm.hp,rfl,rfl⟩
   simp only [get_put]
   by_cases e:0=j
   ·rw [if_pos e];subst e;exact hx
   ·rw [if_neg e];exact .any
  obtain ⟨g2,hR2,hm2⟩:=h1 1 g' _ w' hR
  have hx2:=hR2.fr 0
  simp only [get_put,if_true] at hx2
  have hmn:MvN H0.length g H0 w g2 H2 w' := (hm.toN).trans hm2
  exact ⟨v,g2,_,_,he,MvN.toMv hp hmn,hx2,hex,h2⟩
theorem wriRV {f:FuncId}{ac:ACode}{rs:List AOp}{args:List AV}{H0:Heap}{x:AV}{H1:Heap}(hc:compileFn P M f=some (N,ac,rs))(hl:decide (args.length≤N)=true)(h:V P M N H0.length ac (endQ rs fun av H' => Ref H0.length [(0,av)] H' [(0,x)] H1) (mkF 0 args) H0):Wri P f args H0 x H1:=
 CallsX.refW (calls_of_W hc (of_decide_eq_true hl) (V_W h)) fun _ _ h=>⟨_,_,h,rfl,rfl⟩
theorem wriREV {f : FuncId} {ac : ACode} {rs : List AOp} {args : List AV} {H0 : Heap} {α : Type} {Q : α → Prop} {x : α → AV} {H1 : α → Heap} (hc : compileFn P M f = some (N, ac, rs)) (hl : decide (args.length ≤ N) = true)
    (h:V P M N H0.length ac (endQ rs fun av H' => ∃ o,Q o∧Ref H0.length [(0,av)] H' [(0,x o)] (H1 o)) (mkF 0 args) H0):WriE P f args H0 Q x H1:=
 CallsX.refW (calls_of_W hc (of_decide_eq_true hl) (V_W h)) fun _ _ ⟨o,h1,h2⟩=>⟨_,_,h2,o,h1,rfl,rfl⟩
theorem pureRV {f:FuncId}{ac:ACode}{rs:List AOp}{args:List AV}{x:AV}{H1:Heap}(hc:compileFn P M f=some (N,ac,rs))(hl:decide (args.length≤N)=true)(h:V P M N 0 ac (endQ rs fun av H' => Ref 0 [(0,av)] H' [(0,x)] H1) (mkF 0 args) []):Pure P f args x H1:=
 CallsX.refW (CallsX.ext_nil (calls_of_W (H:=[]) hc (of_decide_eq_true hl) (V_W h))) fun _ _ h=>⟨_,_,h,rfl,rfl⟩
theorem pureREV {f : FuncId} {ac : ACode} {rs : List AOp} {args : List AV} {α : Type} {Q : α → Prop} {x : α → AV} {H1 : α → Heap} (hc : compileFn P M f = some (N, ac, rs)) (hl : decide (args.length ≤ N) = true)
    (h:V P M N 0 ac (endQ rs fun av H' => ∃ o,Q o∧Ref 0 [(0,av)] H' [(0,x o)] (H1 o)) (mkF 0 args) []):PureE P f args Q x H1:=
 CallsX.refW (CallsX.ext_nil (calls_of_W (H:=[]) hc (of_decide_eq_true hl) (V_W h))) fun _ _ ⟨o,h1,h2⟩=>⟨_,_,h2,o,h1,rfl,rfl⟩
end
section
variable {P:Program} {N:Nat} {g:Gh} {F:Frame} {H:Heap} {a:Act} {w:World} {M:List Nat} {n0:Nat}
def selF (g:Gh)(ks:List Nat)(H:Heap):Gh:=⟨fun o=>g.ρ (ks.getD o 0),fun o=>g.ob (ks.getD o 0),g.G⟩
theorem sfl_tr {ks:List Nat}(hlt:∀ o∈ks,o<H.length){o' o:Nat}(ho:ks[o']? = some o):(selF g ks H).tr (gcH ks H) o' = g.tr H o:=by
 have hl:o<H.length:=hlt o (List.mem_of_getElem? ho)
 have e1:(gcH ks H)[o']? = some (gcC ks (H.getD o none)):=by simp only [gcH,List.getElem?_map,ho,Option.map_some]
 have e2:H[o]? = some (H.getD o none):=by simp [hl]
 have e3:(selF g ks H).ρ o' = g.ρ o:=by simp [selF,List.getD,ho]
 unfold Gh.tr
 rw [e1,e2,e3]
 cases H.getD o none with
 | none=>rfl
 | some cs=>simp only [gcC,rnmL_map,List.length_map]
theorem sfl_al {ks:List Nat}(hlt:∀ o∈ks,o<H.length){o' : Nat}{c:List AV}(h:(gcH ks H)[o']? = some (some c)):∃ o cs,ks[o']? = some o∧H[o]? = some (some cs)∧c=rnmL (gcT ks 0) cs∧(selF g ks H).ρ o' = g.ρ o∧(selF g ks H).ob o' = g.ob o:=by
 simp only [gcH,List.getElem?_map,Option.map_eq_some_iff] at h
 obtain ⟨o,ho,he⟩:=h
 have hl:o<H.length:=hlt o (List.mem_of_getElem? ho)
 cases hc:H.getD o none with
 | none=>rw [hc] at he;cases he
 | some cs=>
  rw [hc] at he
  refine ⟨o,cs,ho,?_,(Option.some.inj he).symm,by simp [selF,List.getD,ho],by simp [selF,List.getD,ho]⟩
  have:H[o]? = some (H.getD o none):=by simp [hl]
  rw [this,hc]
theorem sfl_hp {ks:List Nat}(hp:HeapR g H w)(hnd:ks.Nodup)(hlt:∀ o∈ks,o<H.length):HeapR (selF g ks H) (gcH ks H) w:=by
 have hτ:∀ o o' d,gcT ks 0 o=some o' → g.tr H o=some d→(selF g ks H).tr (gcH ks H) o' = some d∨(selF g ks H).tr (gcH ks H) o' = some none:=fun o o' d h hd=>by
  obtain ⟨m,rfl,hm⟩:=gcT_some ks 0 o o' h
  left;rw [Nat.zero_add,sfl_tr hlt hm,hd]
 have hinj:∀ i j o,ks[i]? = some o→ks[j]? = some o→i=j:=fun i j o hi hj=>by
  obtain ⟨hi1,hi2⟩:=List.getElem?_eq_some_iff.1 hi
  obtain ⟨hj1,hj2⟩:=List.getElem?_eq_some_iff.1 hj
  exact (List.getElem_inj hnd).1 (hi2.trans hj2.symm)
 refine ⟨?_,?_,?_,?_,?_⟩
 ·intro o' c ho
  obtain ⟨o,cs,hk,hc,rfl,e1,e2⟩:=sfl_al (g:=g) hlt ho
  rw [e1,e2]
  have h1:=hp.obj o cs hc
  rw [rnmL_map]
  exact h1.tell (rnm _) (fun _ _=>rfl) (fun x _ v bs' _ hr=>rnm_rd hτ hr) (fun hn _=>⟨gh_rnm (hn ▸ h1).1,fun _ h=>h,fun _ _=>rfl⟩)
 ·intro o' c ho
  obtain ⟨o,cs,hk,hc,rfl,e1,e2⟩:=sfl_al (g:=g) hlt ho
  rw [e2];exact hp.nodup o cs hc
 ·intro o' o2' c c2 ho ho2 hne b hb
  obtain ⟨o,cs,hk,hc,rfl,e1,e2⟩:=sfl_al (g:=g) hlt ho
  obtain ⟨o2,cs2,hk2,hc2,rfl,e12,e22⟩:=sfl_al (g:=g) hlt ho2
  rw [e2] at hb
  rw [e22]
  refine hp.apart o o2 cs cs2 hc hc2 (fun e=>hne ?_) b hb
  subst e;exact hinj _ _ _ hk hk2
 ·intro o' c ho b hb
  obtain ⟨o,cs,hk,hc,rfl,e1,e2⟩:=sfl_al (g:=g) hlt ho
  rw [e2] at hb
  exact hp.free o cs hc b hb
 ·exact fun b h=>hp.low b h
def sgT (ks:List Nat)(n:Nat)(o:Nat):Option Nat:=some (sgm ks n o)
def sgH (ks:List Nat)(n:Nat)(H:Heap):Heap:=H.map (Option.map (rnmL (sgT ks n)))
theorem CallsX.liftF {ext : Bool} {f : FuncId} {args args' : List AV} {H0 : Heap} {K : AV → Heap → Prop} (ks : List Nat) (h : CallsX P ext f args H0 K) (hnd : ks.Nodup) (hlt : ∀ o ∈ ks, o < H.length) (hH0 : gcH ks H = H0) (ha : args = args'.map (rnm (gcT ks 0))) :
    CallsX P ext f args' H fun av H' => ∃ av0 H1,K av0 H1∧av=rnm (sgT ks H.length) av0∧H' = putB ks (sgH ks H.length H1) H:=by
 intro g w vals hp hl hr
 subst hH0
 refine (h (selF g ks H) w vals (sfl_hp hp hnd hlt) (by rw [ha];simpa using hl) (fun m hm=>?_)).mono ?_
 ·subst ha
  simp only [List.getElem_map]
  exact rnm_rd (fun o o' d h hd=>by
   obtain ⟨m,rfl,hm⟩:=gcT_some ks 0 o o' h
   left;rw [Nat.zero_add,sfl_tr hlt hm,hd]) (hr m (by simpa using hm))
 ·rintro e w' ⟨v,g1,av,H1,he,hm,hx,hE,hk⟩
  have hsz:=hm.stp.size
  have hown0:∀ b,(selF g ks H).owns (gcH ks H) b→∃ o cs,o∈ks∧H[o]? = some (some cs)∧b∈g.ob o:=fun b ⟨o', c,ho,hb⟩=>by
   obtain ⟨o,cs,hk,hc,rfl,e1,e2⟩:=sfl_al (g:=g) hlt ho
   exact ⟨o,cs,List.mem_of_getElem? hk,hc,by rwa [e2] at hb⟩
  have hkeepG:∀ b,g.G b→w'.heap[b]? = w.heap[b]?:=fun b hb=>hm.stp.keep b (hp.low b hb) fun ho=>by
   obtain ⟨o,cs,_,hc,hbo⟩:=hown0 b ho
   exact hp.free o cs hc b hbo hb
  have hkeepO:∀ o cs,H[o]? = some (some cs)→o∉ks→∀ b∈g.ob o,w'.heap[b]? = w.heap[b]?:=fun o cs ho hn b hb=>hm.stp.keep b ((hp.obj o cs ho).all_lt b hb) fun hon=>by
   obtain ⟨o2,cs2,h2,hc2,hbo⟩:=hown0 b hon
   exact hp.apart o o2 cs cs2 ho hc2 (fun e=>hn (e ▸ h2)) b hb hbo
  have hlen:ks.length≤H1.length:=by
   rcases Nat.eq_zero_or_pos ks.length with h0 | h0
   ·omega
   ·obtain ⟨o,ho⟩:∃ o,ks[ks.length - 1]? = some o:=⟨_,List.getElem?_eq_getElem (by omega)⟩
    have h1:(selF g ks H).tr (gcH ks H) (ks.length - 1)=g.tr H o:=sfl_tr hlt ho
    have hol:=hlt o (List.mem_of_getElem? ho)
    have h2:∃ d,g.tr H o=some d:=by
     unfold Gh.tr
     rw [List.getElem?_eq_getElem hol]
     cases H[o]<;>exact ⟨_,rfl⟩
    obtain ⟨dd,hdd⟩:=h2
    have h3:ks.length - 1<H1.length:=by
     rcases hm.trk _ _ (h1.trans hdd) with h | h<;>exact tr_lt h
    omega
  let σ:=sgm ks H.length
  let H2:=sgH ks H.length H1
  let H' := putB ks H2 H
  have hlen2:ks.length≤H2.length:=by simpa [H2,sgH] using hlen
  let inv:Nat→Nat:=fun o=>match gcT ks 0 o with
   | some i=>i
   | none=>o - H.length+ks.length
  let isN:Nat→Bool:=fun o=>(gcT ks 0 o).isSome || decide (H.length≤o)
  let g' : Gh:=⟨fun o=>if isN o then g1.ρ (inv o) else g.ρ o,fun o=>if isN o then g1.ob (inv o) else g.ob o,g1.G⟩
  have gcT_of:∀ (l:List Nat) (i o m:Nat),l.Nodup→l[m]? = some o→gcT l i o=some (i+m):=fun l=>by
   induction l with
   | nil=>intro i o m _ h;simp at h
   | cons k l ih=>
    intro i o m hn h
    cases m with
    | zero => obtain rfl : k = o := by simpa using h
              simp [gcT]
    | succ m=>
     have h' : l[m]? = some o:=by simpa using h
     have hne:o≠k:=fun e=>(List.nodup_cons.1 hn).1 (e ▸ List.mem_of_getElem? h')
     rw [gcT,if_neg hne,ih (i+1) o m (List.nodup_cons.1 hn).2 h']
     congr 1;omega
  have gcT_no:∀ o,o∉ks→gcT ks 0 o=none:=fun o ho=>by
   cases hg:gcT ks 0 o with
   | none=>rfl
   | some i=>
    obtain ⟨m,_,hm⟩:=gcT_some ks 0 o i hg
    exact absurd (List.mem_of_getElem? hm) ho
  have hisO:∀ o,o∉ks→o<H.length→isN o=false:=fun o h1 h2=>by simp [isN,gcT_no o h1];omega
  have hisN:∀ i o,sgm ks H.length i=o→(ks[i]? = some o∨(ks.length≤i∧H.length≤o))→isN o=true∧inv o=i:=fun i o hs h=>by
   rcases h with h | ⟨h1,h2⟩
   ·have:=gcT_of ks 0 o i hnd h
    rw [Nat.zero_add] at this
    exact ⟨by simp [isN,this],by simp [inv,this]⟩
   ·have hno:o∉ks:=fun hm=>by have:=hlt o hm;omega
    rw [sgm_ge ks _ _ h1] at hs
    refine ⟨by simp [isN];omega,?_⟩
    simp only [inv,gcT_no o hno]
    omega
  have hinv:∀ o cs,H'[o]? = some (some cs)→(o∉ks∧o<H.length∧H[o]? = some (some cs))∨∃ i c,H1[i]? = some (some c)∧cs=rnmL (sgT ks H.length) c∧isN o=true∧inv o=i:=fun o cs ho=>by
   rcases putB_inv ks H2 H hnd hlt hlen2 o _ ho with h | ⟨i,h1,h2,h3⟩
   ·exact .inl h
   ·right
    simp only [H2,sgH,List.getElem?_map,Option.map_eq_some_iff] at h1
    obtain ⟨x,hx,he⟩:=h1
    obtain ⟨c,rfl,rfl⟩:=he
    exact ⟨i,c,hx,rfl,hisN i o h2 h3⟩
  have htrO:∀ o d,o∉ks→g.tr H o=some d→g'.tr H' o=some d:=fun o dd hn ho=>by
   have hlo:=tr_lt ho
   unfold Gh.tr at *
   rw [putB_old ks H2 H o hlo hn]
   simp only [g', hisO o hn hlo]
   exact ho
  have htrN:∀ i d,g1.tr H1 i=some d→g'.tr H' (σ i)=some d:=fun i dd hi=>by
   have hli:=tr_lt hi
   have hat:H'[σ i]? = H2[i]? ∧ isN (σ i)=true∧inv (σ i)=i:=by
    rcases Nat.lt_or_ge i ks.length with h1 | h1
    ·have h2:ks[i]? = some ks[i]:=List.getElem?_eq_getElem h1
     have e:σ i=ks[i]:=sgm_lt ks _ i _ h2
     rw [e]
     exact ⟨putB_at ks H2 H i _ hnd hlt hlen2 h2,hisN i _ (sgm_lt ks _ i _ h2) (.inl h2)⟩
    ·have e:σ i=H.length+(i - ks.length):=sgm_ge ks _ i h1
     exact ⟨by rw [e];exact putB_new ks H2 H i hlen2 h1,hisN i _ rfl (.inr ⟨h1,by rw [e];omega⟩)⟩
   obtain ⟨h1,h2,h3⟩:=hat
   unfold Gh.tr at *
   rw [h1]
   simp only [H2,sgH,List.getElem?_map,g', h2,h3,if_true]
   rw [List.getElem?_eq_getElem hli] at hi ⊢
   cases hh:H1[i] with
   | none=>rw [hh] at hi;simpa using hi
   | some cs=>rw [hh] at hi;simpa [rnmL_map] using hi
  have hτN:∀ o o' d,sgT ks H.length o=some o' → g1.tr H1 o=some d→g'.tr H' o' = some d∨g'.tr H' o' = some none:=fun o o' dd h hd=>by
   obtain rfl:=Option.some.inj h
   exact .inl (htrN o dd hd)
  have htr:∀ o d,g.tr H o=some d→g'.tr H' o=some d∨g'.tr H' o=some none:=fun o dd ho=>by
   by_cases hm' : o∈ks
   ·obtain ⟨i,hi⟩:=List.mem_iff_getElem?.1 hm'
    have e:σ i=o:=sgm_lt ks _ i o hi
    have h1:(selF g ks H).tr (gcH ks H) i=some dd:=by rw [sfl_tr hlt hi];exact ho
    rw [← e]
    exact (hm.trk i dd h1).imp (htrN i dd) (htrN i none)
   ·exact .inl (htrO o dd hm' ho)
  have hfr:∀ i c,H1[i]? = some (some c)→∀ b∈g1.ob i,(∃ o cs,o∈ks∧H[o]? = some (some cs)∧b∈g.ob o)∨w.heap.size≤b:=fun i c hi b hb=>
   (hm.stp.own b ⟨i,c,hi,hb⟩).imp (hown0 b) id
  have hp' : HeapR g' H' w' := by
   refine ⟨?_,?_,?_,?_,fun b hb=>hm.hp.low b hb⟩
   ·intro o cs ho
    rcases hinv o cs ho with ⟨hn,hlo,ho'⟩ | ⟨i,c,hi,rfl,hN,hI⟩
    ·simp only [g', hisO o hn hlo]
     exact (hp.obj o cs ho').mono hm.stp.gin hkeepG htr (hkeepO o cs ho' hn)
    ·simp only [g', hN,hI,if_true]
     have h1:=hm.hp.obj i c hi
     exact (rnmL_map (sgT ks H.length) c ▸ h1.tell (rnm _) (fun _ _=>rfl) (fun x hx v bs' _ hr=>rnm_rd hτN hr) (fun hn _=>⟨gh_rnm (hn ▸ h1).1,fun _ h=>h,fun _ _=>rfl⟩))
   ·intro o cs ho
    rcases hinv o cs ho with ⟨hn,hlo,ho'⟩ | ⟨i,c,hi,rfl,hN,hI⟩
    ·simp only [g', hisO o hn hlo];exact hp.nodup o cs ho'
    ·simp only [g', hN,hI,if_true];exact hm.hp.nodup i c hi
   ·intro o o2 cs cs2 ho ho2 hne b h1 h2
    rcases hinv o cs ho with ⟨hn,hlo,ho'⟩ | ⟨i,c,hi,rfl,hN,hI⟩<;>rcases hinv o2 cs2 ho2 with ⟨hn2,hlo2,ho2'⟩ | ⟨i2,c2,hi2,rfl,hN2,hI2⟩
    ·simp only [g', hisO o hn hlo] at h1;simp only [g', hisO o2 hn2 hlo2] at h2;exact hp.apart o o2 cs cs2 ho' ho2' hne b h1 h2
    ·simp only [g', hisO o hn hlo] at h1;simp only [g', hN2,hI2,if_true] at h2
     rcases hfr i2 c2 hi2 b h2 with ⟨o3,cs3,h3,h4,h5⟩ | h
     ·exact hp.apart o o3 cs cs3 ho' h4 (fun e=>hn (e ▸ h3)) b h1 h5
     ·have:=(hp.obj o cs ho').all_lt b h1;omega
    ·simp only [g', hN,hI,if_true] at h1;simp only [g', hisO o2 hn2 hlo2] at h2
     rcases hfr i c hi b h1 with ⟨o3,cs3,h3,h4,h5⟩ | h
     ·exact hp.apart o2 o3 cs2 cs3 ho2' h4 (fun e=>hn2 (e ▸ h3)) b h2 h5
     ·have:=(hp.obj o2 cs2 ho2').all_lt b h2;omega
    ·simp only [g', hN,hI,if_true] at h1;simp only [g', hN2,hI2,if_true] at h2
     refine hm.hp.apart i i2 c c2 hi hi2 (fun e=>hne ?_) b h1 h2
     subst e
     have:∀ o,isN o=true→σ (inv o)=o:=fun o hN=>by
      simp only [isN,Bool.or_eq_true,decide_eq_true_eq,Option.isSome_iff_exists] at hN
      rcases hN with ⟨j,hj⟩ | hge
      ·obtain ⟨m,rfl,hm⟩:=gcT_some ks 0 o j hj
       simp only [inv,hj,Nat.zero_add]
       exact sgm_lt ks _ m o hm
      ·have hno:o∉ks:=fun hm=>by have:=hlt o hm;omega
       simp only [inv,gcT_no o hno]
       show sgm ks H.length _=o
       rw [sgm_ge ks _ _ (by omega)];omega
     rw [← this o hN,← this o2 hN2,hI,hI2]
   ·intro o cs ho b h1 hG
    rcases hinv o cs ho with ⟨hn,hlo,ho'⟩ | ⟨i,c,hi,rfl,hN,hI⟩
    ·simp only [g', hisO o hn hlo] at h1
     rcases hm.stp.gout b hG with h | h | h
     ·exact hp.free o cs ho' b h1 h
     ·obtain ⟨o3,cs3,h3,h4,h5⟩:=hown0 b h
      exact hp.apart o o3 cs cs3 ho' h4 (fun e=>hn (e ▸ h3)) b h1 h5
     ·have:=(hp.obj o cs ho').all_lt b h1;omega
    ·simp only [g', hN,hI,if_true] at h1
     exact hm.hp.free i c hi b h1 hG
  refine ⟨v,g', rnm (sgT ks H.length) av,H', he,⟨hp', ⟨hm.stp.os,hm.stp.tape,hm.stp.output,hsz,fun b hb hno=>hm.stp.keep b hb fun ho=>?_,fun b ⟨o,cs,ho,h1⟩=>?_,hm.stp.gin,fun b h=>(hm.stp.gout b h).imp id (Or.imp (fun h=>(hown0 b h).elim fun o ⟨cs,_,h4,h5⟩=>⟨o,cs,h4,h5⟩) id),hm.stp.fz⟩,
   fun x v h=>h.mono hm.stp.gin hkeepG htr (by simp),htr⟩,rnm_rd hτN hx,hE,av,H1,hk,rfl,rfl⟩
  ·obtain ⟨o,cs,_,hc,hbo⟩:=hown0 b ho
   exact hno ⟨o,cs,hc,hbo⟩
  ·rcases hinv o cs ho with ⟨hn,hlo,ho'⟩ | ⟨i,c,hi,rfl,hN,hI⟩
   ·left;simp only [g', hisO o hn hlo] at h1;exact ⟨o,cs,ho', h1⟩
   ·simp only [g', hN,hI,if_true] at h1
    exact (hfr i c hi b h1).imp (fun ⟨o3,cs3,h3,h4,h5⟩=>⟨o3,cs3,h4,h5⟩) id
attribute [go_sem] sgT sgH
end
section
variable {P:Program} {N:Nat} {g:Gh} {F:Frame} {H:Heap} {a:Act} {w:World} {M:List Nat} {n0:Nat}
def vwC (ks:List Nat)(H:Heap):AV→AV
 | .clo f fs cs=>vw ks H 6 (.clo f fs cs)
 | .sl o k off len=>vw ks H 6 (.sl o k off len)
 | .ref o j=>vw ks H 6 (.ref o j)
 | x=>rnm (gcT ks 0) x
def vwH (ks:List Nat)(H:Heap):Heap:=ks.map fun o=>(H.getD o none).map (List.map (vwC ks H))
def vwF (ks:List Nat)(H:Heap)(F:Frame):Frame:=F.map fun p=>(p.1,vw ks H 6 p.2)
theorem vwF_get (ks:List Nat)(H:Heap):∀ (F:Frame) (j:Nat),fget (vwF ks H F) j=vw ks H 6 (fget F j)∨fget (vwF ks H F) j = .any
 | [],_=>.inr rfl
 | (i,x) :: l,j=>by
  simp only [vwF,List.map_cons,get_put]
  by_cases e:i=j
  ·rw [if_pos e,if_pos e];exact .inl rfl
  ·rw [if_neg e,if_neg e];exact vwF_get ks H l j
theorem vwH_tr (g:Gh)(ks:List Nat)(H:Heap)(o:Nat):g.tr (vwH ks H) o=g.tr (gcH ks H) o:=by
 unfold Gh.tr
 simp only [vwH,gcH,List.getElem?_map]
 cases ks[o]? with
 | none=>rfl
 | some k=>
  simp only [Option.map_some]
  cases H.getD k none with
  | none=>rfl
  | some cs=>simp only [Option.map_some,gcC,List.length_map,rnmL_map]
theorem Ref.sel (ks:List Nat){F' : Frame}{H' : Heap}(hk:gcOk ks H.length n0=true)(hH:vwH ks H=H')(hF:sub (vwF ks H F) F'):Ref n0 F H F' H' := fun N g a w hR=>by
 subst hH
 simp only [gcOk,Bool.and_eq_true,decide_eq_true_eq,List.all_eq_true] at hk
 obtain ⟨⟨hnd,hlt⟩,h0⟩:=hk
 have hp:=hR.hp
 have hq:=sel_hp (ks:=ks) hp hnd hlt
 have htr:(selG g ks H).tr (vwH ks H)=(selG g ks H).tr (gcH ks H):=funext fun o=>vwH_tr _ ks H o
 have hτ:∀ o o' d,gcT ks 0 o=some o' → g.tr H o=some d→(selG g ks H).tr (vwH ks H) o' = some d∨(selG g ks H).tr (vwH ks H) o' = some none:=fun o o' d h hd=>by
  obtain ⟨m,rfl,hm⟩:=gcT_some ks 0 o o' h
  left;rw [htr,Nat.zero_add,sel_tr hlt hm,hd]
 have hal:∀ o' c,(vwH ks H)[o']? = some (some c)→∃ o cs,ks[o']? = some o∧H[o]? = some (some cs)∧c=cs.map (vwC ks H)∧(selG g ks H).ρ o' = g.ρ o∧(selG g ks H).ob o' = g.ob o∧(gcH ks H)[o']? = some (some (rnmL (gcT ks 0) cs)):=fun o' c h=>by
  simp only [vwH,List.getElem?_map,Option.map_eq_some_iff] at h
  obtain ⟨o,ho,he⟩:=h
  have hl:o<H.length:=hlt o (List.mem_of_getElem? ho)
  obtain ⟨cs,hc,he⟩:=he
  refine ⟨o,cs,ho,?_,he.symm,by simp [selG,List.getD,ho],by simp [selG,List.getD,ho],?_⟩
  ·have:H[o]? = some (H.getD o none):=by simp [hl]
   rw [this,hc]
  ·simp only [gcH,List.getElem?_map,ho,Option.map_some,hc,gcC]
 have hp' : HeapR (selG g ks H) (vwH ks H) w:=by
  refine ⟨?_,?_,?_,?_,hq.low⟩
  ·intro o' c ho
   obtain ⟨o,cs,hk,hc,rfl,e1,e2,_⟩:=hal o' c ho
   rw [e1,e2]
   refine (hp.obj o cs hc).tell (vwC ks H) (fun _ _=>rfl) (fun x _ v bs' _ hr=>?_) (fun hn _=>⟨fun x hx hg=>?_,fun _ h=>.inl h,fun _ _=>rfl⟩)
   rotate_left
   ·have h2:=gh_rnm (τ:=gcT ks 0) (hn ▸ hp.obj o cs hc).1 x hx hg
    unfold vwC
    split
    ·cases hg
    ·cases hg
    ·cases hg
    ·exact h2
   have hr2:Rd w ((selG g ks H).tr (vwH ks H)) (selG g ks H).G (rnm (gcT ks 0) x) v bs' := (rnm_rd hτ hr).mono (fun _ h=>.inl h) (fun _ _=>rfl) (fun _ _ h=>.inl h) (fun _ _=>rfl)
   have hv:bs' = []→Rd w ((selG g ks H).tr (vwH ks H)) (selG g ks H).G (vw ks H 6 x) v bs' := fun e=>by
    subst e
    rw [htr]
    exact vw_ok hp hlt 6 x v hr
   unfold vwC
   split
   ·exact hv (by cases hr;rfl)
   ·exact hv (by cases hr;rfl)
   ·exact hv (by cases hr;rfl)
   ·exact hr2
  ·intro o' c ho
   obtain ⟨o,cs,hk,hc,rfl,e1,e2,e3⟩:=hal o' c ho
   exact hq.nodup o' _ e3
  ·intro o' o2' c c2 ho ho2 hne b hb
   obtain ⟨_,_,_,_,_,_,_,e3⟩:=hal o' c ho
   obtain ⟨_,_,_,_,_,_,_,e4⟩:=hal o2' c2 ho2
   exact hq.apart o' o2' _ _ e3 e4 hne b hb
  ·intro o' c ho b hb
   obtain ⟨_,_,_,_,_,_,_,e3⟩:=hal o' c ho
   exact hq.free o' _ e3 b hb
 refine ⟨selG g ks H,⟨fun j=>?_,hp', hR.size,hR.defers⟩,hp', ⟨rfl,⟨rfl,Nat.le_refl _⟩,rfl,Nat.le_refl _,fun _ _ _=>rfl,fun b ⟨o', c,ho,hb⟩=>.inl ?_,fun _ h=>.inl h,fun b h=>?_,fun _ _=>rfl⟩,fun o d ho hd=>.inl ?_⟩
 ·rcases sub_get hF j with e | e
  ·rw [e];exact .any
  ·rw [e]
   rcases vwF_get ks H F j with e2 | e2
   ·rw [e2,htr];exact vw_ok hp hlt 6 _ _ (hR.fr j)
   ·rw [e2];exact .any
 ·obtain ⟨o,cs,hk,hc,rfl,e1,e2,_⟩:=hal o' c ho
  rw [e2] at hb
  exact ⟨o,cs,hc,hb⟩
 ·rcases h with h | ⟨o,cs,h1,h2⟩
  ·exact .inl h
  ·exact .inr (.inl ⟨o,cs,(killL_get ks H o cs h1).2,h2⟩)
 ·have : ks[o]? = some o := by
    have h1:(ks.take n0)[o]? = (List.range n0)[o]?:=by rw [h0]
    rw [List.getElem?_take_of_lt ho,List.getElem?_range ho] at h1
    exact h1
  rw [htr,sel_tr hlt this,hd]
theorem Ref.tell (o:Nat)(f:AV→AV){cs:List AV}(ho:H[o]? = some (some cs))(hf:∀ x,x∈cs→∀ (w:World) tr G v bs,Rd w tr G x v bs→Rd w tr G (f x) v bs)(hgh:cs.any ghA=false:=by first | rfl | simp [ghA]):Ref n0 F H F (H.set o (some (cs.map f))):=Ref.core fun g w hp=>by
 have hol:o<H.length:=(List.getElem?_eq_some_iff.1 ho).1
 have htr:g.tr (H.set o (some (cs.map f)))=g.tr H:=funext fun x=>by
  unfold Gh.tr
  by_cases e:o=x
  ·subst e
   rw [List.getElem?_set_self hol,ho]
   simp
  ·rw [List.getElem?_set_ne e]
 have hal:∀ x c,(H.set o (some (cs.map f)))[x]? = some (some c)→∃ c0,H[x]? = some (some c0)∧(x=o∧c0=cs∧c=cs.map f∨x≠o∧c=c0):=fun x c h=>by
  by_cases e:o=x
  ·subst e
   rw [List.getElem?_set_self hol] at h
   exact ⟨cs,ho,.inl ⟨rfl,rfl,(Option.some.inj (Option.some.inj h)).symm⟩⟩
  ·rw [List.getElem?_set_ne e] at h
   exact ⟨c,h,.inr ⟨fun h=>e h.symm,rfl⟩⟩
 refine ⟨g,⟨?_,?_,?_,?_,hp.low⟩,?_,rfl,fun x d hd=>.inl (by rw [htr];exact hd)⟩
 ·intro x c hx
  obtain ⟨c0,h1,⟨rfl,rfl,rfl⟩ | ⟨h2,rfl⟩⟩:=hal x c hx
  ·rw [htr]
   exact (hp.obj _ _ h1).tell f (fun _ _=>rfl) (fun y hy v bs' _ hr=>hf y hy _ _ _ _ _ hr) (fun _ ⟨y,hy,hg⟩=>absurd hg (by have:=List.any_eq_false.1 hgh y hy;simpa using this))
  ·rw [htr];exact hp.obj _ _ h1
 ·intro x c hx
  obtain ⟨c0,h1,_⟩:=hal x c hx
  exact hp.nodup x c0 h1
 ·intro x y c d hx hy hne b hb
  obtain ⟨c0,h1,_⟩:=hal x c hx
  obtain ⟨d0,k1,_⟩:=hal y d hy
  exact hp.apart x y c0 d0 h1 k1 hne b hb
 ·intro x c hx b hb
  obtain ⟨c0,h1,_⟩:=hal x c hx
  exact hp.free x c0 h1 b hb
 ·rintro b ⟨x,c,hx,hb⟩
  obtain ⟨c0,h1,_⟩:=hal x c hx
  exact ⟨x,c0,h1,hb⟩
attribute [go_sem] vwH vwF vwC
end
section
variable {P:Program} {N:Nat} {g:Gh} {F:Frame} {H:Heap} {a:Act} {w:World} {M:List Nat} {n0:Nat}
theorem CallsX.nilA {ext:Bool}{f:FuncId}{args' : List AV}{K:AV→Heap→Prop}(i k:Nat)(hi:args'[i]? = some nilS)(h:CallsX P ext f (args'.set i (.sl H.length k 0 0)) (H++[some []]) K):CallsX P ext f args' H K:=fun g w vals hp hl hr=>by
 have hm:=nil_obj hp
 refine (h _ w vals hm.hp (by simpa using hl) fun m hm' => ?_).mono ?_
 ·rw [List.getElem_set]
  split
  ·rename_i e
   subst e
   have hi' : i<args'.length:=by simpa using hm'
   have h1:=hr i hi'
   rw [show args'[i]=nilS from Option.some.inj ((List.getElem?_eq_getElem hi').symm.trans hi)] at h1
   have e1:(g.add H.length none []).tr (H++[some []]) H.length=some (some (none,0)):=by
    have e1:(H++[some ([]:List AV)])[H.length]? = some (some []):=by simp
    rw [Gh.tr_some e1]
    simp [Gh.add]
   rw [h1.val_inv.1]
   refine .sl (by rw [e1];rfl) rfl fun l hl=>?_
   rw [e1] at hl
   obtain rfl:=Option.some.inj (Option.some.inj hl)
   exact ⟨by dsimp only;omega,rfl,none,rfl⟩
  ·exact hm.lift _ _ (hr m (by simpa using hm'))
 ·rintro e w' ⟨v,g', av,H', he,hmv,hx,hext,hk⟩
  exact ⟨v,g', av,H', he,hm.trans hmv,hx,hext,hk⟩
end
section
variable {P:Program} {N:Nat} {g:Gh} {F:Frame} {H:Heap} {a:Act} {w:World} {M:List Nat} {n0:Nat}
theorem wriEF {f : FuncId} {args args' : List AV} {H0 : Heap} {α : Type} {Q : α → Prop} {x : α → AV} {H1 : α → Heap} {K : AV → Heap → Prop} (h : WriE P f args H0 Q x H1) (ks : List Nat) (hks : (decide ks.Nodup && ks.all fun o => decide (o < H.length)) = true) (hH : gcH ks H = H0) (ha : args'.map (rnm (gcT ks 0)) = args)
    (hK:∀ o,Q o→K (rnm (sgT ks H.length) (x o)) (putB ks (sgH ks H.length (H1 o)) H)):CallsX P false f args' H K:=by
 simp only [Bool.and_eq_true,decide_eq_true_eq,List.all_eq_true] at hks
 exact (CallsX.liftF ks h hks.1 hks.2 hH ha.symm).mono (by rintro av H' ⟨av0,H0', ⟨o,ho,rfl,rfl⟩,rfl,rfl⟩;exact hK o ho)
theorem Br_join {p q X Y:Prop}{α:Type}(C:α→Prop){J:α→Prop}(hx:p→(∀ o,C o→J o)→X)(hy:q→(∀ o,C o→J o)→Y)(hn:∀ o,C o→J o):Br p q X Y:=⟨fun h=>hx h hn,fun h=>hy h hn⟩
theorem W_to {z:ACode}{Q:Exit→Frame→Heap→Prop}{α:Type}(C:α→Prop)(F1:α→Frame)(H1:α→Heap)(hn:∀ o,C o→W P M N n0 z Q (F1 o) (H1 o))(o:α)(ho:C o)(hr:Ref n0 F H (F1 o) (H1 o)):W P M N n0 z Q F H:=W_ref hr (hn o ho)
end
section
variable {P:Program} {N:Nat} {g:Gh} {F:Frame} {H:Heap} {a:Act} {w:World} {M:List Nat} {n0:Nat}
theorem CallsX.slc0 {ext:Bool}{f:FuncId}{K:AV→Heap→Prop}{k:Nat}(h:∀ (b:Option Addr) (cap:Nat),CallsX P ext f [.val (.slice b 0 cap)] H K):CallsX P ext f [.slc k 0 []] H K:=fun g w vals hp hl hr=>by
 have h0:=hr 0 (by simp)
 simp only [List.getElem_cons_zero] at h0
 have key:∀ b cap,vals.getD 0 undef = .slice b 0 cap→Calls P f vals w fun e w' => ∃ v g' av H', e = .returned v∧Mv g H w g' H' w' ∧ Rd w' (g'.tr H') g'.G av v []∧(ext=true→Ext w w')∧K av H' := fun b cap e=>by
  refine h b cap g w vals hp hl fun m hm=>?_
  obtain rfl:m=0:=by simpa using hm
  simp only [List.getElem_cons_zero]
  rw [e]
  exact .val
 generalize hv:vals.getD 0 undef=v at h0
 cases h0 with
 | slc u _ _ _ _ _ _=>exact key _ _ hv
 | slc0 hm=>exact key _ _ hv
end
end Go.Gov
