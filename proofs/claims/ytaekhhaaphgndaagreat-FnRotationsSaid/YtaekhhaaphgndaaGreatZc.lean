/- Texts that belong together. -/
import Derived.StillTail
import Derived.Deep.LoopGhost
import Derived.Test.YtaekhhaaphgndaaGreatZ1
set_option linter.unusedSimpArgs false
set_option linter.unusedVariables false
namespace Go.Gov
section
variable {P:Program} {N:Nat} {g:Gh} {F:Frame} {H:Heap} {a:Act} {w:World}
structure GOp where
 dst:Option Nat
 grd:Option (Nat×Bool)
 op:AOp
def putF (F:Frame):Option Nat→AV→Frame
 | some d,x=>(d,x) :: F
 | none,_=>F
def dstOk (N:Nat):Option Nat→Bool
 | some d=>decide (d<N)
 | none=>true
def compileG (P:Program)(N:Nat)(ops:Array Oper)(i:Nat):Option GOp:=match ops[i]? with
 | none=>none
 | some o=>match compileOp P o with
  | none=>none
  | some x => if dstOk N o.dst then match o.guard with
      | none=>some ⟨o.dst,none,x⟩
      | some (j,want)=>match (ops[j]?).bind (·.dst) with
       | some s=>if s<N then some ⟨o.dst,some (s,want),x⟩ else none
       | none=>none
   else none
def gcond:AV→Bool→Option Bool
 | .val (.bool b),w=>some (b == w)
 | .cnd c x,w=>(gcond x w).map (c && ·)
 | _,_=>none
def CallsX (P:Program)(ext:Bool)(f:FuncId)(args:List AV)(H:Heap)(K:AV→Heap→Prop):Prop:=
 ∀ g w (vals:Array Value),HeapR g H w→vals.size=args.length→(∀ m (h:m<args.length),Rd w (g.tr H) g.G args[m] (vals.getD m undef) []) →
  Calls P f vals w fun e w' => ∃ v g' av H', e = .returned v∧Mv g H w g' H' w' ∧ Rd w' (g'.tr H') g'.G av v []∧(ext=true→Ext w w')∧K av H'
def callable (P:Program)(f:FuncId):Bool:=match P.funcs[f]? with
 | some fn=>fn.body.isSome && !(fn.name == "runtime.NumGoroutine")
 | none=>false
def argsOk (F:Frame):List AX→Prop
 | []=>True
 | x :: l=>stOk (ax F x)∧argsOk F l
def EvGrd (g:Option Bool)(A:Bool→Prop):Prop:=match g with
 | none=>False
 | some gb=>A gb
@[congr] theorem EvGrd_congr {g g' : Option Bool} {A:Bool→Prop} (h:g=g'):EvGrd g A=EvGrd g' A:=by rw [h]
theorem EvGrd_some (gb:Bool)(A:Bool→Prop):EvGrd (some gb) A=A gb:=rfl
def GCall (gb:Bool)(C K:AV→Prop)(D:Prop):Prop:=(∃ av,(gb=true→C av)∧K av)∨(gb=true∧D)
theorem GCall.mk {gb:Bool}{C K:AV→Prop}{D:Prop}(av:AV)(h:gb=true→C av)(k:K av):GCall gb C K D:=.inl ⟨av,h,k⟩
theorem GCall.on {gb:Bool}{C K:AV→Prop}{D:Prop}(h:gb=true)(d:D):GCall gb C K D:=.inr ⟨h,d⟩
@[congr] theorem GCall_congr {gb gb' : Bool} {C C' K:AV→Prop} {D:Prop} (h:gb=gb') (hc:∀ av,C av=C' av):GCall gb C K D=GCall gb' C' K D:=by
 rw [h,show C=C' from funext hc]
@[congr] theorem CallsX_congr {P:Program} {ext:Bool} {f:FuncId} {args args' : List AV} {H H' : Heap} {K:AV→Heap→Prop} (ha:args=args') (hH:H=H'):CallsX P ext f args H K=CallsX P ext f args' H' K:=by
 rw [ha,hH]
def EvG (P:Program)(ext:Bool)(x:GOp)(K:Frame→Heap→Prop)(F:Frame)(H:Heap):Prop:=match x.grd with
 | none=>if isQuiet x.op then qOk x.op F H∧K (putF F x.dst (qVal x.op F H)) H else match x.op with
  | .call f args=>argsOk F args∧CallsX P ext f (args.map fun y=>st (ax F y)) H fun av H' => K (putF F x.dst av) H'
  | .callv fv args=>argsOk F args∧stOk (ax F fv)∧match st (ax F fv) with
   | .clo f fs cs=>callable P f=true∧CallsX P ext f (fs++(args.map fun y=>st (ax F y))++cs) H fun av H' => K (putF F x.dst av) H'
   | _=>False
  | op=>(ext=true→isExt op=true)∧evLoud op F H fun av H' => K (putF F x.dst av) H'
 | some (s, want) => EvGrd (gcond (fget F s) want) fun gb => if isQuiet x.op then (gb = true → qOk x.op F H) ∧ K (putF F x.dst (.cnd gb (qVal x.op F H))) H else match x.op with
     | .call f args=>GCall gb (fun av=>argsOk F args∧CallsX P true f (args.map fun y=>st (ax F y)) H fun av' H' => av' = av∧H' = H) (fun av=>K (putF F x.dst (.cnd gb av)) H) (argsOk F args∧CallsX P ext f (args.map fun y=>st (ax F y)) H fun av' H' => K (putF F x.dst (.cnd true av')) H')
     | .callv fv args => GCall gb (fun av => argsOk F args ∧ stOk (ax F fv) ∧ match st (ax F fv) with
         | .clo f fs cs=>callable P f=true∧CallsX P true f (fs++(args.map fun y=>st (ax F y))++cs) H fun av' H' => av' = av∧H' = H
         | _=>False) (fun av=>K (putF F x.dst (.cnd gb av)) H) (argsOk F args∧stOk (ax F fv)∧match st (ax F fv) with
         | .clo f fs cs=>callable P f=true∧CallsX P ext f (fs++(args.map fun y=>st (ax F y))++cs) H fun av' H' => K (putF F x.dst (.cnd true av')) H'
         | _=>False)
     | _=>False
def EvOps (P:Program)(ext:Bool):List GOp→(Frame→Heap→Prop)→Frame→Heap→Prop
 | [],K=>K
 | x :: l,K=>EvG P ext x (EvOps P ext l K)
theorem get_put {F:Frame}{d j:Nat}{x:AV}:fget ((d,x) :: F) j=if d=j then x else fget F j:=rfl
theorem put_R {g' : Gh}{H' : Heap}{w' : World}{dst:Option Nat}{x:AV}{v:Value}(hR:R N g F H a w)(hd:dstOk N dst=true)(hm:Mv g H w g' H' w')(hx:Rd w' (g'.tr H') g'.G x v []):R N g' (putF F dst x) H' (a.put dst v) w' := by
 cases dst with
 | none=>exact ⟨fun j=>hm.lift _ _ (hR.fr j),hm.hp,hR.size,hR.defers⟩
 | some d=>
  have hlt:d<N:=by simpa [dstOk] using hd
  refine ⟨fun j=>?_,hm.hp,by simp [Act.put,hR.size],hR.defers⟩
  simp only [putF,get_put]
  by_cases e:d=j
  ·subst e
   rw [if_pos rfl]
   have:(a.put (some d) v).tmps.getD d undef=v:=by simp [Act.put,hR.size,hlt]
   rw [this];exact hx
  ·rw [if_neg e]
   have:(a.put (some d) v).tmps.getD j undef=a.tmps.getD j undef:=by
    simp [Act.put,Array.getElem?_setIfInBounds,e]
   rw [this];exact hm.lift _ _ (hR.fr j)
theorem gcond_ok {tr:Nat→Option (Option LocN)}{G:Nat→Prop}:∀ (x:AV) (v:Value) (want gb:Bool),gcond x want=some gb→Rd w tr G x v []→((match v with | .bool b=>some b | _=>none:Option Bool) == some want)=gb
 | .val (.bool b),v,want,gb,h,hr=>by
  simp only [gcond,Option.some.injEq] at h
  subst h
  rw [hr.val_inv.1]
  cases b<;>cases want<;>rfl
 | .cnd c x,v,want,gb,h,hr=>by
  simp only [gcond,Option.map_eq_some_iff] at h
  obtain ⟨gb', h1,h2⟩:=h
  cases hr with
  | cndF=>simp only [Bool.false_and] at h2;subst h2;rfl
  | cndT hr=>simp only [Bool.true_and] at h2;subst h2;exact gcond_ok x v want gb' h1 hr
theorem argsOk_mem:∀ {args:List AX},argsOk F args→∀ x∈args,stOk (ax F x)
 | [],_,x,hx=>by cases hx
 | y :: l,h,x,hx=>by
  rcases List.mem_cons.1 hx with rfl | hx
  ·exact h.1
  ·exact argsOk_mem h.2 x hx
theorem args_rd (hR : R N g F H a w) (args : Array Operand) (h : argsOk F (args.toList.map cX)) : ∀ m (h : m < ((args.toList.map cX).map fun y => st (ax F y)).length),
    Rd w (g.tr H) g.G ((args.toList.map cX).map fun y=>st (ax F y))[m] ((args.map a.eval).getD m undef) []:=fun m hm=>by
 simp only [List.length_map,Array.length_toList] at hm
 simp only [List.getElem_map,Array.getElem_toList]
 have e:(args.map a.eval).getD m undef=a.eval args[m]:=by simp [hm]
 rw [e]
 exact sx_rd hR _ (argsOk_mem h _ (List.mem_map.2 ⟨args[m],by simp,rfl⟩))
theorem callFunc_run {f:FuncId}{vs:Array Value}(h:callable P f=true)(w:World):(callFunc f vs).run P w = .ok (.enter f vs) w:=by
 unfold callable at h
 split at h
 ·rename_i fn hfn
  simp only [Bool.and_eq_true,Bool.not_eq_true', Option.isSome_iff_ne_none] at h
  have hb:fn.body≠none:=by intro hb;simp_all
  have hn:¬ fn.name = "runtime.NumGoroutine" := by simpa using h.2
  unfold callFunc
  simp [program,Sem.run,hfn,hn,hb]
 ·cases h
theorem call_inv {o:Oper}{f:FuncId}{args:List AX}(h:compileOp P o=some (.call f args)):∃ as ts,o.op = .call { callee:=.value (.func f),args:=as,argTypes:=ts }∧args=as.toList.map cX∧callable P f=true:=by
 rcases compileOp_inv h with h | h
 rotate_left
 ·cases h
 unfold compileOp0 at h
 split at h<;>rename_i hop
 case h_23=>
  split at h
  ·rename_i fn hfn
   split at h
   ·cases h
   ·rename_i hn
    simp only [Option.some.injEq,AOp.call.injEq] at h
    obtain ⟨rfl,rfl⟩:=h
    refine ⟨_,_,hop,rfl,?_⟩
    simp only [Bool.or_eq_true,not_or] at hn
    unfold callable
    rw [hfn]
    cases hb:fn.body<;>simp_all
  ·cases h
 all_goals ((repeat' split at h)<;>first | (cases h;done) | (injection h with h;cases h;done) | (injection h with h;have hb:=congrArg isQuiet h;rw [binA_quiet] at hb;cases hb;done) | (rw [Option.map_eq_some_iff] at h;obtain ⟨_,_,h⟩:=h;cases h;done) | (obtain ⟨_,_,_,_,_,_,_,_,_,h⟩:=mapOp_inv h;cases h;done))
theorem callv_inv {o:Oper}{fv:AX}{args:List AX}(h:compileOp P o=some (.callv fv args)):∃ t as ts,o.op = .call { callee:=.value (.tmp t),args:=as,argTypes:=ts }∧args=as.toList.map cX∧fv = .s t:=by
 rcases compileOp_inv h with h | h
 rotate_left
 ·cases h
 unfold compileOp0 at h
 split at h<;>rename_i hop
 case h_24=>
  simp only [Option.some.injEq,AOp.callv.injEq] at h
  obtain ⟨rfl,rfl⟩:=h
  exact ⟨_,_,_,hop,rfl,rfl⟩
 all_goals ((repeat' split at h)<;>first | (cases h;done) | (injection h with h;cases h;done) | (injection h with h;have hb:=congrArg isQuiet h;rw [binA_quiet] at hb;cases hb;done) | (rw [Option.map_eq_some_iff] at h;obtain ⟨_,_,h⟩:=h;cases h;done) | (obtain ⟨_,_,_,_,_,_,_,_,_,h⟩:=mapOp_inv h;cases h;done))
theorem compileG_inv {ops : Array Oper} {i : Nat} {x : GOp} (h : compileG P N ops i = some x) : ∃ o, ops[i]? = some o ∧ compileOp P o = some x.op ∧ x.dst = o.dst ∧ dstOk N o.dst = true ∧
    ((o.guard=none∧x.grd=none)∨∃ j want s,o.guard=some (j,want)∧(ops[j]?).bind (·.dst)=some s∧s<N∧x.grd=some (s,want)):=by
 unfold compileG at h
 split at h
 ·cases h
 ·rename_i o ho
  split at h
  ·cases h
  ·rename_i y hy
   by_cases hd:dstOk N o.dst=true
   ·rw [if_pos hd] at h
    split at h
    ·rename_i hg
     obtain rfl:=Option.some.inj h
     exact ⟨o,ho,hy,rfl,hd,.inl ⟨hg,rfl⟩⟩
    ·rename_i j want hg
     split at h
     ·rename_i s hs
      by_cases hlt:s<N
      ·rw [if_pos hlt] at h
       obtain rfl:=Option.some.inj h
       exact ⟨o,ho,hy,rfl,hd,.inr ⟨j,want,s,hg,hs,hlt,rfl⟩⟩
      ·rw [if_neg hlt] at h;cases h
     ·cases h
   ·rw [if_neg hd] at h;cases h
theorem wanted_of {ops : Array Oper} {o : Oper} {j s : Nat} {want gb : Bool} (hR : R N g F H a w) (hg : o.guard = some (j, want)) (hs : (ops[j]?).bind (·.dst) = some s) (hlt : s < N) (hc : gcond (fget F s) want = some gb) :
    Region.wanted o (yielded ops a.tmps)=gb:=by
 have h1:=gcond_ok _ _ _ _ hc (hR.fr s)
 rw [← h1]
 simp only [Region.wanted,hg,yielded,hs,Option.bind_some]
 have:a.tmps[s]? = some (a.tmps.getD s undef):=by simp [hR.size,hlt]
 rw [this]
 cases a.tmps.getD s undef<;>rfl
theorem call_wp {o : Oper} {f : FuncId} {args : List AV} {vals : Array Value} {ext : Bool} {K : AV → Heap → Prop} {K' : Act → World → Prop} {Q' : Exit → Act → World → Prop} (hrun : (execOp a.eval o).run P w = .ok (.enter f vals) w) (hR : R N g F H a w)
    (hl:vals.size=args.length) (hrd:∀ m (h:m<args.length),Rd w (g.tr H) g.G args[m] (vals.getD m undef) []) (hC:CallsX P ext f args H K) (hd:dstOk N o.dst=true)
    (hK:∀ g' av H' v w', Mv g H w g' H' w' → Rd w' (g'.tr H') g'.G av v []→(ext=true→Ext w w')→K av H' → K' (a.put o.dst v) w'):o.wp P a w K' Q' := by
 unfold Oper.wp
 rw [hrun]
 simp only [Oper.upon]
 refine (hC g w vals hR.hp hl hrd).mono fun e w' ⟨v,g', av,H', he,hm,hx,hext,hk⟩=>?_
 subst he
 exact hK g' av H' v w' hm hx hext hk
theorem callv_wp {o : Oper} {fv : AX} {args : List AX} {ext : Bool} {K : AV → Heap → Prop} {K' : Act → World → Prop} {Q' : Exit → Act → World → Prop} (hx : compileOp P o = some (.callv fv args)) (hR : R N g F H a w) (hd : dstOk N o.dst = true)
    (hok:argsOk F args) (hokf:stOk (ax F fv)) (hE:match st (ax F fv) with
     | .clo f fs cs=>callable P f=true∧CallsX P ext f (fs++(args.map fun y=>st (ax F y))++cs) H K
     | _=>False)
    (hK:∀ g' av H' v w', Mv g H w g' H' w' → Rd w' (g'.tr H') g'.G av v []→(ext=true→Ext w w')→K av H' → K' (a.put o.dst v) w'):o.wp P a w K' Q' := by
 obtain ⟨t,as,ts,hopc,rfl,rfl⟩:=callv_inv hx
 have hfr:=sx_rd hR (.tmp t) hokf
 split at hE
 ·rename_i f fs cs hfc
  obtain ⟨hcl,hC⟩:=hE
  have hfr' : Rd w (g.tr H) g.G (.clo f fs cs) (a.eval (.tmp t)) []:=by rw [← hfc];exact hfr
  generalize hv:a.eval (.tmp t)=v at hfr'
  cases hfr' with
  | clo hf hrf hl hr=>
   rename_i vf vc
   refine call_wp (vals:=vf++as.map a.eval++vc) ?_ hR (by simp;omega) (fun m hm=>?_) hC hd hK
   ·simp [execOp,hopc,resolve,hv,Deferred.ofValue,invoke,callFunc_run hcl]
   ·have hargs:=args_rd hR as hok
    simp only [List.length_append,List.length_map,Array.length_toList] at hm hargs
    by_cases h1:m<fs.length
    ·rw [List.getElem_append_left (by simp;omega),List.getElem_append_left h1]
     have:(vf++as.map a.eval++vc).getD m undef=vf.getD m undef:=by
      simp [Array.getElem?_append,show m<vf.size by omega,show m<vf.size+as.size by omega]
     rw [this];exact hrf m h1
    ·by_cases h2:m<fs.length+as.size
     ·rw [List.getElem_append_left (by simp;omega),List.getElem_append_right (by omega)]
      have:(vf++as.map a.eval++vc).getD m undef=(as.map a.eval).getD (m - fs.length) undef:=by
       simp [Array.getElem?_append,show ¬ m<vf.size by omega,show m<vf.size+as.size by omega,show m - vf.size<as.size by omega,hf]
      rw [this];exact hargs (m - fs.length) (by omega)
     ·rw [List.getElem_append_right (by simp;omega)]
      have:(vf++as.map a.eval++vc).getD m undef=vc.getD (m - (fs.length+as.size)) undef:=by
       simp [Array.getElem?_append,show ¬ m<vf.size by omega,show ¬ m<vf.size+as.size by omega,show ¬ m - vf.size<as.size by omega,hf,Nat.sub_sub]
      rw [this]
      have:=hr (m - (fs.length+as.size)) (by omega)
      simpa using this
 ·exact hE.elim
theorem evG_wp {ops : Array Oper} {i : Nat} {x : GOp} {ext : Bool} {K : Frame → Heap → Prop} {K' : Act → World → Prop} {Q' : Exit → Act → World → Prop} (hc : compileG P N ops i = some x) (hE : EvG P ext x K F H) (hR : R N g F H a w)
    (hK:∀ g' F' H' a' w', R N g' F' H' a' w' → Mv g H w g' H' w' → (ext=true→Ext w w')→K F' H' → K' a' w'):wpOp P ops Q' i K' a w:=by
 obtain ⟨o,ho,hop,hdst,hd,hgrd⟩:=compileG_inv hc
 unfold wpOp
 simp only [ho]
 have quiet:∀ gb:Bool,(gb=true→isQuiet x.op=true→qOk x.op F H→o.wp P a w (fun a' w' => w' = w∧∃ v,a' = a.put o.dst v∧Rd w (g.tr H) g.G (qVal x.op F H) v []) Q'):=by
  intro gb _ hq hok
  obtain ⟨v,hrun,hv⟩:=quiet_all hop hq hok hR
  unfold Oper.wp
  rw [hrun w (fun _ _ _=>rfl)]
  exact ⟨rfl,v,rfl,hv⟩
 rcases hgrd with ⟨hg,hxg⟩ | ⟨j,want,s,hg,hs,hlt,hxg⟩
 ·have hw:Region.wanted o (yielded ops a.tmps)=true:=by simp [Region.wanted,hg]
  rw [if_pos hw]
  left
  unfold EvG at hE
  rw [hxg] at hE
  dsimp only at hE
  by_cases hq:isQuiet x.op=true
  ·rw [if_pos hq] at hE
   refine Oper.wp_mono ?_ (quiet true rfl hq hE.1)
   rintro a' w' ⟨rfl,v,rfl,hv⟩
   exact hK _ _ _ _ _ (put_R hR hd (Mv.refl hR.hp) hv) (Mv.refl hR.hp) (fun _ _ _=>rfl) (hdst ▸ hE.2)
  ·rw [if_neg hq] at hE
   have loud:isCall x.op=false→(ext=true→isExt x.op=true)→evLoud x.op F H (fun av H' => K (putF F x.dst av) H')→o.wp P a w K' Q' := by
    intro hcall hext hl
    obtain ⟨v,w', g', av,H', hrun,hm,hx,he,hk⟩:=loud_all hop (by simpa using hq) hcall hl hR
    have hfin:K' (a.put o.dst v) w' := hK _ _ _ _ _ (put_R hR hd hm hx) hm (fun h=>he (hext h)) (hdst ▸ hk)
    unfold Oper.wp
    rcases hrun with hrun | ⟨hrun,rfl⟩
    ·rw [hrun];exact hfin
    ·rw [hrun];exact hfin
   cases hx:x.op<;>rw [hx] at hE hq loud<;>first | exact absurd rfl hq | exact loud rfl hE.1 hE.2 | skip
   ·rename_i f args
    obtain ⟨as,ts,hopc,rfl,hcl⟩:=call_inv (hx ▸ hop)
    obtain ⟨hok,hC⟩:=hE
    refine call_wp (vals:=as.map a.eval) ?_ hR (by simp) (args_rd hR as hok) hC hd fun g' av H' v w' hm hx2 hext hk=>hK _ _ _ _ _ (put_R hR hd hm hx2) hm hext (hdst ▸ hk)
    simp [execOp,hopc,resolve,Act.eval,Deferred.ofValue,invoke,callFunc_run hcl]
   ·rename_i fv args
    obtain ⟨hok,hokf,hE⟩:=hE
    exact callv_wp (hx ▸ hop) hR hd hok hokf hE fun g' av H' v w' hm hx2 hext hk=>hK _ _ _ _ _ (put_R hR hd hm hx2) hm hext (hdst ▸ hk)
 ·unfold EvG at hE
  rw [hxg] at hE
  dsimp only at hE
  unfold EvGrd at hE
  split at hE
  ·exact hE.elim
  ·rename_i gb hgb
   rw [wanted_of hR hg hs hlt hgb]
   cases gb with
   | false=>
    rw [if_neg (by simp)]
    have hskip:∀ av,R N g (putF F o.dst (.cnd false av)) H (a.put o.dst undef) w:=fun av=>put_R hR hd (Mv.refl hR.hp) .cndF
    by_cases hq:isQuiet x.op=true
    ·rw [if_pos hq] at hE
     exact hK _ _ _ _ _ (hskip _) (Mv.refl hR.hp) (fun _ _ _=>rfl) (hdst ▸ hE.2)
    ·rw [if_neg hq] at hE
     split at hE
     ·rcases hE with ⟨av,_,hk⟩ | ⟨h0,_⟩
      ·exact hK _ _ _ _ _ (hskip _) (Mv.refl hR.hp) (fun _ _ _=>rfl) (hdst ▸ hk)
      ·cases h0
     ·rcases hE with ⟨av,_,hk⟩ | ⟨h0,_⟩
      ·exact hK _ _ _ _ _ (hskip _) (Mv.refl hR.hp) (fun _ _ _=>rfl) (hdst ▸ hk)
      ·cases h0
     ·exact hE.elim
   | true=>
    rw [if_pos rfl]
    left
    by_cases hq:isQuiet x.op=true
    ·rw [if_pos hq] at hE
     refine Oper.wp_mono ?_ (quiet true rfl hq (hE.1 rfl))
     rintro a' w' ⟨rfl,v,rfl,hv⟩
     exact hK _ _ _ _ _ (put_R hR hd (Mv.refl hR.hp) (.cndT hv)) (Mv.refl hR.hp) (fun _ _ _=>rfl) (hdst ▸ hE.2)
    ·rw [if_neg hq] at hE
     split at hE
     ·rename_i f args hx
      obtain ⟨as,ts,hopc,rfl,hcl⟩:=call_inv (hx ▸ hop)
      rcases hE with ⟨av,hC,hk⟩ | ⟨_,hok,hC⟩
      ·obtain ⟨hok,hC⟩:=hC rfl
       refine call_wp (vals:=as.map a.eval) ?_ hR (by simp) (args_rd hR as hok) hC hd fun g' av' H' v w' hm hx2 hext hk' => ?_
       ·simp [execOp,hopc,resolve,Act.eval,Deferred.ofValue,invoke,callFunc_run hcl]
       ·obtain ⟨rfl,rfl⟩:=hk'
        exact hK _ _ _ _ _ (put_R hR hd hm (.cndT hx2)) hm (fun _=>hext rfl) (hdst ▸ hk)
      ·refine call_wp (vals:=as.map a.eval) ?_ hR (by simp) (args_rd hR as hok) hC hd fun g' av' H' v w' hm hx2 hext hk' => hK _ _ _ _ _ (put_R hR hd hm (.cndT hx2)) hm hext (hdst ▸ hk')
       simp [execOp,hopc,resolve,Act.eval,Deferred.ofValue,invoke,callFunc_run hcl]
     ·rename_i fv args hx
      rcases hE with ⟨av,hC,hk⟩ | ⟨_,hok,hokf,hC⟩
      ·obtain ⟨hok,hokf,hC⟩:=hC rfl
       refine callv_wp (hx ▸ hop) hR hd hok hokf hC fun g' av' H' v w' hm hx2 hext hk' => ?_
       obtain ⟨rfl,rfl⟩:=hk'
       exact hK _ _ _ _ _ (put_R hR hd hm (.cndT hx2)) hm (fun _=>hext rfl) (hdst ▸ hk)
      ·exact callv_wp (hx ▸ hop) hR hd hok hokf hC fun g' av' H' v w' hm hx2 hext hk' => hK _ _ _ _ _ (put_R hR hd hm (.cndT hx2)) hm hext (hdst ▸ hk')
     ·exact hE.elim
theorem evOps_seq {ops : Array Oper} {Q' : Exit → Act → World → Prop} : ∀ (idxs : List Nat) (l : List GOp) {K : Frame → Heap → Prop} {g : Gh} {F : Frame} {H : Heap} {a : Act} {w : World}, idxs.mapM (compileG P N ops) = some l → EvOps P false l K F H → R N g F H a w →
    (∀ g' F' H' a' w', R N g' F' H' a' w' → Mv g H w g' H' w' → K F' H' → Q' .normal a' w')→wpOps P ops Q' idxs a w
 | [],l,K,g,F,H,a,w,hl,hE,hR,hK=>by
  simp only [List.mapM_nil,Option.pure_def,Option.some.injEq] at hl
  subst hl
  exact hK _ _ _ _ _ hR (Mv.refl hR.hp) hE
 | i :: rest,l,K,g,F,H,a,w,hl,hE,hR,hK=>by
  simp only [List.mapM_cons,Option.pure_def,Option.bind_eq_bind,Option.bind_eq_some_iff] at hl
  obtain ⟨x,hx,l', hl', he⟩:=hl
  obtain rfl:=Option.some.inj he
  rw [wpOps_cons]
  refine evG_wp hx hE hR fun g' F' H' a' w' hR' hm _ hE' => ?_
  exact evOps_seq rest l' hl' hE' hR' fun g'' F'' H'' a'' w'' hR'' hm' hk=>hK _ _ _ _ _ hR'' (hm.trans hm') hk
end
section
variable {P:Program} {N:Nat} {g:Gh} {F:Frame} {H:Heap} {a:Act} {w:World}
def wpAnyT (P:Program)(ops:Array Oper)(Q:Exit→Act→World→Prop)(n:Nat)(S:World→Prop):Nat→Array Bool→Act→World→Prop
 | 0,listed,a,w=>Region.ready .any ops listed=[]∧Q .normal a w
 | fuel+1,listed,a,w=>(Region.ready .any ops listed=[]→Q .normal a w) ∧
  ∀ i∈Region.ready .any ops listed,wpOp P ops Q i (fun a' w' => (n≤i∨S w')∧wpAnyT P ops Q n S fuel (listed.setIfInBounds i true) a' w') a w
section
variable {ops:Array Oper} {Q:Exit→Act→World→Prop} {n:Nat} {S S' : World→Prop}
theorem wpAny_of_T:∀ (fuel:Nat) (listed:Array Bool) (a:Act) (w:World),wpAnyT P ops Q n S fuel listed a w→wpAny P .any ops Q fuel listed a w
 | 0,_,_,_,h=>h
 | fuel+1,_,_,_,h=>⟨h.1,fun i hi=>wpOp_mono (fun a' w' h' => wpAny_of_T fuel _ a' w' h'.2) (h.2 i hi)⟩
theorem wpAnyT_mono (hS:∀ w,S w→S' w):∀ (fuel:Nat) (listed:Array Bool) (a:Act) (w:World),wpAnyT P ops Q n S fuel listed a w→wpAnyT P ops Q n S' fuel listed a w
 | 0,_,_,_,h=>h
 | fuel+1,_,_,_,h=>⟨h.1,fun i hi=>wpOp_mono (fun a' w' h' => ⟨h'.1.imp id (hS w'),wpAnyT_mono hS fuel _ a' w' h'.2⟩) (h.2 i hi)⟩
theorem wpAnyT_first {i : Nat} {oi : Oper} {v : Value} (hi : ops[i]? = some oi) (hin : i < n) (hsel : ∀ (j : Nat) (o : Oper) cs b, ops[j]? = some o → o.op ≠ .select cs b)
    (hT:∀ listed,HeadInv .any ops n listed→listed.getD i true=false→∀ t,n≤t→t∉Region.ready .any ops listed)
    (hQ:∀ c a w,Q (.panic c) (a.put oi.dst v) w→Q (.panic c) a w):
    ∀ (fuel:Nat) (listed:Array Bool) (a:Act) (w:World),HeadInv .any ops n listed →
     (∀ j oj,ops[j]? = some oj→j≠i→listed.getD j true=false→(∀ e∈oj.after,Region.binds .any e=true→e.on≠i)→oi.apart ops oj=true) →
     i∈Region.ready .any ops listed→YieldsIf P ops S oi v a→S w →
     wpAnyT P ops Q n S fuel (listed.setIfInBounds i true) (a.put oi.dst v) w→wpAnyT P ops Q n S (fuel+1) listed a w:=by
 intro fuel
 induction fuel with
 | zero=>
  intro listed a w _ _ hr hy hS H
  refine ⟨fun h=>(by rw [h] at hr;cases hr),fun j hj=>?_⟩
  by_cases hji:j=i
  ·subst hji;exact hy.wpOp hi hS ⟨.inr hS,H⟩
  ·have:=ready_mono hj hji
   rw [H.1] at this
   cases this
 | succ fuel ih=>
  intro listed a w hinv hfree hr hy hS H
  refine ⟨fun h=>(by rw [h] at hr;cases hr),fun j hj=>?_⟩
  by_cases hji:j=i
  ·subst hji;exact hy.wpOp hi hS ⟨.inr hS,H⟩
  ·have hjn : j < n := by
     rcases Nat.lt_or_ge j n with h | h
     ·exact h
     ·exact absurd hj (hT listed hinv (mem_ready.1 hr).1 j h)
   have h1:=H.2 j (ready_mono hj hji)
   obtain ⟨hjun,oj,hoj,hall⟩:=mem_ready.1 hj
   have hnot:∀ e∈oj.after,Region.binds .any e=true→e.on≠i:=fun e he hb heq=>by
    have h1:=hall e he hb
    have h0:=(mem_ready.1 hr).1
    rw [heq] at h1
    rcases Nat.lt_or_ge i listed.size with h' | h'
    ·simp [h'] at h0 h1;rw [h0] at h1;cases h1
    ·simp [Array.getElem?_eq_none h'] at h1
   have h2:=wpOp_putIf hoj (hfree j oj hoj hji hjun hnot) (fun cs b=>hsel i oi cs b hi) (fun cs b=>hsel j oj cs b hoj) hQ hy h1
   have hfree' : ∀ k ok, ops[k]? = some ok → k ≠ i → (listed.setIfInBounds j true).getD k true = false →
       (∀ e∈ok.after,Region.binds .any e=true→e.on≠i)→oi.apart ops ok=true:=fun k ok hk hki hun hno=>by
    refine hfree k ok hk hki ?_ hno
    by_cases hjk:j=k
    ·subst hjk;exact hjun
    ·rw [getD_set_ne true hjk] at hun;exact hun
   refine wpOp_mono (fun a' w' h3=>?_) h2
   have hSw:S w' := h3.2.1.resolve_left (by omega)
   refine ⟨.inr hSw,ih (listed.setIfInBounds j true) a' w' (hinv.set hj hjn) hfree' (ready_mono hr (Ne.symm hji)) h3.1 hSw ?_⟩
   rw [Array.setIfInBounds_comm _ _ hji]
   exact h3.2.2
end
def planB (quiet:Nat→Bool)(ops:Array Oper)(n:Nat):List Nat→Array Bool→Bool
 | [],listed=>(Region.ready .any ops listed).isEmpty
 | i :: rest,listed=>(if decide (i<n)&&quiet i then Region.free .any ops listed i&&(Region.ready .any ops listed).contains i else Region.ready .any ops listed == [i])&&planB quiet ops n rest (listed.setIfInBounds i true)
def mkPlan (quiet:Nat→Bool)(ops:Array Oper)(n:Nat):Nat→Array Bool→List Nat
 | 0,_=>[]
 | fuel+1,listed=>
  let rs:=Region.ready .any ops listed
  match rs.find? (fun i=>decide (i<n)&&quiet i&&Region.free .any ops listed i) with
  | some i=>i :: mkPlan quiet ops n fuel (listed.setIfInBounds i true)
  | none=>match rs with
   | i :: _=>i :: mkPlan quiet ops n fuel (listed.setIfInBounds i true)
   | []=>[]
def quietB (P:Program)(ops:Array Oper)(i:Nat):Bool:=match ops[i]? with
 | some o=>match compileOp P o with
  | some x=>isQuiet x
  | none=>false
 | none=>false
def writes (M:List Nat):AOp→Bool
 | .store .. | .app .. | .cpy .. | .clr .. | .mpu .. | .mpe .. | .est .. | .mpd .. | .nxt ..=>true
 | .call f _=>M.contains f
 | .callv ..=>M.contains 999999
 | _=>false
def firstW (P:Program)(M:List Nat)(ops:Array Oper):List Nat→Nat
 | []=>ops.size
 | i :: rest=>match ops[i]? with
  | some o=>match compileOp P o with
   | some x=>if writes M x then i else firstW P M ops rest
   | none=>firstW P M ops rest
  | none=>ops.size
def compileRegion0 (P:Program)(M:List Nat)(N:Nat)(ops:Array Oper)(draw:Bool):Option (List GOp×List GOp):=
 if draw then
  let n:=firstW P M ops (List.range ops.size)
  let plan:=(mkPlan (quietB P ops) ops n n (Array.replicate ops.size false))
  let tail:=List.range' n (ops.size - n)
  if P.follows .mixedOrders && (n == ops.size || (Region.sinkB .any ops n && Region.chainB .any ops n && decide (n < ops.size))) && Region.noSelect ops && decide (plan.length + tail.length = ops.size) && plan.all (fun i => decide (i < n)) &&
      planB (quietB P ops) ops n (plan++tail) (Array.replicate ops.size false) then
   match plan.mapM (compileG P N ops),tail.mapM (compileG P N ops) with
   | some h,some t=>some (h,t)
   | _,_=>none
  else none
 else ((List.range ops.size).mapM (compileG P N ops)).map fun t=>([],t)
def compileRegion (P:Program)(M:List Nat)(N:Nat)(ops:Array Oper)(draw:Bool):Option (List GOp×List GOp):=some ((compileRegion0 P M N ops draw).getD ([],[⟨none,none,.bad⟩]))
theorem evG_quiet {ops : Array Oper} {i : Nat} {x : GOp} {o : Oper} {ext : Bool} {K : Frame → Heap → Prop} (ho : ops[i]? = some o) (hc : compileG P N ops i = some x) (hq : isQuiet x.op = true) (hE : EvG P ext x K F H) (hR : R N g F H a w) :
    ∃ av v,YieldsIf P ops (Ext w) o v a∧R N g (putF F x.dst av) H (a.put o.dst v) w∧K (putF F x.dst av) H:=by
 obtain ⟨o', ho', hop,hdst,hd,hgrd⟩:=compileG_inv hc
 obtain rfl:o=o' := by rw [ho] at ho'; simpa using ho'
 unfold EvG at hE
 rcases hgrd with ⟨hg,hxg⟩ | ⟨j,want,s,hg,hs,hlt,hxg⟩
 ·rw [hxg] at hE
  dsimp only at hE
  rw [if_pos hq] at hE
  obtain ⟨v,hrun,hv⟩:=quiet_all hop hq hE.1 hR
  exact ⟨_,v,.inl ⟨by simp [Region.wanted,hg],fun w' hw=>hrun w' (fun _=>hw)⟩,by rw [hdst];exact put_R hR hd (Mv.refl hR.hp) hv,hE.2⟩
 ·rw [hxg] at hE
  dsimp only at hE
  unfold EvGrd at hE
  split at hE
  ·exact hE.elim
  ·rename_i gb hgb
   rw [if_pos hq] at hE
   have hw:=wanted_of hR hg hs hlt hgb
   cases gb with
   | false=>exact ⟨_,undef,.inr ⟨hw,rfl⟩,by rw [hdst];exact put_R hR hd (Mv.refl hR.hp) .cndF,hE.2⟩
   | true=>
    obtain ⟨v,hrun,hv⟩:=quiet_all hop hq (hE.1 rfl) hR
    exact ⟨_,v,.inl ⟨hw,fun w' hw' => hrun w' (fun _=>hw')⟩,by rw [hdst];exact put_R hR hd (Mv.refl hR.hp) (.cndT hv),hE.2⟩
theorem Ext.trans {w w' w'' : World}(h:Ext w w')(hs:w.heap.size≤w'.heap.size)(k:Ext w' w''):Ext w w'' := fun b hb=>(k b (Nat.lt_of_lt_of_le hb hs)).trans (h b hb)
section
variable {ops:Array Oper} {Q:Exit→Act→World→Prop} {n:Nat}
theorem tail_ok {qt : Nat → Bool} (S : World → Prop) : ∀ (l : List Nat) (listed : Array Bool) (xs : List GOp) {K : Frame → Heap → Prop} {g : Gh} {F : Frame} {H : Heap} {a : Act} {w : World}, (∀ i ∈ l, n ≤ i) → planB qt ops n l listed = true → l.mapM (compileG P N ops) = some xs → EvOps P false xs K F H → R N g F H a w →
    (∀ g' F' H' a' w', R N g' F' H' a' w' → Mv g H w g' H' w' → K F' H' → Q .normal a' w')→wpAnyT P ops Q n S l.length listed a w
 | [],listed,xs,K,g,F,H,a,w,_,hB,hl,hE,hR,hK=>by
  simp only [List.mapM_nil,Option.pure_def,Option.some.injEq] at hl
  subst hl
  refine ⟨by simpa [planB] using hB,hK _ _ _ _ _ hR (Mv.refl hR.hp) hE⟩
 | i :: rest,listed,xs,K,g,F,H,a,w,hn,hB,hl,hE,hR,hK=>by
  simp only [List.mapM_cons,Option.pure_def,Option.bind_eq_bind,Option.bind_eq_some_iff] at hl
  obtain ⟨x,hx,l', hl', he⟩:=hl
  obtain rfl:=Option.some.inj he
  have hni:=hn i (by simp)
  simp only [planB,Bool.and_eq_true] at hB
  obtain ⟨hB1,hB2⟩:=hB
  rw [if_neg (by simp;omega)] at hB1
  have hr:Region.ready .any ops listed=[i]:=by simpa using hB1
  refine ⟨fun h0=>(by rw [hr] at h0;cases h0),fun j hj=>?_⟩
  obtain rfl:j=i:=by rw [hr] at hj;simpa using hj
  refine evG_wp hx hE hR fun g' F' H' a' w' hR' hm _ hE' => ⟨.inl hni,?_⟩
  exact tail_ok S rest _ l' (fun k hk=>hn k (List.mem_cons_of_mem _ hk)) hB2 hl' hE' hR' fun g'' F'' H'' a'' w'' hR'' hm' hk=>hK _ _ _ _ _ hR'' (hm.trans hm') hk
theorem head_ok (tl : List Nat) (xt : List GOp) (htl : ∀ i ∈ tl, n ≤ i) (hxt : tl.mapM (compileG P N ops) = some xt) (hsel : Region.noSelect ops = true)
    (hT:∀ i,i<n→∀ listed,HeadInv .any ops n listed→listed.getD i true=false→∀ t,n≤t→t∉Region.ready .any ops listed) (hQ:∀ c a w,¬ Q (.panic c) a w):
    ∀ (l:List Nat) (listed:Array Bool) (xs:List GOp) {K:Frame→Heap→Prop} {g:Gh} {F:Frame} {H:Heap} {a:Act} {w:World},HeadInv .any ops n listed→(∀ i∈l,i<n)→planB (quietB P ops) ops n (l++tl) listed=true→l.mapM (compileG P N ops)=some xs →
     EvOps P true xs (EvOps P false xt K) F H→R N g F H a w→(∀ g' F' H' a' w', R N g' F' H' a' w' → Mv g H w g' H' w' → K F' H' → Q .normal a' w')→wpAnyT P ops Q n (Ext w) (l++tl).length listed a w
 | [],listed,xs,K,g,F,H,a,w,_,_,hB,hl,hE,hR,hK=>by
  simp only [List.mapM_nil,Option.pure_def,Option.some.injEq] at hl
  subst hl
  exact tail_ok (Ext w) tl listed xt htl hB hxt hE hR hK
 | i :: rest,listed,xs,K,g,F,H,a,w,hinv,hn,hB,hl,hE,hR,hK=>by
  simp only [List.mapM_cons,Option.pure_def,Option.bind_eq_bind,Option.bind_eq_some_iff] at hl
  obtain ⟨x,hx,l', hl', he⟩:=hl
  obtain rfl:=Option.some.inj he
  have hni:=hn i (by simp)
  simp only [List.cons_append,planB,Bool.and_eq_true] at hB
  obtain ⟨hB1,hB2⟩:=hB
  obtain ⟨o,ho,hop,_⟩:=compileG_inv hx
  by_cases hq:quietB P ops i=true
  ·rw [if_pos (by simp [hni,hq])] at hB1
   simp only [Bool.and_eq_true] at hB1
   have hqx:isQuiet x.op=true:=by
    unfold quietB at hq
    simp only [ho,hop] at hq
    exact hq
   obtain ⟨av,v,hy,hR', hE'⟩:=evG_quiet ho hx hqx hE hR
   have hri:i∈Region.ready .any ops listed:=by simpa using hB1.2
   refine wpAnyT_first ho hni (Region.noSelect_spec hsel) (hT i hni) (fun c a w h=>absurd h (hQ _ _ _)) _ listed a w hinv (Region.free_spec ho hB1.1) hri hy (fun _ _=>rfl) ?_
   exact head_ok tl xt htl hxt hsel hT hQ rest _ l' (hinv.set hri hni) (fun k hk=>hn k (List.mem_cons_of_mem _ hk)) hB2 hl' hE' hR' hK
  ·rw [if_neg (by simp [hq])] at hB1
   have hr:Region.ready .any ops listed=[i]:=by simpa using hB1
   have hri:i∈Region.ready .any ops listed:=by rw [hr];simp
   refine ⟨fun h0=>(by rw [hr] at h0;cases h0),fun j hj=>?_⟩
   obtain rfl:j=i:=by rw [hr] at hj;simpa using hj
   refine evG_wp hx hE hR fun g' F' H' a' w' hR' hm hext hE' => ⟨.inr (hext rfl),?_⟩
   refine wpAnyT_mono (S:=Ext w') (fun u hu=>(hext rfl).trans hm.stp.size hu) _ _ _ _ ?_
   exact head_ok tl xt htl hxt hsel hT hQ rest _ l' (hinv.set hri hni) (fun k hk=>hn k (List.mem_cons_of_mem _ hk)) hB2 hl' hE' hR' fun g'' F'' H'' a'' w'' hR'' hm' hk=>hK _ _ _ _ _ hR'' (hm.trans hm') hk
end
theorem drew_R (hR:R N g F H a w):R N g F H a { w with drawn:=w.drawn+1 }:=hR.keep (Nat.le_refl _) (fun _ _=>rfl)
theorem drew_Mv (hp:HeapR g H w):Mv g H w g H { w with drawn:=w.drawn+1 }:=
 ⟨hp.keep (Nat.le_refl _) (fun _ _=>rfl),⟨rfl,⟨rfl,by first | exact Nat.le_refl _ | exact Nat.le_succ _⟩,rfl,Nat.le_refl _,fun _ _ _=>rfl,fun _ h=>.inl h,fun _ h=>h,fun _ h=>.inl h,fun _ _=>rfl⟩,fun _ _ h=>Rd.mono (w:=w) (w' := { w with drawn:=w.drawn+1 }) (fun _ h=>h) (fun _ _=>rfl) (fun _ _ h=>.inl h) h (by simp),fun _ _ h=>.inl h⟩
theorem region_wp {M : List Nat} {id : Nat} {ops : Array Oper} {draw : Bool} {h t : List GOp} {Q : Exit → Act → World → Prop} {K : Frame → Heap → Prop} (hc : compileRegion P M N ops draw = some (h, t)) (hE : EvOps P true h (EvOps P false t K) F H) (hR : R N g F H a w)
    (hQ:∀ c a w,¬ Q (.panic c) a w) (hK:∀ g' F' H' a' w', R N g' F' H' a' w' → Mv g H w g' H' w' → K F' H' → Q .normal a' w'):(Code.region id ops draw).wp P Q a w:=by
 unfold compileRegion at hc
 cases h0:compileRegion0 P M N ops draw with
 | none=>
  rw [h0] at hc
  simp only [Option.getD_none,Option.some.injEq,Prod.mk.injEq] at hc
  obtain ⟨rfl,rfl⟩:=hc
  exact hE.1.elim
 | some p=>?_
 obtain ⟨h0', t0'⟩:=p
 rw [h0] at hc
 simp only [Option.getD_some] at hc
 have hc:compileRegion0 P M N ops draw=some (h,t):=h0.trans hc
 unfold compileRegion0 at hc
 cases draw with
 | false=>
  rw [if_neg (by simp),Option.map_eq_some_iff] at hc
  obtain ⟨l,hl,he⟩:=hc
  simp only [Prod.mk.injEq] at he
  obtain ⟨rfl,rfl⟩:=he
  exact wp_region (evOps_seq _ _ hl hE hR hK)
 | true=>
  rw [if_pos rfl] at hc
  dsimp only at hc
  split at hc
  ·rename_i hb
   split at hc
   ·rename_i h' t' hh ht
    simp only [Option.some.injEq,Prod.mk.injEq] at hc
    obtain ⟨rfl,rfl⟩:=hc
    generalize hn:firstW P M ops (List.range ops.size)=n at *
    simp only [Bool.and_eq_true,decide_eq_true_eq,Bool.or_eq_true,beq_iff_eq] at hb
    obtain ⟨⟨⟨⟨⟨hm,hnn⟩,hsel⟩,hlen⟩,hall⟩,hpl⟩:=hb
    refine wp_region_any hm ?_
    have key:=head_ok (Q:=Q) (P:=P) (N:=N) (n:=n) (List.range' n (ops.size - n)) t' (fun i hi=>by rw [List.mem_range'] at hi;omega) ht hsel ?_ hQ _ _ h' (K:=K) (g:=g) (F:=F) (H:=H) (a:=a) (w:={ w with drawn:=w.drawn+1 })
     ?_ (fun i hi=>by simpa using List.all_eq_true.1 hall i hi) hpl hh hE (drew_R hR) (fun g' F' H' a' w' hR' hm' hk=>hK _ _ _ _ _ hR' ((drew_Mv hR.hp).trans hm') hk)
    ·rw [List.length_append,hlen] at key
     exact wpAny_of_T _ _ _ _ key
    ·intro i hi listed hinv hun t' ht' hr
     rcases hnn with hnn | ⟨⟨hs,hc⟩,hlt⟩
     ·obtain ⟨_,ot,hot,_⟩:=mem_ready.1 hr
      have:=(Array.getElem?_eq_some_iff.1 hot).1
      omega
     ·exact tail_waits hs hc hlt hinv _ i rfl hi hun t' ht' hr
    ·refine ⟨by simp,fun j oj hj hl=>?_,fun t' ht' hlt=>?_⟩
     ·rw [getD_replicate_false] at hl;cases hl
     ·simp [hlt]
   ·cases hc
  ·cases hc
/-! ### A region whose operations may come in several orders: all of them -/
inductive PT where
 | fin
 | reg (i:Nat) (t:PT)
 | alt (i:Nat) (t u:PT)
inductive GT where
 | fin
 | reg (x:GOp) (t:GT)
 | alt (e:Bool) (x:GOp) (t u:GT)
 | regz (x:GOp) (t:GT)
 | thw (t:GT) (ds:List Nat) (x:GOp)
def deadH (H:Heap):Heap:=H.map fun _=>none
def frzF (H:Heap)(F:Frame):Frame:=F.map fun p=>(p.1,frz H 6 p.2)
def nfn (n:Nat):Nat→AV→Bool
 | 0,_=>false
 | _+1,.any=>true
 | _+1,.val _=>true
 | d+1,.cnd _ x=>nfn n d x
 | _+1,.sl o _ _ _=>decide (n≤o)
 | _+1,.ref o _=>decide (n≤o)
 | d+1,.osl _ _ cs=>cs.all (nfn n d)
 | d+1,.agg cs=>cs.all (nfn n d)
 | d+1,.tup cs=>cs.all (nfn n d)
 | _+1,_=>false
def thwA (n:Nat)(x:AV):AV:=if nfn n 6 x then x else .any
def thwC (n:Nat)(c:Option (List AV)):Option (List AV):=match c with
 | some cs=>if cs.all (nfn n 6) then some cs else none
 | none=>none
def thwF (n:Nat)(F F' : Frame)(ds:List Nat):Frame:=(ds.map fun d=>(d,thwA n (fget F' d)))++F
def thwH (H H' : Heap):Heap:=H++(H'.drop H.length).map (thwC H.length)
def zAd:AOp→Frame→AV
 | .load _ y,F=>st (ax F y)
 | .loads _ y,F=>st (ax F y)
 | _,_=>.any
def zPt:AV→Prop
 | .pto ..=>True
 | _=>False
theorem zPt_pto (cs:List AV)(j:Nat):zPt (.pto cs j)=True:=rfl
theorem zAd_load (z:AV)(y:AX)(F:Frame):zAd (.load z y) F=st (ax F y):=rfl
theorem zAd_loads (n:Nat)(y:AX)(F:Frame):zAd (.loads n y) F=st (ax F y):=rfl
def EvT (P:Program)(b:Bool):GT→(Frame→Heap→Prop)→Frame→Heap→Prop
 | .fin,K=>if b then fun _ _=>True else K
 | .reg x t,K=>EvG P true x (EvT P false t K)
 | .alt e x t u,K=>fun F H=>EvG P e x (EvT P false t K) F H∧EvT P true u K F H
 | .regz x t,K=>fun F H=>zPt (zAd x.op F)∧EvG P true x (EvT P false t K) F H
 | .thw t ds x,K=>fun F H=>EvT P false t (fun F' H' => EvG P false x K (thwF H.length F F' ds) (thwH H H')) (frzF H F) (deadH H)
def regB (P:Program)(wr:Bool)(ops:Array Oper)(i:Nat):Bool:=quietB P ops i&&(!wr || match ops[i]? with
 | some o=>!isMem o.op
 | none=>false)
def okT (P:Program)(wr:Bool)(ops:Array Oper):PT→Nat→Array Bool→Option (List Nat)→Bool
 | .fin,_,listed,none=>(Region.ready .any ops listed).isEmpty
 | .fin,_,_,some rem=>rem.isEmpty
 | .reg i t,fuel+1,listed,none=>regB P wr ops i&&Region.free .any ops listed i&&(Region.ready .any ops listed).contains i&&okT P wr ops t fuel (listed.setIfInBounds i true) none
 | .alt i t u,fuel+1,listed,m=>match m.getD (Region.ready .any ops listed) with
  | j :: r=>i == j&&okT P wr ops t fuel (listed.setIfInBounds i true) none&&okT P wr ops u (fuel+1) listed (some r)
  | []=>false
 | _,_,_,_=>false
def mkT (P:Program)(wr:Bool)(ops:Array Oper):Nat→Array Bool→PT
 | 0,_=>.fin
 | fuel+1,listed=>
  let rs:=Region.ready .any ops listed
  match rs.find? (fun i=>regB P wr ops i&&Region.free .any ops listed i) with
  | some i=>.reg i (mkT P wr ops fuel (listed.setIfInBounds i true))
  | none=>rs.foldr (fun i u=>.alt i (mkT P wr ops fuel (listed.setIfInBounds i true)) u) .fin
def compileT (P:Program)(wr:Bool)(N:Nat)(ops:Array Oper):PT→Option GT
 | .fin=>some .fin
 | .reg i t=>match compileG P N ops i,compileT P wr N ops t with
  | some x,some t=>some (.reg x t)
  | _,_=>none
 | .alt i t u=>match compileG P N ops i,compileT P wr N ops t,compileT P wr N ops u with
  | some x,some t,some u=>some (.alt (!wr) x t u)
  | _,_,_=>none
def compileRegionT (P:Program)(M:List Nat)(N:Nat)(ops:Array Oper):Option GT:=
 let wr:=decide (firstW P M ops (List.range ops.size)<ops.size)
 let t:=mkT P wr ops ops.size (Array.replicate ops.size false)
 if decide (((List.range ops.size).filter fun i=>!regB P wr ops i).length≤5)&&P.follows .mixedOrders&&Region.noSelect ops&&okT P wr ops t ops.size (Array.replicate ops.size false) none then compileT P wr N ops t else none
theorem evG_reg {ops : Array Oper} {i : Nat} {x : GOp} {o : Oper} {ext : Bool} {K : Frame → Heap → Prop} (ho : ops[i]? = some o) (hc : compileG P N ops i = some x) (hq : isQuiet x.op = true) (hmem : isMem o.op = false) (hE : EvG P ext x K F H) (hR : R N g F H a w) :
    ∃ av v,YieldsIf P ops (fun _=>True) o v a∧R N g (putF F x.dst av) H (a.put o.dst v) w∧K (putF F x.dst av) H:=by
 obtain ⟨o', ho', hop,hdst,hd,hgrd⟩:=compileG_inv hc
 obtain rfl:o=o' := by rw [ho] at ho'; simpa using ho'
 unfold EvG at hE
 rcases hgrd with ⟨hg,hxg⟩ | ⟨j,want,s,hg,hs,hlt,hxg⟩
 ·rw [hxg] at hE
  dsimp only at hE
  rw [if_pos hq] at hE
  obtain ⟨v,hrun,hv⟩:=quiet_all hop hq hE.1 hR
  exact ⟨_,v,.inl ⟨by simp [Region.wanted,hg],fun w' _=>hrun w' (fun h=>by rw [hmem] at h;cases h)⟩,by rw [hdst];exact put_R hR hd (Mv.refl hR.hp) hv,hE.2⟩
 ·rw [hxg] at hE
  dsimp only at hE
  unfold EvGrd at hE
  split at hE
  ·exact hE.elim
  ·rename_i gb hgb
   rw [if_pos hq] at hE
   have hw:=wanted_of hR hg hs hlt hgb
   cases gb with
   | false=>exact ⟨_,undef,.inr ⟨hw,rfl⟩,by rw [hdst];exact put_R hR hd (Mv.refl hR.hp) .cndF,hE.2⟩
   | true=>
    obtain ⟨v,hrun,hv⟩:=quiet_all hop hq (hE.1 rfl) hR
    exact ⟨_,v,.inl ⟨hw,fun w' _=>hrun w' (fun h=>by rw [hmem] at h;cases h)⟩,by rw [hdst];exact put_R hR hd (Mv.refl hR.hp) (.cndT hv),hE.2⟩
section
variable {ops:Array Oper} {Q:Exit→Act→World→Prop} {S:World→Prop}
theorem wpAnyT_firstR {i : Nat} {oi : Oper} {v : Value} (hi : ops[i]? = some oi) (hsel : ∀ (j : Nat) (o : Oper) cs b, ops[j]? = some o → o.op ≠ .select cs b)
    (hQ:∀ c a w,Q (.panic c) (a.put oi.dst v) w→Q (.panic c) a w):
    ∀ (fuel:Nat) (listed:Array Bool) (a:Act) (w:World),
     (∀ j oj,ops[j]? = some oj→j≠i→listed.getD j true=false→(∀ e∈oj.after,Region.binds .any e=true→e.on≠i)→oi.apart ops oj=true) →
     i∈Region.ready .any ops listed→YieldsIf P ops (fun _=>True) oi v a →
     wpAnyT P ops Q 0 S fuel (listed.setIfInBounds i true) (a.put oi.dst v) w→wpAnyT P ops Q 0 S (fuel+1) listed a w:=by
 intro fuel
 induction fuel with
 | zero=>
  intro listed a w _ hr hy H
  refine ⟨fun h=>(by rw [h] at hr;cases hr),fun j hj=>?_⟩
  by_cases hji:j=i
  ·subst hji;exact hy.wpOp hi trivial ⟨.inl (Nat.zero_le _),H⟩
  ·have:=ready_mono hj hji
   rw [H.1] at this
   cases this
 | succ fuel ih=>
  intro listed a w hfree hr hy H
  refine ⟨fun h=>(by rw [h] at hr;cases hr),fun j hj=>?_⟩
  by_cases hji:j=i
  ·subst hji;exact hy.wpOp hi trivial ⟨.inl (Nat.zero_le _),H⟩
  ·have h1:=H.2 j (ready_mono hj hji)
   obtain ⟨hjun,oj,hoj,hall⟩:=mem_ready.1 hj
   have hnot:∀ e∈oj.after,Region.binds .any e=true→e.on≠i:=fun e he hb heq=>by
    have h1:=hall e he hb
    have h0:=(mem_ready.1 hr).1
    rw [heq] at h1
    rcases Nat.lt_or_ge i listed.size with h' | h'
    ·simp [h'] at h0 h1;rw [h0] at h1;cases h1
    ·simp [Array.getElem?_eq_none h'] at h1
   have h2:=wpOp_putIf hoj (hfree j oj hoj hji hjun hnot) (fun cs b=>hsel i oi cs b hi) (fun cs b=>hsel j oj cs b hoj) hQ hy h1
   have hfree' : ∀ k ok, ops[k]? = some ok → k ≠ i → (listed.setIfInBounds j true).getD k true = false →
       (∀ e∈ok.after,Region.binds .any e=true→e.on≠i)→oi.apart ops ok=true:=fun k ok hk hki hun hno=>by
    refine hfree k ok hk hki ?_ hno
    by_cases hjk:j=k
    ·subst hjk;exact hjun
    ·rw [getD_set_ne true hjk] at hun;exact hun
   refine wpOp_mono (fun a' w' h3=>?_) h2
   refine ⟨.inl (Nat.zero_le _),ih (listed.setIfInBounds j true) a' w' hfree' (ready_mono hr (Ne.symm hji)) h3.1 ?_⟩
   rw [Array.setIfInBounds_comm _ _ hji]
   exact h3.2.2
theorem tree_okA (hsel : Region.noSelect ops = true) (hQ : ∀ c a w, ¬ Q (.panic c) a w) : ∀ (t : PT) (fuel : Nat) (listed : Array Bool) (m : Option (List Nat)) (gt : GT) {K : Frame → Heap → Prop} {g : Gh} {F : Frame} {H : Heap} {a : Act} {w : World},
    okT P false ops t fuel listed m=true→compileT P false N ops t=some gt→EvT P m.isSome gt K F H→R N g F H a w→HeadInv .any ops ops.size listed →
    (∀ g' F' H' a' w', R N g' F' H' a' w' → Mv g H w g' H' w' → K F' H' → Q .normal a' w') →
    match m with
    | none=>wpAnyT P ops Q ops.size (Ext w) fuel listed a w
    | some rem=>(∀ i∈rem,i∈Region.ready .any ops listed)→∀ i∈rem,wpOp P ops Q i (fun a' w' => (ops.size≤i∨Ext w w')∧wpAnyT P ops Q ops.size (Ext w) (fuel - 1) (listed.setIfInBounds i true) a' w') a w
 | .fin,fuel,listed,m,gt,K,g,F,H,a,w,hok,hc,hE,hR,hinv,hK=>by
  simp only [compileT,Option.some.injEq] at hc
  subst hc
  cases m with
  | none=>
   have hr:Region.ready .any ops listed=[]:=by cases fuel<;>simpa [okT] using hok
   have hq:=hK _ _ _ _ _ hR (Mv.refl hR.hp) hE
   cases fuel with
   | zero=>exact ⟨hr,hq⟩
   | succ fuel=>exact ⟨fun _=>hq,fun i hi=>(by rw [hr] at hi;cases hi)⟩
  | some rem=>
   have hr:rem=[]:=by cases fuel<;>simpa [okT] using hok
   subst hr
   exact fun _ i hi=>(by cases hi)
 | .reg i t,0,listed,m,gt,K,g,F,H,a,w,hok,hc,hE,hR,hinv,hK=>by cases m<;>simp [okT] at hok
 | .reg i t,fuel+1,listed,some rem,gt,K,g,F,H,a,w,hok,hc,hE,hR,hinv,hK=>by simp [okT] at hok
 | .reg i t,fuel+1,listed,none,gt,K,g,F,H,a,w,hok,hc,hE,hR,hinv,hK=>by
  simp only [okT,Bool.and_eq_true] at hok
  obtain ⟨⟨⟨h1,h2⟩,h3⟩,h4⟩:=hok
  simp only [compileT] at hc
  split at hc
  ·rename_i x gt' hx ht
   simp only [Option.some.injEq] at hc
   subst hc
   obtain ⟨o,ho,hop,_⟩:=compileG_inv hx
   have hqx:isQuiet x.op=true:=by
    simp only [regB,Bool.not_false,Bool.true_or,Bool.and_true] at h1
    unfold quietB at h1
    simp only [ho,hop] at h1
    exact h1
   obtain ⟨av,v,hy,hR', hE'⟩:=evG_quiet ho hx hqx hE hR
   have hri:i∈Region.ready .any ops listed:=by simpa using h3
   have hin:i<ops.size:=(Array.getElem?_eq_some_iff.1 ho).1
   refine wpAnyT_first ho hin (Region.noSelect_spec hsel) (fun listed hinv' _ t ht hr=>?_) (fun c a w h=>absurd h (hQ _ _ _)) _ listed a w hinv (Region.free_spec ho h2) hri hy (fun _ _=>rfl) ?_
   ·obtain ⟨_,ot,hot,_⟩:=mem_ready.1 hr
    have:=(Array.getElem?_eq_some_iff.1 hot).1
    omega
   ·exact tree_okA hsel hQ t fuel _ none gt' h4 ht hE' hR' (hinv.set hri hin) hK
  ·cases hc
 | .alt i t u,0,listed,m,gt,K,g,F,H,a,w,hok,hc,hE,hR,hinv,hK=>by cases m<;>simp [okT] at hok
 | .alt i t u,fuel+1,listed,m,gt,K,g,F,H,a,w,hok,hc,hE,hR,hinv,hK=>by
  simp only [okT] at hok
  split at hok
  ·rename_i j r hjr
   simp only [Bool.and_eq_true,beq_iff_eq] at hok
   obtain ⟨⟨rfl,h1⟩,h2⟩:=hok
   simp only [compileT] at hc
   split at hc
   ·rename_i x gt' gu hx ht hu
    simp only [Option.some.injEq] at hc
    subst hc
    obtain ⟨hE1,hE2⟩:=hE
    obtain ⟨o,ho,hop,_⟩:=compileG_inv hx
    have hin:i<ops.size:=(Array.getElem?_eq_some_iff.1 ho).1
    have rest:=tree_okA hsel hQ u (fuel+1) listed (some r) gu h2 hu hE2 hR hinv hK
    have one:i∈Region.ready .any ops listed→wpOp P ops Q i (fun a' w' => (ops.size≤i∨Ext w w')∧wpAnyT P ops Q ops.size (Ext w) fuel (listed.setIfInBounds i true) a' w') a w:=fun hri=>by
     refine evG_wp hx hE1 hR fun g' F' H' a' w' hR' hm hext hE' => ⟨.inr (hext rfl),?_⟩
     refine wpAnyT_mono (S:=Ext w') (fun u hu=>(hext rfl).trans hm.stp.size hu) _ _ _ _ ?_
     exact tree_okA hsel hQ t fuel _ none gt' h1 ht hE' hR' (hinv.set hri hin) fun g'' F'' H'' a'' w'' hR'' hm' hk=>hK _ _ _ _ _ hR'' (hm.trans hm') hk
    cases m with
    | none=>
     simp only [Option.getD_none] at hjr
     refine ⟨fun h0=>(by rw [hjr] at h0;cases h0),fun k hk=>?_⟩
     rw [hjr] at hk
     rcases List.mem_cons.1 hk with rfl | hk'
     ·exact one (by rw [hjr];simp)
     ·exact rest (fun q hq=>by rw [hjr];exact List.mem_cons_of_mem _ hq) k hk'
    | some rem=>
     simp only [Option.getD_some] at hjr
     subst hjr
     intro hall k hk
     rcases List.mem_cons.1 hk with rfl | hk'
     ·exact one (hall _ (by simp))
     ·exact rest (fun q hq=>hall q (List.mem_cons_of_mem _ hq)) k hk'
   ·cases hc
  ·cases hok
theorem tree_okB (hsel : Region.noSelect ops = true) (hQ : ∀ c a w, ¬ Q (.panic c) a w) : ∀ (t : PT) (fuel : Nat) (listed : Array Bool) (m : Option (List Nat)) (gt : GT) {K : Frame → Heap → Prop} {g : Gh} {F : Frame} {H : Heap} {a : Act} {w : World},
    okT P true ops t fuel listed m=true→compileT P true N ops t=some gt→EvT P m.isSome gt K F H→R N g F H a w →
    (∀ g' F' H' a' w', R N g' F' H' a' w' → Mv g H w g' H' w' → K F' H' → Q .normal a' w') →
    match m with
    | none=>wpAnyT P ops Q 0 (fun _=>True) fuel listed a w
    | some rem=>(∀ i∈rem,i∈Region.ready .any ops listed)→∀ i∈rem,wpOp P ops Q i (fun a' w' => (0≤i∨True)∧wpAnyT P ops Q 0 (fun _=>True) (fuel - 1) (listed.setIfInBounds i true) a' w') a w
 | .fin,fuel,listed,m,gt,K,g,F,H,a,w,hok,hc,hE,hR,hK=>by
  simp only [compileT,Option.some.injEq] at hc
  subst hc
  cases m with
  | none=>
   have hr:Region.ready .any ops listed=[]:=by cases fuel<;>simpa [okT] using hok
   have hq:=hK _ _ _ _ _ hR (Mv.refl hR.hp) hE
   cases fuel with
   | zero=>exact ⟨hr,hq⟩
   | succ fuel=>exact ⟨fun _=>hq,fun i hi=>(by rw [hr] at hi;cases hi)⟩
  | some rem=>
   have hr:rem=[]:=by cases fuel<;>simpa [okT] using hok
   subst hr
   exact fun _ i hi=>(by cases hi)
 | .reg i t,0,listed,m,gt,K,g,F,H,a,w,hok,hc,hE,hR,hK=>by cases m<;>simp [okT] at hok
 | .reg i t,fuel+1,listed,some rem,gt,K,g,F,H,a,w,hok,hc,hE,hR,hK=>by simp [okT] at hok
 | .reg i t,fuel+1,listed,none,gt,K,g,F,H,a,w,hok,hc,hE,hR,hK=>by
  simp only [okT,Bool.and_eq_true] at hok
  obtain ⟨⟨⟨h1,h2⟩,h3⟩,h4⟩:=hok
  simp only [compileT] at hc
  split at hc
  ·rename_i x gt' hx ht
   simp only [Option.some.injEq] at hc
   subst hc
   obtain ⟨o,ho,hop,_⟩:=compileG_inv hx
   simp only [regB,Bool.not_true,Bool.false_or,Bool.and_eq_true,ho,Bool.not_eq_true'] at h1
   have hqx:isQuiet x.op=true:=by
    have h1:=h1.1
    unfold quietB at h1
    simp only [ho,hop] at h1
    exact h1
   obtain ⟨av,v,hy,hR', hE'⟩:=evG_reg ho hx hqx h1.2 hE hR
   have hri:i∈Region.ready .any ops listed:=by simpa using h3
   have hin:i<ops.size:=(Array.getElem?_eq_some_iff.1 ho).1
   refine wpAnyT_firstR ho (Region.noSelect_spec hsel) (fun c a w h=>absurd h (hQ _ _ _)) _ listed a w (Region.free_spec ho h2) hri hy ?_
   exact tree_okB hsel hQ t fuel _ none gt' h4 ht hE' hR' hK
  ·cases hc
 | .alt i t u,0,listed,m,gt,K,g,F,H,a,w,hok,hc,hE,hR,hK=>by cases m<;>simp [okT] at hok
 | .alt i t u,fuel+1,listed,m,gt,K,g,F,H,a,w,hok,hc,hE,hR,hK=>by
  simp only [okT] at hok
  split at hok
  ·rename_i j r hjr
   simp only [Bool.and_eq_true,beq_iff_eq] at hok
   obtain ⟨⟨rfl,h1⟩,h2⟩:=hok
   simp only [compileT] at hc
   split at hc
   ·rename_i x gt' gu hx ht hu
    simp only [Option.some.injEq] at hc
    subst hc
    obtain ⟨hE1,hE2⟩:=hE
    obtain ⟨o,ho,hop,_⟩:=compileG_inv hx
    have hin:i<ops.size:=(Array.getElem?_eq_some_iff.1 ho).1
    have rest:=tree_okB hsel hQ u (fuel+1) listed (some r) gu h2 hu hE2 hR hK
    have one:i∈Region.ready .any ops listed→wpOp P ops Q i (fun a' w' => (0≤i∨True)∧wpAnyT P ops Q 0 (fun _=>True) fuel (listed.setIfInBounds i true) a' w') a w:=fun hri=>by
     refine evG_wp hx hE1 hR fun g' F' H' a' w' hR' hm hext hE' => ⟨.inl (Nat.zero_le _),?_⟩
     exact tree_okB hsel hQ t fuel _ none gt' h1 ht hE' hR' fun g'' F'' H'' a'' w'' hR'' hm' hk=>hK _ _ _ _ _ hR'' (hm.trans hm') hk
    cases m with
    | none=>
     simp only [Option.getD_none] at hjr
     refine ⟨fun h0=>(by rw [hjr] at h0;cases h0),fun k hk=>?_⟩
     rw [hjr] at hk
     rcases List.mem_cons.1 hk with rfl | hk'
     ·exact one (by rw [hjr];simp)
     ·exact rest (fun q hq=>by rw [hjr];exact List.mem_cons_of_mem _ hq) k hk'
    | some rem=>
     simp only [Option.getD_some] at hjr
     subst hjr
     intro hall k hk
     rcases List.mem_cons.1 hk with rfl | hk'
     ·exact one (hall _ (by simp))
     ·exact rest (fun q hq=>hall q (List.mem_cons_of_mem _ hq)) k hk'
   ·cases hc
  ·cases hok
end
theorem regionT_wp {M : List Nat} {id : Nat} {ops : Array Oper} {gt : GT} {Q : Exit → Act → World → Prop} {K : Frame → Heap → Prop} (hc : compileRegionT P M N ops = some gt) (hE : EvT P false gt K F H) (hR : R N g F H a w)
    (hQ:∀ c a w,¬ Q (.panic c) a w) (hK:∀ g' F' H' a' w', R N g' F' H' a' w' → Mv g H w g' H' w' → K F' H' → Q .normal a' w'):(Code.region id ops true).wp P Q a w:=by
 unfold compileRegionT at hc
 dsimp only at hc
 split at hc
 ·rename_i hb
  generalize decide (firstW P M ops (List.range ops.size)<ops.size)=wr at *
  simp only [Bool.and_eq_true] at hb
  obtain ⟨⟨⟨_,hm⟩,hsel⟩,hok⟩:=hb
  refine wp_region_any hm ?_
  have hR' : R N g F H a { w with drawn:=w.drawn+1 }:=drew_R hR
  have hK' : ∀ g' F' H' a' w', R N g' F' H' a' w' → Mv g H { w with drawn:=w.drawn+1 } g' H' w' → K F' H' → Q .normal a' w' := fun g' F' H' a' w' hR' hm' hk=>hK _ _ _ _ _ hR' ((drew_Mv hR.hp).trans hm') hk
  cases wr with
  | false=>
   exact wpAny_of_T _ _ _ _ (tree_okA hsel hQ _ _ _ none gt hok hc hE hR' ⟨by simp,fun j oj hj hl=>(by rw [getD_replicate_false] at hl;cases hl),fun t' ht' hlt=>(by simp [hlt])⟩ hK')
  | true=>exact wpAny_of_T _ _ _ _ (tree_okB hsel hQ _ _ _ none gt hok hc hE hR' hK')
 ·cases hc
end
section
variable {P:Program} {N:Nat} {g:Gh} {F:Frame} {H:Heap} {a:Act} {w:World}
def wpAnyC (P:Program)(ops:Array Oper)(Q:Exit→Act→World→Prop)(B:Nat→Bool)(S:World→Prop):Nat→Array Bool→Act→World→Prop
 | 0,listed,a,w=>Region.ready .any ops listed=[]∧Q .normal a w
 | fuel+1,listed,a,w=>(Region.ready .any ops listed=[]→Q .normal a w) ∧
  ∀ i∈Region.ready .any ops listed,wpOp P ops Q i (fun a' w' => (B i=true∧wpAny P .any ops Q fuel (listed.setIfInBounds i true) a' w')∨(B i=false∧S w' ∧ wpAnyC P ops Q B S fuel (listed.setIfInBounds i true) a' w')) a w
section
variable {ops:Array Oper} {Q:Exit→Act→World→Prop} {B:Nat→Bool} {S S' : World→Prop}
theorem wpAny_of_C:∀ (fuel:Nat) (listed:Array Bool) (a:Act) (w:World),wpAnyC P ops Q B S fuel listed a w→wpAny P .any ops Q fuel listed a w
 | 0,_,_,_,h=>h
 | fuel+1,_,_,_,h=>⟨h.1,fun i hi=>wpOp_mono (fun a' w' h' => h'.elim (fun h=>h.2) (fun h=>wpAny_of_C fuel _ a' w' h.2.2)) (h.2 i hi)⟩
theorem wpAnyC_mono (hS:∀ w,S w→S' w):∀ (fuel:Nat) (listed:Array Bool) (a:Act) (w:World),wpAnyC P ops Q B S fuel listed a w→wpAnyC P ops Q B S' fuel listed a w
 | 0,_,_,_,h=>h
 | fuel+1,_,_,_,h=>⟨h.1,fun i hi=>wpOp_mono (fun a' w' h' => h'.imp id fun h=>⟨h.1,hS w' h.2.1,wpAnyC_mono hS fuel _ a' w' h.2.2⟩) (h.2 i hi)⟩
theorem wpAnyT_of:∀ (fuel:Nat) (listed:Array Bool) (a:Act) (w:World),wpAny P .any ops Q fuel listed a w→wpAnyT P ops Q 0 (fun _=>True) fuel listed a w
 | 0,_,_,_,h=>h
 | fuel+1,_,_,_,h=>⟨h.1,fun i hi=>wpOp_mono (fun a' w' h' => ⟨.inr trivial,wpAnyT_of fuel _ a' w' h'⟩) (h.2 i hi)⟩
theorem ready_not {i j:Nat}{oj:Oper}{listed:Array Bool}(hr:i∈Region.ready .any ops listed)(hj:j∈Region.ready .any ops listed)(hoj:ops[j]? = some oj):∀ e∈oj.after,Region.binds .any e=true→e.on≠i:=fun e he hb heq=>by
 obtain ⟨_,oj', hoj', hall⟩:=mem_ready.1 hj
 obtain rfl:oj=oj' := Option.some.inj (hoj.symm.trans hoj')
 have h1:=hall e he hb
 have h0:=(mem_ready.1 hr).1
 rw [heq] at h1
 rcases Nat.lt_or_ge i listed.size with h' | h'
 ·simp [h'] at h0 h1;rw [h0] at h1;cases h1
 ·simp [Array.getElem?_eq_none h'] at h1
theorem wpAnyC_first {i : Nat} {oi : Oper} {v : Value} (hi : ops[i]? = some oi) (hBi : B i = false) (hsel : ∀ (j : Nat) (o : Oper) cs b, ops[j]? = some o → o.op ≠ .select cs b)
    (hT:∀ listed,HeadInv .any ops ops.size listed→i∈Region.ready .any ops listed→∀ t∈Region.ready .any ops listed,t≠i→B t=false)
    (hQ:∀ c a w,Q (.panic c) (a.put oi.dst v) w→Q (.panic c) a w):
    ∀ (fuel:Nat) (listed:Array Bool) (a:Act) (w:World),HeadInv .any ops ops.size listed →
     (∀ j oj,ops[j]? = some oj→j≠i→listed.getD j true=false→(∀ e∈oj.after,Region.binds .any e=true→e.on≠i)→oi.apart ops oj=true) →
     i∈Region.ready .any ops listed→YieldsIf P ops S oi v a→S w →
     wpAnyC P ops Q B S fuel (listed.setIfInBounds i true) (a.put oi.dst v) w→wpAnyC P ops Q B S (fuel+1) listed a w:=by
 intro fuel
 induction fuel with
 | zero=>
  intro listed a w _ _ hr hy hS H
  refine ⟨fun h=>(by rw [h] at hr;cases hr),fun j hj=>?_⟩
  by_cases hji:j=i
  ·subst hji;exact hy.wpOp hi hS (.inr ⟨hBi,hS,H⟩)
  ·have:=ready_mono hj hji
   rw [H.1] at this
   cases this
 | succ fuel ih=>
  intro listed a w hinv hfree hr hy hS H
  refine ⟨fun h=>(by rw [h] at hr;cases hr),fun j hj=>?_⟩
  by_cases hji:j=i
  ·subst hji;exact hy.wpOp hi hS (.inr ⟨hBi,hS,H⟩)
  ·have hBj:=hT listed hinv hr j hj hji
   have h1:=H.2 j (ready_mono hj hji)
   obtain ⟨hjun,oj,hoj,_⟩:=mem_ready.1 hj
   have hnot:=ready_not hr hj hoj
   have h2:=wpOp_putIf hoj (hfree j oj hoj hji hjun hnot) (fun cs b=>hsel i oi cs b hi) (fun cs b=>hsel j oj cs b hoj) hQ hy h1
   have hfree' : ∀ k ok, ops[k]? = some ok → k ≠ i → (listed.setIfInBounds j true).getD k true = false →
       (∀ e∈ok.after,Region.binds .any e=true→e.on≠i)→oi.apart ops ok=true:=fun k ok hk hki hun hno=>by
    refine hfree k ok hk hki ?_ hno
    by_cases hjk:j=k
    ·subst hjk;exact hjun
    ·rw [getD_set_ne true hjk] at hun;exact hun
   have hjn:j<ops.size:=(Array.getElem?_eq_some_iff.1 hoj).1
   refine wpOp_mono (fun a' w' h3=>?_) h2
   obtain ⟨_,hSw,h4⟩:=h3.2.resolve_left (fun h=>by rw [hBj] at h;cases h.1)
   refine .inr ⟨hBj,hSw,ih (listed.setIfInBounds j true) a' w' (hinv.set hj hjn) hfree' (ready_mono hr (Ne.symm hji)) h3.1 hSw ?_⟩
   rw [Array.setIfInBounds_comm _ _ hji]
   exact h4
theorem wpAnyC_firstR {i : Nat} {oi : Oper} {v : Value} (hi : ops[i]? = some oi) (hBi : B i = false) (hsel : ∀ (j : Nat) (o : Oper) cs b, ops[j]? = some o → o.op ≠ .select cs b)
    (hQ:∀ c a w,Q (.panic c) (a.put oi.dst v) w→Q (.panic c) a w):
    ∀ (fuel:Nat) (listed:Array Bool) (a:Act) (w:World),
     (∀ j oj,ops[j]? = some oj→j≠i→listed.getD j true=false→(∀ e∈oj.after,Region.binds .any e=true→e.on≠i)→oi.apart ops oj=true) →
     i∈Region.ready .any ops listed→YieldsIf P ops (fun _=>True) oi v a→S w →
     wpAnyC P ops Q B S fuel (listed.setIfInBounds i true) (a.put oi.dst v) w→wpAnyC P ops Q B S (fuel+1) listed a w:=by
 intro fuel
 induction fuel with
 | zero=>
  intro listed a w _ hr hy hS H
  refine ⟨fun h=>(by rw [h] at hr;cases hr),fun j hj=>?_⟩
  by_cases hji:j=i
  ·subst hji;exact hy.wpOp hi trivial (.inr ⟨hBi,hS,H⟩)
  ·have:=ready_mono hj hji
   rw [H.1] at this
   cases this
 | succ fuel ih=>
  intro listed a w hfree hr hy hS H
  refine ⟨fun h=>(by rw [h] at hr;cases hr),fun j hj=>?_⟩
  by_cases hji:j=i
  ·subst hji;exact hy.wpOp hi trivial (.inr ⟨hBi,hS,H⟩)
  ·have h1:=H.2 j (ready_mono hj hji)
   obtain ⟨hjun,oj,hoj,_⟩:=mem_ready.1 hj
   have hnot:=ready_not hr hj hoj
   have h2:=wpOp_putIf hoj (hfree j oj hoj hji hjun hnot) (fun cs b=>hsel i oi cs b hi) (fun cs b=>hsel j oj cs b hoj) hQ hy h1
   have hfree' : ∀ k ok, ops[k]? = some ok → k ≠ i → (listed.setIfInBounds j true).getD k true = false →
       (∀ e∈ok.after,Region.binds .any e=true→e.on≠i)→oi.apart ops ok=true:=fun k ok hk hki hun hno=>by
    refine hfree k ok hk hki ?_ hno
    by_cases hjk:j=k
    ·subst hjk;exact hjun
    ·rw [getD_set_ne true hjk] at hun;exact hun
   refine wpOp_mono (fun a' w' h3=>?_) h2
   rcases h3.2 with ⟨hBj,h4⟩ | ⟨hBj,hSw,h4⟩
   ·refine .inl ⟨hBj,wpAny_of_T (n:=0) (S:=fun _=>True) _ _ _ _ ?_⟩
    refine wpAnyT_firstR hi hsel hQ fuel _ a' w' hfree' (ready_mono hr (Ne.symm hji)) h3.1 ?_
    rw [Array.setIfInBounds_comm _ _ hji]
    exact wpAnyT_of _ _ _ _ h4
   ·refine .inr ⟨hBj,hSw,ih (listed.setIfInBounds j true) a' w' hfree' (ready_mono hr (Ne.symm hji)) h3.1 hSw ?_⟩
    rw [Array.setIfInBounds_comm _ _ hji]
    exact h4
end
def depB (ops:Array Oper)(i:Nat):Nat→Nat→Bool
 | 0,j=>j == i
 | fuel+1,j=>(j == i) || match ops[j]? with
  | some o=>o.after.any fun e=>Region.binds .any e&&depB ops i fuel e.on
  | none=>false
theorem depB_listed {ops:Array Oper}{i:Nat}{listed:Array Bool}(hinv:HeadInv .any ops ops.size listed):∀ (fuel j:Nat),depB ops i fuel j=true→listed.getD j false=true→listed.getD i false=true
 | 0,j,h,hl=>by
  have:j=i:=by simpa [depB] using h
  subst this;exact hl
 | fuel+1,j,h,hl=>by
  simp only [depB,Bool.or_eq_true,beq_iff_eq] at h
  rcases h with rfl | h
  ·exact hl
  ·split at h
   ·rename_i o ho
    obtain ⟨e,he,hd⟩:=Array.any_eq_true'.1 h
    simp only [Bool.and_eq_true] at hd
    have hle:=hinv.closed j o ho (by simpa using hl) e he hd.1
    exact depB_listed hinv fuel e.on hd.2 (by simpa using hle)
   ·cases h
def bW (P:Program)(M:List Nat)(ops:Array Oper)(i:Nat):Bool:=match ops[i]? with
 | some o=>match compileOp P o with
  | some x=>writes M x
  | none=>true
 | none=>true
def waitsB (P:Program)(M:List Nat)(ops:Array Oper)(i:Nat):Bool:=(List.range ops.size).all fun j=>!bW P M ops j || (j != i&&depB ops i ops.size j)
theorem waitsB_ok {M:List Nat}{ops:Array Oper}{i:Nat}(h:waitsB P M ops i=true):∀ listed,HeadInv .any ops ops.size listed→i∈Region.ready .any ops listed→∀ t∈Region.ready .any ops listed,t≠i→bW P M ops t=false:=fun listed hinv hi t ht hne=>by
 cases hb:bW P M ops t with
 | false=>rfl
 | true=>
  exfalso
  obtain ⟨_,ot,hot,hall⟩:=mem_ready.1 ht
  have htl:t<ops.size:=(Array.getElem?_eq_some_iff.1 hot).1
  have h1:=List.all_eq_true.1 h t (List.mem_range.2 htl)
  simp only [hb,Bool.not_true,Bool.false_or,Bool.and_eq_true,bne_iff_ne] at h1
  have hd:=h1.2
  have hun:=getD_both (mem_ready.1 hi).1
  obtain ⟨k,hk⟩:∃ k,ops.size=k+1:=⟨ops.size - 1,by omega⟩
  rw [hk] at hd
  simp only [depB,Bool.or_eq_true,beq_iff_eq,hot] at hd
  rcases hd with rfl | hd
  ·exact hne rfl
  ·obtain ⟨e,he,hd⟩:=Array.any_eq_true'.1 hd
   simp only [Bool.and_eq_true] at hd
   have:=depB_listed hinv k e.on hd.2 (hall e he hd.1)
   rw [this] at hun
   cases hun
def memB (ops:Array Oper)(i:Nat):Bool:=match ops[i]? with
 | some o=>isMem o.op
 | none=>true
def regC (P:Program)(M:List Nat)(ops:Array Oper)(i:Nat):Bool:=quietB P ops i && !bW P M ops i&&(!memB ops i || waitsB P M ops i)
def okC (P:Program)(M:List Nat)(ops:Array Oper):PT→Nat→Array Bool→Option (List Nat)→Bool
 | .fin,_,listed,none=>(Region.ready .any ops listed).isEmpty
 | .fin,_,_,some rem=>rem.isEmpty
 | .reg i t,fuel+1,listed,none=>regC P M ops i&&Region.free .any ops listed i&&(Region.ready .any ops listed).contains i&&okC P M ops t fuel (listed.setIfInBounds i true) none
 | .alt i t u,fuel+1,listed,m=>match m.getD (Region.ready .any ops listed) with
  | j :: r=>i == j&&(if bW P M ops i then okT P true ops t fuel (listed.setIfInBounds i true) none else okC P M ops t fuel (listed.setIfInBounds i true) none)&&okC P M ops u (fuel+1) listed (some r)
  | []=>false
 | _,_,_,_=>false
def mkC (P:Program)(M:List Nat)(ops:Array Oper):Nat→Array Bool→PT
 | 0,_=>.fin
 | fuel+1,listed=>
  let rs:=Region.ready .any ops listed
  match rs.find? (fun i=>regC P M ops i&&Region.free .any ops listed i) with
  | some i=>.reg i (mkC P M ops fuel (listed.setIfInBounds i true))
  | none=>rs.foldr (fun i u=>.alt i (if bW P M ops i then mkT P true ops fuel (listed.setIfInBounds i true) else mkC P M ops fuel (listed.setIfInBounds i true)) u) .fin
def compileC (P:Program)(M:List Nat)(N:Nat)(ops:Array Oper):PT→Option GT
 | .fin=>some .fin
 | .reg i t=>match compileG P N ops i,compileC P M N ops t with
  | some x,some t=>some (.reg x t)
  | _,_=>none
 | .alt i t u=>match compileG P N ops i,(if bW P M ops i then compileT P true N ops t else compileC P M N ops t),compileC P M N ops u with
  | some x,some t,some u=>some (.alt (!bW P M ops i) x t u)
  | _,_,_=>none
def compileRegionQ (P:Program)(M:List Nat)(N:Nat)(ops:Array Oper):Option GT:=
 let t:=mkC P M ops ops.size (Array.replicate ops.size false)
 if decide (((List.range ops.size).filter fun i=>!regC P M ops i).length≤6)&&P.follows .mixedOrders&&Region.noSelect ops&&okC P M ops t ops.size (Array.replicate ops.size false) none then compileC P M N ops t else none
section
variable {ops:Array Oper} {Q:Exit→Act→World→Prop} {M:List Nat}
theorem tree_okC (hsel : Region.noSelect ops = true) (hQ : ∀ c a w, ¬ Q (.panic c) a w) : ∀ (t : PT) (fuel : Nat) (listed : Array Bool) (m : Option (List Nat)) (gt : GT) {K : Frame → Heap → Prop} {g : Gh} {F : Frame} {H : Heap} {a : Act} {w : World},
    okC P M ops t fuel listed m=true→compileC P M N ops t=some gt→EvT P m.isSome gt K F H→R N g F H a w→HeadInv .any ops ops.size listed →
    (∀ g' F' H' a' w', R N g' F' H' a' w' → Mv g H w g' H' w' → K F' H' → Q .normal a' w') →
    match m with
    | none=>wpAnyC P ops Q (bW P M ops) (Ext w) fuel listed a w
    | some rem=>(∀ i∈rem,i∈Region.ready .any ops listed)→∀ i∈rem,wpOp P ops Q i (fun a' w' => (bW P M ops i=true∧wpAny P .any ops Q (fuel - 1) (listed.setIfInBounds i true) a' w')∨(bW P M ops i=false∧Ext w w' ∧ wpAnyC P ops Q (bW P M ops) (Ext w) (fuel - 1) (listed.setIfInBounds i true) a' w')) a w
 | .fin,fuel,listed,m,gt,K,g,F,H,a,w,hok,hc,hE,hR,hinv,hK=>by
  simp only [compileC,Option.some.injEq] at hc
  subst hc
  cases m with
  | none=>
   have hr:Region.ready .any ops listed=[]:=by cases fuel<;>simpa [okC] using hok
   have hq:=hK _ _ _ _ _ hR (Mv.refl hR.hp) hE
   cases fuel with
   | zero=>exact ⟨hr,hq⟩
   | succ fuel=>exact ⟨fun _=>hq,fun i hi=>(by rw [hr] at hi;cases hi)⟩
  | some rem=>
   have hr:rem=[]:=by cases fuel<;>simpa [okC] using hok
   subst hr
   exact fun _ i hi=>(by cases hi)
 | .reg i t,0,listed,m,gt,K,g,F,H,a,w,hok,hc,hE,hR,hinv,hK=>by cases m<;>simp [okC] at hok
 | .reg i t,fuel+1,listed,some rem,gt,K,g,F,H,a,w,hok,hc,hE,hR,hinv,hK=>by simp [okC] at hok
 | .reg i t,fuel+1,listed,none,gt,K,g,F,H,a,w,hok,hc,hE,hR,hinv,hK=>by
  simp only [okC,Bool.and_eq_true] at hok
  obtain ⟨⟨⟨h1,h2⟩,h3⟩,h4⟩:=hok
  simp only [compileC] at hc
  split at hc
  ·rename_i x gt' hx ht
   simp only [Option.some.injEq] at hc
   subst hc
   obtain ⟨o,ho,hop,_⟩:=compileG_inv hx
   simp only [regC,Bool.and_eq_true,Bool.not_eq_true', Bool.or_eq_true] at h1
   obtain ⟨⟨h11,h12⟩,h13⟩:=h1
   have hqx:isQuiet x.op=true:=by
    unfold quietB at h11
    simp only [ho,hop] at h11
    exact h11
   have hri:i∈Region.ready .any ops listed:=by simpa using h3
   have hin:i<ops.size:=(Array.getElem?_eq_some_iff.1 ho).1
   rcases h13 with h13 | h13
   ·have hmem:isMem o.op=false:=by unfold memB at h13;rw [ho] at h13;exact h13
    obtain ⟨av,v,hy,hR', hE'⟩:=evG_reg ho hx hqx hmem hE hR
    exact wpAnyC_firstR ho h12 (Region.noSelect_spec hsel) (fun c a w h=>absurd h (hQ _ _ _)) _ listed a w (Region.free_spec ho h2) hri hy (fun _ _=>rfl)
     (tree_okC hsel hQ t fuel _ none gt' h4 ht hE' hR' (hinv.set hri hin) hK)
   ·obtain ⟨av,v,hy,hR', hE'⟩:=evG_quiet ho hx hqx hE hR
    exact wpAnyC_first ho h12 (Region.noSelect_spec hsel) (waitsB_ok h13) (fun c a w h=>absurd h (hQ _ _ _)) _ listed a w hinv (Region.free_spec ho h2) hri hy (fun _ _=>rfl)
     (tree_okC hsel hQ t fuel _ none gt' h4 ht hE' hR' (hinv.set hri hin) hK)
  ·cases hc
 | .alt i t u,0,listed,m,gt,K,g,F,H,a,w,hok,hc,hE,hR,hinv,hK=>by cases m<;>simp [okC] at hok
 | .alt i t u,fuel+1,listed,m,gt,K,g,F,H,a,w,hok,hc,hE,hR,hinv,hK=>by
  simp only [okC] at hok
  split at hok
  ·rename_i j r hjr
   simp only [Bool.and_eq_true,beq_iff_eq] at hok
   obtain ⟨⟨rfl,h1⟩,h2⟩:=hok
   simp only [compileC] at hc
   split at hc
   ·rename_i x gt' gu hx ht hu
    simp only [Option.some.injEq] at hc
    subst hc
    obtain ⟨hE1,hE2⟩:=hE
    obtain ⟨o,ho,hop,_⟩:=compileG_inv hx
    have hin:i<ops.size:=(Array.getElem?_eq_some_iff.1 ho).1
    have rest:=tree_okC hsel hQ u (fuel+1) listed (some r) gu h2 hu hE2 hR hinv hK
    have one:i∈Region.ready .any ops listed→wpOp P ops Q i (fun a' w' => (bW P M ops i=true∧wpAny P .any ops Q fuel (listed.setIfInBounds i true) a' w')∨(bW P M ops i=false∧Ext w w' ∧ wpAnyC P ops Q (bW P M ops) (Ext w) fuel (listed.setIfInBounds i true) a' w')) a w:=fun hri=>by
     cases hb:bW P M ops i with
     | true=>
      rw [hb] at hE1 h1 ht
      simp only [if_true] at h1 ht
      refine evG_wp hx hE1 hR fun g' F' H' a' w' hR' hm hext hE' => .inl ⟨rfl,wpAny_of_T (n:=0) (S:=fun _=>True) _ _ _ _ ?_⟩
      exact tree_okB hsel hQ t fuel _ none gt' h1 ht hE' hR' fun g'' F'' H'' a'' w'' hR'' hm' hk=>hK _ _ _ _ _ hR'' (hm.trans hm') hk
     | false=>
      rw [hb] at hE1 h1 ht
      simp only [Bool.false_eq_true,if_false] at h1 ht
      refine evG_wp hx hE1 hR fun g' F' H' a' w' hR' hm hext hE' => .inr ⟨rfl,hext rfl,?_⟩
      refine wpAnyC_mono (S:=Ext w') (fun u hu=>(hext rfl).trans hm.stp.size hu) _ _ _ _ ?_
      exact tree_okC hsel hQ t fuel _ none gt' h1 ht hE' hR' (hinv.set hri hin) fun g'' F'' H'' a'' w'' hR'' hm' hk=>hK _ _ _ _ _ hR'' (hm.trans hm') hk
    cases m with
    | none=>
     simp only [Option.getD_none] at hjr
     refine ⟨fun h0=>(by rw [hjr] at h0;cases h0),fun k hk=>?_⟩
     rw [hjr] at hk
     rcases List.mem_cons.1 hk with rfl | hk'
     ·exact one (by rw [hjr];simp)
     ·exact rest (fun q hq=>by rw [hjr];exact List.mem_cons_of_mem _ hq) k hk'
    | some rem=>
     simp only [Option.getD_some] at hjr
     subst hjr
     intro hall k hk
     rcases List.mem_cons.1 hk with rfl | hk'
     ·exact one (hall _ (by simp))
     ·exact rest (fun q hq=>hall q (List.mem_cons_of_mem _ hq)) k hk'
   ·cases hc
  ·cases hok
end
theorem regionQ_wp {M : List Nat} {id : Nat} {ops : Array Oper} {gt : GT} {Q : Exit → Act → World → Prop} {K : Frame → Heap → Prop} (hc : compileRegionQ P M N ops = some gt) (hE : EvT P false gt K F H) (hR : R N g F H a w)
    (hQ:∀ c a w,¬ Q (.panic c) a w) (hK:∀ g' F' H' a' w', R N g' F' H' a' w' → Mv g H w g' H' w' → K F' H' → Q .normal a' w'):(Code.region id ops true).wp P Q a w:=by
 unfold compileRegionQ at hc
 dsimp only at hc
 split at hc
 ·rename_i hb
  simp only [Bool.and_eq_true] at hb
  obtain ⟨⟨⟨_,hm⟩,hsel⟩,hok⟩:=hb
  refine wp_region_any hm ?_
  have hR' : R N g F H a { w with drawn:=w.drawn+1 }:=drew_R hR
  have hK' : ∀ g' F' H' a' w', R N g' F' H' a' w' → Mv g H { w with drawn:=w.drawn+1 } g' H' w' → K F' H' → Q .normal a' w' := fun g' F' H' a' w' hR' hm' hk=>hK _ _ _ _ _ hR' ((drew_Mv hR.hp).trans hm') hk
  exact wpAny_of_C _ _ _ _ (tree_okC hsel hQ _ _ _ none gt hok hc hE hR' ⟨by simp,fun j oj hj hl=>(by rw [getD_replicate_false] at hl;cases hl),fun t' ht' hlt=>(by simp [hlt])⟩ hK')
 ·cases hc
end
section
variable {P:Program} {N:Nat} {g:Gh} {F:Frame} {H:Heap} {a:Act} {w:World}
def SZ (g:Gh)(w w' : World):Prop:=∀ b,g.G b→w'.heap[b]? = w.heap[b]?
theorem SZ.of_Mv {g' : Gh}{H' : Heap}{w' : World}(hp:HeapR g H w)(h:Mv g H w g' H' w'):SZ g w w' := fun b hb=>h.stp.keep b (hp.low b hb) fun ⟨o,cs,ho,hob⟩=>hp.free o cs ho b hob hb
theorem SZ.tr {g' : Gh}{H' : Heap}{w' w'' : World}(hp:HeapR g H w)(h:Mv g H w g' H' w')(k:SZ g' w' w''):SZ g w w'' := fun b hb=>(k b (h.stp.gin b hb)).trans (SZ.of_Mv hp h b hb)
def QuietZ (P:Program)(a:Act)(w:World)(g:Gh)(H:Heap)(o:Oper)(x:AV):Prop:=
 ∃ v,(∀ w', SZ g w w' → (execOp a.eval o).run P w' = .ok (.value v) w')∧Rd w (g.tr H) g.G x v []
theorem zcells {x : AV} {v : Value} (hz : zPt x) (hr : Rd w (g.tr H) g.G x v []) {cs : List AV} {j : Nat} (h : cellsAt H x = some (cs, j)) :
    ∃ (b off:Nat) (u:Nat→Value),v = .pointer (some ⟨b,off+j,none⟩)∧g.G b∧(∀ m,m<cs.length→w.cell? ⟨b,off+m,none⟩=some (u m))∧∀ m (h:m<cs.length),Rd w (g.tr H) g.G cs[m] (u m) []:=by
 cases hr with
 | pto u hG hc hr=>
  simp only [cellsAt,Option.some.injEq,Prod.mk.injEq] at h
  obtain ⟨rfl,rfl⟩:=h
  exact ⟨_,_,u,rfl,hG,hc,hr⟩
 | _=>exact hz.elim
theorem SZ.cell {w' : World}(h:SZ g w w'){b off:Nat}(hb:g.G b):w'.cell? ⟨b,off,none⟩=w.cell? ⟨b,off,none⟩:=World.cell?_of_block (w:=w) (h b hb)
theorem z_load {o : Oper} {x : Operand} {t : TypeId} {d : TypeDesc} {z : AV} (hR : R N g F H a w) (hop : o.op = .load t x) (ht : P.underlying t = some d) (hd : isAggT (some d) = false) (hq : qOk (.load z (cX x)) F H) (hz : zPt (st (ax F (cX x)))) :
    QuietZ P a w g H o (qVal (.load z (cX x)) F H):=by
 obtain ⟨h1,h2⟩:=hq
 have h3:=sx_rd hR x h1
 split at h2
 ·rename_i cs j hcs
  obtain ⟨b,off,u,hv,hb,hc,hr⟩:=zcells hz h3 hcs
  rw [show qVal (.load z (cX x)) F H=cs.getD j z by simp only [qVal,hcs]]
  obtain ⟨hj,hpl⟩:=h2
  refine ⟨u j,fun w' hw=>?_,?_⟩
  ·have hcell:=(hw.cell (off:=off+j) hb).trans (hc j hj)
   have hagg:∀ w'', (isAgg t).run P w'' = .ok false w'' := fun w'' => by
    unfold isAgg
    rw [run_ok_bind (run_underlying ht w'')]
    cases d<;>first | rfl | (simp [isAggT] at hd)
   simp [execOp,hop,hv,Instr.loadAt,Instr.sureAddr,loadVar,hagg,hcell]
  ·have hj' : cs.getD j z=cs[j]:=by simp [hj]
   rw [hj']
   exact hr j hj
 ·exact h2.elim
theorem z_loads {o : Oper} {x : Operand} {t : TypeId} {d : TypeDesc} {i : TypeInfo} (hR : R N g F H a w) (hop : o.op = .load t x) (ht : P.underlying t = some d) (hi : P.info? t = some i) (hd : isAggT (some d) = true) (hq : qOk (.loads i.size (cX x)) F H) (hz : zPt (st (ax F (cX x)))) :
    QuietZ P a w g H o (qVal (.loads i.size (cX x)) F H):=by
 obtain ⟨v,hrun,hv⟩:=q_loads hR hop ht hi hd hq
 obtain ⟨h1,h2⟩:=hq
 have h3:=sx_rd hR x h1
 split at h2
 ·rename_i cs j hcs
  obtain ⟨b,off,u,hval,hb,hc,hr⟩:=zcells hz h3 hcs
  obtain ⟨hj,hpl⟩:=h2
  have hagg:∀ w'', (isAgg t).run P w'' = .ok true w'' := fun w'' => by
   unfold isAgg
   rw [run_ok_bind (run_underlying ht w'')]
   cases d<;>first | rfl | (simp [isAggT] at hd)
  have key:∀ w', SZ g w w' → (execOp a.eval o).run P w' = .ok (.value (.agg ((List.range i.size).map fun m=>u (j+m)).toArray)) w' := fun w' hw=>by
   have hl:=run_loadCells (P:=P) w' ⟨b,off+j,none⟩ i.size (fun m=>u (j+m)) (fun m hm=>by
    rw [addr_add,Nat.add_assoc,hw.cell hb]
    exact hc (j+m) (by omega))
   simp [execOp,hop,hval,Instr.loadAt,Instr.sureAddr,loadVar,hagg,sizeOf,typeInfo,hi,hl]
  have e:=(hrun w (fun _ _ _=>rfl)).symm.trans (key w fun _ _=>rfl)
  injection e with e _;injection e with e
  exact ⟨v,fun w' hw=>e ▸ key w' hw,hv⟩
 ·exact h2.elim
theorem quiet_z {o:Oper}{x:AOp}(hc:compileOp P o=some x)(hm:isMem o.op=true)(hz:zPt (zAd x F))(hok:qOk x F H)(hR:R N g F H a w):QuietZ P a w g H o (qVal x F H):=by
 rcases compileOp_inv hc with hc | rfl
 rotate_left
 ·exact hok.elim
 obtain ⟨t,y,hop⟩:∃ t y,o.op = .load t y:=by
  unfold isMem at hm
  split at hm
  ·rename_i t y h;exact ⟨t,y,h⟩
  ·rename_i h
   unfold compileOp0 at hc
   simp only [h] at hc
   obtain ⟨kk,k,e,i,z,h1,h2,h3,h4,rfl⟩:=mapOp_inv hc
   exact hz.elim
  ·cases hm
 unfold compileOp0 at hc
 simp only [hop] at hc
 split at hc
 ·rename_i d i hd hi
  split at hc
  ·rename_i hagg;obtain rfl:=Option.some.inj hc;exact z_loads hR hop hd hi hagg hok hz
  ·rename_i hagg;obtain rfl:=Option.some.inj hc;exact z_load hR hop hd (by simpa using hagg) hok hz
 ·cases hc
theorem evG_z {ops : Array Oper} {i : Nat} {x : GOp} {o : Oper} {ext : Bool} {K : Frame → Heap → Prop} (ho : ops[i]? = some o) (hc : compileG P N ops i = some x) (hq : isQuiet x.op = true) (hmem : isMem o.op = true) (hz : zPt (zAd x.op F)) (hE : EvG P ext x K F H) (hR : R N g F H a w) :
    ∃ av v,YieldsIf P ops (SZ g w) o v a∧R N g (putF F x.dst av) H (a.put o.dst v) w∧K (putF F x.dst av) H:=by
 obtain ⟨o', ho', hop,hdst,hd,hgrd⟩:=compileG_inv hc
 obtain rfl:o=o' := by rw [ho] at ho'; simpa using ho'
 unfold EvG at hE
 rcases hgrd with ⟨hg,hxg⟩ | ⟨j,want,s,hg,hs,hlt,hxg⟩
 ·rw [hxg] at hE
  dsimp only at hE
  rw [if_pos hq] at hE
  obtain ⟨v,hrun,hv⟩:=quiet_z hop hmem hz hE.1 hR
  exact ⟨_,v,.inl ⟨by simp [Region.wanted,hg],fun w' hw=>hrun w' hw⟩,by rw [hdst];exact put_R hR hd (Mv.refl hR.hp) hv,hE.2⟩
 ·rw [hxg] at hE
  dsimp only at hE
  unfold EvGrd at hE
  split at hE
  ·exact hE.elim
  ·rename_i gb hgb
   rw [if_pos hq] at hE
   have hw:=wanted_of hR hg hs hlt hgb
   cases gb with
   | false=>exact ⟨_,undef,.inr ⟨hw,rfl⟩,by rw [hdst];exact put_R hR hd (Mv.refl hR.hp) .cndF,hE.2⟩
   | true=>
    obtain ⟨v,hrun,hv⟩:=quiet_z hop hmem hz (hE.1 rfl) hR
    exact ⟨_,v,.inl ⟨hw,fun w' hw' => hrun w' hw'⟩,by rw [hdst];exact put_R hR hd (Mv.refl hR.hp) (.cndT hv),hE.2⟩
def okZ (P:Program)(ops:Array Oper):PT→Nat→Array Bool→Option (List Nat)→Bool
 | .fin,_,listed,none=>(Region.ready .any ops listed).isEmpty
 | .fin,_,_,some rem=>rem.isEmpty
 | .reg i t,fuel+1,listed,none=>quietB P ops i&&Region.free .any ops listed i&&(Region.ready .any ops listed).contains i&&okZ P ops t fuel (listed.setIfInBounds i true) none
 | .alt i t u,fuel+1,listed,m=>match m.getD (Region.ready .any ops listed) with
  | j :: r=>i == j&&okZ P ops t fuel (listed.setIfInBounds i true) none&&okZ P ops u (fuel+1) listed (some r)
  | []=>false
 | _,_,_,_=>false
def mkZ (P:Program)(ops:Array Oper):Nat→Array Bool→PT
 | 0,_=>.fin
 | fuel+1,listed=>
  let rs:=Region.ready .any ops listed
  match rs.find? (fun i=>quietB P ops i&&Region.free .any ops listed i) with
  | some i=>.reg i (mkZ P ops fuel (listed.setIfInBounds i true))
  | none=>rs.foldr (fun i u=>.alt i (mkZ P ops fuel (listed.setIfInBounds i true)) u) .fin
def compileZ (P:Program)(N:Nat)(ops:Array Oper):PT→Option GT
 | .fin=>some .fin
 | .reg i t=>match compileG P N ops i,compileZ P N ops t with
  | some x,some t=>some (if memB ops i then .regz x t else .reg x t)
  | _,_=>none
 | .alt i t u=>match compileG P N ops i,compileZ P N ops t,compileZ P N ops u with
  | some x,some t,some u=>some (.alt false x t u)
  | _,_,_=>none
def compileRegionZ (P:Program)(N:Nat)(ops:Array Oper):Option GT:=
 let t:=mkZ P ops ops.size (Array.replicate ops.size false)
 if decide (((List.range ops.size).filter fun i=>!quietB P ops i).length≤7)&&P.follows .mixedOrders&&Region.noSelect ops&&okZ P ops t ops.size (Array.replicate ops.size false) none then compileZ P N ops t else none
section
variable {ops:Array Oper} {Q:Exit→Act→World→Prop} {S S' : World→Prop}
theorem wpAnyH_mono (hS:∀ w,S w→S' w):∀ (fuel:Nat) (listed:Array Bool) (a:Act) (w:World),wpAnyH P .any ops Q S fuel listed a w→wpAnyH P .any ops Q S' fuel listed a w
 | 0,_,_,_,h=>h
 | fuel+1,_,_,_,h=>⟨h.1,fun i hi=>wpOp_mono (fun a' w' h' => ⟨hS _ h'.1,wpAnyH_mono hS fuel _ a' w' h'.2⟩) (h.2 i hi)⟩
theorem YieldsIf_mono {o:Oper}{v:Value}(hS:∀ w,S' w→S w)(h:YieldsIf P ops S o v a):YieldsIf P ops S' o v a:=h.imp (fun h=>⟨h.1,fun w hw=>h.2 w (hS w hw)⟩) id
theorem tree_okZ (hsel : Region.noSelect ops = true) (hQ : ∀ c a w, ¬ Q (.panic c) a w) : ∀ (t : PT) (fuel : Nat) (listed : Array Bool) (m : Option (List Nat)) (gt : GT) {K : Frame → Heap → Prop} {g : Gh} {F : Frame} {H : Heap} {a : Act} {w : World},
    okZ P ops t fuel listed m=true→compileZ P N ops t=some gt→EvT P m.isSome gt K F H→R N g F H a w →
    (∀ g' F' H' a' w', R N g' F' H' a' w' → Mv g H w g' H' w' → K F' H' → Q .normal a' w') →
    match m with
    | none=>wpAnyH P .any ops Q (SZ g w) fuel listed a w
    | some rem=>(∀ i∈rem,i∈Region.ready .any ops listed)→∀ i∈rem,wpOp P ops Q i (fun a' w' => SZ g w w' ∧ wpAnyH P .any ops Q (SZ g w) (fuel - 1) (listed.setIfInBounds i true) a' w') a w
 | .fin,fuel,listed,m,gt,K,g,F,H,a,w,hok,hc,hE,hR,hK=>by
  simp only [compileZ,Option.some.injEq] at hc
  subst hc
  cases m with
  | none=>
   have hr:Region.ready .any ops listed=[]:=by cases fuel<;>simpa [okZ] using hok
   exact wpAnyH_done hr (hK _ _ _ _ _ hR (Mv.refl hR.hp) hE) fuel
  | some rem=>
   have hr:rem=[]:=by cases fuel<;>simpa [okZ] using hok
   subst hr
   exact fun _ i hi=>(by cases hi)
 | .reg i t,0,listed,m,gt,K,g,F,H,a,w,hok,hc,hE,hR,hK=>by cases m<;>simp [okZ] at hok
 | .reg i t,fuel+1,listed,some rem,gt,K,g,F,H,a,w,hok,hc,hE,hR,hK=>by simp [okZ] at hok
 | .reg i t,fuel+1,listed,none,gt,K,g,F,H,a,w,hok,hc,hE,hR,hK=>by
  simp only [okZ,Bool.and_eq_true] at hok
  obtain ⟨⟨⟨h11,h2⟩,h3⟩,h4⟩:=hok
  simp only [compileZ] at hc
  split at hc
  ·rename_i x gt' hx ht
   obtain ⟨o,ho,hop,_⟩:=compileG_inv hx
   have hqx:isQuiet x.op=true:=by
    unfold quietB at h11
    simp only [ho,hop] at h11
    exact h11
   have hri:i∈Region.ready .any ops listed:=by simpa using h3
   have hS:SZ g w w:=fun _ _=>rfl
   cases hmb:memB ops i with
   | true=>
    rw [hmb] at hc
    simp only [if_true,Option.some.injEq] at hc
    subst hc
    have hmem:isMem o.op=true:=by unfold memB at hmb;rw [ho] at hmb;exact hmb
    obtain ⟨av,v,hy,hR', hE'⟩:=evG_z ho hx hqx hmem hE.1 hE.2 hR
    exact wpAnyH_first ho (Region.noSelect_spec hsel) (fun c a w h=>absurd h (hQ _ _ _)) _ listed a w (Region.free_spec ho h2) hri hy hS
     (tree_okZ hsel hQ t fuel _ none gt' h4 ht hE' hR' hK)
   | false=>
    rw [hmb] at hc
    simp only [Bool.false_eq_true,if_false,Option.some.injEq] at hc
    subst hc
    have hmem:isMem o.op=false:=by unfold memB at hmb;rw [ho] at hmb;exact hmb
    obtain ⟨av,v,hy,hR', hE'⟩:=evG_reg ho hx hqx hmem hE hR
    exact wpAnyH_first ho (Region.noSelect_spec hsel) (fun c a w h=>absurd h (hQ _ _ _)) _ listed a w (Region.free_spec ho h2) hri (YieldsIf_mono (fun _ _=>trivial) hy) hS
     (tree_okZ hsel hQ t fuel _ none gt' h4 ht hE' hR' hK)
  ·cases hc
 | .alt i t u,0,listed,m,gt,K,g,F,H,a,w,hok,hc,hE,hR,hK=>by cases m<;>simp [okZ] at hok
 | .alt i t u,fuel+1,listed,m,gt,K,g,F,H,a,w,hok,hc,hE,hR,hK=>by
  simp only [okZ] at hok
  split at hok
  ·rename_i j r hjr
   simp only [Bool.and_eq_true,beq_iff_eq] at hok
   obtain ⟨⟨rfl,h1⟩,h2⟩:=hok
   simp only [compileZ] at hc
   split at hc
   ·rename_i x gt' gu hx ht hu
    simp only [Option.some.injEq] at hc
    subst hc
    obtain ⟨hE1,hE2⟩:=hE
    have rest:=tree_okZ hsel hQ u (fuel+1) listed (some r) gu h2 hu hE2 hR hK
    have one:i∈Region.ready .any ops listed→wpOp P ops Q i (fun a' w' => SZ g w w' ∧ wpAnyH P .any ops Q (SZ g w) fuel (listed.setIfInBounds i true) a' w') a w:=fun hri=>by
     refine evG_wp hx hE1 hR fun g' F' H' a' w' hR' hm hext hE' => ⟨SZ.of_Mv hR.hp hm,?_⟩
     refine wpAnyH_mono (S:=SZ g' w') (fun u hu=>SZ.tr hR.hp hm hu) _ _ _ _ ?_
     exact tree_okZ hsel hQ t fuel _ none gt' h1 ht hE' hR' fun g'' F'' H'' a'' w'' hR'' hm' hk=>hK _ _ _ _ _ hR'' (hm.trans hm') hk
    cases m with
    | none=>
     simp only [Option.getD_none] at hjr
     refine ⟨fun h0=>(by rw [hjr] at h0;cases h0),fun k hk=>?_⟩
     rw [hjr] at hk
     rcases List.mem_cons.1 hk with rfl | hk'
     ·exact one (by rw [hjr];simp)
     ·exact rest (fun q hq=>by rw [hjr];exact List.mem_cons_of_mem _ hq) k hk'
    | some rem=>
     simp only [Option.getD_some] at hjr
     subst hjr
     intro hall k hk
     rcases List.mem_cons.1 hk with rfl | hk'
     ·exact one (hall _ (by simp))
     ·exact rest (fun q hq=>hall q (List.mem_cons_of_mem _ hq)) k hk'
   ·cases hc
  ·cases hok
end
theorem regionZ_wp {id : Nat} {ops : Array Oper} {gt : GT} {Q : Exit → Act → World → Prop} {K : Frame → Heap → Prop} (hc : compileRegionZ P N ops = some gt) (hE : EvT P false gt K F H) (hR : R N g F H a w)
    (hQ:∀ c a w,¬ Q (.panic c) a w) (hK:∀ g' F' H' a' w', R N g' F' H' a' w' → Mv g H w g' H' w' → K F' H' → Q .normal a' w'):(Code.region id ops true).wp P Q a w:=by
 unfold compileRegionZ at hc
 dsimp only at hc
 split at hc
 ·rename_i hb
  simp only [Bool.and_eq_true] at hb
  obtain ⟨⟨⟨_,hm⟩,hsel⟩,hok⟩:=hb
  refine wp_region_any hm ?_
  have hR' : R N g F H a { w with drawn:=w.drawn+1 }:=drew_R hR
  have hK' : ∀ g' F' H' a' w', R N g' F' H' a' w' → Mv g H { w with drawn:=w.drawn+1 } g' H' w' → K F' H' → Q .normal a' w' := fun g' F' H' a' w' hR' hm' hk=>hK _ _ _ _ _ hR' ((drew_Mv hR.hp).trans hm') hk
  exact wpAny_of_held _ _ _ _ (tree_okZ hsel hQ _ _ _ none gt hok hc hE hR' hK')
 ·cases hc
end
section
variable {P:Program} {N:Nat} {g:Gh} {F:Frame} {H:Heap} {a:Act} {w:World}
theorem tr_lt {o:Nat}{d:Option LocN}(h:g.tr H o=some d):o<H.length:=by
 rcases Nat.lt_or_ge o H.length with h' | h'
 ·exact h'
 ·unfold Gh.tr at h;rw [List.getElem?_eq_none h'] at h;cases h
theorem frz_own {g : Gh} {H : Heap} {w : World} (hp : HeapR g H w) : ∀ (d : Nat) (x : AV) (v : Value) (bs : List Nat), Rd w (g.tr H) g.G x v bs → (∀ b ∈ bs, g.owns H b) →
    Rd w (fun _=>none) (fun b=>g.G b∨g.owns H b) (frz H d x) v []:=by
 intro d
 induction d with
 | zero=>intro x v bs _ _;exact .any
 | succ d ih=>
  intro x v bs h hbs
  cases h with
  | any=>exact .any
  | val=>exact .val
  | cndF=>exact .cndF
  | cndT h=>simp only [frz];exact .cndT (ih _ _ _ h (by simp))
  | idn h=>simp only [frz];exact .idn (ih _ _ _ h (by simp))
  | slc u hl hn hm hG hc hr=>
   simp only [frz]
   exact .slc u (by simpa using hl) hn hm (.inl hG) (fun m hm' => hc m (by simpa using hm')) (fun m hm' => by simp only [List.getElem_map];exact ih _ _ _ (hr m (by simpa using hm')) (by simp))
  | slc0 hm=>simp only [frz,List.map_nil];exact .slc0 hm
  | pto u hG hc hr=>
   simp only [frz]
   exact .pto u (.inl hG) (fun m hm' => hc m (by simpa using hm')) (fun m hm' => by simp only [List.getElem_map];exact ih _ _ _ (hr m (by simpa using hm')) (by simp))
  | sl h00 hv0 h=>
   rename_i o k off len
   simp only [frz]
   split
   ·rename_i cs hcs
    obtain ⟨h0,h1⟩:=h _ (Gh.tr_some (g:=g) hcs)
    have h2:=hp.obj o cs hcs
    dsimp only at h0 h1
    cases hl:g.ρ o with
    | none=>
     rw [hl] at h1 h2
     obtain ⟨rfl,a,rfl⟩:=h1
     simp only [Nat.zero_mul,List.take_zero,List.map_nil]
     exact .slc0 (by unfold maxLen;omega)
    | some l=>
     obtain ⟨b,base,sz⟩:=l
     rw [hl] at h1 h2
     obtain ⟨cap,h3,h4,h5,h6⟩:=h1
     obtain ⟨arr,elem,u,bss,hb,hsz,hcl,hc,hr,hob⟩:=h2.cells (by omega)
     have hlen:((cs.drop off).take (len*k)).length=len*k:=by
      rw [List.length_take,List.length_drop];omega
     ·rcases h6 with rfl | ⟨rfl,a,rfl⟩
      ·refine .slc (fun m=>u (off+m)) (by simpa using hlen) h3 h4 (.inr ⟨o,cs,hcs,by rw [hob];simp⟩) (fun m hm=>?_) (fun m hm=>?_)
       ·simp only [List.length_map,List.length_take,List.length_drop] at hm
        have:=hc (off+m) (by omega)
        simp only [World.cell?,hb]
        simpa [Nat.add_assoc] using this
       ·simp only [List.length_map,List.length_take,List.length_drop] at hm
        simp only [List.getElem_map,List.getElem_take,List.getElem_drop]
        refine ih _ _ _ (hr (off+m) (by omega)) fun b' hb' => ⟨o,cs,hcs,?_⟩
        rw [hob]
        exact List.mem_cons_of_mem _ (List.mem_flatMap.2 ⟨off+m,List.mem_range.2 (by omega),hb'⟩)
      ·have:len=0:=by omega
       subst this
       simp only [Nat.zero_mul,List.take_zero,List.map_nil]
       exact .slc0 (by unfold maxLen;omega)
   ·exact .any
  | ref h00 hv0 h=>
   rename_i o j
   simp only [frz]
   split
   ·rename_i cs hcs
    have h1:=h _ (Gh.tr_some (g:=g) hcs)
    have h2:=hp.obj o cs hcs
    dsimp only at h1
    cases hl:g.ρ o with
    | none=>rw [hl] at h1;exact h1.elim
    | some l=>
     obtain ⟨b,base,sz⟩:=l
     rw [hl] at h1 h2
     obtain ⟨rfl,hle⟩:=h1
     obtain ⟨arr,elem,u,bss,hb,hsz,hcl,hc,hr,hob⟩:=h2.cells hle
     refine .pto u (.inr ⟨o,cs,hcs,by rw [hob];simp⟩) (fun m hm=>?_) (fun m hm=>?_)
     ·simp only [List.length_map] at hm
      have:=hc m hm
      simp only [World.cell?,hb]
      simpa using this
     ·simp only [List.length_map] at hm
      simp only [List.getElem_map]
      refine ih _ _ _ (hr m hm) fun b' hb' => ⟨o,cs,hcs,?_⟩
      rw [hob]
      exact List.mem_cons_of_mem _ (List.mem_flatMap.2 ⟨m,List.mem_range.2 hm,hb'⟩)
   ·exact .any
  | osl u bss hl hn hm hb hs hc hr=>
   simp only [frz]
   refine .slc u (by simpa using hl) hn hm (.inr (hbs _ (by simp))) (fun m hm' => ?_) (fun m hm' => ?_)
   ·simp only [List.length_map] at hm'
    simp only [World.cell?,hb]
    simpa using hc m hm'
   ·simp only [List.length_map] at hm'
    simp only [List.getElem_map]
    refine ih _ _ _ (hr m hm') fun b' hb' => hbs b' ?_
    exact List.mem_cons_of_mem _ (List.mem_flatMap.2 ⟨m,List.mem_range.2 hm', hb'⟩)
  | osl0=>simp only [frz,List.map_nil];exact .slc0 (by unfold maxLen;omega)
  | agg hl hr=>simp only [frz];exact .agg (by simpa using hl) (fun m hm=>by simp only [List.getElem_map];exact ih _ _ _ (hr m (by simpa using hm)) (by simp))
  | tup hl hr=>simp only [frz];exact .tup (by simpa using hl) (fun m hm=>by simp only [List.getElem_map];exact ih _ _ _ (hr m (by simpa using hm)) (by simp))
  | clo hf hrf hl hr=>simp only [frz];exact .clo (by simpa using hf) (fun m hm=>by simp only [List.getElem_map];exact ih _ _ _ (hrf m (by simpa using hm)) (by simp)) (by simpa using hl) (fun m hm=>by simp only [List.getElem_map];exact ih _ _ _ (hr m (by simpa using hm)) (by simp))
  | mp h00 hv0 h=>
   rename_i o
   simp only [frz]
   split
   ·rename_i cs hcs
    obtain ⟨r,hl,hv⟩:=(h _ (Gh.tr_some (g:=g) hcs)).inv
    dsimp only at hl
    subst hv
    obtain ⟨u,bss,⟨es,clock,hb,_,hu⟩,hr,hob⟩:=(hl ▸ hp.obj o _ hcs:ObjR w (g.tr H) g.G _ (g.ob o) (some (r,1,0))).map
    have h0:=hr 0 (by simp)
    rw [hu] at h0
    simp only [List.getElem_cons_zero] at h0
    have hob' : g.ob o=r :: bss 0:=by rw [hob];simp [List.range_succ]
    generalize bss 0=bs0 at h0 hob'
    cases h0 with
    | mpc bss' hbs' hl' hr' =>
     refine .mpz (.inr ⟨o,_,hcs,by rw [hob'];simp⟩) hb (by simpa using hl') (fun m hm=>?_)
     simp only [List.length_map] at hm
     simp only [List.getElem_map]
     refine ih _ _ _ (hr' m hm) fun b' hb' => ⟨o,_,hcs,?_⟩
     rw [hob', hbs']
     exact List.mem_cons_of_mem _ (List.mem_flatMap.2 ⟨m,List.mem_range.2 hm,hb'⟩)
   ·exact .any
  | it h00 hv0 h=>exact .any
  | mpz hG hc hl hr=>
   simp only [frz]
   exact .mpz (.inl hG) hc (by simpa using hl) (fun m hm=>by simp only [List.getElem_map];exact ih _ _ _ (hr m (by simpa using hm)) (by simp))
  | mpc bss hbs' hl hr=>
   simp only [frz]
   exact .mpc (fun _=>[]) (by simp) (by simpa using hl) (fun m hm=>by
    simp only [List.length_map] at hm
    simp only [List.getElem_map]
    exact ih _ _ _ (hr m hm) fun b' hb' => hbs b' (hbs' ▸ List.mem_flatMap.2 ⟨m,List.mem_range.2 hm,hb'⟩))
  | oag bss hbs' hl hr=>
   simp only [frz]
   exact .agg (by simpa using hl) (fun m hm=>by
    simp only [List.length_map] at hm
    simp only [List.getElem_map]
    exact ih _ _ _ (hr m hm) fun b' hb' => hbs b' (hbs' ▸ List.mem_flatMap.2 ⟨m,List.mem_range.2 hm,hb'⟩))
  | ent h=>simp only [frz];exact .ent (ih _ _ _ h hbs)
theorem deadH_get {o:Nat}{cs:List AV}(h:(deadH H)[o]? = some (some cs)):False:=by simp [deadH] at h
theorem dead_tr {g g' : Gh}{o:Nat}{d:Option LocN}(h:g.tr H o=some d):g'.tr (deadH H) o=some none:=by
 have hl:=tr_lt h
 simp [Gh.tr,deadH,hl]
theorem dead_mv (hp:HeapR g H w):Mv g H w ⟨g.ρ,g.ob,fun b=>g.G b∨g.owns H b⟩ (deadH H) w:=
 ⟨⟨fun o cs h=>(deadH_get h).elim,fun o cs h=>(deadH_get h).elim,fun o o' cs cs' h=>(deadH_get h).elim,fun o cs h=>(deadH_get h).elim,fun b hb=>hb.elim (hp.low b) fun ⟨o,cs,ho,h1⟩=>(hp.obj o cs ho).all_lt b h1⟩,
  ⟨rfl,⟨rfl,Nat.le_refl _⟩,rfl,Nat.le_refl _,fun _ _ _=>rfl,fun b ⟨o,cs,ho,_⟩=>(deadH_get ho).elim,fun _ h=>.inl h,fun _ h=>h.elim .inl fun h=>.inr (.inl h),fun _ _=>rfl⟩,
  fun x v h=>Rd.mono (fun _ h=>.inl h) (fun _ _=>rfl) (fun _ _ h=>.inr (dead_tr h)) h (by simp),
  fun o d h=>.inr (dead_tr h)⟩
theorem frzF_get (H:Heap):∀ (F:Frame) (j:Nat),fget (frzF H F) j=frz H 6 (fget F j)∨fget (frzF H F) j = .any
 | [],_=>.inr rfl
 | (i,x) :: l,j=>by
  simp only [frzF,List.map_cons,get_put]
  by_cases e:i=j
  ·rw [if_pos e,if_pos e];exact .inl rfl
  ·rw [if_neg e,if_neg e];exact frzF_get H l j
theorem frz_R (hR:R N g F H a w):R N ⟨g.ρ,g.ob,fun b=>g.G b∨g.owns H b⟩ (frzF H F) (deadH H) a w:=by
 refine ⟨fun j=>?_,(dead_mv hR.hp).hp,hR.size,hR.defers⟩
 have h1:=frz_own hR.hp 6 _ _ [] (hR.fr j) (by simp)
 have h2:Rd w ((⟨g.ρ,g.ob,fun b=>g.G b∨g.owns H b⟩:Gh).tr (deadH H)) (fun b=>g.G b∨g.owns H b) (frz H 6 (fget F j)) (a.tmps.getD j undef) []:=
  h1.mono (fun _ h=>h) (fun _ _=>rfl) (fun _ _ h=>by cases h) (by simp)
 rcases frzF_get H F j with e2 | e2
 ·rw [e2];exact h2
 ·rw [e2];exact .any
theorem gh_nfn {n d:Nat}{x:AV}(h:ghA x=true)(hn:nfn n d x=true):False:=by
 cases d with
 | zero=>cases hn
 | succ d=>
  cases x with
  | gho b zs=>cases hn
  | _=>cases h
theorem nfn_rd {w : World} {tr tr' : Nat → Option (Option LocN)} {G G' : Nat → Prop} {n : Nat} (ht : ∀ o d, n ≤ o → tr o = some d → tr' o = some d ∨ tr' o = some none) :
    ∀ (d:Nat) (x:AV) (v:Value) (bs:List Nat),nfn n d x=true→Rd w tr G x v bs→Rd w tr' G' x v bs:=by
 intro d
 induction d with
 | zero=>intro x v bs h;cases x<;>cases h
 | succ d ih=>
  intro x v bs hn h
  have sm:∀ {o:Nat},n≤o→(tr o).isSome=true→(tr' o).isSome=true:=fun ho h0=>by
   obtain ⟨d,hd⟩:=Option.isSome_iff_exists.1 h0
   rcases ht _ d ho hd with h | h<;>simp [h]
  have bk:∀ {o:Nat} {l:LocN},n≤o→(tr o).isSome=true→tr' o=some (some l)→tr o=some (some l):=fun ho h0 h=>by
   obtain ⟨d,hd⟩:=Option.isSome_iff_exists.1 h0
   rcases ht _ d ho hd with h' | h'
   ·rw [hd,← h', h]
   ·rw [h'] at h;cases h
  cases h with
  | any=>exact .any
  | val=>exact .val
  | cndF=>exact .cndF
  | cndT h=>simp only [nfn] at hn;exact .cndT (ih _ _ _ hn h)
  | sl h0 hv h=>
   simp only [nfn,decide_eq_true_eq] at hn
   exact .sl (sm hn h0) hv fun l hl=>h l (bk hn h0 hl)
  | ref h0 hv h=>
   simp only [nfn,decide_eq_true_eq] at hn
   exact .ref (sm hn h0) hv fun l hl=>h l (bk hn h0 hl)
  | osl u bss hl hn' hm hb hs hc hr=>
   simp only [nfn,List.all_eq_true] at hn
   exact .osl u bss hl hn' hm hb hs hc fun m h=>ih _ _ _ (hn _ (List.getElem_mem h)) (hr m h)
  | osl0=>exact .osl0
  | agg hl hr=>
   simp only [nfn,List.all_eq_true] at hn
   exact .agg hl fun m h=>ih _ _ _ (hn _ (List.getElem_mem h)) (hr m h)
  | tup hl hr=>
   simp only [nfn,List.all_eq_true] at hn
   exact .tup hl fun m h=>ih _ _ _ (hn _ (List.getElem_mem h)) (hr m h)
  | _=>simp [nfn] at hn
theorem fget_ds {F F' : Frame}{n:Nat}:∀ (ds:List Nat) (j:Nat),(j∈ds∧fget (thwF n F F' ds) j=thwA n (fget F' j))∨(j∉ds∧fget (thwF n F F' ds) j=fget F j)
 | [],j=>.inr ⟨by simp,rfl⟩
 | d :: ds,j=>by
  simp only [thwF,List.map_cons,List.cons_append,get_put]
  by_cases e:d=j
  ·subst e;rw [if_pos rfl];exact .inl ⟨by simp,rfl⟩
  ·rw [if_neg e]
   rcases fget_ds ds j with ⟨h1,h2⟩ | ⟨h1,h2⟩
   ·exact .inl ⟨List.mem_cons_of_mem _ h1,h2⟩
   ·exact .inr ⟨fun h=>(List.mem_cons.1 h).elim (fun h=>e h.symm) h1,h2⟩
theorem thaw {g' : Gh} {F' : Frame} {H' : Heap} {a' : Act} {w' : World} {ds : List Nat} (hR : R N g F H a w) (hR' : R N g' F' H' a' w') (hm : Mv ⟨g.ρ, g.ob, fun b => g.G b ∨ g.owns H b⟩ (deadH H) w g' H' w')
    (hag:∀ j,j∉ds→a'.tmps.getD j undef=a.tmps.getD j undef):∃ g'', R N g'' (thwF H.length F F' ds) (thwH H H') a' w' ∧ Mv g H w g'' (thwH H H') w' := by
 have hp:=hR.hp
 have hp' := hR'.hp
 have hlen:H.length≤H'.length:=by
  rcases Nat.eq_zero_or_pos H.length with h | h
  ·omega
  ·have h1 : (⟨g.ρ, g.ob, fun b => g.G b ∨ g.owns H b⟩ : Gh).tr (deadH H) (H.length - 1) = some none := by
     have:H.length - 1<H.length:=by omega
     simp [Gh.tr,deadH,this]
   rcases hm.trk _ _ h1 with h2 | h2<;>(have:=tr_lt h2;omega)
 have hkeep:∀ b,b<w.heap.size→w'.heap[b]? = w.heap[b]?:=fun b hb=>hm.stp.keep b hb fun ⟨o,cs,ho,_⟩=>deadH_get ho
 have hnew:∀ o cs,H'[o]? = some (some cs)→∀ b∈g'.ob o,w.heap.size≤b:=fun o cs ho b hb=>(hm.stp.own b ⟨o,cs,ho,hb⟩).elim (fun ⟨o,cs,ho,_⟩=>(deadH_get ho).elim) id
 have hlo:∀ b,g.G b→b<w.heap.size:=hp.low
 have hol:∀ o cs,H[o]? = some (some cs)→∀ b∈g.ob o,b<w.heap.size:=fun o cs ho=>(hp.obj o cs ho).all_lt
 have hgl:∀ o,o<H.length→(thwH H H')[o]? = H[o]?:=fun o ho=>by unfold thwH;rw [List.getElem?_append_left ho]
 have hgr:∀ o,H.length≤o→∀ cs,(thwH H H')[o]? = some (some cs)→H'[o]? = some (some cs)∧∀ x∈cs,nfn H.length 6 x=true:=fun o ho cs h=>by
  unfold thwH at h
  rw [List.getElem?_append_right ho,List.getElem?_map,List.getElem?_drop,Option.map_eq_some_iff] at h
  obtain ⟨c,h1,h2⟩:=h
  rw [show H.length+(o - H.length)=o by omega] at h1
  cases c with
  | none=>simp [thwC] at h2
  | some cs' =>
   simp only [thwC] at h2
   split at h2
   ·rename_i hall
    cases h2
    exact ⟨h1,fun x hx=>List.all_eq_true.1 hall x hx⟩
   ·cases h2
 have hcase:∀ o cs,(thwH H H')[o]? = some (some cs)→(o<H.length∧H[o]? = some (some cs))∨(H.length≤o∧H'[o]? = some (some cs)∧∀ x∈cs,nfn H.length 6 x=true):=fun o cs h=>by
  rcases Nat.lt_or_ge o H.length with h1 | h1
  ·exact .inl ⟨h1,(hgl o h1).symm.trans h⟩
  ·exact .inr ⟨h1,hgr o h1 cs h⟩
 let g2:Gh:=⟨fun o=>if o<H.length then g.ρ o else g'.ρ o,fun o=>if o<H.length then g.ob o else g'.ob o,g.G⟩
 have htrO:∀ o d,g.tr H o=some d→g2.tr (thwH H H') o=some d:=fun o d h=>by
  have ho:=tr_lt h
  unfold Gh.tr at *
  rw [hgl o ho]
  cases e:H[o]? with
  | none=>rw [e] at h;cases h
  | some c=>
   rw [e] at h
   cases c with
   | none=>exact h
   | some cs=>simpa [g2,ho] using h
 have htrN:∀ o d,H.length≤o→g'.tr H' o=some d→g2.tr (thwH H H') o=some d∨g2.tr (thwH H H') o=some none:=fun o d ho h=>by
  have hl:=tr_lt h
  have hg:(thwH H H')[o]? = some (thwC H.length (H'.getD o none)):=by
   unfold thwH
   rw [List.getElem?_append_right ho,List.getElem?_map,List.getElem?_drop,show H.length+(o - H.length)=o by omega]
   simp [hl]
  unfold Gh.tr at *
  rw [hg]
  have e:H'[o]? = some (H'.getD o none):=by simp [hl]
  rw [e] at h
  generalize H'.getD o none=c at *
  cases c with
  | none=>right;simp [thwC]
  | some cs=>
   by_cases hall:cs.all (nfn H.length 6)=true
   ·left
    have:¬ o<H.length:=by omega
    simpa [g2,this,thwC,hall] using h
   ·right
    simp only [thwC,hall]
    rfl
 have lift:∀ x v,Rd w (g.tr H) g.G x v []→Rd w' (g2.tr (thwH H H')) g.G x v []:=fun x v h=>
  h.mono (fun _ h=>h) (fun b hb=>hkeep b (hlo b hb)) (fun o d hd=>.inl (htrO o d hd)) (by simp)
 have newR:∀ x v bs,nfn H.length 6 x=true→Rd w' (g'.tr H') g'.G x v bs→Rd w' (g2.tr (thwH H H')) g.G x v bs:=fun x v bs h hr=>nfn_rd htrN 6 x v bs h hr
 have hob:∀ o cs,(thwH H H')[o]? = some (some cs)→∀ b∈g2.ob o,(o<H.length∧H[o]? = some (some cs)∧b∈g.ob o)∨(H.length≤o∧H'[o]? = some (some cs)∧b∈g'.ob o):=fun o cs h b hb=>by
  rcases hcase o cs h with ⟨h1,h2⟩ | ⟨h1,h2,h3⟩
  ·exact .inl ⟨h1,h2,by simpa [g2,h1] using hb⟩
  ·have:¬ o<H.length:=by omega
   exact .inr ⟨h1,h2,by simpa [g2,this] using hb⟩
 have hp2:HeapR g2 (thwH H H') w' := by
  refine ⟨fun o cs h=>?_,fun o cs h=>?_,fun o o' cs cs' h h' ho b hb hb' => ?_,fun o cs h b hb hG=>?_,fun b hb=>Nat.lt_of_lt_of_le (hlo b hb) hm.stp.size⟩
  ·rcases hcase o cs h with ⟨h1,h2⟩ | ⟨h1,h2,h3⟩
   ·have:=(hp.obj o cs h2).mono (w' := w') (tr' := g2.tr (thwH H H')) (fun _ h=>h) (fun b hb=>hkeep b (hlo b hb)) (fun o d hd=>.inl (htrO o d hd)) (fun b hb=>hkeep b (hol o cs h2 b hb))
    simpa [g2,h1] using this
   ·have:=(hp'.obj o cs h2).tell (w' := w') (tr' := g2.tr (thwH H H')) (G' := g.G) id (fun _ _=>rfl) (fun x hx v bs' _ hr=>newR x v bs' (h3 x hx) hr) (fun _ ⟨x,hx,hg⟩=>(gh_nfn hg (h3 x hx)).elim)
    have hno:¬ o<H.length:=by omega
    simpa [g2,hno] using this
  ·rcases hcase o cs h with ⟨h1,h2⟩ | ⟨h1,h2,h3⟩
   ·simpa [g2,h1] using hp.nodup o cs h2
   ·have hno:¬ o<H.length:=by omega
    simpa [g2,hno] using hp'.nodup o cs h2
  ·rcases hob o cs h b hb with ⟨h1,h2,h3⟩ | ⟨h1,h2,h3⟩<;>rcases hob o' cs' h' b hb' with ⟨k1,k2,k3⟩ | ⟨k1,k2,k3⟩
   ·exact hp.apart o o' cs cs' h2 k2 ho b h3 k3
   ·have:=hol o cs h2 b h3;have:=hnew o' cs' k2 b k3;omega
   ·have:=hol o' cs' k2 b k3;have:=hnew o cs h2 b h3;omega
   ·exact hp'.apart o o' cs cs' h2 k2 ho b h3 k3
  ·rcases hob o cs h b hb with ⟨h1,h2,h3⟩ | ⟨h1,h2,h3⟩
   ·exact hp.free o cs h2 b h3 hG
   ·have:=hlo b hG;have:=hnew o cs h2 b h3;omega
 refine ⟨g2,⟨fun j=>?_,hp2,hR'.size,hR'.defers⟩,hp2,⟨hm.stp.os,hm.stp.tape,hm.stp.output,hm.stp.size,fun b hb _=>hkeep b hb,fun b ⟨o,cs,ho,hb⟩=>?_,fun _ h=>h,fun _ h=>.inl h,hm.stp.fz⟩,lift,fun o d hd=>.inl (htrO o d hd)⟩
 ·rcases fget_ds (F:=F) (F' := F') (n:=H.length) ds j with ⟨_,e⟩ | ⟨h1,e⟩
  ·rw [e]
   unfold thwA
   split
   ·rename_i hn;exact newR _ _ _ hn (hR'.fr j)
   ·exact .any
  ·rw [e,hag j h1]
   exact lift _ _ (hR.fr j)
 ·rcases hob o cs ho b hb with ⟨h1,h2,h3⟩ | ⟨h1,h2,h3⟩
  ·exact .inl ⟨o,cs,h2,h3⟩
  ·exact .inr (hnew o cs h2 b h3)
/-! ### Orders whose last operation writes -/
def dsts (ops:Array Oper):List Nat:=ops.toList.filterMap (·.dst)
def Agree (ops:Array Oper)(a a' : Act):Prop:=∀ j,j∉dsts ops→a'.tmps.getD j undef=a.tmps.getD j undef
theorem Agree.refl {ops:Array Oper}:Agree ops a a:=fun _ _=>rfl
theorem Agree.trans {ops:Array Oper}{a' a'' : Act}(h:Agree ops a a')(k:Agree ops a' a''):Agree ops a a'' := fun j hj=>(k j hj).trans (h j hj)
theorem Agree.put {ops:Array Oper}{i:Nat}{o:Oper}(ho:ops[i]? = some o)(v:Value):Agree ops a (a.put o.dst v):=fun j hj=>by
 unfold Act.put
 cases hd:o.dst with
 | none=>rfl
 | some d=>
  have hm:d∈dsts ops:=List.mem_filterMap.2 ⟨o,by
   obtain ⟨h1,h2⟩:=Array.getElem?_eq_some_iff.1 ho
   rw [← h2];simp,hd⟩
  have hne:d≠j:=fun e=>hj (e ▸ hm)
  simp only
  rw [Array.getD_eq_getD_getElem?,Array.getD_eq_getD_getElem?,Array.getElem?_setIfInBounds_ne hne]
section
variable {ops:Array Oper} {Q:Exit→Act→World→Prop} {S:World→Prop} {n:Nat}
theorem wpOp_agree {i:Nat}{K:Act→World→Prop}(hh:wpOp P ops Q i K a w):wpOp P ops Q i (fun a' w' => K a' w' ∧ Agree ops a a') a w:=by
 unfold wpOp at *
 split
 ·rename_i ho;simp only [ho] at hh;exact ⟨hh,.refl⟩
 ·rename_i o ho
  simp only [ho] at hh
  split
  ·rename_i hw
   rw [if_pos hw] at hh
   refine hh.imp (fun hh=>?_) id
   unfold Oper.wp at *
   generalize (execOp a.eval o).run P w=r at *
   cases r with
   | ok n w' =>
    cases n<;>simp only [Oper.upon] at hh ⊢ <;>
     first
      | exact ⟨hh,.put ho _⟩
      | exact ⟨hh,fun j hj=>.put (a:={ a with defers:=_ }) ho _ j hj⟩
      | exact Calls.mono hh (fun e w'' he=>by cases e<;>first | exact ⟨he,.put ho _⟩ | exact he)
      | exact Rows.mono hh (fun _ _ he=>⟨he,.put ho _⟩)
   | halt x w' => cases x<;>simp only [Oper.upon] at hh ⊢ <;> exact hh
  ·rename_i hw
   rw [if_neg hw] at hh
   exact ⟨hh,.put ho _⟩
def okY (P:Program)(ops:Array Oper)(n:Nat):PT→Nat→Array Bool→Option (List Nat)→Bool
 | .fin,fuel+1,listed,none=>Region.ready .any ops listed == [n]&&(Region.ready .any ops (listed.setIfInBounds n true)).isEmpty
 | .fin,_,_,some rem=>rem.isEmpty
 | .reg i t,fuel+1,listed,none=>decide (i<n)&&(quietB P ops i&&Region.free .any ops listed i&&(Region.ready .any ops listed).contains i&&okY P ops n t fuel (listed.setIfInBounds i true) none)
 | .alt i t u,fuel+1,listed,m=>match m.getD (Region.ready .any ops listed) with
  | j :: r=>decide (i<n)&&(i == j&&okY P ops n t fuel (listed.setIfInBounds i true) none&&okY P ops n u (fuel+1) listed (some r))
  | []=>false
 | _,_,_,_=>false
def wrB (P:Program)(ops:Array Oper)(i:Nat):Bool:=match ops[i]? with
 | some o=>match compileOp P o with
  | some x=>writes [] x
  | none=>false
 | none=>false
def compileRegionY (P:Program)(N:Nat)(ops:Array Oper):Option GT:=
 let t:=mkZ P ops (ops.size - 1) (Array.replicate ops.size false)
 if decide (((List.range ops.size).filter fun i=>!quietB P ops i).length≤8)&&wrB P ops (ops.size - 1)&&(decide (ops.size - 1<ops.size)&&P.follows .mixedOrders&&Region.noSelect ops&&Region.sinkB .any ops (ops.size - 1)&&Region.chainB .any ops (ops.size - 1)&&okY P ops (ops.size - 1) t ops.size (Array.replicate ops.size false) none) then
  match compileZ P N ops t,compileG P N ops (ops.size - 1) with
  | some gt,some x=>some (.thw gt (dsts ops) x)
  | _,_=>none
 else none
theorem tree_okY (hsel : Region.noSelect ops = true) (hQ : ∀ c a w, ¬ Q (.panic c) a w) (hT : ∀ i, i < n → ∀ listed, HeadInv .any ops n listed → listed.getD i true = false → ∀ t, n ≤ t → t ∉ Region.ready .any ops listed) :
    ∀ (t:PT) (fuel:Nat) (listed:Array Bool) (m:Option (List Nat)) (gt:GT) {K:Frame→Heap→Prop} {g:Gh} {F:Frame} {H:Heap} {a:Act} {w:World},
    okY P ops n t fuel listed m=true→compileZ P N ops t=some gt→EvT P m.isSome gt K F H→R N g F H a w→HeadInv .any ops n listed →
    (∀ g' F' H' a' w', R N g' F' H' a' w' → Mv g H w g' H' w' → Agree ops a a' → K F' H' → wpOp P ops Q n (Q .normal) a' w') →
    match m with
    | none=>wpAnyT P ops Q n (SZ g w) fuel listed a w
    | some rem=>(∀ i∈rem,i∈Region.ready .any ops listed)→∀ i∈rem,wpOp P ops Q i (fun a' w' => (n≤i∨SZ g w w')∧wpAnyT P ops Q n (SZ g w) (fuel - 1) (listed.setIfInBounds i true) a' w') a w
 | .fin,fuel,listed,m,gt,K,g,F,H,a,w,hok,hc,hE,hR,hinv,hK=>by
  simp only [compileZ,Option.some.injEq] at hc
  subst hc
  cases m with
  | none=>
   cases fuel with
   | zero=>simp [okY] at hok
   | succ fuel=>
    simp only [okY,Bool.and_eq_true,beq_iff_eq,List.isEmpty_iff] at hok
    obtain ⟨h1,h2⟩:=hok
    refine ⟨fun h0=>(by rw [h1] at h0;cases h0),fun i hi=>?_⟩
    obtain rfl:i=n:=by rw [h1] at hi;simpa using hi
    refine wpOp_mono (fun a' w' h=>⟨.inl (Nat.le_refl _),?_⟩) (hK _ _ _ _ _ hR (Mv.refl hR.hp) .refl hE)
    cases fuel with
    | zero=>exact ⟨h2,h⟩
    | succ fuel=>exact ⟨fun _=>h,fun i hi=>(by rw [h2] at hi;cases hi)⟩
  | some rem=>
   have hr:rem=[]:=by cases fuel<;>simpa [okY] using hok
   subst hr
   exact fun _ i hi=>(by cases hi)
 | .reg i t,0,listed,m,gt,K,g,F,H,a,w,hok,hc,hE,hR,hinv,hK=>by cases m<;>simp [okY] at hok
 | .reg i t,fuel+1,listed,some rem,gt,K,g,F,H,a,w,hok,hc,hE,hR,hinv,hK=>by simp [okY] at hok
 | .reg i t,fuel+1,listed,none,gt,K,g,F,H,a,w,hok,hc,hE,hR,hinv,hK=>by
  simp only [okY,Bool.and_eq_true,decide_eq_true_eq] at hok
  obtain ⟨hin,⟨⟨h11,h2⟩,h3⟩,h4⟩:=hok
  simp only [compileZ] at hc
  split at hc
  ·rename_i x gt' hx ht
   obtain ⟨o,ho,hop,_⟩:=compileG_inv hx
   have hqx:isQuiet x.op=true:=by
    unfold quietB at h11
    simp only [ho,hop] at h11
    exact h11
   have hri:i∈Region.ready .any ops listed:=by simpa using h3
   have hS:SZ g w w:=fun _ _=>rfl
   cases hmb:memB ops i with
   | true=>
    rw [hmb] at hc
    simp only [if_true,Option.some.injEq] at hc
    subst hc
    have hmem:isMem o.op=true:=by unfold memB at hmb;rw [ho] at hmb;exact hmb
    obtain ⟨av,v,hy,hR', hE'⟩:=evG_z ho hx hqx hmem hE.1 hE.2 hR
    exact wpAnyT_first ho hin (Region.noSelect_spec hsel) (hT i hin) (fun c a w h=>absurd h (hQ _ _ _)) _ listed a w hinv (Region.free_spec ho h2) hri hy hS
     (tree_okY hsel hQ hT t fuel _ none gt' h4 ht hE' hR' (hinv.set hri hin) fun g' F' H' a' w' hR' hm hag hk=>hK g' F' H' a' w' hR' hm ((Agree.put ho v).trans hag) hk)
   | false=>
    rw [hmb] at hc
    simp only [Bool.false_eq_true,if_false,Option.some.injEq] at hc
    subst hc
    have hmem:isMem o.op=false:=by unfold memB at hmb;rw [ho] at hmb;exact hmb
    obtain ⟨av,v,hy,hR', hE'⟩:=evG_reg ho hx hqx hmem hE hR
    exact wpAnyT_first ho hin (Region.noSelect_spec hsel) (hT i hin) (fun c a w h=>absurd h (hQ _ _ _)) _ listed a w hinv (Region.free_spec ho h2) hri (YieldsIf_mono (fun _ _=>trivial) hy) hS
     (tree_okY hsel hQ hT t fuel _ none gt' h4 ht hE' hR' (hinv.set hri hin) fun g' F' H' a' w' hR' hm hag hk=>hK g' F' H' a' w' hR' hm ((Agree.put ho v).trans hag) hk)
  ·cases hc
 | .alt i t u,0,listed,m,gt,K,g,F,H,a,w,hok,hc,hE,hR,hinv,hK=>by cases m<;>simp [okY] at hok
 | .alt i t u,fuel+1,listed,m,gt,K,g,F,H,a,w,hok,hc,hE,hR,hinv,hK=>by
  simp only [okY] at hok
  split at hok
  ·rename_i j r hjr
   simp only [Bool.and_eq_true,beq_iff_eq,decide_eq_true_eq] at hok
   obtain ⟨hin,⟨rfl,h1⟩,h2⟩:=hok
   simp only [compileZ] at hc
   split at hc
   ·rename_i x gt' gu hx ht hu
    simp only [Option.some.injEq] at hc
    subst hc
    obtain ⟨hE1,hE2⟩:=hE
    have rest:=tree_okY hsel hQ hT u (fuel+1) listed (some r) gu h2 hu hE2 hR hinv hK
    have one:i∈Region.ready .any ops listed→wpOp P ops Q i (fun a' w' => (n≤i∨SZ g w w')∧wpAnyT P ops Q n (SZ g w) fuel (listed.setIfInBounds i true) a' w') a w:=fun hri=>by
     refine wpOp_mono (fun a' w' h=>?_) (wpOp_agree (K:=fun a' w' => ∃ g' F' H', R N g' F' H' a' w' ∧ Mv g H w g' H' w' ∧ EvT P false gt' K F' H') (evG_wp hx hE1 hR fun g' F' H' a' w' hR' hm hext hE' => ⟨g', F', H', hR', hm,hE'⟩))
     obtain ⟨⟨g', F', H', hR', hm,hE'⟩,hag⟩:=h
     refine ⟨.inr (SZ.of_Mv hR.hp hm),?_⟩
     refine wpAnyT_mono (S:=SZ g' w') (fun u hu=>SZ.tr hR.hp hm hu) _ _ _ _ ?_
     exact tree_okY hsel hQ hT t fuel _ none gt' h1 ht hE' hR' (hinv.set hri hin) fun g'' F'' H'' a'' w'' hR'' hm' hag' hk=>hK _ _ _ _ _ hR'' (hm.trans hm') (hag.trans hag') hk
    cases m with
    | none=>
     simp only [Option.getD_none] at hjr
     refine ⟨fun h0=>(by rw [hjr] at h0;cases h0),fun k hk=>?_⟩
     rw [hjr] at hk
     rcases List.mem_cons.1 hk with rfl | hk'
     ·exact one (by rw [hjr];simp)
     ·exact rest (fun q hq=>by rw [hjr];exact List.mem_cons_of_mem _ hq) k hk'
    | some rem=>
     simp only [Option.getD_some] at hjr
     subst hjr
     intro hall k hk
     rcases List.mem_cons.1 hk with rfl | hk'
     ·exact one (hall _ (by simp))
     ·exact rest (fun q hq=>hall q (List.mem_cons_of_mem _ hq)) k hk'
   ·cases hc
  ·cases hok
end
theorem regionY_wp {id : Nat} {ops : Array Oper} {gt : GT} {Q : Exit → Act → World → Prop} {K : Frame → Heap → Prop} (hc : compileRegionY P N ops = some gt) (hE : EvT P false gt K F H) (hR : R N g F H a w)
    (hQ:∀ c a w,¬ Q (.panic c) a w) (hK:∀ g' F' H' a' w', R N g' F' H' a' w' → Mv g H w g' H' w' → K F' H' → Q .normal a' w'):(Code.region id ops true).wp P Q a w:=by
 unfold compileRegionY at hc
 dsimp only at hc
 split at hc
 ·rename_i hb
  split at hc
  ·rename_i gt' x hg hx
   simp only [Option.some.injEq] at hc
   subst hc
   simp only [Bool.and_eq_true,decide_eq_true_eq] at hb
   obtain ⟨_,⟨⟨⟨⟨hn,hm⟩,hsel⟩,hs⟩,hch⟩,hok⟩:=hb
   refine wp_region_any hm ?_
   have hR1:R N g F H a { w with drawn:=w.drawn+1 }:=drew_R hR
   have hE' : EvT P false gt' (fun F' H' => EvG P false x K (thwF H.length F F' (dsts ops)) (thwH H H')) (frzF H F) (deadH H):=hE
   have hT:∀ i,i<ops.size - 1→∀ listed,HeadInv .any ops (ops.size - 1) listed→listed.getD i true=false→∀ t,ops.size - 1≤t→t∉Region.ready .any ops listed:=
    fun i hi listed hinv hun=>tail_waits hs hch hn hinv _ i rfl hi hun
   refine wpAny_of_T _ _ _ _ (tree_okY hsel hQ hT _ _ _ none gt' hok hg hE' (frz_R hR1) ⟨by simp,fun j oj hj hl=>(by rw [getD_replicate_false] at hl;cases hl),fun t' ht' hlt=>(by simp [hlt])⟩ fun g' F' H' a' w' hR' hm' hag hk=>?_)
   obtain ⟨g'', hR'', hm''⟩:=thaw hR1 hR' hm' hag
   exact evG_wp hx hk hR'' fun g3 F3 H3 a3 w3 hR3 hm3 _ hk3=>hK _ _ _ _ _ hR3 (((drew_Mv hR.hp).trans hm'').trans hm3) hk3
  ·cases hc
 ·cases hc
end
section
variable {P:Program} {N:Nat} {g:Gh} {F:Frame} {H:Heap} {a:Act} {w:World} {M:List Nat} {n0:Nat}
inductive ACode where
 | skip
 | ops (h t:List GOp)
 | alts (t:GT)
 | seq (x y:ACode)
 | cond (c:AX) (x y:ACode)
 | block (id:Nat) (x:ACode)
 | loop (x:ACode)
 | exit (id:Nat)
 | ret
/-! Short words for the codes' texts. -/
def kk (n:Int):AX:=.c (.int .i64 n)
def gm (d s:Nat):GOp:=⟨some d,none,.mov (.s s)⟩
def gz (d:Nat)(n:Int):GOp:=⟨some d,none,.mov (.c (.int .i64 n))⟩
def gn (d:Nat):GOp:=⟨some d,none,.mov (.c (.slice none 0 0))⟩
def gp (d:Nat)(x:AOp):GOp:=⟨some d,none,x⟩
def gq (d s:Nat)(b:Bool)(x:AOp):GOp:=⟨some d,some ⟨s,b⟩,x⟩
def ldi (s:Nat):AOp:=.load (.val (.int .i64 0)) (.s s)
def gB (d:Nat)(o:BinOp)(a b:Nat):GOp:=⟨some d,none,.bin 0 o (.s a) (.s b)⟩
def gK (d:Nat)(o:BinOp)(a:Nat)(n:Int):GOp:=⟨some d,none,.bin 0 o (.s a) (.c (.int .i64 n))⟩
def gE (d t i:Nat):GOp:=⟨some d,none,.ext (.s t) i⟩
def gI (d k a b:Nat):GOp:=⟨some d,none,.idx k (.s a) (.s b)⟩
def gL (d s:Nat):GOp:=⟨some d,none,.load (.val (.int .i64 0)) (.s s)⟩
def gV (d k s:Nat):GOp:=⟨some d,none,.load (.slc k 0 []) (.s s)⟩
def gS (k a x:Nat):GOp:=⟨none,none,.store k (.s a) (.s x)⟩
def gT (d k x:Nat):GOp:=⟨some d,none,.loads k (.s x)⟩
def gF (d k x:Nat):GOp:=⟨some d,none,.fld k (.s x)⟩
def gH (d x:Nat):GOp:=⟨some d,none,.len (.s x)⟩
def gA (d:Nat)(f:FuncId)(a:Nat):GOp:=⟨some d,none,.call f [.s a]⟩
def gC (d:Nat)(f:FuncId)(a b:Nat):GOp:=⟨some d,none,.call f [.s a,.s b]⟩
def gD (d:Nat)(f:FuncId)(a b c:Nat):GOp:=⟨some d,none,.call f [.s a,.s b,.s c]⟩
def gX (d x:Nat):GOp:=⟨some d,none,.box (.s x)⟩
def gJ (d x:Nat):GOp:=⟨some d,none,.not (.s x)⟩
def gN (d:Nat):GOp:=⟨some d,none,.alloc [.slice none 0 0]⟩
def gR (d s:Nat)(b:Bool)(x:Nat):GOp:=⟨some d,some ⟨s,b⟩,.mov (.s x)⟩
abbrev sq (t:List GOp)(x:ACode):ACode:=.seq (.ops [] t) x
abbrev ci (n:Nat)(x y:ACode):ACode:=.cond (.s n) x y
abbrev os (t:List GOp):ACode:=.ops [] t
def compileRegionC (P:Program)(M:List Nat)(N:Nat)(ops:Array Oper)(draw:Bool):Option ACode:=match compileRegion0 P M N ops draw with
 | some p=>some (.ops p.1 p.2)
 | none=>match draw,(((compileRegionT P M N ops).or (compileRegionQ P M N ops)).or (compileRegionZ P N ops)).or (compileRegionY P N ops) with
  | true,some t=>some (.alts t)
  | _,_=>some (.ops [] [⟨none,none,.bad⟩])
theorem compileRegionC_inv {ops:Array Oper}{draw:Bool}{c:ACode}(h:compileRegionC P M N ops draw=some c):(∃ hd tl,c = .ops hd tl∧compileRegion P M N ops draw=some (hd,tl))∨∃ t,c = .alts t∧draw=true∧(compileRegionT P M N ops=some t∨compileRegionQ P M N ops=some t∨compileRegionY P N ops=some t∨compileRegionZ P N ops=some t):=by
 unfold compileRegionC at h
 split at h
 ·rename_i p hp
  simp only [Option.some.injEq] at h
  subst h
  exact .inl ⟨p.1,p.2,rfl,by simp [compileRegion,hp]⟩
 ·rename_i hp
  split at h
  ·rename_i t ht
   simp only [Option.some.injEq] at h
   subst h
   rcases Option.or_eq_some_iff.1 ht with h | h
   ·rcases Option.or_eq_some_iff.1 h with h | h
    ·exact .inr ⟨t,rfl,rfl,(Option.or_eq_some_iff.1 h).imp id (fun h=>.inl h.2)⟩
    ·exact .inr ⟨t,rfl,rfl,.inr (.inr (.inr h.2))⟩
   ·exact .inr ⟨t,rfl,rfl,.inr (.inr (.inl h.2))⟩
  ·simp only [Option.some.injEq] at h
   subst h
   exact .inl ⟨_,_,rfl,by simp [compileRegion,hp]⟩
def compileCode (P:Program)(M:List Nat)(N:Nat):Code→Option ACode
 | .skip=>some .skip
 | .region _ ops draw=>compileRegionC P M N ops draw
 | .seq x y=>match compileCode P M N x,compileCode P M N y with
  | some x,some y=>some (.seq x y)
  | _,_=>none
 | .cond c x y=>match compileCode P M N x,compileCode P M N y with
  | some x,some y=>some (.cond (cX c) x y)
  | _,_=>none
 | .block id x=>(compileCode P M N x).map (.block id)
 | .loop x=>(compileCode P M N x).map .loop
 | .exit id=>some (.exit id)
 | .ret=>some .ret
 | _=>none
structure MvN (n:Nat) (g:Gh) (H:Heap) (w:World) (g' : Gh) (H' : Heap) (w' : World):Prop where
 hp:HeapR g' H' w'
 stp:Step w w' (g.owns H) (g'.owns H') g.G g'.G
 trk:∀ o d,o<n→g.tr H o=some d→g'.tr H' o=some d∨g'.tr H' o=some none
theorem MvN.refl {n:Nat}(hp:HeapR g H w):MvN n g H w g H w:=⟨hp,Step.refl _ _ _,fun _ _ _ h=>.inl h⟩
theorem MvN.trans {n:Nat}{g' g'' : Gh}{H' H'' : Heap}{w' w'' : World}(h:MvN n g H w g' H' w')(k:MvN n g' H' w' g'' H'' w''):MvN n g H w g'' H'' w'' :=
 ⟨k.hp,h.stp.trans k.stp,fun o d ho hd=>(h.trk o d ho hd).elim (fun h1=>k.trk o d ho h1) (fun h1=>.inr ((k.trk o none ho h1).elim id id))⟩
theorem Mv.toN {n:Nat}{g' : Gh}{H' : Heap}{w' : World}(h:Mv g H w g' H' w'):MvN n g H w g' H' w' := ⟨h.hp,h.stp,fun o d _=>h.trk o d⟩
theorem MvN.toMv {g' : Gh}{H' : Heap}{w' : World}(hp:HeapR g H w)(h:MvN H.length g H w g' H' w'):Mv g H w g' H' w' := by
 have trk:∀ o d,g.tr H o=some d→g'.tr H' o=some d∨g'.tr H' o=some none:=fun o d hd=>h.trk o d (tr_lt hd) hd
 refine ⟨h.hp,h.stp,fun x v hx=>hx.mono h.stp.gin (fun b hb=>h.stp.keep b (hp.low b hb) fun ⟨o,cs,ho,hbo⟩=>hp.free o cs ho b hbo hb) trk (by simp),trk⟩
def Fin (N n0:Nat)(g:Gh)(H:Heap)(w:World)(Q:Exit→Frame→Heap→Prop):Exit→Act→World→Prop:=fun e a' w' =>
 (∀ c,e ≠ .panic c)∧∃ g' F' H', R N g' F' H' a' w' ∧ MvN n0 g H w g' H' w' ∧ Q e F' H'
def W (P:Program)(M:List Nat)(N n0:Nat)(c:ACode)(Q:Exit→Frame→Heap→Prop)(F:Frame)(H:Heap):Prop:=
 ∀ code,compileCode P M N code=some c→∀ g a w,R N g F H a w→code.wp P (Fin N n0 g H w Q) a w
def Ref (n0:Nat)(F:Frame)(H:Heap)(F' : Frame)(H' : Heap):Prop:=∀ N g a w,R N g F H a w→∃ g', R N g' F' H' a w∧MvN n0 g H w g' H' w
def thenA (next:Frame→Heap→Prop)(Q:Exit→Frame→Heap→Prop):Exit→Frame→Heap→Prop
 | .normal,F,H=>next F H
 | e,F,H=>Q e F H
def blockA (id:Nat)(Q:Exit→Frame→Heap→Prop):Exit→Frame→Heap→Prop
 | .exit id', F,H=>if id' = id then Q .normal F H else Q (.exit id') F H
 | e,F,H=>Q e F H
section
variable {Q:Exit→Frame→Heap→Prop}
theorem Fin.trans {g' : Gh}{H' : Heap}{w' : World}{e:Exit}{a' : Act}{w'' : World}(hm:MvN n0 g H w g' H' w')(h:Fin N n0 g' H' w' Q e a' w''):Fin N n0 g H w Q e a' w'' := by
 obtain ⟨h1,g'', F'', H'', hR,hm', hq⟩:=h
 exact ⟨h1,g'', F'', H'', hR,hm.trans hm', hq⟩
theorem W_ref {c:ACode}{F' : Frame}{H' : Heap}(hr:Ref n0 F H F' H')(h:W P M N n0 c Q F' H'):W P M N n0 c Q F H:=fun code hc g a w hR=>by
 obtain ⟨g', hR', hm⟩:=hr N g a w hR
 exact wp_mono (h code hc g' a w hR') fun e a w h=>h.trans hm
theorem W_mono {c:ACode}{Q' : Exit→Frame→Heap→Prop}(h:W P M N n0 c Q F H)(hq:∀ e F H,Q e F H→Q' e F H):W P M N n0 c Q' F H:=fun code hc g a w hR=>
 wp_mono (h code hc g a w hR) fun _ _ _ ⟨h1,g', F', H', hR', hm,hk⟩=>⟨h1,g', F', H', hR', hm,hq _ _ _ hk⟩
theorem W_skip (h:Q .normal F H):W P M N n0 .skip Q F H:=fun code hc g a w hR=>by
 cases code<;>simp only [compileCode,Option.map_eq_some_iff,Option.some.injEq,reduceCtorEq,and_false,exists_false] at hc
 ·exact wp_skip ⟨fun c=>by simp,g,F,H,hR,.refl hR.hp,h⟩
 all_goals (try (split at hc<;>cases hc))
 all_goals (rcases compileRegionC_inv hc with ⟨_,_,he,_⟩ | ⟨_,he,_⟩<;>cases he)
theorem W_exit {id:Nat}(h:Q (.exit id) F H):W P M N n0 (.exit id) Q F H:=fun code hc g a w hR=>by
 cases code<;>simp only [compileCode,Option.map_eq_some_iff,Option.some.injEq,reduceCtorEq,and_false,exists_false,ACode.exit.injEq] at hc
 case exit id' => subst hc;exact wp_exit ⟨fun c=>by simp,g,F,H,hR,.refl hR.hp,h⟩
 all_goals (try (split at hc<;>cases hc))
 all_goals (rcases compileRegionC_inv hc with ⟨_,_,he,_⟩ | ⟨_,he,_⟩<;>cases he)
theorem W_ret (h:Q .ret F H):W P M N n0 .ret Q F H:=fun code hc g a w hR=>by
 cases code<;>simp only [compileCode,Option.map_eq_some_iff,Option.some.injEq,reduceCtorEq,and_false,exists_false] at hc
 case ret=>exact wp_ret ⟨fun c=>by simp,g,F,H,hR,.refl hR.hp,h⟩
 all_goals (try (split at hc<;>cases hc))
 all_goals (rcases compileRegionC_inv hc with ⟨_,_,he,_⟩ | ⟨_,he,_⟩<;>cases he)
theorem W_ops {h t:List GOp}(hE:EvOps P true h (EvOps P false t (Q .normal)) F H):W P M N n0 (.ops h t) Q F H:=fun code hc g a w hR=>by
 cases code<;>simp only [compileCode,Option.map_eq_some_iff,Option.some.injEq,reduceCtorEq,and_false,exists_false] at hc
 case region id ops draw=>
  rcases compileRegionC_inv hc with ⟨h', t', he,hc'⟩ | ⟨_,he,_⟩
  ·cases he
   exact region_wp hc' hE hR (fun c a w h=>h.1 c rfl) fun g' F' H' a' w' hR' hm hk=>⟨fun c=>by simp,g', F', H', hR', hm.toN,hk⟩
  ·cases he
 all_goals (try (split at hc<;>cases hc))
theorem W_alts {t:GT}(hE:EvT P false t (Q .normal) F H):W P M N n0 (.alts t) Q F H:=fun code hc g a w hR=>by
 cases code<;>simp only [compileCode,Option.map_eq_some_iff,Option.some.injEq,reduceCtorEq,and_false,exists_false] at hc
 case region id ops draw=>
  rcases compileRegionC_inv hc with ⟨h', t', he,hc'⟩ | ⟨_,he,hd,hc'⟩
  ·cases he
  ·cases he
   subst hd
   rcases hc' with hc' | hc' | hc' | hc'
   ·exact regionT_wp hc' hE hR (fun c a w h=>h.1 c rfl) fun g' F' H' a' w' hR' hm hk=>⟨fun c=>by simp,g', F', H', hR', hm.toN,hk⟩
   ·exact regionQ_wp hc' hE hR (fun c a w h=>h.1 c rfl) fun g' F' H' a' w' hR' hm hk=>⟨fun c=>by simp,g', F', H', hR', hm.toN,hk⟩
   ·exact regionY_wp hc' hE hR (fun c a w h=>h.1 c rfl) fun g' F' H' a' w' hR' hm hk=>⟨fun c=>by simp,g', F', H', hR', hm.toN,hk⟩
   ·exact regionZ_wp hc' hE hR (fun c a w h=>h.1 c rfl) fun g' F' H' a' w' hR' hm hk=>⟨fun c=>by simp,g', F', H', hR', hm.toN,hk⟩
 all_goals (try (split at hc<;>cases hc))
theorem W_seq {x y:ACode}(h:W P M N n0 x (thenA (W P M N n0 y Q) Q) F H):W P M N n0 (.seq x y) Q F H:=fun code hc g a w hR=>by
 cases code<;>simp only [compileCode,Option.map_eq_some_iff,Option.some.injEq,reduceCtorEq,and_false,exists_false] at hc
 case seq cx cy=>
  split at hc
  ·rename_i x' y' hx hy
   simp only [Option.some.injEq,ACode.seq.injEq] at hc
   obtain ⟨rfl,rfl⟩:=hc
   refine wp_seq (wp_mono (h cx hx g a w hR) fun e a' w' hf=>?_)
   obtain ⟨h1,g', F', H', hR', hm,hk⟩:=hf
   cases e with
   | normal=>exact wp_mono (hk cy hy g' a' w' hR') fun e a w h=>h.trans hm
   | panic c=>exact absurd rfl (h1 c)
   | _=>exact ⟨h1,g', F', H', hR', hm,hk⟩
  ·cases hc
 all_goals (try (split at hc<;>cases hc))
 all_goals (rcases compileRegionC_inv hc with ⟨_,_,he,_⟩ | ⟨_,he,_⟩<;>cases he)
theorem W_cond {c:AX}{x y:ACode}{b:Bool}(hb:st (ax F c)=bl b)(hok:stOk (ax F c))(ht:b=true→W P M N n0 x Q F H)(hf:b=false→W P M N n0 y Q F H):W P M N n0 (.cond c x y) Q F H:=fun code hc g a w hR=>by
 cases code<;>simp only [compileCode,Option.map_eq_some_iff,Option.some.injEq,reduceCtorEq,and_false,exists_false] at hc
 case cond c' cx cy=>
  split at hc
  ·rename_i x' y' hx hy
   simp only [Option.some.injEq,ACode.cond.injEq] at hc
   obtain ⟨rfl,rfl,rfl⟩:=hc
   have hv:=bl_inv (sx_rd hR c' hok) hb
   exact wp_cond_split hv (fun e=>ht e cx hx g a w hR) (fun e=>hf e cy hy g a w hR)
  ·cases hc
 all_goals (try (split at hc<;>cases hc))
 all_goals (rcases compileRegionC_inv hc with ⟨_,_,he,_⟩ | ⟨_,he,_⟩<;>cases he)
theorem W_block {id:Nat}{x:ACode}(h:W P M N n0 x (blockA id Q) F H):W P M N n0 (.block id x) Q F H:=fun code hc g a w hR=>by
 cases code<;>simp only [compileCode,Option.map_eq_some_iff,Option.some.injEq,reduceCtorEq,and_false,exists_false] at hc
 case block id' cx=>
  obtain ⟨x', hx,he⟩:=hc
  simp only [ACode.block.injEq] at he
  obtain ⟨rfl,rfl⟩:=he
  refine wp_block (wp_mono (h cx hx g a w hR) fun e a' w' hf=>?_)
  obtain ⟨h1,g', F', H', hR', hm,hk⟩:=hf
  cases e with
  | exit i=>
   simp only [Exit.inBlock,blockA] at hk ⊢
   split
   ·rename_i hi;rw [if_pos hi] at hk;exact ⟨fun c=>by simp,g', F', H', hR', hm,hk⟩
   ·rename_i hi;rw [if_neg hi] at hk;exact ⟨h1,g', F', H', hR', hm,hk⟩
  | _=>exact ⟨h1,g', F', H', hR', hm,hk⟩
 all_goals (try (split at hc<;>cases hc))
 all_goals (rcases compileRegionC_inv hc with ⟨_,_,he,_⟩ | ⟨_,he,_⟩<;>cases he)
theorem W_loop {α : Type} (S : α → Frame × Heap) (C : α → Prop) (μ : α → Nat) (x0 : α) (h0 : C x0) (hr : Ref n0 F H (S x0).1 (S x0).2) {c : ACode}
    (round:∀ x,C x→W P M N n0 c (thenA (fun F' H' => ∃ x', C x' ∧ μ x' < μ x∧Ref n0 F' H' (S x').1 (S x').2) Q) (S x).1 (S x).2):W P M N n0 (.loop c) Q F H:=fun code hc g a w hR=>by
 cases code<;>simp only [compileCode,Option.map_eq_some_iff,Option.some.injEq,reduceCtorEq,and_false,exists_false] at hc
 case loop cx=>
  obtain ⟨x', hx,he⟩:=hc
  simp only [ACode.loop.injEq] at he
  obtain rfl:=he
  obtain ⟨g0,hR0,hm0⟩:=hr N g a w hR
  refine wp_loop_ghost (fun n a' w' => ∃ x g', C x∧μ x=n∧R N g' (S x).1 (S x).2 a' w' ∧ MvN n0 g H w g' (S x).2 w') (μ x0) ⟨x0,g0,h0,rfl,hR0,hm0⟩ ?_
  rintro n a' w' ⟨x,g', hC,rfl,hR', hm'⟩
  refine wp_mono (round x hC cx hx g' a' w' hR') fun e a2 w2 hf=>?_
  obtain ⟨h1,g2,F2,H2,hR2,hm2,hk⟩:=hf
  cases e with
  | normal=>
   obtain ⟨x2,hC2,hlt,hr2⟩:=hk
   obtain ⟨g3,hR3,hm3⟩:=hr2 N g2 a2 w2 hR2
   exact ⟨μ x2,hlt,x2,g3,hC2,rfl,hR3,(hm'.trans hm2).trans hm3⟩
  | panic c=>exact absurd rfl (h1 c)
  | _=>exact ⟨h1,g2,F2,H2,hR2,hm'.trans hm2,hk⟩
 all_goals (try (split at hc<;>cases hc))
 all_goals (rcases compileRegionC_inv hc with ⟨_,_,he,_⟩ | ⟨_,he,_⟩<;>cases he)
end
/-! ### A function -/
def compileRes (P:Program):ResultVar→Option AOp
 | .tmp t=>some (.mov (.s t))
 | .cell s t=>match P.underlying t,P.info? t with
  | some d,some i=>if isAggT (some d) then some (.loads i.size (.s s)) else some (.load (zav d) (.s s))
  | _,_=>none
def retQ (rs:List AOp)(K:AV→Heap→Prop)(F:Frame)(H:Heap):Prop:=match rs with
 | [r]=>qOk r F H∧K (qVal r F H) H
 | rs=>(∀ r∈rs,qOk r F H)∧K (.tup (rs.map fun r=>qVal r F H)) H
def endQ (rs:List AOp)(K:AV→Heap→Prop):Exit→Frame→Heap→Prop
 | .normal,F,H | .ret,F,H=>retQ rs K F H
 | _,_,_=>False
def mkF:Nat→List AV→Frame
 | _,[]=>[]
 | i,x :: l=>(i,x) :: mkF (i+1) l
theorem get_mkF:∀ (l:List AV) (i j:Nat),(∀ m (h:m<l.length),j=i+m→fget (mkF i l) j=l[m])∧((∀ m,m<l.length→j≠i+m)→fget (mkF i l) j = .any)
 | [],i,j=>⟨fun m h=>by simp at h,fun _=>rfl⟩
 | x :: l,i,j=>by
  obtain ⟨h1,h2⟩:=get_mkF l (i+1) j
  constructor
  ·intro m hm hj
   simp only [mkF,get_put]
   cases m with
   | zero=>rw [if_pos (by omega)];rfl
   | succ m=>rw [if_neg (by omega)];simpa using h1 m (by simpa using hm) (by omega)
  ·intro hne
   simp only [mkF,get_put]
   rw [if_neg (by have:=hne 0 (by simp);omega)]
   exact h2 fun m hm=>by have:=hne (m+1) (by simpa using hm);omega
theorem res_run {fn : Func} {r : ResultVar} {x : AOp} (hc : compileRes P r = some x) (hok : qOk x F H) (hR : R N g F H a w) :
    ∃ v,(match r with | .tmp t=>(pure (a.tmps.getD t undef):Sem Value) | .cell s t=>do loadVar t (← asAddr (a.tmps.getD s undef))).run P w = .ok v w∧Rd w (g.tr H) g.G (qVal x F H) v []:=by
 cases r with
 | tmp t=>
  simp only [compileRes,Option.some.injEq] at hc
  subst hc
  exact ⟨_,rfl,hR.fr t⟩
 | cell s t=>
  have conv:∀ (o:Oper) (x:AOp),o.op = .load t (.tmp s)→(∃ b off,a.tmps.getD s undef = .pointer (some ⟨b,off,none⟩))→Quiet P a w g H o (qVal x F H)→∃ v,(do loadVar t (← asAddr (a.tmps.getD s undef)):Sem Value).run P w = .ok v w∧Rd w (g.tr H) g.G (qVal x F H) v []:=by
   rintro o x hop ⟨b,off,hv⟩ ⟨v,hrun,hx⟩
   refine ⟨v,?_,hx⟩
   have h1:=hrun w (fun _ _ _=>rfl)
   simp only [execOp,hop,Act.eval,hv,Instr.loadAt,Instr.sureAddr,pure_bind,Sem.run_bind,Sem.run_pure] at h1
   rw [hv]
   simp only [asAddr,pure_bind]
   cases hl:(loadVar t ⟨b,off,none⟩).run P w with
   | ok v' w' => rw [hl] at h1;simp only [Result.andThen_ok,Result.ok.injEq,Next.value.injEq] at h1;rw [h1.1,h1.2]
   | halt x w' => rw [hl] at h1;simp at h1
  simp only [compileRes] at hc
  split at hc
  ·rename_i d i hd hi
   by_cases hg:isAggT (some d)=true
   ·rw [if_pos hg] at hc
    obtain rfl:=Option.some.inj hc
    refine conv { (default:Oper) with op:=.load t (.tmp s) } _ rfl ?_ (q_loads (x:=.tmp s) hR rfl hd hi hg hok)
    obtain ⟨h1,h2⟩:=hok
    split at h2
    ·rename_i cs j hcs
     obtain ⟨b,off,u,bss,hv,_⟩:=cellsAt_ok hR.hp (sx_rd hR (.tmp s) h1) hcs
     exact ⟨b,off+j,hv⟩
    ·exact h2.elim
   ·rw [if_neg hg] at hc
    obtain rfl:=Option.some.inj hc
    refine conv { (default:Oper) with op:=.load t (.tmp s) } _ rfl ?_ (q_load (x:=.tmp s) hR rfl hd (by simpa using hg) hok)
    obtain ⟨h1,h2⟩:=hok
    split at h2
    ·rename_i cs j hcs
     obtain ⟨b,off,u,bss,hv,_⟩:=cellsAt_ok hR.hp (sx_rd hR (.tmp s) h1) hcs
     exact ⟨b,off+j,hv⟩
    ·exact h2.elim
  ·cases hc
end
section
variable {P:Program} {N:Nat} {g:Gh} {F:Frame} {H:Heap} {a:Act} {w:World} {M:List Nat} {n0:Nat}
def compileFn (P:Program)(M:List Nat)(f:FuncId):Option (Nat×ACode×List AOp):=match P.funcs[f]? with
 | some fn=>match fn.body with
  | some code=>match compileCode P M fn.ntmps code,fn.results.toList.mapM (compileRes P) with
   | some ac,some rs=>some (fn.ntmps,ac,rs)
   | _,_=>none
  | none=>none
 | none=>none
theorem mapM_run {fr : ResultVar → Sem Value} {q : AOp → AV} {cr : ResultVar → Option AOp} {ok : AOp → Prop} {X : AV → Value → Prop} (h : ∀ r x, cr r = some x → ok x → ∃ v, (fr r).run P w = .ok v w ∧ X (q x) v) : ∀ (l : List ResultVar) (rs : List AOp), l.mapM cr = some rs → (∀ x ∈ rs, ok x) →
    ∃ vs:List Value,(l.mapM fr).run P w = .ok vs w∧vs.length=rs.length∧∀ m (h:m<rs.length),X (q rs[m]) (vs.getD m undef)
 | [],rs,hl,_=>by
  simp only [List.mapM_nil,Option.pure_def,Option.some.injEq] at hl
  subst hl
  exact ⟨[],rfl,rfl,fun m hm=>by simp at hm⟩
 | r :: l,rs,hl,hok=>by
  simp only [List.mapM_cons,Option.pure_def,Option.bind_eq_bind,Option.bind_eq_some_iff] at hl
  obtain ⟨x,hx,l', hl', he⟩:=hl
  obtain rfl:=Option.some.inj he
  obtain ⟨v,hv,hX⟩:=h r x hx (hok x (by simp))
  obtain ⟨vs,hvs,hlen,hXs⟩:=mapM_run h l l' hl' (fun y hy=>hok y (List.mem_cons_of_mem _ hy))
  refine ⟨v :: vs,?_,by simp [hlen],fun m hm=>?_⟩
  ·rw [List.mapM_cons,run_ok_bind hv,run_ok_bind hvs]
   rfl
  ·cases m with
   | zero=>exact hX
   | succ m=>simpa using hXs m (by simpa using hm)
theorem calls_of_W {f:FuncId}{ac:ACode}{rs:List AOp}{args:List AV}{K:AV→Heap→Prop}(hc:compileFn P M f=some (N,ac,rs))(hl:args.length≤N)(hW:W P M N H.length ac (endQ rs K) (mkF 0 args) H):CallsX P false f args H K:=by
 unfold compileFn at hc
 split at hc
 ·rename_i fn hfn
  split at hc
  ·rename_i code hcode
   split at hc
   ·rename_i ac' rs' hac hrs
    simp only [Option.some.injEq,Prod.mk.injEq] at hc
    obtain ⟨rfl,rfl,rfl⟩:=hc
    intro g w vals hp hlen hrd
    refine calls_of_wp hfn hcode ?_
    have hR:R fn.ntmps g (mkF 0 args) H { tmps:=vals++Array.replicate (fn.ntmps - vals.size) undef,defers:=[] } w:=by
     refine ⟨fun j=>?_,hp,by simp;omega,rfl⟩
     obtain ⟨h1,h2⟩:=get_mkF args 0 j
     by_cases hj:j<args.length
     ·rw [h1 j hj (by omega)]
      have:(vals++Array.replicate (fn.ntmps - vals.size) undef).getD j undef=vals.getD j undef:=by simp [Array.getElem?_append,show j<vals.size by omega]
      rw [this];exact hrd j hj
     ·rw [h2 fun m hm=>by omega];exact .any
    refine wp_mono (hW code hac g _ w hR) fun e a' w' hf=>?_
    obtain ⟨_,g', F', H', hR', hm,hk⟩:=hf
    have hm' := hm.toMv hp
    have ret:retQ rs' K F' H' → a'.defers=[]∧∃ v,(results fn a'.tmps).run P w' = .ok v w' ∧ ∃ v' g' av H', Ending.returned v = .returned v' ∧ Mv g H w g' H' w' ∧ Rd w' (g'.tr H') g'.G av v' []∧(false=true→Ext w w')∧K av H' := by
     intro hk
     refine ⟨hR'.defers,?_⟩
     have hall:∀ x∈rs', qOk x F' H' := by
      unfold retQ at hk
      split at hk
      ·intro x hx;obtain rfl:x=_:=by simpa using hx
       exact hk.1
      ·exact hk.1
     obtain ⟨vs,hvs,hvl,hX⟩:=mapM_run (P:=P) (w:=w') (fr:=fun | .tmp t=>pure (a'.tmps.getD t undef) | .cell s t=>do loadVar t (← asAddr (a'.tmps.getD s undef))) (q:=fun x=>qVal x F' H') (cr:=compileRes P) (ok:=fun x=>qOk x F' H') (X:=fun x v=>Rd w' (g'.tr H') g'.G x v [])
      (fun r x hx hok=>res_run (fn:=fn) hx hok hR') fn.results.toList rs' hrs hall
     have hrun:(results fn a'.tmps).run P w' = .ok (if h:vs.toArray.size=1 then vs.toArray[0] else .tuple vs.toArray) w' := by
      unfold results
      rw [Array.mapM_eq_mapM_toList]
      simp only [Sem.run_bind,Sem.run_map]
      erw [hvs]
      rfl
     refine ⟨_,hrun,?_⟩
     unfold retQ at hk
     split at hk
     ·rename_i r
      simp only [List.length_singleton] at hvl
      obtain ⟨v,rfl⟩:=List.length_eq_one_iff.1 hvl
      exact ⟨v,g', _,H', rfl,hm', hX 0 (by simp),fun h=>(by cases h),hk.2⟩
     ·rename_i hne
      have hn1:¬ vs.toArray.size=1:=by
       simp only [List.size_toArray,hvl]
       intro h1
       obtain ⟨r,rfl⟩:=List.length_eq_one_iff.1 h1
       exact hne r rfl
      rw [dif_neg hn1]
      refine ⟨_,g', _,H', rfl,hm', .tup (by simp [hvl]) (fun m hm=>?_),fun h=>(by cases h),hk.2⟩
      simp only [List.length_map] at hm
      simp only [List.getElem_map]
      have:=hX m hm
      rwa [show vs.toArray.getD m undef=vs.getD m undef by simp [List.getD]]
    cases e<;>simp only [endQ] at hk
    ·exact ret hk
    ·exact ret hk
   ·cases hc
  ·cases hc
 ·cases hc
theorem CallsX.mono {ext:Bool}{f:FuncId}{args:List AV}{K K' : AV→Heap→Prop}(h:CallsX P ext f args H K)(hk:∀ av H', K av H' → K' av H'):CallsX P ext f args H K' :=
 fun g w vals hp hl hr=>(h g w vals hp hl hr).mono fun _ _ ⟨v,g', av,H', he,hm,hx,hext,hkk⟩=>⟨v,g', av,H', he,hm,hx,hext,hk _ _ hkk⟩
theorem CallsX.ext_nil {f:FuncId}{args:List AV}{K:AV→Heap→Prop}(h:CallsX P false f args [] K):CallsX P true f args [] K:=
 fun g w vals hp hl hr=>(h g w vals hp hl hr).mono fun _ _ ⟨v,g', av,H', he,hm,hx,_,hk⟩=>⟨v,g', av,H', he,hm,hx,fun _ b hb=>hm.stp.keep b hb (fun ⟨o,cs,ho,_⟩=>by simp at ho),hk⟩
theorem CallsX.weak {f:FuncId}{args:List AV}{K:AV→Heap→Prop}{ext:Bool}(h:CallsX P true f args H K):CallsX P ext f args H K:=
 fun g w vals hp hl hr=>(h g w vals hp hl hr).mono fun _ _ ⟨v,g', av,H', he,hm,hx,hext,hk⟩=>⟨v,g', av,H', he,hm,hx,fun _=>hext rfl,hk⟩
def shf (n:Nat):Nat→AV→AV
 | 0,x=>x
 | d+1,.osl k m cs=>.osl k m (cs.map (shf n d))
 | d+1,.agg cs=>.agg (cs.map (shf n d))
 | d+1,.tup cs=>.tup (cs.map (shf n d))
 | d+1,.clo f fs cs=>.clo f (fs.map (shf n d)) (cs.map (shf n d))
 | d+1,.cnd b x=>.cnd b (shf n d x)
 | d+1,.idn v x=>.idn v (shf n d x)
 | _+1,.sl o k off len=>.sl (o+n) k off len
 | _+1,.ref o j=>.ref (o+n) j
 | _+1,.mp o=>.mp (o+n)
 | _+1,.it o=>.it (o+n)
 | d+1,.mpc cs=>.mpc (cs.map (shf n d))
 | d+1,.oag cs=>.oag (cs.map (shf n d))
 | d+1,.ent b k x=>.ent b k (shf n d x)
 | _+1,x=>x
def nf:Nat→AV→Bool
 | 0,_=>false
 | d+1,.osl _ _ cs=>cs.all (nf d)
 | d+1,.agg cs=>cs.all (nf d)
 | d+1,.tup cs=>cs.all (nf d)
 | d+1,.clo _ fs cs=>fs.all (nf d)&&cs.all (nf d)
 | d+1,.cnd _ x=>nf d x
 | d+1,.idn _ x=>nf d x
 | _+1,.slc _ n _=>n == 0
 | _+1,.pto _ _=>false
 | _+1,.gho _ _=>false
 | _+1,.mpz _=>false
 | d+1,.mpc cs=>cs.all (nf d)
 | d+1,.oag cs=>cs.all (nf d)
 | d+1,.ent _ _ x=>nf d x
 | _+1,_=>true
def shfH (n d:Nat)(H:Heap):Heap:=H.map (Option.map (List.map (shf n d)))
def nfH (d:Nat)(H:Heap):Bool:=H.all fun x=>match x with
 | some cs=>cs.all (nf d)
 | none=>true
theorem shf_rd {tr tr' : Nat→Option (Option LocN)}{G G' : Nat→Prop}{n:Nat}(ht:∀ o d,tr o=some d→tr' (o+n)=some d):∀ (d:Nat) (x:AV) (v:Value) (bs:List Nat),nf d x=true→Rd w tr G x v bs→Rd w tr' G' (shf n d x) v bs
 | 0,x,v,bs,h,_=>by cases h
 | d+1,x,v,bs,h,hr=>by
  have ih:=shf_rd (G:=G) (G' := G') ht d
  cases hr with
  | any=>exact .any
  | val=>exact .val
  | cndF=>exact .cndF
  | cndT hr=>exact .cndT (ih _ _ _ h hr)
  | idn hr=>exact .idn (ih _ _ _ h hr)
  | slc u hl hn hm hG hc hr=>
   simp only [nf,beq_iff_eq] at h
   subst h
   rename_i k cs b off cap
   have:cs=[]:=List.eq_nil_of_length_eq_zero (by simpa using hl)
   subst this
   exact .slc0 hm
  | slc0 hm=>exact .slc0 hm
  | pto=>cases h
  | sl h0 hv h1=>
   obtain ⟨d', hd'⟩:=Option.isSome_iff_exists.1 h0
   refine .sl (by rw [ht _ _ hd'];rfl) hv fun l hl=>h1 l ?_
   rw [ht _ _ hd'] at hl
   rw [hd', hl]
  | ref h0 hv h1=>
   obtain ⟨d', hd'⟩:=Option.isSome_iff_exists.1 h0
   refine .ref (by rw [ht _ _ hd'];rfl) hv fun l hl=>h1 l ?_
   rw [ht _ _ hd'] at hl
   rw [hd', hl]
  | mp h0 hv h1=>
   obtain ⟨d', hd'⟩:=Option.isSome_iff_exists.1 h0
   refine .mp (by rw [ht _ _ hd'];rfl) hv fun l hl=>h1 l ?_
   rw [ht _ _ hd'] at hl
   rw [hd', hl]
  | it h0 hv h1=>
   obtain ⟨d', hd'⟩:=Option.isSome_iff_exists.1 h0
   refine .it (by rw [ht _ _ hd'];rfl) hv fun l hl=>h1 l ?_
   rw [ht _ _ hd'] at hl
   rw [hd', hl]
  | mpz=>cases h
  | mpc bss hbs hl hr=>
   simp only [nf] at h
   simp only [shf]
   exact .mpc bss (by simpa using hbs) (by simpa using hl) fun m hm=>by simp only [List.getElem_map];exact ih _ _ _ (List.all_eq_true.1 h _ (List.getElem_mem _)) (hr m (by simpa using hm))
  | oag bss hbs hl hr=>
   simp only [nf] at h
   simp only [shf]
   exact .oag bss (by simpa using hbs) (by simpa using hl) fun m hm=>by simp only [List.getElem_map];exact ih _ _ _ (List.all_eq_true.1 h _ (List.getElem_mem _)) (hr m (by simpa using hm))
  | ent hx=>exact .ent (ih _ _ _ h hx)
  | osl u bss hl hn hm hb hs hc hr=>
   simp only [nf] at h
   simp only [shf]
   rename_i k n2 cs b off cap arr elem
   have:=Rd.osl (tr:=tr') (G:=G') (cs:=cs.map (shf n d)) u bss (by simpa using hl) hn hm hb hs (fun m hm' => hc m (by simpa using hm')) (fun m hm' => by
    simp only [List.getElem_map]
    exact ih _ _ _ (List.all_eq_true.1 h _ (List.getElem_mem _)) (hr m (by simpa using hm')))
   simpa only [List.length_map] using this
  | osl0=>simp only [shf,List.map_nil];exact .osl0
  | agg hl hr=>
   simp only [nf] at h
   simp only [shf]
   exact .agg (by simpa using hl) fun m hm=>by simp only [List.getElem_map];exact ih _ _ _ (List.all_eq_true.1 h _ (List.getElem_mem _)) (hr m (by simpa using hm))
  | tup hl hr=>
   simp only [nf] at h
   simp only [shf]
   exact .tup (by simpa using hl) fun m hm=>by simp only [List.getElem_map];exact ih _ _ _ (List.all_eq_true.1 h _ (List.getElem_mem _)) (hr m (by simpa using hm))
  | clo hf hrf hl hr=>
   simp only [nf,Bool.and_eq_true] at h
   simp only [shf]
   exact .clo (by simpa using hf) (fun m hm=>by simp only [List.getElem_map];exact ih _ _ _ (List.all_eq_true.1 h.1 _ (List.getElem_mem _)) (hrf m (by simpa using hm)))
    (by simpa using hl) fun m hm=>by simp only [List.getElem_map];exact ih _ _ _ (List.all_eq_true.1 h.2 _ (List.getElem_mem _)) (hr m (by simpa using hm))
theorem gh_shf {d:Nat}{x:AV}(h:ghA x=true)(hn:nf d x=true):False:=by
 cases d with
 | zero=>cases hn
 | succ d=>
  cases x with
  | gho b zs=>cases hn
  | _=>cases h
theorem shfH_get {n d:Nat}{H0:Heap}{i:Nat}{cs:List AV}(h:(shfH n d H0)[i]? = some (some cs)):∃ c,H0[i]? = some (some c)∧cs=c.map (shf n d):=by
 unfold shfH at h
 rw [List.getElem?_map,Option.map_eq_some_iff] at h
 obtain ⟨x,hx,he⟩:=h
 rw [Option.map_eq_some_iff] at he
 obtain ⟨c,rfl,rfl⟩:=he
 exact ⟨c,hx,rfl⟩
def gAll (w:World):Gh:=⟨fun _=>none,fun _=>[],fun b=>b<w.heap.size⟩
theorem gAll_hp (w:World):HeapR (gAll w) [] w:=⟨fun o cs h=>by simp at h,fun o cs h=>by simp at h,fun o o' cs cs' h=>by simp at h,fun o cs h=>by simp at h,fun b hb=>hb⟩
theorem gAll_tr (w:World):(gAll w).tr []=fun _=>none:=by funext o;simp [Gh.tr]
theorem lift_at {f : FuncId} {K : AV → Heap → Prop} {vals : Array Value} (d' : Nat) (hp : HeapR g H w) (hnf : ∀ av H0, K av H0 → nf d' av = true ∧ nfH d' H0 = true)
    (h:Calls P f vals w fun e w' => ∃ v g1 av H0,e = .returned v∧Mv (gAll w) [] w g1 H0 w' ∧ Rd w' (g1.tr H0) g1.G av v []∧Ext w w' ∧ K av H0):
    Calls P f vals w fun e w' => ∃ v g' av H', e = .returned v∧Mv g H w g' H' w' ∧ Rd w' (g'.tr H') g'.G av v []∧(true=true→Ext w w')∧∃ av0 H0,K av0 H0∧av=shf H.length d' av0∧H' = H++shfH H.length d' H0:=by
 refine h.mono ?_
 rintro e w' ⟨v,g1,av,H0,he,hm,hx,hext,hk⟩
 obtain ⟨hnf1,hnf2⟩:=hnf av H0 hk
 have hE:Ext w w' := hext
 have hsz:=hm.stp.size
 let n:=H.length
 let g' : Gh:=⟨fun o=>if o<n then g.ρ o else g1.ρ (o - n),fun o=>if o<n then g.ob o else g1.ob (o - n),g.G⟩
 let H' := H++shfH n d' H0
 have hfresh:∀ o cs,H0[o]? = some (some cs)→∀ b∈g1.ob o,w.heap.size≤b:=fun o cs ho b hb=>by
  rcases hm.stp.own b ⟨o,cs,ho,hb⟩ with ⟨o', cs', ho', _⟩ | h
  ·simp at ho'
  ·exact h
 have hget:∀ o cs,H'[o]? = some (some cs)→(o<n∧H[o]? = some (some cs))∨(n≤o∧∃ c,H0[o - n]? = some (some c)∧cs=c.map (shf n d')):=fun o cs ho=>by
  rcases Nat.lt_or_ge o n with h' | h'
  ·left;rw [List.getElem?_append_left h'] at ho;exact ⟨h', ho⟩
  ·right;rw [List.getElem?_append_right h'] at ho;exact ⟨h', shfH_get ho⟩
 have htr1:∀ o dd,g.tr H o=some dd→g'.tr H' o=some dd:=fun o dd ho=>by
  have hlt:=tr_lt ho
  unfold Gh.tr at *
  rw [List.getElem?_append_left hlt]
  simp only [g', n,if_pos hlt]
  exact ho
 have htr2:∀ o dd,g1.tr H0 o=some dd→g'.tr H' (o+n)=some dd:=fun o dd ho=>by
  have hlt:=tr_lt ho
  unfold Gh.tr at *
  rw [List.getElem?_append_right (by simp [n])]
  simp only [shfH,List.getElem?_map,n,Nat.add_sub_cancel]
  rw [List.getElem?_eq_getElem hlt] at ho ⊢
  cases hh:H0[o] with
  | none=>rw [hh] at ho;simpa using ho
  | some cs=>rw [hh] at ho;simpa [g', n,show ¬ o+H.length<H.length by omega] using ho
 have hshift:=fun (x:AV) v bs hx hr=>shf_rd (w:=w') (G:=g1.G) (G' := g'.G) htr2 d' x v bs hx hr
 have hcells:∀ (o:Nat) (c:List AV),H0[o]? = some (some c)→c.all (nf d')=true:=fun o c ho=>by
  have:=List.all_eq_true.1 hnf2 (some c) (List.mem_of_getElem? ho)
  exact this
 have hold:∀ x v bs,Rd w (g.tr H) g.G x v bs→Rd w' (g'.tr H') g'.G x v bs:=fun x v bs h=>h.mono (fun _ h=>h) (fun b hb=>hE b (hp.low b hb)) (fun o dd h=>.inl (htr1 o dd h)) (fun b hb=>hE b (h.lt b hb))
 have hp' : HeapR g' H' w' := by
  refine ⟨?_,?_,?_,?_,fun b hb=>Nat.lt_of_lt_of_le (hp.low b hb) hsz⟩
  ·intro o cs ho
   rcases hget o cs ho with ⟨hlt,ho'⟩ | ⟨hge,c,ho', rfl⟩
   ·simp only [g', if_pos hlt]
    have h1:=hp.obj o cs ho'
    exact h1.mono (fun _ h=>h) (fun b hb=>hE b (hp.low b hb)) (fun o dd h=>.inl (htr1 o dd h)) (fun b hb=>hE b (h1.all_lt b hb))
   ·simp only [g', if_neg (Nat.not_lt.2 hge)]
    have h1:=hm.hp.obj (o - n) c ho'
    exact h1.tell (shf n d') (fun _ _=>rfl) (fun x hx v bs' _ hr=>hshift _ _ _ (List.all_eq_true.1 (hcells _ _ ho') _ hx) hr) (fun _ ⟨x,hx,hg⟩=>(gh_shf hg (List.all_eq_true.1 (hcells _ _ ho') _ hx)).elim)
  ·intro o cs ho
   rcases hget o cs ho with ⟨hlt,ho'⟩ | ⟨hge,c,ho', rfl⟩
   ·simp only [g', if_pos hlt];exact hp.nodup o cs ho'
   ·simp only [g', if_neg (Nat.not_lt.2 hge)];exact hm.hp.nodup _ c ho'
  ·intro o o2 cs cs2 ho ho2 hne b h1 h2
   rcases hget o cs ho with ⟨hlt,ho'⟩ | ⟨hge,c,ho', rfl⟩<;>rcases hget o2 cs2 ho2 with ⟨hlt2,ho2'⟩ | ⟨hge2,c2,ho2', rfl⟩
   ·simp only [g', if_pos hlt] at h1;simp only [g', if_pos hlt2] at h2;exact hp.apart o o2 cs cs2 ho' ho2' hne b h1 h2
   ·simp only [g', if_pos hlt] at h1;simp only [g', if_neg (Nat.not_lt.2 hge2)] at h2
    have:=(hp.obj o cs ho').all_lt b h1;have:=hfresh _ _ ho2' b h2;omega
   ·simp only [g', if_neg (Nat.not_lt.2 hge)] at h1;simp only [g', if_pos hlt2] at h2
    have:=(hp.obj o2 cs2 ho2').all_lt b h2;have:=hfresh _ _ ho' b h1;omega
   ·simp only [g', if_neg (Nat.not_lt.2 hge)] at h1;simp only [g', if_neg (Nat.not_lt.2 hge2)] at h2
    exact hm.hp.apart _ _ c c2 ho' ho2' (by omega) b h1 h2
  ·intro o cs ho b h1 hG
   rcases hget o cs ho with ⟨hlt,ho'⟩ | ⟨hge,c,ho', rfl⟩
   ·simp only [g', if_pos hlt] at h1;exact hp.free o cs ho' b h1 hG
   ·simp only [g', if_neg (Nat.not_lt.2 hge)] at h1
    have:=hfresh _ _ ho' b h1;have:=hp.low b hG;omega
 refine ⟨v,g', shf n d' av,H', he,⟨hp', ⟨hm.stp.os,hm.stp.tape,hm.stp.output,hsz,fun b hb _=>hE b hb,fun b ⟨o,cs,ho,h1⟩=>?_,fun _ h=>h,fun _ h=>.inl h,hm.stp.fz⟩,fun x v h=>hold x v [] h,fun o dd h=>.inl (htr1 o dd h)⟩,hshift _ _ _ hnf1 hx,fun _=>hE,av,H0,hk,rfl,rfl⟩
 rcases hget o cs ho with ⟨hlt,ho'⟩ | ⟨hge,c,ho', rfl⟩
 ·left;simp only [g', if_pos hlt] at h1;exact ⟨o,cs,ho', h1⟩
 ·right;simp only [g', if_neg (Nat.not_lt.2 hge)] at h1;exact hfresh _ _ ho' b h1
theorem CallsX.lift {f : FuncId} {args args' : List AV} {K : AV → Heap → Prop} (h : CallsX P true f args [] K) (d d' : Nat) (ha : args = args'.map (frz H d)) (hnf : ∀ av H0, K av H0 → nf d' av = true ∧ nfH d' H0 = true) :
    CallsX P true f args' H fun av H' => ∃ av0 H0,K av0 H0∧av=shf H.length d' av0∧H' = H++shfH H.length d' H0:=by
 intro g w vals hp hl hr
 refine lift_at d' hp hnf ((h (gAll w) w vals (gAll_hp w) (by rw [ha];simpa using hl) (fun m hm=>?_)).mono ?_)
 ·rw [gAll_tr]
  subst ha
  simp only [List.getElem_map]
  exact frz_ok hp d _ _ _ (hr m (by simpa using hm))
 ·rintro e w' ⟨v,g1,av,H0,he,hm,hx,hext,hk⟩
  exact ⟨v,g1,av,H0,he,hm,hx,hext rfl,hk⟩
end
section
variable {P:Program} {N:Nat} {g:Gh} {F:Frame} {H:Heap} {a:Act} {w:World} {M:List Nat} {n0:Nat}
theorem Ref.refl:Ref n0 F H F H:=fun _ g _ _ hR=>⟨g,hR,.refl hR.hp⟩
theorem Ref.trans {F' F'' : Frame}{H' H'' : Heap}(h:Ref n0 F H F' H')(k:Ref n0 F' H' F'' H''):Ref n0 F H F'' H'' := fun N g a w hR=>by
 obtain ⟨g', hR', hm⟩:=h N g a w hR
 obtain ⟨g'', hR'', hm'⟩:=k N g' a w hR'
 exact ⟨g'', hR'', hm.trans hm'⟩
def sub (F:Frame):Frame→Prop
 | []=>True
 | (j,x) :: l=>fget F j=x∧sub F l
theorem sub_get:∀ {F' : Frame},sub F F' → ∀ j,fget F' j = .any∨fget F' j=fget F j
 | [],_,_=>.inl rfl
 | (i,x) :: l,h,j=>by
  simp only [get_put]
  by_cases e:i=j
  ·rw [if_pos e];right;rw [← e];exact h.1.symm
  ·rw [if_neg e];exact sub_get h.2 j
theorem Ref.frame {F' : Frame}(h:sub F F'):Ref n0 F H F' H:=fun N g a w hR=>by
 refine ⟨g,⟨fun j=>?_,hR.hp,hR.size,hR.defers⟩,.refl hR.hp⟩
 rcases sub_get h j with e | e
 ·rw [e];exact .any
 ·rw [e];exact hR.fr j
def condQ (F:Frame)(c:AX)(X Y:Prop):Prop:=match st (ax F c) with
 | .val (.bool b)=>stOk (ax F c)∧(b=true→X)∧(b=false→Y)
 | _=>False
theorem W_cond2 {Q:Exit→Frame→Heap→Prop}{c:AX}{x y:ACode}(h:condQ F c (W P M N n0 x Q F H) (W P M N n0 y Q F H)):W P M N n0 (.cond c x y) Q F H:=by
 unfold condQ at h
 split at h
 ·rename_i b hb;exact W_cond hb h.1 h.2.1 h.2.2
 ·exact h.elim
theorem toNat_pred (x:Nat):((x:Int) - 1).toNat=x - 1:=by omega
theorem toNat_succ (x:Nat):((x:Int)+1).toNat=x+1:=by omega
theorem beqT (b:Bool):(b == true)=b:=by cases b<;>rfl
theorem beqF (b:Bool):(b == false) = !b:=by cases b<;>rfl
theorem retQ_none (K:AV→Heap→Prop):retQ [] K F H=K (.tup []) H:=by simp [retQ]
theorem retQ_one (a:AOp)(K:AV→Heap→Prop):retQ [a] K F H=(qOk a F H∧K (qVal a F H) H):=rfl
theorem retQ_two (a b:AOp)(K:AV→Heap→Prop):retQ [a,b] K F H=(qOk a F H∧qOk b F H∧K (.tup [qVal a F H,qVal b F H]) H):=by simp [retQ,and_assoc]
theorem retQ_three (a b c:AOp)(K:AV→Heap→Prop):retQ [a,b,c] K F H=(qOk a F H∧qOk b F H∧qOk c F H∧K (.tup [qVal a F H,qVal b F H,qVal c F H]) H):=by simp [retQ,and_assoc]
def Later (P:Program)(ext:Bool)(l:List GOp)(K:Frame→Heap→Prop)(F:Frame)(H:Heap):Prop:=EvOps P ext l K F H
@[congr] theorem Later_congr {ext:Bool} {l:List GOp} {K:Frame→Heap→Prop} {F' : Frame} {H' : Heap} (hF:F=F') (hH:H=H'):Later P ext l K F H=Later P ext l K F' H' := by rw [hF,hH]
theorem W_ops2 {Q:Exit→Frame→Heap→Prop}{h t:List GOp}(hE:Later P true h (Later P false t (Q .normal)) F H):W P M N n0 (.ops h t) Q F H:=W_ops hE
def Pure (P:Program)(f:FuncId)(args:List AV)(x:AV)(H0:Heap):Prop:=CallsX P true f args [] fun av H' => av=x∧H' = H0
theorem pure_of_W {f:FuncId}{ac:ACode}{rs:List AOp}{args:List AV}{x:AV}{H0:Heap}(hc:compileFn P M f=some (N,ac,rs))(hl:decide (args.length≤N)=true)(hW:W P M N 0 ac (endQ rs fun av H' => av=x∧H' = H0) (mkF 0 args) []):Pure P f args x H0:=
 (calls_of_W hc (of_decide_eq_true hl) hW).ext_nil
theorem call_pure {ext:Bool}{f:FuncId}{args args' : List AV}{x:AV}{H0:Heap}{K:AV→Heap→Prop}(h:Pure P f args x H0)(ha:args'.map (frz H 6)=args)(hx:nf 6 x=true)(hH:nfH 6 H0=true)(hK:K (shf H.length 6 x) (H++shfH H.length 6 H0)):CallsX P ext f args' H K:=
 ((CallsX.lift h 6 6 ha.symm (by rintro av H' ⟨rfl,rfl⟩;exact ⟨hx,hH⟩)).weak).mono (by rintro av H' ⟨av0,H0', ⟨rfl,rfl⟩,rfl,rfl⟩;exact hK)
/-! ### Small lemmas for the evaluation -/
theorem map_frz_ints (H:Heap)(d:Nat)(xs:List Int):(intsC xs).map (frz H (d+1))=intsC xs:=by simp [intsC,frz]
theorem map_frz_bools (H:Heap)(d:Nat)(xs:List Bool):(boolsC xs).map (frz H (d+1))=boolsC xs:=by simp [boolsC,frz]
theorem frz_ints (H:Heap)(d:Nat)(xs:List Int):frz H (d+2) (ints xs)=ints xs:=by simp only [ints,frz];rw [map_frz_ints]
theorem map_frz_rows (H:Heap)(d:Nat)(xss:List (List Int)):(xss.map ints).map (frz H (d+2))=xss.map ints:=by
 rw [List.map_map];exact List.map_congr_left fun xs _=>frz_ints H d xs
theorem frz_oints (H:Heap)(d:Nat)(xs:List Int):frz H (d+2) (oints xs)=ints xs:=by simp only [oints,frz];rw [map_frz_ints]
theorem map_frz_orows (H:Heap)(d:Nat)(xss:List (List Int)):(xss.map oints).map (frz H (d+2))=xss.map ints:=by
 rw [List.map_map];exact List.map_congr_left fun xs _=>frz_oints H d xs
theorem map_shf_ints (n d:Nat)(xs:List Int):(intsC xs).map (shf n d)=intsC xs:=by cases d<;>simp [intsC,shf]
theorem map_shf_bools (n d:Nat)(xs:List Bool):(boolsC xs).map (shf n d)=boolsC xs:=by cases d<;>simp [boolsC,shf]
theorem shf_oints (n d:Nat)(xs:List Int):shf n d (oints xs)=oints xs:=by
 cases d with
 | zero=>rfl
 | succ d=>simp only [oints,shf];rw [map_shf_ints]
theorem map_shf_orows (n d:Nat)(xss:List (List Int)):(xss.map oints).map (shf n d)=xss.map oints:=by
 rw [List.map_map];exact List.map_congr_left fun xs _=>shf_oints n d xs
theorem all_nf_ints (d:Nat)(xs:List Int):(intsC xs).all (nf (d+1))=true:=by simp [intsC,nf]
theorem all_nf_bools (d:Nat)(xs:List Bool):(boolsC xs).all (nf (d+1))=true:=by simp [boolsC,nf]
theorem nf_oints (d:Nat)(xs:List Int):nf (d+2) (oints xs)=true:=by simp only [oints,nf];exact all_nf_ints d xs
theorem all_nf_orows (d:Nat)(xss:List (List Int)):(xss.map oints).all (nf (d+2))=true:=by
 rw [List.all_map];exact List.all_eq_true.2 fun xs _=>nf_oints d xs
theorem len_intsC (xs:List Int):(intsC xs).length=xs.length:=by simp [intsC]
theorem len_boolsC (xs:List Bool):(boolsC xs).length=xs.length:=by simp [boolsC]
theorem getD_intsC (xs:List Int)(i:Nat):(intsC xs).getD i (.val (.int .i64 0))=i64 (xs.getD i 0):=by
 by_cases h:i<xs.length<;>simp [intsC,h]
theorem getD_boolsC (xs:List Bool)(i:Nat):(boolsC xs).getD i (bl false)=bl (xs.getD i false):=by
 by_cases h:i<xs.length<;>simp [boolsC,h]
theorem getD_rows (xss:List (List Int))(i:Nat):(xss.map ints).getD i (.slc 1 0 [])=ints (xss.getD i []):=by
 by_cases h:i<xss.length
 ·simp [h]
 ·simp [h,ints,intsC]
theorem plain_intsC (xs:List Int)(i:Nat):plainC ((intsC xs).getD i .any)=true:=by
 by_cases h:i<xs.length
 ·simp [intsC,h,plainC]
 ·simp [intsC,h,plainC]
theorem plain_boolsC (xs:List Bool)(i:Nat):plainC ((boolsC xs).getD i .any)=true:=by
 by_cases h:i<xs.length
 ·simp [boolsC,h,plainC]
 ·simp [boolsC,h,plainC]
theorem plain_rows (xss:List (List Int))(i:Nat):plainC ((xss.map ints).getD i .any)=true:=by
 by_cases h:i<xss.length
 ·simp [h,plainC,ints]
 ·simp [h,plainC]
theorem plain_val (v:Value):plainC (.val v)=true:=rfl
theorem plain_slc (k n:Nat)(cs:List AV):plainC (.slc k n cs)=true:=rfl
theorem plain_pto (cs:List AV)(j:Nat):plainC (.pto cs j)=true:=rfl
theorem plain_sl (o k off len:Nat):plainC (.sl o k off len)=true:=rfl
theorem plain_ref (o j:Nat):plainC (.ref o j)=true:=rfl
theorem plain_any:plainC .any=true:=rfl
theorem take_all_intsC (xs:List Int):(intsC xs).take (xs.length*1)=intsC xs:=by rw [Nat.mul_one,← len_intsC xs,List.take_length]
theorem set_intsC (xs:List Int)(i:Nat)(n:Int):(intsC xs).set i (i64 n)=intsC (xs.set i n):=by simp [intsC,List.map_set]
theorem set_boolsC (xs:List Bool)(i:Nat)(n:Bool):(boolsC xs).set i (bl n)=boolsC (xs.set i n):=by simp [boolsC,List.map_set]
theorem app_intsC (xs ys:List Int):intsC xs++intsC ys=intsC (xs++ys):=by simp [intsC]
theorem one_intsC (n:Int):[i64 n]=intsC [n]:=rfl
theorem rep_intsC (n:Nat)(k:Int):List.replicate n (AV.val (.int .i64 k))=intsC (List.replicate n k):=by simp [intsC]
theorem rep_boolsC (n:Nat)(k:Bool):List.replicate n (AV.val (.bool k))=boolsC (List.replicate n k):=by simp [boolsC]
theorem drop_intsC (xs:List Int)(n:Nat):(intsC xs).drop n=intsC (xs.drop n):=by simp [intsC]
theorem take_intsC (xs:List Int)(n:Nat):(intsC xs).take n=intsC (xs.take n):=by simp [intsC]
theorem all_plain_intsC (xs:List Int):(intsC xs).all plainC=true:=by simp [intsC,plainC]
theorem all_one_intsC (xs:List Int):(intsC xs).all oneA=true:=by simp [intsC,oneA,Value.oneCell']
theorem cond_f (b x:Bool):(bif b then x else false)=(b&&x):=by cases b<;>rfl
theorem cond_t (b x:Bool):(bif b then true else x)=(b || x):=by cases b<;>rfl
theorem gcond_bl (b w:Bool):gcond (bl b) w=some (b == w):=rfl
end
end Go.Gov
