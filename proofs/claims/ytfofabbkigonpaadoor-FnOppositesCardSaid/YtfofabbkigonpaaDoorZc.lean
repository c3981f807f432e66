/- Texts that belong together. -/
import Derived.StillTail
import Derived.Deep.LoopGhost
import Derived.Test.YtfofabbkigonpaaDoorZ1
set_option linter.unusedSimpArgs false
set_option linter.unusedVariables false
namespace Go.Gov
section
variable {P:Program} {N:Nat} {g:Gh} {F:Frame} {H:Heap} {a:Act} {w:World}
structure As where
 dst:Option Nat
 grd:Option (Nat×Bool)
 op:AOp
def Cy (F:Frame):Option Nat→AV→Frame
 | some d,x=>(d,x) :: F
 | none,_=>F
def Iw (N:Nat):Option Nat→Bool
 | some d=>decide (d<N)
 | none=>true
def Cu (P:Program)(N:Nat)(ops:Array Oper)(i:Nat):Option As:=match ops[i]? with
 | none=>none
 | some o=>match Ea P o with
  | none=>none
  | some x => if Iw N o.dst then match o.guard with
      | none=>some ⟨o.dst,none,x⟩
      | some (j,want)=>match (ops[j]?).bind (·.dst) with
       | some s=>if s<N then some ⟨o.dst,some (s,want),x⟩ else none
       | none=>none
   else none
def H5:AV→Bool→Option Bool
 | .val (.bool b),w=>some (b == w)
 | .cnd c x,w=>(H5 x w).map (c && ·)
 | _,_=>none
def CallsX (P:Program)(ext:Bool)(f:FuncId)(args:List AV)(H:Heap)(K:AV→Heap→Prop):Prop:=
 ∀ g w (vals:Array Value),HeapR g H w→vals.size=args.length→(∀ m (h:m<args.length),Rd w (g.tr H) g.G args[m] (vals.getD m undef) []) →
  Calls P f vals w fun e w' => ∃ v g' av H', e = .returned v∧Mv g H w g' H' w' ∧ Rd w' (g'.tr H') g'.G av v []∧(ext=true→Ext w w')∧K av H'
def Gn (P:Program)(f:FuncId):Bool:=match P.funcs[f]? with
 | some fn=>fn.body.isSome && !(fn.name == "runtime.NumGoroutine")
 | none=>false
def F7 (F:Frame):List AX→Prop
 | []=>True
 | x :: l=>Ap (ax F x)∧F7 F l
def Gm (g:Option Bool)(A:Bool→Prop):Prop:=match g with
 | none=>False
 | some gb=>A gb
@[congr] theorem Aac {g g' : Option Bool} {A:Bool→Prop} (h:g=g'):Gm g A=Gm g' A:=by rw [h]
theorem bQ (gb:Bool)(A:Bool→Prop):Gm (some gb) A=A gb:=rfl
def GCall (gb:Bool)(C K:AV→Prop)(D:Prop):Prop:=(∃ av,(gb=true→C av)∧K av)∨(gb=true∧D)
theorem GCall.mk {gb:Bool}{C K:AV→Prop}{D:Prop}(av:AV)(h:gb=true→C av)(k:K av):GCall gb C K D:=.inl ⟨av,h,k⟩
theorem GCall.on {gb:Bool}{C K:AV→Prop}{D:Prop}(h:gb=true)(d:D):GCall gb C K D:=.inr ⟨h,d⟩
@[congr] theorem Aad {gb gb' : Bool} {C C' K:AV→Prop} {D:Prop} (h:gb=gb') (hc:∀ av,C av=C' av):GCall gb C K D=GCall gb' C' K D:=by
 rw [h,show C=C' from funext hc]
@[congr] theorem Aab {P:Program} {ext:Bool} {f:FuncId} {args args' : List AV} {H H' : Heap} {K:AV→Heap→Prop} (ha:args=args') (hH:H=H'):CallsX P ext f args H K=CallsX P ext f args' H' K:=by
 rw [ha,hH]
def B5 (P:Program)(ext:Bool)(x:As)(K:Frame→Heap→Prop)(F:Frame)(H:Heap):Prop:=match x.grd with
 | none=>if B8 x.op then A5 x.op F H∧K (Cy F x.dst (Am x.op F H)) H else match x.op with
  | .call f args=>F7 F args∧CallsX P ext f (args.map fun y=>st (ax F y)) H fun av H' => K (Cy F x.dst av) H'
  | .callv fv args=>F7 F args∧Ap (ax F fv)∧match st (ax F fv) with
   | .clo f fs cs=>Gn P f=true∧CallsX P ext f (fs++(args.map fun y=>st (ax F y))++cs) H fun av H' => K (Cy F x.dst av) H'
   | _=>False
  | op=>(ext=true→Ny op=true)∧Bp op F H fun av H' => K (Cy F x.dst av) H'
 | some (s, want) => Gm (H5 (Ac F s) want) fun gb => if B8 x.op then (gb = true → A5 x.op F H) ∧ K (Cy F x.dst (.cnd gb (Am x.op F H))) H else match x.op with
     | .call f args=>GCall gb (fun av=>F7 F args∧CallsX P true f (args.map fun y=>st (ax F y)) H fun av' H' => av' = av∧H' = H) (fun av=>K (Cy F x.dst (.cnd gb av)) H) (F7 F args∧CallsX P ext f (args.map fun y=>st (ax F y)) H fun av' H' => K (Cy F x.dst (.cnd true av')) H')
     | .callv fv args => GCall gb (fun av => F7 F args ∧ Ap (ax F fv) ∧ match st (ax F fv) with
         | .clo f fs cs=>Gn P f=true∧CallsX P true f (fs++(args.map fun y=>st (ax F y))++cs) H fun av' H' => av' = av∧H' = H
         | _=>False) (fun av=>K (Cy F x.dst (.cnd gb av)) H) (F7 F args∧Ap (ax F fv)∧match st (ax F fv) with
         | .clo f fs cs=>Gn P f=true∧CallsX P ext f (fs++(args.map fun y=>st (ax F y))++cs) H fun av' H' => K (Cy F x.dst (.cnd true av')) H'
         | _=>False)
     | _=>False
def D7 (P:Program)(ext:Bool):List As→(Frame→Heap→Prop)→Frame→Heap→Prop
 | [],K=>K
 | x :: l,K=>B5 P ext x (D7 P ext l K)
theorem C1 {F:Frame}{d j:Nat}{x:AV}:Ac ((d,x) :: F) j=if d=j then x else Ac F j:=rfl
theorem C4 {g' : Gh}{H' : Heap}{w' : World}{dst:Option Nat}{x:AV}{v:Value}(hR:R N g F H a w)(hd:Iw N dst=true)(hm:Mv g H w g' H' w')(hx:Rd w' (g'.tr H') g'.G x v []):R N g' (Cy F dst x) H' (a.put dst v) w' := by
 cases dst with
 | none=>exact ⟨fun j=>hm.lift _ _ (hR.fr j),hm.hp,hR.size,hR.defers⟩
 | some d=>
  have hlt:d<N:=by simpa [Iw] using hd
  refine ⟨fun j=>?_,hm.hp,by simp [Act.put,hR.size],hR.defers⟩
  simp only [Cy,C1]
  by_cases e:d=j
  ·subst e
   rw [if_pos rfl]
   have:(a.put (some d) v).tmps.getD d undef=v:=by simp [Act.put,hR.size,hlt]
   rw [this];exact hx
  ·rw [if_neg e]
   have:(a.put (some d) v).tmps.getD j undef=a.tmps.getD j undef:=by
    simp [Act.put,Array.getElem?_setIfInBounds,e]
   rw [this];exact hm.lift _ _ (hR.fr j)
theorem Wo {tr:Nat→Option (Option A2)}{G:Nat→Prop}:∀ (x:AV) (v:Value) (want gb:Bool),H5 x want=some gb→Rd w tr G x v []→((match v with | .bool b=>some b | _=>none:Option Bool) == some want)=gb
 | .val (.bool b),v,want,gb,h,hr=>by
  simp only [H5,Option.some.injEq] at h
  subst h
  rw [hr.val_inv.1]
  cases b<;>cases want<;>rfl
 | .cnd c x,v,want,gb,h,hr=>by
  simp only [H5,Option.map_eq_some_iff] at h
  obtain ⟨gb', h1,h2⟩:=h
  cases hr with
  | cndF=>simp only [Bool.false_and] at h2;subst h2;rfl
  | cndT hr=>simp only [Bool.true_and] at h2;subst h2;exact Wo x v want gb' h1 hr
theorem Te:∀ {args:List AX},F7 F args→∀ x∈args,Ap (ax F x)
 | [],_,x,hx=>by cases hx
 | y :: l,h,x,hx=>by
  rcases List.mem_cons.1 hx with rfl | hx
  ·exact h.1
  ·exact Te h.2 x hx
theorem My (hR : R N g F H a w) (args : Array Operand) (h : F7 F (args.toList.map cX)) : ∀ m (h : m < ((args.toList.map cX).map fun y => st (ax F y)).length),
    Rd w (g.tr H) g.G ((args.toList.map cX).map fun y=>st (ax F y))[m] ((args.map a.eval).getD m undef) []:=fun m hm=>by
 simp only [List.length_map,Array.length_toList] at hm
 simp only [List.getElem_map,Array.getElem_toList]
 have e:(args.map a.eval).getD m undef=a.eval args[m]:=by simp [hm]
 rw [e]
 exact At hR _ (Te h _ (List.mem_map.2 ⟨args[m],by simp,rfl⟩))
theorem M1 {f:FuncId}{vs:Array Value}(h:Gn P f=true)(w:World):(callFunc f vs).run P w = .ok (.enter f vs) w:=by
 unfold Gn at h
 split at h
 ·rename_i fn hfn
  simp only [Bool.and_eq_true,Bool.not_eq_true', Option.isSome_iff_ne_none] at h
  have hb:fn.body≠none:=by intro hb;simp_all
  have hn:¬ fn.name = "runtime.NumGoroutine" := by simpa using h.2
  unfold callFunc
  simp [program,Sem.run,hfn,hn,hb]
 ·cases h
theorem Vf {o:Oper}{f:FuncId}{args:List AX}(h:Ea P o=some (.call f args)):∃ as ts,o.op = .call { callee:=.value (.func f),args:=as,argTypes:=ts }∧args=as.toList.map cX∧Gn P f=true:=by
 rcases Le h with h | h
 rotate_left
 ·cases h
 unfold G8 at h
 split at h<;>rename_i hop
 case h_23=>
  split at h
  ·rename_i fn hfn
   split at h
   ·cases h
   ·rename_i hn
    simp only [Option.some.injEq,AOp.call.injEq] at h
    obtain ⟨rfl,rfl⟩:=h
    refine ⟨_,_,hop,rfl,?_⟩
    simp only [Bool.or_eq_true,not_or] at hn
    unfold Gn
    rw [hfn]
    cases hb:fn.body<;>simp_all
  ·cases h
 all_goals ((repeat' split at h)<;>first | (cases h;done) | (injection h with h;cases h;done) | (injection h with h;have hb:=congrArg B8 h;rw [P1] at hb;cases hb;done) | (rw [Option.map_eq_some_iff] at h;obtain ⟨_,_,h⟩:=h;cases h;done) | (obtain ⟨_,_,_,_,_,_,_,_,_,h⟩:=E4 h;cases h;done))
theorem eP {o:Oper}{fv:AX}{args:List AX}(h:Ea P o=some (.callv fv args)):∃ t as ts,o.op = .call { callee:=.value (.tmp t),args:=as,argTypes:=ts }∧args=as.toList.map cX∧fv = .s t:=by
 rcases Le h with h | h
 rotate_left
 ·cases h
 unfold G8 at h
 split at h<;>rename_i hop
 case h_24=>
  simp only [Option.some.injEq,AOp.callv.injEq] at h
  obtain ⟨rfl,rfl⟩:=h
  exact ⟨_,_,_,hop,rfl,rfl⟩
 all_goals ((repeat' split at h)<;>first | (cases h;done) | (injection h with h;cases h;done) | (injection h with h;have hb:=congrArg B8 h;rw [P1] at hb;cases hb;done) | (rw [Option.map_eq_some_iff] at h;obtain ⟨_,_,h⟩:=h;cases h;done) | (obtain ⟨_,_,_,_,_,_,_,_,_,h⟩:=E4 h;cases h;done))
theorem Eu {ops : Array Oper} {i : Nat} {x : As} (h : Cu P N ops i = some x) : ∃ o, ops[i]? = some o ∧ Ea P o = some x.op ∧ x.dst = o.dst ∧ Iw N o.dst = true ∧
    ((o.guard=none∧x.grd=none)∨∃ j want s,o.guard=some (j,want)∧(ops[j]?).bind (·.dst)=some s∧s<N∧x.grd=some (s,want)):=by
 unfold Cu at h
 split at h
 ·cases h
 ·rename_i o ho
  split at h
  ·cases h
  ·rename_i y hy
   by_cases hd:Iw N o.dst=true
   ·rw [if_pos hd] at h
    split at h
    ·rename_i hg
     obtain rfl:=Option.some.inj h
     exact ⟨o,ho,hy,rfl,hd,.inl ⟨hg,rfl⟩⟩
    ·rename_i j want hg
     split at h
     ·rename_i s hs
      by_cases hlt:s<N
      ·rw [if_pos hlt] at h
       obtain rfl:=Option.some.inj h
       exact ⟨o,ho,hy,rfl,hd,.inr ⟨j,want,s,hg,hs,hlt,rfl⟩⟩
      ·rw [if_neg hlt] at h;cases h
     ·cases h
   ·rw [if_neg hd] at h;cases h
theorem Pf {ops : Array Oper} {o : Oper} {j s : Nat} {want gb : Bool} (hR : R N g F H a w) (hg : o.guard = some (j, want)) (hs : (ops[j]?).bind (·.dst) = some s) (hlt : s < N) (hc : H5 (Ac F s) want = some gb) :
    Region.wanted o (yielded ops a.tmps)=gb:=by
 have h1:=Wo _ _ _ _ hc (hR.fr s)
 rw [← h1]
 simp only [Region.wanted,hg,yielded,hs,Option.bind_some]
 have:a.tmps[s]? = some (a.tmps.getD s undef):=by simp [hR.size,hlt]
 rw [this]
 cases a.tmps.getD s undef<;>rfl
theorem M4 {o : Oper} {f : FuncId} {args : List AV} {vals : Array Value} {ext : Bool} {K : AV → Heap → Prop} {K' : Act → World → Prop} {Q' : Exit → Act → World → Prop} (hrun : (execOp a.eval o).run P w = .ok (.enter f vals) w) (hR : R N g F H a w)
    (hl:vals.size=args.length) (hrd:∀ m (h:m<args.length),Rd w (g.tr H) g.G args[m] (vals.getD m undef) []) (hC:CallsX P ext f args H K) (hd:Iw N o.dst=true)
    (hK:∀ g' av H' v w', Mv g H w g' H' w' → Rd w' (g'.tr H') g'.G av v []→(ext=true→Ext w w')→K av H' → K' (a.put o.dst v) w'):o.wp P a w K' Q' := by
 unfold Oper.wp
 rw [hrun]
 simp only [Oper.upon]
 refine (hC g w vals hR.hp hl hrd).mono fun e w' ⟨v,g', av,H', he,hm,hx,hext,hk⟩=>?_
 subst he
 exact hK g' av H' v w' hm hx hext hk
theorem Qf {o : Oper} {fv : AX} {args : List AX} {ext : Bool} {K : AV → Heap → Prop} {K' : Act → World → Prop} {Q' : Exit → Act → World → Prop} (hx : Ea P o = some (.callv fv args)) (hR : R N g F H a w) (hd : Iw N o.dst = true)
    (hok:F7 F args) (hokf:Ap (ax F fv)) (hE:match st (ax F fv) with
     | .clo f fs cs=>Gn P f=true∧CallsX P ext f (fs++(args.map fun y=>st (ax F y))++cs) H K
     | _=>False)
    (hK:∀ g' av H' v w', Mv g H w g' H' w' → Rd w' (g'.tr H') g'.G av v []→(ext=true→Ext w w')→K av H' → K' (a.put o.dst v) w'):o.wp P a w K' Q' := by
 obtain ⟨t,as,ts,hopc,rfl,rfl⟩:=eP hx
 have hfr:=At hR (.tmp t) hokf
 split at hE
 ·rename_i f fs cs hfc
  obtain ⟨hcl,hC⟩:=hE
  have hfr' : Rd w (g.tr H) g.G (.clo f fs cs) (a.eval (.tmp t)) []:=by rw [← hfc];exact hfr
  generalize hv:a.eval (.tmp t)=v at hfr'
  cases hfr' with
  | clo hf hrf hl hr=>
   rename_i vf vc
   refine M4 (vals:=vf++as.map a.eval++vc) ?_ hR (by simp;omega) (fun m hm=>?_) hC hd hK
   ·simp [execOp,hopc,resolve,hv,Deferred.ofValue,invoke,M1 hcl]
   ·have hargs:=My hR as hok
    simp only [List.length_append,List.length_map,Array.length_toList] at hm hargs
    by_cases h1:m<fs.length
    ·rw [List.getElem_append_left (by simp;omega),List.getElem_append_left h1]
     have:(vf++as.map a.eval++vc).getD m undef=vf.getD m undef:=by
      simp [Array.getElem?_append,show m<vf.size by omega,show m<vf.size+as.size by omega]
     rw [this];exact hrf m h1
    ·by_cases h2:m<fs.length+as.size
     ·rw [List.getElem_append_left (by simp;omega),List.getElem_append_right (by omega)]
      have:(vf++as.map a.eval++vc).getD m undef=(as.map a.eval).getD (m - fs.length) undef:=by
       simp [Array.getElem?_append,show ¬ m<vf.size by omega,show m<vf.size+as.size by omega,show m - vf.size<as.size by omega,hf]
      rw [this];exact hargs (m - fs.length) (by omega)
     ·rw [List.getElem_append_right (by simp;omega)]
      have:(vf++as.map a.eval++vc).getD m undef=vc.getD (m - (fs.length+as.size)) undef:=by
       simp [Array.getElem?_append,show ¬ m<vf.size by omega,show ¬ m<vf.size+as.size by omega,show ¬ m - vf.size<as.size by omega,hf,Nat.sub_sub]
      rw [this]
      have:=hr (m - (fs.length+as.size)) (by omega)
      simpa using this
 ·exact hE.elim
theorem Gp {ops : Array Oper} {i : Nat} {x : As} {ext : Bool} {K : Frame → Heap → Prop} {K' : Act → World → Prop} {Q' : Exit → Act → World → Prop} (hc : Cu P N ops i = some x) (hE : B5 P ext x K F H) (hR : R N g F H a w)
    (hK:∀ g' F' H' a' w', R N g' F' H' a' w' → Mv g H w g' H' w' → (ext=true→Ext w w')→K F' H' → K' a' w'):wpOp P ops Q' i K' a w:=by
 obtain ⟨o,ho,hop,hdst,hd,hgrd⟩:=Eu hc
 unfold wpOp
 simp only [ho]
 have quiet:∀ gb:Bool,(gb=true→B8 x.op=true→A5 x.op F H→o.wp P a w (fun a' w' => w' = w∧∃ v,a' = a.put o.dst v∧Rd w (g.tr H) g.G (Am x.op F H) v []) Q'):=by
  intro gb _ hq hok
  obtain ⟨v,hrun,hv⟩:=L8 hop hq hok hR
  unfold Oper.wp
  rw [hrun w (fun _ _ _=>rfl)]
  exact ⟨rfl,v,rfl,hv⟩
 rcases hgrd with ⟨hg,hxg⟩ | ⟨j,want,s,hg,hs,hlt,hxg⟩
 ·have hw:Region.wanted o (yielded ops a.tmps)=true:=by simp [Region.wanted,hg]
  rw [if_pos hw]
  left
  unfold B5 at hE
  rw [hxg] at hE
  dsimp only at hE
  by_cases hq:B8 x.op=true
  ·rw [if_pos hq] at hE
   refine Oper.wp_mono ?_ (quiet true rfl hq hE.1)
   rintro a' w' ⟨rfl,v,rfl,hv⟩
   exact hK _ _ _ _ _ (C4 hR hd (Mv.refl hR.hp) hv) (Mv.refl hR.hp) (fun _ _ _=>rfl) (hdst ▸ hE.2)
  ·rw [if_neg hq] at hE
   have loud:W4 x.op=false→(ext=true→Ny x.op=true)→Bp x.op F H (fun av H' => K (Cy F x.dst av) H')→o.wp P a w K' Q' := by
    intro hcall hext hl
    obtain ⟨v,w', g', av,H', hrun,hm,hx,he,hk⟩:=mD hop (by simpa using hq) hcall hl hR
    have hfin:K' (a.put o.dst v) w' := hK _ _ _ _ _ (C4 hR hd hm hx) hm (fun h=>he (hext h)) (hdst ▸ hk)
    unfold Oper.wp
    rcases hrun with hrun | ⟨hrun,rfl⟩
    ·rw [hrun];exact hfin
    ·rw [hrun];exact hfin
   cases hx:x.op<;>rw [hx] at hE hq loud<;>first | exact absurd rfl hq | exact loud rfl hE.1 hE.2 | skip
   ·rename_i f args
    obtain ⟨as,ts,hopc,rfl,hcl⟩:=Vf (hx ▸ hop)
    obtain ⟨hok,hC⟩:=hE
    refine M4 (vals:=as.map a.eval) ?_ hR (by simp) (My hR as hok) hC hd fun g' av H' v w' hm hx2 hext hk=>hK _ _ _ _ _ (C4 hR hd hm hx2) hm hext (hdst ▸ hk)
    simp [execOp,hopc,resolve,Act.eval,Deferred.ofValue,invoke,M1 hcl]
   ·rename_i fv args
    obtain ⟨hok,hokf,hE⟩:=hE
    exact Qf (hx ▸ hop) hR hd hok hokf hE fun g' av H' v w' hm hx2 hext hk=>hK _ _ _ _ _ (C4 hR hd hm hx2) hm hext (hdst ▸ hk)
 ·unfold B5 at hE
  rw [hxg] at hE
  dsimp only at hE
  unfold Gm at hE
  split at hE
  ·exact hE.elim
  ·rename_i gb hgb
   rw [Pf hR hg hs hlt hgb]
   cases gb with
   | false=>
    rw [if_neg (by simp)]
    have hskip:∀ av,R N g (Cy F o.dst (.cnd false av)) H (a.put o.dst undef) w:=fun av=>C4 hR hd (Mv.refl hR.hp) .cndF
    by_cases hq:B8 x.op=true
    ·rw [if_pos hq] at hE
     exact hK _ _ _ _ _ (hskip _) (Mv.refl hR.hp) (fun _ _ _=>rfl) (hdst ▸ hE.2)
    ·rw [if_neg hq] at hE
     split at hE
     ·rcases hE with ⟨av,_,hk⟩ | ⟨h0,_⟩
      ·exact hK _ _ _ _ _ (hskip _) (Mv.refl hR.hp) (fun _ _ _=>rfl) (hdst ▸ hk)
      ·cases h0
     ·rcases hE with ⟨av,_,hk⟩ | ⟨h0,_⟩
      ·exact hK _ _ _ _ _ (hskip _) (Mv.refl hR.hp) (fun _ _ _=>rfl) (hdst ▸ hk)
      ·cases h0
     ·exact hE.elim
   | true=>
    rw [if_pos rfl]
    left
    by_cases hq:B8 x.op=true
    ·rw [if_pos hq] at hE
     refine Oper.wp_mono ?_ (quiet true rfl hq (hE.1 rfl))
     rintro a' w' ⟨rfl,v,rfl,hv⟩
     exact hK _ _ _ _ _ (C4 hR hd (Mv.refl hR.hp) (.cndT hv)) (Mv.refl hR.hp) (fun _ _ _=>rfl) (hdst ▸ hE.2)
    ·rw [if_neg hq] at hE
     split at hE
     ·rename_i f args hx
      obtain ⟨as,ts,hopc,rfl,hcl⟩:=Vf (hx ▸ hop)
      rcases hE with ⟨av,hC,hk⟩ | ⟨_,hok,hC⟩
      ·obtain ⟨hok,hC⟩:=hC rfl
       refine M4 (vals:=as.map a.eval) ?_ hR (by simp) (My hR as hok) hC hd fun g' av' H' v w' hm hx2 hext hk' => ?_
       ·simp [execOp,hopc,resolve,Act.eval,Deferred.ofValue,invoke,M1 hcl]
       ·obtain ⟨rfl,rfl⟩:=hk'
        exact hK _ _ _ _ _ (C4 hR hd hm (.cndT hx2)) hm (fun _=>hext rfl) (hdst ▸ hk)
      ·refine M4 (vals:=as.map a.eval) ?_ hR (by simp) (My hR as hok) hC hd fun g' av' H' v w' hm hx2 hext hk' => hK _ _ _ _ _ (C4 hR hd hm (.cndT hx2)) hm hext (hdst ▸ hk')
       simp [execOp,hopc,resolve,Act.eval,Deferred.ofValue,invoke,M1 hcl]
     ·rename_i fv args hx
      rcases hE with ⟨av,hC,hk⟩ | ⟨_,hok,hokf,hC⟩
      ·obtain ⟨hok,hokf,hC⟩:=hC rfl
       refine Qf (hx ▸ hop) hR hd hok hokf hC fun g' av' H' v w' hm hx2 hext hk' => ?_
       obtain ⟨rfl,rfl⟩:=hk'
       exact hK _ _ _ _ _ (C4 hR hd hm (.cndT hx2)) hm (fun _=>hext rfl) (hdst ▸ hk)
      ·exact Qf (hx ▸ hop) hR hd hok hokf hC fun g' av' H' v w' hm hx2 hext hk' => hK _ _ _ _ _ (C4 hR hd hm (.cndT hx2)) hm hext (hdst ▸ hk')
     ·exact hE.elim
theorem V6 {ops : Array Oper} {Q' : Exit → Act → World → Prop} : ∀ (idxs : List Nat) (l : List As) {K : Frame → Heap → Prop} {g : Gh} {F : Frame} {H : Heap} {a : Act} {w : World}, idxs.mapM (Cu P N ops) = some l → D7 P false l K F H → R N g F H a w →
    (∀ g' F' H' a' w', R N g' F' H' a' w' → Mv g H w g' H' w' → K F' H' → Q' .normal a' w')→wpOps P ops Q' idxs a w
 | [],l,K,g,F,H,a,w,hl,hE,hR,hK=>by
  simp only [List.mapM_nil,Option.pure_def,Option.some.injEq] at hl
  subst hl
  exact hK _ _ _ _ _ hR (Mv.refl hR.hp) hE
 | i :: rest,l,K,g,F,H,a,w,hl,hE,hR,hK=>by
  simp only [List.mapM_cons,Option.pure_def,Option.bind_eq_bind,Option.bind_eq_some_iff] at hl
  obtain ⟨x,hx,l', hl', he⟩:=hl
  obtain rfl:=Option.some.inj he
  rw [wpOps_cons]
  refine Gp hx hE hR fun g' F' H' a' w' hR' hm _ hE' => ?_
  exact V6 rest l' hl' hE' hR' fun g'' F'' H'' a'' w'' hR'' hm' hk=>hK _ _ _ _ _ hR'' (hm.trans hm') hk
end
section
variable {P:Program} {N:Nat} {g:Gh} {F:Frame} {H:Heap} {a:Act} {w:World}
def Cz (P:Program)(ops:Array Oper)(Q:Exit→Act→World→Prop)(n:Nat)(S:World→Prop):Nat→Array Bool→Act→World→Prop
 | 0,listed,a,w=>Region.ready .any ops listed=[]∧Q .normal a w
 | fuel+1,listed,a,w=>(Region.ready .any ops listed=[]→Q .normal a w) ∧
  ∀ i∈Region.ready .any ops listed,wpOp P ops Q i (fun a' w' => (n≤i∨S w')∧Cz P ops Q n S fuel (listed.setIfInBounds i true) a' w') a w
section
variable {ops:Array Oper} {Q:Exit→Act→World→Prop} {n:Nat} {S S' : World→Prop}
theorem Ji:∀ (fuel:Nat) (listed:Array Bool) (a:Act) (w:World),Cz P ops Q n S fuel listed a w→wpAny P .any ops Q fuel listed a w
 | 0,_,_,_,h=>h
 | fuel+1,_,_,_,h=>⟨h.1,fun i hi=>wpOp_mono (fun a' w' h' => Ji fuel _ a' w' h'.2) (h.2 i hi)⟩
theorem Po (hS:∀ w,S w→S' w):∀ (fuel:Nat) (listed:Array Bool) (a:Act) (w:World),Cz P ops Q n S fuel listed a w→Cz P ops Q n S' fuel listed a w
 | 0,_,_,_,h=>h
 | fuel+1,_,_,_,h=>⟨h.1,fun i hi=>wpOp_mono (fun a' w' h' => ⟨h'.1.imp id (hS w'),Po hS fuel _ a' w' h'.2⟩) (h.2 i hi)⟩
theorem Pn {i : Nat} {oi : Oper} {v : Value} (hi : ops[i]? = some oi) (hin : i < n) (hsel : ∀ (j : Nat) (o : Oper) cs b, ops[j]? = some o → o.op ≠ .select cs b)
    (hT:∀ listed,HeadInv .any ops n listed→listed.getD i true=false→∀ t,n≤t→t∉Region.ready .any ops listed)
    (hQ:∀ c a w,Q (.panic c) (a.put oi.dst v) w→Q (.panic c) a w):
    ∀ (fuel:Nat) (listed:Array Bool) (a:Act) (w:World),HeadInv .any ops n listed →
     (∀ j oj,ops[j]? = some oj→j≠i→listed.getD j true=false→(∀ e∈oj.after,Region.binds .any e=true→e.on≠i)→oi.apart ops oj=true) →
     i∈Region.ready .any ops listed→YieldsIf P ops S oi v a→S w →
     Cz P ops Q n S fuel (listed.setIfInBounds i true) (a.put oi.dst v) w→Cz P ops Q n S (fuel+1) listed a w:=by
 intro fuel
 induction fuel with
 | zero=>
  intro listed a w _ _ hr hy hS H
  refine ⟨fun h=>(by rw [h] at hr;cases hr),fun j hj=>?_⟩
  by_cases hji:j=i
  ·subst hji;exact hy.wpOp hi hS ⟨.inr hS,H⟩
  ·have:=ready_mono hj hji
   rw [H.1] at this
   cases this
 | succ fuel ih=>
  intro listed a w hinv hfree hr hy hS H
  refine ⟨fun h=>(by rw [h] at hr;cases hr),fun j hj=>?_⟩
  by_cases hji:j=i
  ·subst hji;exact hy.wpOp hi hS ⟨.inr hS,H⟩
  ·have hjn : j < n := by
     rcases Nat.lt_or_ge j n with h | h
     ·exact h
     ·exact absurd hj (hT listed hinv (mem_ready.1 hr).1 j h)
   have h1:=H.2 j (ready_mono hj hji)
   obtain ⟨hjun,oj,hoj,hall⟩:=mem_ready.1 hj
   have hnot:∀ e∈oj.after,Region.binds .any e=true→e.on≠i:=fun e he hb heq=>by
    have h1:=hall e he hb
    have h0:=(mem_ready.1 hr).1
    rw [heq] at h1
    rcases Nat.lt_or_ge i listed.size with h' | h'
    ·simp [h'] at h0 h1;rw [h0] at h1;cases h1
    ·simp [Array.getElem?_eq_none h'] at h1
   have h2:=wpOp_putIf hoj (hfree j oj hoj hji hjun hnot) (fun cs b=>hsel i oi cs b hi) (fun cs b=>hsel j oj cs b hoj) hQ hy h1
   have hfree' : ∀ k ok, ops[k]? = some ok → k ≠ i → (listed.setIfInBounds j true).getD k true = false →
       (∀ e∈ok.after,Region.binds .any e=true→e.on≠i)→oi.apart ops ok=true:=fun k ok hk hki hun hno=>by
    refine hfree k ok hk hki ?_ hno
    by_cases hjk:j=k
    ·subst hjk;exact hjun
    ·rw [getD_set_ne true hjk] at hun;exact hun
   refine wpOp_mono (fun a' w' h3=>?_) h2
   have hSw:S w' := h3.2.1.resolve_left (by omega)
   refine ⟨.inr hSw,ih (listed.setIfInBounds j true) a' w' (hinv.set hj hjn) hfree' (ready_mono hr (Ne.symm hji)) h3.1 hSw ?_⟩
   rw [Array.setIfInBounds_comm _ _ hji]
   exact h3.2.2
end
def I8 (quiet:Nat→Bool)(ops:Array Oper)(n:Nat):List Nat→Array Bool→Bool
 | [],listed=>(Region.ready .any ops listed).isEmpty
 | i :: rest,listed=>(if decide (i<n)&&quiet i then Region.free .any ops listed i&&(Region.ready .any ops listed).contains i else Region.ready .any ops listed == [i])&&I8 quiet ops n rest (listed.setIfInBounds i true)
def Rh (quiet:Nat→Bool)(ops:Array Oper)(n:Nat):Nat→Array Bool→List Nat
 | 0,_=>[]
 | fuel+1,listed=>
  let rs:=Region.ready .any ops listed
  match rs.find? (fun i=>decide (i<n)&&quiet i&&Region.free .any ops listed i) with
  | some i=>i :: Rh quiet ops n fuel (listed.setIfInBounds i true)
  | none=>match rs with
   | i :: _=>i :: Rh quiet ops n fuel (listed.setIfInBounds i true)
   | []=>[]
def Df (P:Program)(ops:Array Oper)(i:Nat):Bool:=match ops[i]? with
 | some o=>match Ea P o with
  | some x=>B8 x
  | none=>false
 | none=>false
def Pq (M:List Nat):AOp→Bool
 | .store .. | .app .. | .cpy .. | .clr .. | .mpu .. | .mpe .. | .est .. | .mpd .. | .nxt ..=>true
 | .call f _=>M.contains f
 | .callv ..=>M.contains 999999
 | _=>false
def J4 (P:Program)(M:List Nat)(ops:Array Oper):List Nat→Nat
 | []=>ops.size
 | i :: rest=>match ops[i]? with
  | some o=>match Ea P o with
   | some x=>if Pq M x then i else J4 P M ops rest
   | none=>J4 P M ops rest
  | none=>ops.size
def Lg (P:Program)(M:List Nat)(N:Nat)(ops:Array Oper)(draw:Bool):Option (List As×List As):=
 if draw then
  let n:=J4 P M ops (List.range ops.size)
  let plan:=(Rh (Df P ops) ops n n (Array.replicate ops.size false))
  let tail:=List.range' n (ops.size - n)
  if P.follows .mixedOrders && (n == ops.size || (Region.sinkB .any ops n && Region.chainB .any ops n && decide (n < ops.size))) && Region.noSelect ops && decide (plan.length + tail.length = ops.size) && plan.all (fun i => decide (i < n)) &&
      I8 (Df P ops) ops n (plan++tail) (Array.replicate ops.size false) then
   match plan.mapM (Cu P N ops),tail.mapM (Cu P N ops) with
   | some h,some t=>some (h,t)
   | _,_=>none
  else none
 else ((List.range ops.size).mapM (Cu P N ops)).map fun t=>([],t)
def Lf (P:Program)(M:List Nat)(N:Nat)(ops:Array Oper)(draw:Bool):Option (List As×List As):=some ((Lg P M N ops draw).getD ([],[⟨none,none,.bad⟩]))
theorem Qn {ops : Array Oper} {i : Nat} {x : As} {o : Oper} {ext : Bool} {K : Frame → Heap → Prop} (ho : ops[i]? = some o) (hc : Cu P N ops i = some x) (hq : B8 x.op = true) (hE : B5 P ext x K F H) (hR : R N g F H a w) :
    ∃ av v,YieldsIf P ops (Ext w) o v a∧R N g (Cy F x.dst av) H (a.put o.dst v) w∧K (Cy F x.dst av) H:=by
 obtain ⟨o', ho', hop,hdst,hd,hgrd⟩:=Eu hc
 obtain rfl:o=o' := by rw [ho] at ho'; simpa using ho'
 unfold B5 at hE
 rcases hgrd with ⟨hg,hxg⟩ | ⟨j,want,s,hg,hs,hlt,hxg⟩
 ·rw [hxg] at hE
  dsimp only at hE
  rw [if_pos hq] at hE
  obtain ⟨v,hrun,hv⟩:=L8 hop hq hE.1 hR
  exact ⟨_,v,.inl ⟨by simp [Region.wanted,hg],fun w' hw=>hrun w' (fun _=>hw)⟩,by rw [hdst];exact C4 hR hd (Mv.refl hR.hp) hv,hE.2⟩
 ·rw [hxg] at hE
  dsimp only at hE
  unfold Gm at hE
  split at hE
  ·exact hE.elim
  ·rename_i gb hgb
   rw [if_pos hq] at hE
   have hw:=Pf hR hg hs hlt hgb
   cases gb with
   | false=>exact ⟨_,undef,.inr ⟨hw,rfl⟩,by rw [hdst];exact C4 hR hd (Mv.refl hR.hp) .cndF,hE.2⟩
   | true=>
    obtain ⟨v,hrun,hv⟩:=L8 hop hq (hE.1 rfl) hR
    exact ⟨_,v,.inl ⟨hw,fun w' hw' => hrun w' (fun _=>hw')⟩,by rw [hdst];exact C4 hR hd (Mv.refl hR.hp) (.cndT hv),hE.2⟩
theorem Ext.trans {w w' w'' : World}(h:Ext w w')(hs:w.heap.size≤w'.heap.size)(k:Ext w' w''):Ext w w'' := fun b hb=>(k b (Nat.lt_of_lt_of_le hb hs)).trans (h b hb)
section
variable {ops:Array Oper} {Q:Exit→Act→World→Prop} {n:Nat}
theorem aH {qt : Nat → Bool} (S : World → Prop) : ∀ (l : List Nat) (listed : Array Bool) (xs : List As) {K : Frame → Heap → Prop} {g : Gh} {F : Frame} {H : Heap} {a : Act} {w : World}, (∀ i ∈ l, n ≤ i) → I8 qt ops n l listed = true → l.mapM (Cu P N ops) = some xs → D7 P false xs K F H → R N g F H a w →
    (∀ g' F' H' a' w', R N g' F' H' a' w' → Mv g H w g' H' w' → K F' H' → Q .normal a' w')→Cz P ops Q n S l.length listed a w
 | [],listed,xs,K,g,F,H,a,w,_,hB,hl,hE,hR,hK=>by
  simp only [List.mapM_nil,Option.pure_def,Option.some.injEq] at hl
  subst hl
  refine ⟨by simpa [I8] using hB,hK _ _ _ _ _ hR (Mv.refl hR.hp) hE⟩
 | i :: rest,listed,xs,K,g,F,H,a,w,hn,hB,hl,hE,hR,hK=>by
  simp only [List.mapM_cons,Option.pure_def,Option.bind_eq_bind,Option.bind_eq_some_iff] at hl
  obtain ⟨x,hx,l', hl', he⟩:=hl
  obtain rfl:=Option.some.inj he
  have hni:=hn i (by simp)
  simp only [I8,Bool.and_eq_true] at hB
  obtain ⟨hB1,hB2⟩:=hB
  rw [if_neg (by simp;omega)] at hB1
  have hr:Region.ready .any ops listed=[i]:=by simpa using hB1
  refine ⟨fun h0=>(by rw [hr] at h0;cases h0),fun j hj=>?_⟩
  obtain rfl:j=i:=by rw [hr] at hj;simpa using hj
  refine Gp hx hE hR fun g' F' H' a' w' hR' hm _ hE' => ⟨.inl hni,?_⟩
  exact aH S rest _ l' (fun k hk=>hn k (List.mem_cons_of_mem _ hk)) hB2 hl' hE' hR' fun g'' F'' H'' a'' w'' hR'' hm' hk=>hK _ _ _ _ _ hR'' (hm.trans hm') hk
theorem Qy (tl : List Nat) (xt : List As) (htl : ∀ i ∈ tl, n ≤ i) (hxt : tl.mapM (Cu P N ops) = some xt) (hsel : Region.noSelect ops = true)
    (hT:∀ i,i<n→∀ listed,HeadInv .any ops n listed→listed.getD i true=false→∀ t,n≤t→t∉Region.ready .any ops listed) (hQ:∀ c a w,¬ Q (.panic c) a w):
    ∀ (l:List Nat) (listed:Array Bool) (xs:List As) {K:Frame→Heap→Prop} {g:Gh} {F:Frame} {H:Heap} {a:Act} {w:World},HeadInv .any ops n listed→(∀ i∈l,i<n)→I8 (Df P ops) ops n (l++tl) listed=true→l.mapM (Cu P N ops)=some xs →
     D7 P true xs (D7 P false xt K) F H→R N g F H a w→(∀ g' F' H' a' w', R N g' F' H' a' w' → Mv g H w g' H' w' → K F' H' → Q .normal a' w')→Cz P ops Q n (Ext w) (l++tl).length listed a w
 | [],listed,xs,K,g,F,H,a,w,_,_,hB,hl,hE,hR,hK=>by
  simp only [List.mapM_nil,Option.pure_def,Option.some.injEq] at hl
  subst hl
  exact aH (Ext w) tl listed xt htl hB hxt hE hR hK
 | i :: rest,listed,xs,K,g,F,H,a,w,hinv,hn,hB,hl,hE,hR,hK=>by
  simp only [List.mapM_cons,Option.pure_def,Option.bind_eq_bind,Option.bind_eq_some_iff] at hl
  obtain ⟨x,hx,l', hl', he⟩:=hl
  obtain rfl:=Option.some.inj he
  have hni:=hn i (by simp)
  simp only [List.cons_append,I8,Bool.and_eq_true] at hB
  obtain ⟨hB1,hB2⟩:=hB
  obtain ⟨o,ho,hop,_⟩:=Eu hx
  by_cases hq:Df P ops i=true
  ·rw [if_pos (by simp [hni,hq])] at hB1
   simp only [Bool.and_eq_true] at hB1
   have hqx:B8 x.op=true:=by
    unfold Df at hq
    simp only [ho,hop] at hq
    exact hq
   obtain ⟨av,v,hy,hR', hE'⟩:=Qn ho hx hqx hE hR
   have hri:i∈Region.ready .any ops listed:=by simpa using hB1.2
   refine Pn ho hni (Region.noSelect_spec hsel) (hT i hni) (fun c a w h=>absurd h (hQ _ _ _)) _ listed a w hinv (Region.free_spec ho hB1.1) hri hy (fun _ _=>rfl) ?_
   exact Qy tl xt htl hxt hsel hT hQ rest _ l' (hinv.set hri hni) (fun k hk=>hn k (List.mem_cons_of_mem _ hk)) hB2 hl' hE' hR' hK
  ·rw [if_neg (by simp [hq])] at hB1
   have hr:Region.ready .any ops listed=[i]:=by simpa using hB1
   have hri:i∈Region.ready .any ops listed:=by rw [hr];simp
   refine ⟨fun h0=>(by rw [hr] at h0;cases h0),fun j hj=>?_⟩
   obtain rfl:j=i:=by rw [hr] at hj;simpa using hj
   refine Gp hx hE hR fun g' F' H' a' w' hR' hm hext hE' => ⟨.inr (hext rfl),?_⟩
   refine Po (S:=Ext w') (fun u hu=>(hext rfl).trans hm.stp.size hu) _ _ _ _ ?_
   exact Qy tl xt htl hxt hsel hT hQ rest _ l' (hinv.set hri hni) (fun k hk=>hn k (List.mem_cons_of_mem _ hk)) hB2 hl' hE' hR' fun g'' F'' H'' a'' w'' hR'' hm' hk=>hK _ _ _ _ _ hR'' (hm.trans hm') hk
end
theorem Ln (hR:R N g F H a w):R N g F H a { w with drawn:=w.drawn+1 }:=hR.keep (Nat.le_refl _) (fun _ _=>rfl)
theorem Ll (hp:HeapR g H w):Mv g H w g H { w with drawn:=w.drawn+1 }:=
 ⟨hp.keep (Nat.le_refl _) (fun _ _=>rfl),⟨rfl,⟨rfl,by first | exact Nat.le_refl _ | exact Nat.le_succ _⟩,rfl,Nat.le_refl _,fun _ _ _=>rfl,fun _ h=>.inl h,fun _ h=>h,fun _ h=>.inl h,fun _ _=>rfl⟩,fun _ _ h=>Rd.mono (w:=w) (w' := { w with drawn:=w.drawn+1 }) (fun _ h=>h) (fun _ _=>rfl) (fun _ _ h=>.inl h) h (by simp),fun _ _ h=>.inl h⟩
theorem uU {M : List Nat} {id : Nat} {ops : Array Oper} {draw : Bool} {h t : List As} {Q : Exit → Act → World → Prop} {K : Frame → Heap → Prop} (hc : Lf P M N ops draw = some (h, t)) (hE : D7 P true h (D7 P false t K) F H) (hR : R N g F H a w)
    (hQ:∀ c a w,¬ Q (.panic c) a w) (hK:∀ g' F' H' a' w', R N g' F' H' a' w' → Mv g H w g' H' w' → K F' H' → Q .normal a' w'):(Code.region id ops draw).wp P Q a w:=by
 unfold Lf at hc
 cases h0:Lg P M N ops draw with
 | none=>
  rw [h0] at hc
  simp only [Option.getD_none,Option.some.injEq,Prod.mk.injEq] at hc
  obtain ⟨rfl,rfl⟩:=hc
  exact hE.1.elim
 | some p=>?_
 obtain ⟨h0', t0'⟩:=p
 rw [h0] at hc
 simp only [Option.getD_some] at hc
 have hc:Lg P M N ops draw=some (h,t):=h0.trans hc
 unfold Lg at hc
 cases draw with
 | false=>
  rw [if_neg (by simp),Option.map_eq_some_iff] at hc
  obtain ⟨l,hl,he⟩:=hc
  simp only [Prod.mk.injEq] at he
  obtain ⟨rfl,rfl⟩:=he
  exact wp_region (V6 _ _ hl hE hR hK)
 | true=>
  rw [if_pos rfl] at hc
  dsimp only at hc
  split at hc
  ·rename_i hb
   split at hc
   ·rename_i h' t' hh ht
    simp only [Option.some.injEq,Prod.mk.injEq] at hc
    obtain ⟨rfl,rfl⟩:=hc
    generalize hn:J4 P M ops (List.range ops.size)=n at *
    simp only [Bool.and_eq_true,decide_eq_true_eq,Bool.or_eq_true,beq_iff_eq] at hb
    obtain ⟨⟨⟨⟨⟨hm,hnn⟩,hsel⟩,hlen⟩,hall⟩,hpl⟩:=hb
    refine wp_region_any hm ?_
    have key:=Qy (Q:=Q) (P:=P) (N:=N) (n:=n) (List.range' n (ops.size - n)) t' (fun i hi=>by rw [List.mem_range'] at hi;omega) ht hsel ?_ hQ _ _ h' (K:=K) (g:=g) (F:=F) (H:=H) (a:=a) (w:={ w with drawn:=w.drawn+1 })
     ?_ (fun i hi=>by simpa using List.all_eq_true.1 hall i hi) hpl hh hE (Ln hR) (fun g' F' H' a' w' hR' hm' hk=>hK _ _ _ _ _ hR' ((Ll hR.hp).trans hm') hk)
    ·rw [List.length_append,hlen] at key
     exact Ji _ _ _ _ key
    ·intro i hi listed hinv hun t' ht' hr
     rcases hnn with hnn | ⟨⟨hs,hc⟩,hlt⟩
     ·obtain ⟨_,ot,hot,_⟩:=mem_ready.1 hr
      have:=(Array.getElem?_eq_some_iff.1 hot).1
      omega
     ·exact tail_waits hs hc hlt hinv _ i rfl hi hun t' ht' hr
    ·refine ⟨by simp,fun j oj hj hl=>?_,fun t' ht' hlt=>?_⟩
     ·rw [getD_replicate_false] at hl;cases hl
     ·simp [hlt]
   ·cases hc
  ·cases hc
/-! ### A region whose operations may come in several orders: all of them -/
inductive PT where
 | fin
 | reg (i:Nat) (t:PT)
 | alt (i:Nat) (t u:PT)
inductive GT where
 | fin
 | reg (x:As) (t:GT)
 | alt (e:Bool) (x:As) (t u:GT)
 | regz (x:As) (t:GT)
 | thw (t:GT) (ds:List Nat) (x:As)
def Dj (H:Heap):Heap:=H.map fun _=>none
def Iy (H:Heap)(F:Frame):Frame:=F.map fun p=>(p.1,Ai H 6 p.2)
def Cx (n:Nat):Nat→AV→Bool
 | 0,_=>false
 | _+1,.any=>true
 | _+1,.val _=>true
 | d+1,.cnd _ x=>Cx n d x
 | _+1,.sl o _ _ _=>decide (n≤o)
 | _+1,.ref o _=>decide (n≤o)
 | d+1,.osl _ _ cs=>cs.all (Cx n d)
 | d+1,.agg cs=>cs.all (Cx n d)
 | d+1,.tup cs=>cs.all (Cx n d)
 | _+1,_=>false
def O7 (n:Nat)(x:AV):AV:=if Cx n 6 x then x else .any
def Ii (n:Nat)(c:Option (List AV)):Option (List AV):=match c with
 | some cs=>if cs.all (Cx n 6) then some cs else none
 | none=>none
def Jd (n:Nat)(F F' : Frame)(ds:List Nat):Frame:=(ds.map fun d=>(d,O7 n (Ac F' d)))++F
def Co (H H' : Heap):Heap:=H++(H'.drop H.length).map (Ii H.length)
def Jj:AOp→Frame→AV
 | .load _ y,F=>st (ax F y)
 | .loads _ y,F=>st (ax F y)
 | _,_=>.any
def Hr:AV→Prop
 | .pto ..=>True
 | _=>False
theorem zW (cs:List AV)(j:Nat):Hr (.pto cs j)=True:=rfl
theorem zS (z:AV)(y:AX)(F:Frame):Jj (.load z y) F=st (ax F y):=rfl
theorem zT (n:Nat)(y:AX)(F:Frame):Jj (.loads n y) F=st (ax F y):=rfl
def Bt (P:Program)(b:Bool):GT→(Frame→Heap→Prop)→Frame→Heap→Prop
 | .fin,K=>if b then fun _ _=>True else K
 | .reg x t,K=>B5 P true x (Bt P false t K)
 | .alt e x t u,K=>fun F H=>B5 P e x (Bt P false t K) F H∧Bt P true u K F H
 | .regz x t,K=>fun F H=>Hr (Jj x.op F)∧B5 P true x (Bt P false t K) F H
 | .thw t ds x,K=>fun F H=>Bt P false t (fun F' H' => B5 P false x K (Jd H.length F F' ds) (Co H H')) (Iy H F) (Dj H)
def L9 (P:Program)(wr:Bool)(ops:Array Oper)(i:Nat):Bool:=Df P ops i&&(!wr || match ops[i]? with
 | some o=>!E2 o.op
 | none=>false)
def Ck (P:Program)(wr:Bool)(ops:Array Oper):PT→Nat→Array Bool→Option (List Nat)→Bool
 | .fin,_,listed,none=>(Region.ready .any ops listed).isEmpty
 | .fin,_,_,some rem=>rem.isEmpty
 | .reg i t,fuel+1,listed,none=>L9 P wr ops i&&Region.free .any ops listed i&&(Region.ready .any ops listed).contains i&&Ck P wr ops t fuel (listed.setIfInBounds i true) none
 | .alt i t u,fuel+1,listed,m=>match m.getD (Region.ready .any ops listed) with
  | j :: r=>i == j&&Ck P wr ops t fuel (listed.setIfInBounds i true) none&&Ck P wr ops u (fuel+1) listed (some r)
  | []=>false
 | _,_,_,_=>false
def Ob (P:Program)(wr:Bool)(ops:Array Oper):Nat→Array Bool→PT
 | 0,_=>.fin
 | fuel+1,listed=>
  let rs:=Region.ready .any ops listed
  match rs.find? (fun i=>L9 P wr ops i&&Region.free .any ops listed i) with
  | some i=>.reg i (Ob P wr ops fuel (listed.setIfInBounds i true))
  | none=>rs.foldr (fun i u=>.alt i (Ob P wr ops fuel (listed.setIfInBounds i true)) u) .fin
def Ev (P:Program)(wr:Bool)(N:Nat)(ops:Array Oper):PT→Option GT
 | .fin=>some .fin
 | .reg i t=>match Cu P N ops i,Ev P wr N ops t with
  | some x,some t=>some (.reg x t)
  | _,_=>none
 | .alt i t u=>match Cu P N ops i,Ev P wr N ops t,Ev P wr N ops u with
  | some x,some t,some u=>some (.alt (!wr) x t u)
  | _,_,_=>none
def M9 (P:Program)(M:List Nat)(N:Nat)(ops:Array Oper):Option GT:=
 let wr:=decide (J4 P M ops (List.range ops.size)<ops.size)
 let t:=Ob P wr ops ops.size (Array.replicate ops.size false)
 if decide (((List.range ops.size).filter fun i=>!L9 P wr ops i).length≤5)&&P.follows .mixedOrders&&Region.noSelect ops&&Ck P wr ops t ops.size (Array.replicate ops.size false) none then Ev P wr N ops t else none
theorem Ni {ops : Array Oper} {i : Nat} {x : As} {o : Oper} {ext : Bool} {K : Frame → Heap → Prop} (ho : ops[i]? = some o) (hc : Cu P N ops i = some x) (hq : B8 x.op = true) (hmem : E2 o.op = false) (hE : B5 P ext x K F H) (hR : R N g F H a w) :
    ∃ av v,YieldsIf P ops (fun _=>True) o v a∧R N g (Cy F x.dst av) H (a.put o.dst v) w∧K (Cy F x.dst av) H:=by
 obtain ⟨o', ho', hop,hdst,hd,hgrd⟩:=Eu hc
 obtain rfl:o=o' := by rw [ho] at ho'; simpa using ho'
 unfold B5 at hE
 rcases hgrd with ⟨hg,hxg⟩ | ⟨j,want,s,hg,hs,hlt,hxg⟩
 ·rw [hxg] at hE
  dsimp only at hE
  rw [if_pos hq] at hE
  obtain ⟨v,hrun,hv⟩:=L8 hop hq hE.1 hR
  exact ⟨_,v,.inl ⟨by simp [Region.wanted,hg],fun w' _=>hrun w' (fun h=>by rw [hmem] at h;cases h)⟩,by rw [hdst];exact C4 hR hd (Mv.refl hR.hp) hv,hE.2⟩
 ·rw [hxg] at hE
  dsimp only at hE
  unfold Gm at hE
  split at hE
  ·exact hE.elim
  ·rename_i gb hgb
   rw [if_pos hq] at hE
   have hw:=Pf hR hg hs hlt hgb
   cases gb with
   | false=>exact ⟨_,undef,.inr ⟨hw,rfl⟩,by rw [hdst];exact C4 hR hd (Mv.refl hR.hp) .cndF,hE.2⟩
   | true=>
    obtain ⟨v,hrun,hv⟩:=L8 hop hq (hE.1 rfl) hR
    exact ⟨_,v,.inl ⟨hw,fun w' _=>hrun w' (fun h=>by rw [hmem] at h;cases h)⟩,by rw [hdst];exact C4 hR hd (Mv.refl hR.hp) (.cndT hv),hE.2⟩
section
variable {ops:Array Oper} {Q:Exit→Act→World→Prop} {S:World→Prop}
theorem aT {i : Nat} {oi : Oper} {v : Value} (hi : ops[i]? = some oi) (hsel : ∀ (j : Nat) (o : Oper) cs b, ops[j]? = some o → o.op ≠ .select cs b)
    (hQ:∀ c a w,Q (.panic c) (a.put oi.dst v) w→Q (.panic c) a w):
    ∀ (fuel:Nat) (listed:Array Bool) (a:Act) (w:World),
     (∀ j oj,ops[j]? = some oj→j≠i→listed.getD j true=false→(∀ e∈oj.after,Region.binds .any e=true→e.on≠i)→oi.apart ops oj=true) →
     i∈Region.ready .any ops listed→YieldsIf P ops (fun _=>True) oi v a →
     Cz P ops Q 0 S fuel (listed.setIfInBounds i true) (a.put oi.dst v) w→Cz P ops Q 0 S (fuel+1) listed a w:=by
 intro fuel
 induction fuel with
 | zero=>
  intro listed a w _ hr hy H
  refine ⟨fun h=>(by rw [h] at hr;cases hr),fun j hj=>?_⟩
  by_cases hji:j=i
  ·subst hji;exact hy.wpOp hi trivial ⟨.inl (Nat.zero_le _),H⟩
  ·have:=ready_mono hj hji
   rw [H.1] at this
   cases this
 | succ fuel ih=>
  intro listed a w hfree hr hy H
  refine ⟨fun h=>(by rw [h] at hr;cases hr),fun j hj=>?_⟩
  by_cases hji:j=i
  ·subst hji;exact hy.wpOp hi trivial ⟨.inl (Nat.zero_le _),H⟩
  ·have h1:=H.2 j (ready_mono hj hji)
   obtain ⟨hjun,oj,hoj,hall⟩:=mem_ready.1 hj
   have hnot:∀ e∈oj.after,Region.binds .any e=true→e.on≠i:=fun e he hb heq=>by
    have h1:=hall e he hb
    have h0:=(mem_ready.1 hr).1
    rw [heq] at h1
    rcases Nat.lt_or_ge i listed.size with h' | h'
    ·simp [h'] at h0 h1;rw [h0] at h1;cases h1
    ·simp [Array.getElem?_eq_none h'] at h1
   have h2:=wpOp_putIf hoj (hfree j oj hoj hji hjun hnot) (fun cs b=>hsel i oi cs b hi) (fun cs b=>hsel j oj cs b hoj) hQ hy h1
   have hfree' : ∀ k ok, ops[k]? = some ok → k ≠ i → (listed.setIfInBounds j true).getD k true = false →
       (∀ e∈ok.after,Region.binds .any e=true→e.on≠i)→oi.apart ops ok=true:=fun k ok hk hki hun hno=>by
    refine hfree k ok hk hki ?_ hno
    by_cases hjk:j=k
    ·subst hjk;exact hjun
    ·rw [getD_set_ne true hjk] at hun;exact hun
   refine wpOp_mono (fun a' w' h3=>?_) h2
   refine ⟨.inl (Nat.zero_le _),ih (listed.setIfInBounds j true) a' w' hfree' (ready_mono hr (Ne.symm hji)) h3.1 ?_⟩
   rw [Array.setIfInBounds_comm _ _ hji]
   exact h3.2.2
theorem Pb (hsel : Region.noSelect ops = true) (hQ : ∀ c a w, ¬ Q (.panic c) a w) : ∀ (t : PT) (fuel : Nat) (listed : Array Bool) (m : Option (List Nat)) (gt : GT) {K : Frame → Heap → Prop} {g : Gh} {F : Frame} {H : Heap} {a : Act} {w : World},
    Ck P false ops t fuel listed m=true→Ev P false N ops t=some gt→Bt P m.isSome gt K F H→R N g F H a w→HeadInv .any ops ops.size listed →
    (∀ g' F' H' a' w', R N g' F' H' a' w' → Mv g H w g' H' w' → K F' H' → Q .normal a' w') →
    match m with
    | none=>Cz P ops Q ops.size (Ext w) fuel listed a w
    | some rem=>(∀ i∈rem,i∈Region.ready .any ops listed)→∀ i∈rem,wpOp P ops Q i (fun a' w' => (ops.size≤i∨Ext w w')∧Cz P ops Q ops.size (Ext w) (fuel - 1) (listed.setIfInBounds i true) a' w') a w
 | .fin,fuel,listed,m,gt,K,g,F,H,a,w,hok,hc,hE,hR,hinv,hK=>by
  simp only [Ev,Option.some.injEq] at hc
  subst hc
  cases m with
  | none=>
   have hr:Region.ready .any ops listed=[]:=by cases fuel<;>simpa [Ck] using hok
   have hq:=hK _ _ _ _ _ hR (Mv.refl hR.hp) hE
   cases fuel with
   | zero=>exact ⟨hr,hq⟩
   | succ fuel=>exact ⟨fun _=>hq,fun i hi=>(by rw [hr] at hi;cases hi)⟩
  | some rem=>
   have hr:rem=[]:=by cases fuel<;>simpa [Ck] using hok
   subst hr
   exact fun _ i hi=>(by cases hi)
 | .reg i t,0,listed,m,gt,K,g,F,H,a,w,hok,hc,hE,hR,hinv,hK=>by cases m<;>simp [Ck] at hok
 | .reg i t,fuel+1,listed,some rem,gt,K,g,F,H,a,w,hok,hc,hE,hR,hinv,hK=>by simp [Ck] at hok
 | .reg i t,fuel+1,listed,none,gt,K,g,F,H,a,w,hok,hc,hE,hR,hinv,hK=>by
  simp only [Ck,Bool.and_eq_true] at hok
  obtain ⟨⟨⟨h1,h2⟩,h3⟩,h4⟩:=hok
  simp only [Ev] at hc
  split at hc
  ·rename_i x gt' hx ht
   simp only [Option.some.injEq] at hc
   subst hc
   obtain ⟨o,ho,hop,_⟩:=Eu hx
   have hqx:B8 x.op=true:=by
    simp only [L9,Bool.not_false,Bool.true_or,Bool.and_true] at h1
    unfold Df at h1
    simp only [ho,hop] at h1
    exact h1
   obtain ⟨av,v,hy,hR', hE'⟩:=Qn ho hx hqx hE hR
   have hri:i∈Region.ready .any ops listed:=by simpa using h3
   have hin:i<ops.size:=(Array.getElem?_eq_some_iff.1 ho).1
   refine Pn ho hin (Region.noSelect_spec hsel) (fun listed hinv' _ t ht hr=>?_) (fun c a w h=>absurd h (hQ _ _ _)) _ listed a w hinv (Region.free_spec ho h2) hri hy (fun _ _=>rfl) ?_
   ·obtain ⟨_,ot,hot,_⟩:=mem_ready.1 hr
    have:=(Array.getElem?_eq_some_iff.1 hot).1
    omega
   ·exact Pb hsel hQ t fuel _ none gt' h4 ht hE' hR' (hinv.set hri hin) hK
  ·cases hc
 | .alt i t u,0,listed,m,gt,K,g,F,H,a,w,hok,hc,hE,hR,hinv,hK=>by cases m<;>simp [Ck] at hok
 | .alt i t u,fuel+1,listed,m,gt,K,g,F,H,a,w,hok,hc,hE,hR,hinv,hK=>by
  simp only [Ck] at hok
  split at hok
  ·rename_i j r hjr
   simp only [Bool.and_eq_true,beq_iff_eq] at hok
   obtain ⟨⟨rfl,h1⟩,h2⟩:=hok
   simp only [Ev] at hc
   split at hc
   ·rename_i x gt' gu hx ht hu
    simp only [Option.some.injEq] at hc
    subst hc
    obtain ⟨hE1,hE2⟩:=hE
    obtain ⟨o,ho,hop,_⟩:=Eu hx
    have hin:i<ops.size:=(Array.getElem?_eq_some_iff.1 ho).1
    have rest:=Pb hsel hQ u (fuel+1) listed (some r) gu h2 hu hE2 hR hinv hK
    have one:i∈Region.ready .any ops listed→wpOp P ops Q i (fun a' w' => (ops.size≤i∨Ext w w')∧Cz P ops Q ops.size (Ext w) fuel (listed.setIfInBounds i true) a' w') a w:=fun hri=>by
     refine Gp hx hE1 hR fun g' F' H' a' w' hR' hm hext hE' => ⟨.inr (hext rfl),?_⟩
     refine Po (S:=Ext w') (fun u hu=>(hext rfl).trans hm.stp.size hu) _ _ _ _ ?_
     exact Pb hsel hQ t fuel _ none gt' h1 ht hE' hR' (hinv.set hri hin) fun g'' F'' H'' a'' w'' hR'' hm' hk=>hK _ _ _ _ _ hR'' (hm.trans hm') hk
    cases m with
    | none=>
     simp only [Option.getD_none] at hjr
     refine ⟨fun h0=>(by rw [hjr] at h0;cases h0),fun k hk=>?_⟩
     rw [hjr] at hk
     rcases List.mem_cons.1 hk with rfl | hk'
     ·exact one (by rw [hjr];simp)
     ·exact rest (fun q hq=>by rw [hjr];exact List.mem_cons_of_mem _ hq) k hk'
    | some rem=>
     simp only [Option.getD_some] at hjr
     subst hjr
     intro hall k hk
     rcases List.mem_cons.1 hk with rfl | hk'
     ·exact one (hall _ (by simp))
     ·exact rest (fun q hq=>hall q (List.mem_cons_of_mem _ hq)) k hk'
   ·cases hc
  ·cases hok
theorem Me (hsel : Region.noSelect ops = true) (hQ : ∀ c a w, ¬ Q (.panic c) a w) : ∀ (t : PT) (fuel : Nat) (listed : Array Bool) (m : Option (List Nat)) (gt : GT) {K : Frame → Heap → Prop} {g : Gh} {F : Frame} {H : Heap} {a : Act} {w : World},
    Ck P true ops t fuel listed m=true→Ev P true N ops t=some gt→Bt P m.isSome gt K F H→R N g F H a w →
    (∀ g' F' H' a' w', R N g' F' H' a' w' → Mv g H w g' H' w' → K F' H' → Q .normal a' w') →
    match m with
    | none=>Cz P ops Q 0 (fun _=>True) fuel listed a w
    | some rem=>(∀ i∈rem,i∈Region.ready .any ops listed)→∀ i∈rem,wpOp P ops Q i (fun a' w' => (0≤i∨True)∧Cz P ops Q 0 (fun _=>True) (fuel - 1) (listed.setIfInBounds i true) a' w') a w
 | .fin,fuel,listed,m,gt,K,g,F,H,a,w,hok,hc,hE,hR,hK=>by
  simp only [Ev,Option.some.injEq] at hc
  subst hc
  cases m with
  | none=>
   have hr:Region.ready .any ops listed=[]:=by cases fuel<;>simpa [Ck] using hok
   have hq:=hK _ _ _ _ _ hR (Mv.refl hR.hp) hE
   cases fuel with
   | zero=>exact ⟨hr,hq⟩
   | succ fuel=>exact ⟨fun _=>hq,fun i hi=>(by rw [hr] at hi;cases hi)⟩
  | some rem=>
   have hr:rem=[]:=by cases fuel<;>simpa [Ck] using hok
   subst hr
   exact fun _ i hi=>(by cases hi)
 | .reg i t,0,listed,m,gt,K,g,F,H,a,w,hok,hc,hE,hR,hK=>by cases m<;>simp [Ck] at hok
 | .reg i t,fuel+1,listed,some rem,gt,K,g,F,H,a,w,hok,hc,hE,hR,hK=>by simp [Ck] at hok
 | .reg i t,fuel+1,listed,none,gt,K,g,F,H,a,w,hok,hc,hE,hR,hK=>by
  simp only [Ck,Bool.and_eq_true] at hok
  obtain ⟨⟨⟨h1,h2⟩,h3⟩,h4⟩:=hok
  simp only [Ev] at hc
  split at hc
  ·rename_i x gt' hx ht
   simp only [Option.some.injEq] at hc
   subst hc
   obtain ⟨o,ho,hop,_⟩:=Eu hx
   simp only [L9,Bool.not_true,Bool.false_or,Bool.and_eq_true,ho,Bool.not_eq_true'] at h1
   have hqx:B8 x.op=true:=by
    have h1:=h1.1
    unfold Df at h1
    simp only [ho,hop] at h1
    exact h1
   obtain ⟨av,v,hy,hR', hE'⟩:=Ni ho hx hqx h1.2 hE hR
   have hri:i∈Region.ready .any ops listed:=by simpa using h3
   have hin:i<ops.size:=(Array.getElem?_eq_some_iff.1 ho).1
   refine aT ho (Region.noSelect_spec hsel) (fun c a w h=>absurd h (hQ _ _ _)) _ listed a w (Region.free_spec ho h2) hri hy ?_
   exact Me hsel hQ t fuel _ none gt' h4 ht hE' hR' hK
  ·cases hc
 | .alt i t u,0,listed,m,gt,K,g,F,H,a,w,hok,hc,hE,hR,hK=>by cases m<;>simp [Ck] at hok
 | .alt i t u,fuel+1,listed,m,gt,K,g,F,H,a,w,hok,hc,hE,hR,hK=>by
  simp only [Ck] at hok
  split at hok
  ·rename_i j r hjr
   simp only [Bool.and_eq_true,beq_iff_eq] at hok
   obtain ⟨⟨rfl,h1⟩,h2⟩:=hok
   simp only [Ev] at hc
   split at hc
   ·rename_i x gt' gu hx ht hu
    simp only [Option.some.injEq] at hc
    subst hc
    obtain ⟨hE1,hE2⟩:=hE
    obtain ⟨o,ho,hop,_⟩:=Eu hx
    have hin:i<ops.size:=(Array.getElem?_eq_some_iff.1 ho).1
    have rest:=Me hsel hQ u (fuel+1) listed (some r) gu h2 hu hE2 hR hK
    have one:i∈Region.ready .any ops listed→wpOp P ops Q i (fun a' w' => (0≤i∨True)∧Cz P ops Q 0 (fun _=>True) fuel (listed.setIfInBounds i true) a' w') a w:=fun hri=>by
     refine Gp hx hE1 hR fun g' F' H' a' w' hR' hm hext hE' => ⟨.inl (Nat.zero_le _),?_⟩
     exact Me hsel hQ t fuel _ none gt' h1 ht hE' hR' fun g'' F'' H'' a'' w'' hR'' hm' hk=>hK _ _ _ _ _ hR'' (hm.trans hm') hk
    cases m with
    | none=>
     simp only [Option.getD_none] at hjr
     refine ⟨fun h0=>(by rw [hjr] at h0;cases h0),fun k hk=>?_⟩
     rw [hjr] at hk
     rcases List.mem_cons.1 hk with rfl | hk'
     ·exact one (by rw [hjr];simp)
     ·exact rest (fun q hq=>by rw [hjr];exact List.mem_cons_of_mem _ hq) k hk'
    | some rem=>
     simp only [Option.getD_some] at hjr
     subst hjr
     intro hall k hk
     rcases List.mem_cons.1 hk with rfl | hk'
     ·exact one (hall _ (by simp))
     ·exact rest (fun q hq=>hall q (List.mem_cons_of_mem _ hq)) k hk'
   ·cases hc
  ·cases hok
end
theorem uQ {M : List Nat} {id : Nat} {ops : Array Oper} {gt : GT} {Q : Exit → Act → World → Prop} {K : Frame → Heap → Prop} (hc : M9 P M N ops = some gt) (hE : Bt P false gt K F H) (hR : R N g F H a w)
    (hQ:∀ c a w,¬ Q (.panic c) a w) (hK:∀ g' F' H' a' w', R N g' F' H' a' w' → Mv g H w g' H' w' → K F' H' → Q .normal a' w'):(Code.region id ops true).wp P Q a w:=by
 unfold M9 at hc
 dsimp only at hc
 split at hc
 ·rename_i hb
  generalize decide (J4 P M ops (List.range ops.size)<ops.size)=wr at *
  simp only [Bool.and_eq_true] at hb
  obtain ⟨⟨⟨_,hm⟩,hsel⟩,hok⟩:=hb
  refine wp_region_any hm ?_
  have hR' : R N g F H a { w with drawn:=w.drawn+1 }:=Ln hR
  have hK' : ∀ g' F' H' a' w', R N g' F' H' a' w' → Mv g H { w with drawn:=w.drawn+1 } g' H' w' → K F' H' → Q .normal a' w' := fun g' F' H' a' w' hR' hm' hk=>hK _ _ _ _ _ hR' ((Ll hR.hp).trans hm') hk
  cases wr with
  | false=>
   exact Ji _ _ _ _ (Pb hsel hQ _ _ _ none gt hok hc hE hR' ⟨by simp,fun j oj hj hl=>(by rw [getD_replicate_false] at hl;cases hl),fun t' ht' hlt=>(by simp [hlt])⟩ hK')
  | true=>exact Ji _ _ _ _ (Me hsel hQ _ _ _ none gt hok hc hE hR' hK')
 ·cases hc
end
section
variable {P:Program} {N:Nat} {g:Gh} {F:Frame} {H:Heap} {a:Act} {w:World}
def Gl (P:Program)(ops:Array Oper)(Q:Exit→Act→World→Prop)(B:Nat→Bool)(S:World→Prop):Nat→Array Bool→Act→World→Prop
 | 0,listed,a,w=>Region.ready .any ops listed=[]∧Q .normal a w
 | fuel+1,listed,a,w=>(Region.ready .any ops listed=[]→Q .normal a w) ∧
  ∀ i∈Region.ready .any ops listed,wpOp P ops Q i (fun a' w' => (B i=true∧wpAny P .any ops Q fuel (listed.setIfInBounds i true) a' w')∨(B i=false∧S w' ∧ Gl P ops Q B S fuel (listed.setIfInBounds i true) a' w')) a w
section
variable {ops:Array Oper} {Q:Exit→Act→World→Prop} {B:Nat→Bool} {S S' : World→Prop}
theorem aV:∀ (fuel:Nat) (listed:Array Bool) (a:Act) (w:World),Gl P ops Q B S fuel listed a w→wpAny P .any ops Q fuel listed a w
 | 0,_,_,_,h=>h
 | fuel+1,_,_,_,h=>⟨h.1,fun i hi=>wpOp_mono (fun a' w' h' => h'.elim (fun h=>h.2) (fun h=>aV fuel _ a' w' h.2.2)) (h.2 i hi)⟩
theorem aR (hS:∀ w,S w→S' w):∀ (fuel:Nat) (listed:Array Bool) (a:Act) (w:World),Gl P ops Q B S fuel listed a w→Gl P ops Q B S' fuel listed a w
 | 0,_,_,_,h=>h
 | fuel+1,_,_,_,h=>⟨h.1,fun i hi=>wpOp_mono (fun a' w' h' => h'.imp id fun h=>⟨h.1,hS w' h.2.1,aR hS fuel _ a' w' h.2.2⟩) (h.2 i hi)⟩
theorem aU:∀ (fuel:Nat) (listed:Array Bool) (a:Act) (w:World),wpAny P .any ops Q fuel listed a w→Cz P ops Q 0 (fun _=>True) fuel listed a w
 | 0,_,_,_,h=>h
 | fuel+1,_,_,_,h=>⟨h.1,fun i hi=>wpOp_mono (fun a' w' h' => ⟨.inr trivial,aU fuel _ a' w' h'⟩) (h.2 i hi)⟩
theorem Zs {i j:Nat}{oj:Oper}{listed:Array Bool}(hr:i∈Region.ready .any ops listed)(hj:j∈Region.ready .any ops listed)(hoj:ops[j]? = some oj):∀ e∈oj.after,Region.binds .any e=true→e.on≠i:=fun e he hb heq=>by
 obtain ⟨_,oj', hoj', hall⟩:=mem_ready.1 hj
 obtain rfl:oj=oj' := Option.some.inj (hoj.symm.trans hoj')
 have h1:=hall e he hb
 have h0:=(mem_ready.1 hr).1
 rw [heq] at h1
 rcases Nat.lt_or_ge i listed.size with h' | h'
 ·simp [h'] at h0 h1;rw [h0] at h1;cases h1
 ·simp [Array.getElem?_eq_none h'] at h1
theorem zL {i : Nat} {oi : Oper} {v : Value} (hi : ops[i]? = some oi) (hBi : B i = false) (hsel : ∀ (j : Nat) (o : Oper) cs b, ops[j]? = some o → o.op ≠ .select cs b)
    (hT:∀ listed,HeadInv .any ops ops.size listed→i∈Region.ready .any ops listed→∀ t∈Region.ready .any ops listed,t≠i→B t=false)
    (hQ:∀ c a w,Q (.panic c) (a.put oi.dst v) w→Q (.panic c) a w):
    ∀ (fuel:Nat) (listed:Array Bool) (a:Act) (w:World),HeadInv .any ops ops.size listed →
     (∀ j oj,ops[j]? = some oj→j≠i→listed.getD j true=false→(∀ e∈oj.after,Region.binds .any e=true→e.on≠i)→oi.apart ops oj=true) →
     i∈Region.ready .any ops listed→YieldsIf P ops S oi v a→S w →
     Gl P ops Q B S fuel (listed.setIfInBounds i true) (a.put oi.dst v) w→Gl P ops Q B S (fuel+1) listed a w:=by
 intro fuel
 induction fuel with
 | zero=>
  intro listed a w _ _ hr hy hS H
  refine ⟨fun h=>(by rw [h] at hr;cases hr),fun j hj=>?_⟩
  by_cases hji:j=i
  ·subst hji;exact hy.wpOp hi hS (.inr ⟨hBi,hS,H⟩)
  ·have:=ready_mono hj hji
   rw [H.1] at this
   cases this
 | succ fuel ih=>
  intro listed a w hinv hfree hr hy hS H
  refine ⟨fun h=>(by rw [h] at hr;cases hr),fun j hj=>?_⟩
  by_cases hji:j=i
  ·subst hji;exact hy.wpOp hi hS (.inr ⟨hBi,hS,H⟩)
  ·have hBj:=hT listed hinv hr j hj hji
   have h1:=H.2 j (ready_mono hj hji)
   obtain ⟨hjun,oj,hoj,_⟩:=mem_ready.1 hj
   have hnot:=Zs hr hj hoj
   have h2:=wpOp_putIf hoj (hfree j oj hoj hji hjun hnot) (fun cs b=>hsel i oi cs b hi) (fun cs b=>hsel j oj cs b hoj) hQ hy h1
   have hfree' : ∀ k ok, ops[k]? = some ok → k ≠ i → (listed.setIfInBounds j true).getD k true = false →
       (∀ e∈ok.after,Region.binds .any e=true→e.on≠i)→oi.apart ops ok=true:=fun k ok hk hki hun hno=>by
    refine hfree k ok hk hki ?_ hno
    by_cases hjk:j=k
    ·subst hjk;exact hjun
    ·rw [getD_set_ne true hjk] at hun;exact hun
   have hjn:j<ops.size:=(Array.getElem?_eq_some_iff.1 hoj).1
   refine wpOp_mono (fun a' w' h3=>?_) h2
   obtain ⟨_,hSw,h4⟩:=h3.2.resolve_left (fun h=>by rw [hBj] at h;cases h.1)
   refine .inr ⟨hBj,hSw,ih (listed.setIfInBounds j true) a' w' (hinv.set hj hjn) hfree' (ready_mono hr (Ne.symm hji)) h3.1 hSw ?_⟩
   rw [Array.setIfInBounds_comm _ _ hji]
   exact h4
theorem zM {i : Nat} {oi : Oper} {v : Value} (hi : ops[i]? = some oi) (hBi : B i = false) (hsel : ∀ (j : Nat) (o : Oper) cs b, ops[j]? = some o → o.op ≠ .select cs b)
    (hQ:∀ c a w,Q (.panic c) (a.put oi.dst v) w→Q (.panic c) a w):
    ∀ (fuel:Nat) (listed:Array Bool) (a:Act) (w:World),
     (∀ j oj,ops[j]? = some oj→j≠i→listed.getD j true=false→(∀ e∈oj.after,Region.binds .any e=true→e.on≠i)→oi.apart ops oj=true) →
     i∈Region.ready .any ops listed→YieldsIf P ops (fun _=>True) oi v a→S w →
     Gl P ops Q B S fuel (listed.setIfInBounds i true) (a.put oi.dst v) w→Gl P ops Q B S (fuel+1) listed a w:=by
 intro fuel
 induction fuel with
 | zero=>
  intro listed a w _ hr hy hS H
  refine ⟨fun h=>(by rw [h] at hr;cases hr),fun j hj=>?_⟩
  by_cases hji:j=i
  ·subst hji;exact hy.wpOp hi trivial (.inr ⟨hBi,hS,H⟩)
  ·have:=ready_mono hj hji
   rw [H.1] at this
   cases this
 | succ fuel ih=>
  intro listed a w hfree hr hy hS H
  refine ⟨fun h=>(by rw [h] at hr;cases hr),fun j hj=>?_⟩
  by_cases hji:j=i
  ·subst hji;exact hy.wpOp hi trivial (.inr ⟨hBi,hS,H⟩)
  ·have h1:=H.2 j (ready_mono hj hji)
   obtain ⟨hjun,oj,hoj,_⟩:=mem_ready.1 hj
   have hnot:=Zs hr hj hoj
   have h2:=wpOp_putIf hoj (hfree j oj hoj hji hjun hnot) (fun cs b=>hsel i oi cs b hi) (fun cs b=>hsel j oj cs b hoj) hQ hy h1
   have hfree' : ∀ k ok, ops[k]? = some ok → k ≠ i → (listed.setIfInBounds j true).getD k true = false →
       (∀ e∈ok.after,Region.binds .any e=true→e.on≠i)→oi.apart ops ok=true:=fun k ok hk hki hun hno=>by
    refine hfree k ok hk hki ?_ hno
    by_cases hjk:j=k
    ·subst hjk;exact hjun
    ·rw [getD_set_ne true hjk] at hun;exact hun
   refine wpOp_mono (fun a' w' h3=>?_) h2
   rcases h3.2 with ⟨hBj,h4⟩ | ⟨hBj,hSw,h4⟩
   ·refine .inl ⟨hBj,Ji (n:=0) (S:=fun _=>True) _ _ _ _ ?_⟩
    refine aT hi hsel hQ fuel _ a' w' hfree' (ready_mono hr (Ne.symm hji)) h3.1 ?_
    rw [Array.setIfInBounds_comm _ _ hji]
    exact aU _ _ _ _ h4
   ·refine .inr ⟨hBj,hSw,ih (listed.setIfInBounds j true) a' w' hfree' (ready_mono hr (Ne.symm hji)) h3.1 hSw ?_⟩
    rw [Array.setIfInBounds_comm _ _ hji]
    exact h4
end
def J1 (ops:Array Oper)(i:Nat):Nat→Nat→Bool
 | 0,j=>j == i
 | fuel+1,j=>(j == i) || match ops[j]? with
  | some o=>o.after.any fun e=>Region.binds .any e&&J1 ops i fuel e.on
  | none=>false
theorem Vq {ops:Array Oper}{i:Nat}{listed:Array Bool}(hinv:HeadInv .any ops ops.size listed):∀ (fuel j:Nat),J1 ops i fuel j=true→listed.getD j false=true→listed.getD i false=true
 | 0,j,h,hl=>by
  have:j=i:=by simpa [J1] using h
  subst this;exact hl
 | fuel+1,j,h,hl=>by
  simp only [J1,Bool.or_eq_true,beq_iff_eq] at h
  rcases h with rfl | h
  ·exact hl
  ·split at h
   ·rename_i o ho
    obtain ⟨e,he,hd⟩:=Array.any_eq_true'.1 h
    simp only [Bool.and_eq_true] at hd
    have hle:=hinv.closed j o ho (by simpa using hl) e he hd.1
    exact Vq hinv fuel e.on hd.2 (by simpa using hle)
   ·cases h
def bW (P:Program)(M:List Nat)(ops:Array Oper)(i:Nat):Bool:=match ops[i]? with
 | some o=>match Ea P o with
  | some x=>Pq M x
  | none=>true
 | none=>true
def aQ (P:Program)(M:List Nat)(ops:Array Oper)(i:Nat):Bool:=(List.range ops.size).all fun j=>!bW P M ops j || (j != i&&J1 ops i ops.size j)
theorem zG {M:List Nat}{ops:Array Oper}{i:Nat}(h:aQ P M ops i=true):∀ listed,HeadInv .any ops ops.size listed→i∈Region.ready .any ops listed→∀ t∈Region.ready .any ops listed,t≠i→bW P M ops t=false:=fun listed hinv hi t ht hne=>by
 cases hb:bW P M ops t with
 | false=>rfl
 | true=>
  exfalso
  obtain ⟨_,ot,hot,hall⟩:=mem_ready.1 ht
  have htl:t<ops.size:=(Array.getElem?_eq_some_iff.1 hot).1
  have h1:=List.all_eq_true.1 h t (List.mem_range.2 htl)
  simp only [hb,Bool.not_true,Bool.false_or,Bool.and_eq_true,bne_iff_ne] at h1
  have hd:=h1.2
  have hun:=getD_both (mem_ready.1 hi).1
  obtain ⟨k,hk⟩:∃ k,ops.size=k+1:=⟨ops.size - 1,by omega⟩
  rw [hk] at hd
  simp only [J1,Bool.or_eq_true,beq_iff_eq,hot] at hd
  rcases hd with rfl | hd
  ·exact hne rfl
  ·obtain ⟨e,he,hd⟩:=Array.any_eq_true'.1 hd
   simp only [Bool.and_eq_true] at hd
   have:=Vq hinv k e.on hd.2 (hall e he hd.1)
   rw [this] at hun
   cases hun
def Hj (ops:Array Oper)(i:Nat):Bool:=match ops[i]? with
 | some o=>E2 o.op
 | none=>true
def Ox (P:Program)(M:List Nat)(ops:Array Oper)(i:Nat):Bool:=Df P ops i && !bW P M ops i&&(!Hj ops i || aQ P M ops i)
def Fv (P:Program)(M:List Nat)(ops:Array Oper):PT→Nat→Array Bool→Option (List Nat)→Bool
 | .fin,_,listed,none=>(Region.ready .any ops listed).isEmpty
 | .fin,_,_,some rem=>rem.isEmpty
 | .reg i t,fuel+1,listed,none=>Ox P M ops i&&Region.free .any ops listed i&&(Region.ready .any ops listed).contains i&&Fv P M ops t fuel (listed.setIfInBounds i true) none
 | .alt i t u,fuel+1,listed,m=>match m.getD (Region.ready .any ops listed) with
  | j :: r=>i == j&&(if bW P M ops i then Ck P true ops t fuel (listed.setIfInBounds i true) none else Fv P M ops t fuel (listed.setIfInBounds i true) none)&&Fv P M ops u (fuel+1) listed (some r)
  | []=>false
 | _,_,_,_=>false
def Rg (P:Program)(M:List Nat)(ops:Array Oper):Nat→Array Bool→PT
 | 0,_=>.fin
 | fuel+1,listed=>
  let rs:=Region.ready .any ops listed
  match rs.find? (fun i=>Ox P M ops i&&Region.free .any ops listed i) with
  | some i=>.reg i (Rg P M ops fuel (listed.setIfInBounds i true))
  | none=>rs.foldr (fun i u=>.alt i (if bW P M ops i then Ob P true ops fuel (listed.setIfInBounds i true) else Rg P M ops fuel (listed.setIfInBounds i true)) u) .fin
def Hy (P:Program)(M:List Nat)(N:Nat)(ops:Array Oper):PT→Option GT
 | .fin=>some .fin
 | .reg i t=>match Cu P N ops i,Hy P M N ops t with
  | some x,some t=>some (.reg x t)
  | _,_=>none
 | .alt i t u=>match Cu P N ops i,(if bW P M ops i then Ev P true N ops t else Hy P M N ops t),Hy P M N ops u with
  | some x,some t,some u=>some (.alt (!bW P M ops i) x t u)
  | _,_,_=>none
def M8 (P:Program)(M:List Nat)(N:Nat)(ops:Array Oper):Option GT:=
 let t:=Rg P M ops ops.size (Array.replicate ops.size false)
 if decide (((List.range ops.size).filter fun i=>!Ox P M ops i).length≤6)&&P.follows .mixedOrders&&Region.noSelect ops&&Fv P M ops t ops.size (Array.replicate ops.size false) none then Hy P M N ops t else none
section
variable {ops:Array Oper} {Q:Exit→Act→World→Prop} {M:List Nat}
theorem Mf (hsel : Region.noSelect ops = true) (hQ : ∀ c a w, ¬ Q (.panic c) a w) : ∀ (t : PT) (fuel : Nat) (listed : Array Bool) (m : Option (List Nat)) (gt : GT) {K : Frame → Heap → Prop} {g : Gh} {F : Frame} {H : Heap} {a : Act} {w : World},
    Fv P M ops t fuel listed m=true→Hy P M N ops t=some gt→Bt P m.isSome gt K F H→R N g F H a w→HeadInv .any ops ops.size listed →
    (∀ g' F' H' a' w', R N g' F' H' a' w' → Mv g H w g' H' w' → K F' H' → Q .normal a' w') →
    match m with
    | none=>Gl P ops Q (bW P M ops) (Ext w) fuel listed a w
    | some rem=>(∀ i∈rem,i∈Region.ready .any ops listed)→∀ i∈rem,wpOp P ops Q i (fun a' w' => (bW P M ops i=true∧wpAny P .any ops Q (fuel - 1) (listed.setIfInBounds i true) a' w')∨(bW P M ops i=false∧Ext w w' ∧ Gl P ops Q (bW P M ops) (Ext w) (fuel - 1) (listed.setIfInBounds i true) a' w')) a w
 | .fin,fuel,listed,m,gt,K,g,F,H,a,w,hok,hc,hE,hR,hinv,hK=>by
  simp only [Hy,Option.some.injEq] at hc
  subst hc
  cases m with
  | none=>
   have hr:Region.ready .any ops listed=[]:=by cases fuel<;>simpa [Fv] using hok
   have hq:=hK _ _ _ _ _ hR (Mv.refl hR.hp) hE
   cases fuel with
   | zero=>exact ⟨hr,hq⟩
   | succ fuel=>exact ⟨fun _=>hq,fun i hi=>(by rw [hr] at hi;cases hi)⟩
  | some rem=>
   have hr:rem=[]:=by cases fuel<;>simpa [Fv] using hok
   subst hr
   exact fun _ i hi=>(by cases hi)
 | .reg i t,0,listed,m,gt,K,g,F,H,a,w,hok,hc,hE,hR,hinv,hK=>by cases m<;>simp [Fv] at hok
 | .reg i t,fuel+1,listed,some rem,gt,K,g,F,H,a,w,hok,hc,hE,hR,hinv,hK=>by simp [Fv] at hok
 | .reg i t,fuel+1,listed,none,gt,K,g,F,H,a,w,hok,hc,hE,hR,hinv,hK=>by
  simp only [Fv,Bool.and_eq_true] at hok
  obtain ⟨⟨⟨h1,h2⟩,h3⟩,h4⟩:=hok
  simp only [Hy] at hc
  split at hc
  ·rename_i x gt' hx ht
   simp only [Option.some.injEq] at hc
   subst hc
   obtain ⟨o,ho,hop,_⟩:=Eu hx
   simp only [Ox,Bool.and_eq_true,Bool.not_eq_true', Bool.or_eq_true] at h1
   obtain ⟨⟨h11,h12⟩,h13⟩:=h1
   have hqx:B8 x.op=true:=by
    unfold Df at h11
    simp only [ho,hop] at h11
    exact h11
   have hri:i∈Region.ready .any ops listed:=by simpa using h3
   have hin:i<ops.size:=(Array.getElem?_eq_some_iff.1 ho).1
   rcases h13 with h13 | h13
   ·have hmem:E2 o.op=false:=by unfold Hj at h13;rw [ho] at h13;exact h13
    obtain ⟨av,v,hy,hR', hE'⟩:=Ni ho hx hqx hmem hE hR
    exact zM ho h12 (Region.noSelect_spec hsel) (fun c a w h=>absurd h (hQ _ _ _)) _ listed a w (Region.free_spec ho h2) hri hy (fun _ _=>rfl)
     (Mf hsel hQ t fuel _ none gt' h4 ht hE' hR' (hinv.set hri hin) hK)
   ·obtain ⟨av,v,hy,hR', hE'⟩:=Qn ho hx hqx hE hR
    exact zL ho h12 (Region.noSelect_spec hsel) (zG h13) (fun c a w h=>absurd h (hQ _ _ _)) _ listed a w hinv (Region.free_spec ho h2) hri hy (fun _ _=>rfl)
     (Mf hsel hQ t fuel _ none gt' h4 ht hE' hR' (hinv.set hri hin) hK)
  ·cases hc
 | .alt i t u,0,listed,m,gt,K,g,F,H,a,w,hok,hc,hE,hR,hinv,hK=>by cases m<;>simp [Fv] at hok
 | .alt i t u,fuel+1,listed,m,gt,K,g,F,H,a,w,hok,hc,hE,hR,hinv,hK=>by
  simp only [Fv] at hok
  split at hok
  ·rename_i j r hjr
   simp only [Bool.and_eq_true,beq_iff_eq] at hok
   obtain ⟨⟨rfl,h1⟩,h2⟩:=hok
   simp only [Hy] at hc
   split at hc
   ·rename_i x gt' gu hx ht hu
    simp only [Option.some.injEq] at hc
    subst hc
    obtain ⟨hE1,hE2⟩:=hE
    obtain ⟨o,ho,hop,_⟩:=Eu hx
    have hin:i<ops.size:=(Array.getElem?_eq_some_iff.1 ho).1
    have rest:=Mf hsel hQ u (fuel+1) listed (some r) gu h2 hu hE2 hR hinv hK
    have one:i∈Region.ready .any ops listed→wpOp P ops Q i (fun a' w' => (bW P M ops i=true∧wpAny P .any ops Q fuel (listed.setIfInBounds i true) a' w')∨(bW P M ops i=false∧Ext w w' ∧ Gl P ops Q (bW P M ops) (Ext w) fuel (listed.setIfInBounds i true) a' w')) a w:=fun hri=>by
     cases hb:bW P M ops i with
     | true=>
      rw [hb] at hE1 h1 ht
      simp only [if_true] at h1 ht
      refine Gp hx hE1 hR fun g' F' H' a' w' hR' hm hext hE' => .inl ⟨rfl,Ji (n:=0) (S:=fun _=>True) _ _ _ _ ?_⟩
      exact Me hsel hQ t fuel _ none gt' h1 ht hE' hR' fun g'' F'' H'' a'' w'' hR'' hm' hk=>hK _ _ _ _ _ hR'' (hm.trans hm') hk
     | false=>
      rw [hb] at hE1 h1 ht
      simp only [Bool.false_eq_true,if_false] at h1 ht
      refine Gp hx hE1 hR fun g' F' H' a' w' hR' hm hext hE' => .inr ⟨rfl,hext rfl,?_⟩
      refine aR (S:=Ext w') (fun u hu=>(hext rfl).trans hm.stp.size hu) _ _ _ _ ?_
      exact Mf hsel hQ t fuel _ none gt' h1 ht hE' hR' (hinv.set hri hin) fun g'' F'' H'' a'' w'' hR'' hm' hk=>hK _ _ _ _ _ hR'' (hm.trans hm') hk
    cases m with
    | none=>
     simp only [Option.getD_none] at hjr
     refine ⟨fun h0=>(by rw [hjr] at h0;cases h0),fun k hk=>?_⟩
     rw [hjr] at hk
     rcases List.mem_cons.1 hk with rfl | hk'
     ·exact one (by rw [hjr];simp)
     ·exact rest (fun q hq=>by rw [hjr];exact List.mem_cons_of_mem _ hq) k hk'
    | some rem=>
     simp only [Option.getD_some] at hjr
     subst hjr
     intro hall k hk
     rcases List.mem_cons.1 hk with rfl | hk'
     ·exact one (hall _ (by simp))
     ·exact rest (fun q hq=>hall q (List.mem_cons_of_mem _ hq)) k hk'
   ·cases hc
  ·cases hok
end
theorem uO {M : List Nat} {id : Nat} {ops : Array Oper} {gt : GT} {Q : Exit → Act → World → Prop} {K : Frame → Heap → Prop} (hc : M8 P M N ops = some gt) (hE : Bt P false gt K F H) (hR : R N g F H a w)
    (hQ:∀ c a w,¬ Q (.panic c) a w) (hK:∀ g' F' H' a' w', R N g' F' H' a' w' → Mv g H w g' H' w' → K F' H' → Q .normal a' w'):(Code.region id ops true).wp P Q a w:=by
 unfold M8 at hc
 dsimp only at hc
 split at hc
 ·rename_i hb
  simp only [Bool.and_eq_true] at hb
  obtain ⟨⟨⟨_,hm⟩,hsel⟩,hok⟩:=hb
  refine wp_region_any hm ?_
  have hR' : R N g F H a { w with drawn:=w.drawn+1 }:=Ln hR
  have hK' : ∀ g' F' H' a' w', R N g' F' H' a' w' → Mv g H { w with drawn:=w.drawn+1 } g' H' w' → K F' H' → Q .normal a' w' := fun g' F' H' a' w' hR' hm' hk=>hK _ _ _ _ _ hR' ((Ll hR.hp).trans hm') hk
  exact aV _ _ _ _ (Mf hsel hQ _ _ _ none gt hok hc hE hR' ⟨by simp,fun j oj hj hl=>(by rw [getD_replicate_false] at hl;cases hl),fun t' ht' hlt=>(by simp [hlt])⟩ hK')
 ·cases hc
end
section
variable {P:Program} {N:Nat} {g:Gh} {F:Frame} {H:Heap} {a:Act} {w:World}
def SZ (g:Gh)(w w' : World):Prop:=∀ b,g.G b→w'.heap[b]? = w.heap[b]?
theorem SZ.of_Mv {g' : Gh}{H' : Heap}{w' : World}(hp:HeapR g H w)(h:Mv g H w g' H' w'):SZ g w w' := fun b hb=>h.stp.keep b (hp.low b hb) fun ⟨o,cs,ho,hob⟩=>hp.free o cs ho b hob hb
theorem SZ.tr {g' : Gh}{H' : Heap}{w' w'' : World}(hp:HeapR g H w)(h:Mv g H w g' H' w')(k:SZ g' w' w''):SZ g w w'' := fun b hb=>(k b (h.stp.gin b hb)).trans (SZ.of_Mv hp h b hb)
def Pw (P:Program)(a:Act)(w:World)(g:Gh)(H:Heap)(o:Oper)(x:AV):Prop:=
 ∃ v,(∀ w', SZ g w w' → (execOp a.eval o).run P w' = .ok (.value v) w')∧Rd w (g.tr H) g.G x v []
theorem bK {x : AV} {v : Value} (hz : Hr x) (hr : Rd w (g.tr H) g.G x v []) {cs : List AV} {j : Nat} (h : Fk H x = some (cs, j)) :
    ∃ (b off:Nat) (u:Nat→Value),v = .pointer (some ⟨b,off+j,none⟩)∧g.G b∧(∀ m,m<cs.length→w.cell? ⟨b,off+m,none⟩=some (u m))∧∀ m (h:m<cs.length),Rd w (g.tr H) g.G cs[m] (u m) []:=by
 cases hr with
 | pto u hG hc hr=>
  simp only [Fk,Option.some.injEq,Prod.mk.injEq] at h
  obtain ⟨rfl,rfl⟩:=h
  exact ⟨_,_,u,rfl,hG,hc,hr⟩
 | _=>exact hz.elim
theorem SZ.cell {w' : World}(h:SZ g w w'){b off:Nat}(hb:g.G b):w'.cell? ⟨b,off,none⟩=w.cell? ⟨b,off,none⟩:=World.cell?_of_block (w:=w) (h b hb)
theorem zX {o : Oper} {x : Operand} {t : TypeId} {d : TypeDesc} {z : AV} (hR : R N g F H a w) (hop : o.op = .load t x) (ht : P.underlying t = some d) (hd : B7 (some d) = false) (hq : A5 (.load z (cX x)) F H) (hz : Hr (st (ax F (cX x)))) :
    Pw P a w g H o (Am (.load z (cX x)) F H):=by
 obtain ⟨h1,h2⟩:=hq
 have h3:=At hR x h1
 split at h2
 ·rename_i cs j hcs
  obtain ⟨b,off,u,hv,hb,hc,hr⟩:=bK hz h3 hcs
  rw [show Am (.load z (cX x)) F H=cs.getD j z by simp only [Am,hcs]]
  obtain ⟨hj,hpl⟩:=h2
  refine ⟨u j,fun w' hw=>?_,?_⟩
  ·have hcell:=(hw.cell (off:=off+j) hb).trans (hc j hj)
   have hagg:∀ w'', (isAgg t).run P w'' = .ok false w'' := fun w'' => by
    unfold isAgg
    rw [Cc (run_underlying ht w'')]
    cases d<;>first | rfl | (simp [B7] at hd)
   simp [execOp,hop,hv,Instr.loadAt,Instr.sureAddr,loadVar,hagg,hcell]
  ·have hj' : cs.getD j z=cs[j]:=by simp [hj]
   rw [hj']
   exact hr j hj
 ·exact h2.elim
theorem zY {o : Oper} {x : Operand} {t : TypeId} {d : TypeDesc} {i : TypeInfo} (hR : R N g F H a w) (hop : o.op = .load t x) (ht : P.underlying t = some d) (hi : P.info? t = some i) (hd : B7 (some d) = true) (hq : A5 (.loads i.size (cX x)) F H) (hz : Hr (st (ax F (cX x)))) :
    Pw P a w g H o (Am (.loads i.size (cX x)) F H):=by
 obtain ⟨v,hrun,hv⟩:=R0 hR hop ht hi hd hq
 obtain ⟨h1,h2⟩:=hq
 have h3:=At hR x h1
 split at h2
 ·rename_i cs j hcs
  obtain ⟨b,off,u,hval,hb,hc,hr⟩:=bK hz h3 hcs
  obtain ⟨hj,hpl⟩:=h2
  have hagg:∀ w'', (isAgg t).run P w'' = .ok true w'' := fun w'' => by
   unfold isAgg
   rw [Cc (run_underlying ht w'')]
   cases d<;>first | rfl | (simp [B7] at hd)
  have key:∀ w', SZ g w w' → (execOp a.eval o).run P w' = .ok (.value (.agg ((List.range i.size).map fun m=>u (j+m)).toArray)) w' := fun w' hw=>by
   have hl:=run_loadCells (P:=P) w' ⟨b,off+j,none⟩ i.size (fun m=>u (j+m)) (fun m hm=>by
    rw [Et,Nat.add_assoc,hw.cell hb]
    exact hc (j+m) (by omega))
   simp [execOp,hop,hval,Instr.loadAt,Instr.sureAddr,loadVar,hagg,sizeOf,typeInfo,hi,hl]
  have e:=(hrun w (fun _ _ _=>rfl)).symm.trans (key w fun _ _=>rfl)
  injection e with e _;injection e with e
  exact ⟨v,fun w' hw=>e ▸ key w' hw,hv⟩
 ·exact h2.elim
theorem Zq {o:Oper}{x:AOp}(hc:Ea P o=some x)(hm:E2 o.op=true)(hz:Hr (Jj x F))(hok:A5 x F H)(hR:R N g F H a w):Pw P a w g H o (Am x F H):=by
 rcases Le hc with hc | rfl
 rotate_left
 ·exact hok.elim
 obtain ⟨t,y,hop⟩:∃ t y,o.op = .load t y:=by
  unfold E2 at hm
  split at hm
  ·rename_i t y h;exact ⟨t,y,h⟩
  ·rename_i h
   unfold G8 at hc
   simp only [h] at hc
   obtain ⟨kk,k,e,i,z,h1,h2,h3,h4,rfl⟩:=E4 hc
   exact hz.elim
  ·cases hm
 unfold G8 at hc
 simp only [hop] at hc
 split at hc
 ·rename_i d i hd hi
  split at hc
  ·rename_i hagg;obtain rfl:=Option.some.inj hc;exact zY hR hop hd hi hagg hok hz
  ·rename_i hagg;obtain rfl:=Option.some.inj hc;exact zX hR hop hd (by simpa using hagg) hok hz
 ·cases hc
theorem V5 {ops : Array Oper} {i : Nat} {x : As} {o : Oper} {ext : Bool} {K : Frame → Heap → Prop} (ho : ops[i]? = some o) (hc : Cu P N ops i = some x) (hq : B8 x.op = true) (hmem : E2 o.op = true) (hz : Hr (Jj x.op F)) (hE : B5 P ext x K F H) (hR : R N g F H a w) :
    ∃ av v,YieldsIf P ops (SZ g w) o v a∧R N g (Cy F x.dst av) H (a.put o.dst v) w∧K (Cy F x.dst av) H:=by
 obtain ⟨o', ho', hop,hdst,hd,hgrd⟩:=Eu hc
 obtain rfl:o=o' := by rw [ho] at ho'; simpa using ho'
 unfold B5 at hE
 rcases hgrd with ⟨hg,hxg⟩ | ⟨j,want,s,hg,hs,hlt,hxg⟩
 ·rw [hxg] at hE
  dsimp only at hE
  rw [if_pos hq] at hE
  obtain ⟨v,hrun,hv⟩:=Zq hop hmem hz hE.1 hR
  exact ⟨_,v,.inl ⟨by simp [Region.wanted,hg],fun w' hw=>hrun w' hw⟩,by rw [hdst];exact C4 hR hd (Mv.refl hR.hp) hv,hE.2⟩
 ·rw [hxg] at hE
  dsimp only at hE
  unfold Gm at hE
  split at hE
  ·exact hE.elim
  ·rename_i gb hgb
   rw [if_pos hq] at hE
   have hw:=Pf hR hg hs hlt hgb
   cases gb with
   | false=>exact ⟨_,undef,.inr ⟨hw,rfl⟩,by rw [hdst];exact C4 hR hd (Mv.refl hR.hp) .cndF,hE.2⟩
   | true=>
    obtain ⟨v,hrun,hv⟩:=Zq hop hmem hz (hE.1 rfl) hR
    exact ⟨_,v,.inl ⟨hw,fun w' hw' => hrun w' hw'⟩,by rw [hdst];exact C4 hR hd (Mv.refl hR.hp) (.cndT hv),hE.2⟩
def Fw (P:Program)(ops:Array Oper):PT→Nat→Array Bool→Option (List Nat)→Bool
 | .fin,_,listed,none=>(Region.ready .any ops listed).isEmpty
 | .fin,_,_,some rem=>rem.isEmpty
 | .reg i t,fuel+1,listed,none=>Df P ops i&&Region.free .any ops listed i&&(Region.ready .any ops listed).contains i&&Fw P ops t fuel (listed.setIfInBounds i true) none
 | .alt i t u,fuel+1,listed,m=>match m.getD (Region.ready .any ops listed) with
  | j :: r=>i == j&&Fw P ops t fuel (listed.setIfInBounds i true) none&&Fw P ops u (fuel+1) listed (some r)
  | []=>false
 | _,_,_,_=>false
def Oc (P:Program)(ops:Array Oper):Nat→Array Bool→PT
 | 0,_=>.fin
 | fuel+1,listed=>
  let rs:=Region.ready .any ops listed
  match rs.find? (fun i=>Df P ops i&&Region.free .any ops listed i) with
  | some i=>.reg i (Oc P ops fuel (listed.setIfInBounds i true))
  | none=>rs.foldr (fun i u=>.alt i (Oc P ops fuel (listed.setIfInBounds i true)) u) .fin
def Ew (P:Program)(N:Nat)(ops:Array Oper):PT→Option GT
 | .fin=>some .fin
 | .reg i t=>match Cu P N ops i,Ew P N ops t with
  | some x,some t=>some (if Hj ops i then .regz x t else .reg x t)
  | _,_=>none
 | .alt i t u=>match Cu P N ops i,Ew P N ops t,Ew P N ops u with
  | some x,some t,some u=>some (.alt false x t u)
  | _,_,_=>none
def Lh (P:Program)(N:Nat)(ops:Array Oper):Option GT:=
 let t:=Oc P ops ops.size (Array.replicate ops.size false)
 if decide (((List.range ops.size).filter fun i=>!Df P ops i).length≤7)&&P.follows .mixedOrders&&Region.noSelect ops&&Fw P ops t ops.size (Array.replicate ops.size false) none then Ew P N ops t else none
section
variable {ops:Array Oper} {Q:Exit→Act→World→Prop} {S S' : World→Prop}
theorem aS (hS:∀ w,S w→S' w):∀ (fuel:Nat) (listed:Array Bool) (a:Act) (w:World),wpAnyH P .any ops Q S fuel listed a w→wpAnyH P .any ops Q S' fuel listed a w
 | 0,_,_,_,h=>h
 | fuel+1,_,_,_,h=>⟨h.1,fun i hi=>wpOp_mono (fun a' w' h' => ⟨hS _ h'.1,aS hS fuel _ a' w' h'.2⟩) (h.2 i hi)⟩
theorem S1 {o:Oper}{v:Value}(hS:∀ w,S' w→S w)(h:YieldsIf P ops S o v a):YieldsIf P ops S' o v a:=h.imp (fun h=>⟨h.1,fun w hw=>h.2 w (hS w hw)⟩) id
theorem Mh (hsel : Region.noSelect ops = true) (hQ : ∀ c a w, ¬ Q (.panic c) a w) : ∀ (t : PT) (fuel : Nat) (listed : Array Bool) (m : Option (List Nat)) (gt : GT) {K : Frame → Heap → Prop} {g : Gh} {F : Frame} {H : Heap} {a : Act} {w : World},
    Fw P ops t fuel listed m=true→Ew P N ops t=some gt→Bt P m.isSome gt K F H→R N g F H a w →
    (∀ g' F' H' a' w', R N g' F' H' a' w' → Mv g H w g' H' w' → K F' H' → Q .normal a' w') →
    match m with
    | none=>wpAnyH P .any ops Q (SZ g w) fuel listed a w
    | some rem=>(∀ i∈rem,i∈Region.ready .any ops listed)→∀ i∈rem,wpOp P ops Q i (fun a' w' => SZ g w w' ∧ wpAnyH P .any ops Q (SZ g w) (fuel - 1) (listed.setIfInBounds i true) a' w') a w
 | .fin,fuel,listed,m,gt,K,g,F,H,a,w,hok,hc,hE,hR,hK=>by
  simp only [Ew,Option.some.injEq] at hc
  subst hc
  cases m with
  | none=>
   have hr:Region.ready .any ops listed=[]:=by cases fuel<;>simpa [Fw] using hok
   exact wpAnyH_done hr (hK _ _ _ _ _ hR (Mv.refl hR.hp) hE) fuel
  | some rem=>
   have hr:rem=[]:=by cases fuel<;>simpa [Fw] using hok
   subst hr
   exact fun _ i hi=>(by cases hi)
 | .reg i t,0,listed,m,gt,K,g,F,H,a,w,hok,hc,hE,hR,hK=>by cases m<;>simp [Fw] at hok
 | .reg i t,fuel+1,listed,some rem,gt,K,g,F,H,a,w,hok,hc,hE,hR,hK=>by simp [Fw] at hok
 | .reg i t,fuel+1,listed,none,gt,K,g,F,H,a,w,hok,hc,hE,hR,hK=>by
  simp only [Fw,Bool.and_eq_true] at hok
  obtain ⟨⟨⟨h11,h2⟩,h3⟩,h4⟩:=hok
  simp only [Ew] at hc
  split at hc
  ·rename_i x gt' hx ht
   obtain ⟨o,ho,hop,_⟩:=Eu hx
   have hqx:B8 x.op=true:=by
    unfold Df at h11
    simp only [ho,hop] at h11
    exact h11
   have hri:i∈Region.ready .any ops listed:=by simpa using h3
   have hS:SZ g w w:=fun _ _=>rfl
   cases hmb:Hj ops i with
   | true=>
    rw [hmb] at hc
    simp only [if_true,Option.some.injEq] at hc
    subst hc
    have hmem:E2 o.op=true:=by unfold Hj at hmb;rw [ho] at hmb;exact hmb
    obtain ⟨av,v,hy,hR', hE'⟩:=V5 ho hx hqx hmem hE.1 hE.2 hR
    exact wpAnyH_first ho (Region.noSelect_spec hsel) (fun c a w h=>absurd h (hQ _ _ _)) _ listed a w (Region.free_spec ho h2) hri hy hS
     (Mh hsel hQ t fuel _ none gt' h4 ht hE' hR' hK)
   | false=>
    rw [hmb] at hc
    simp only [Bool.false_eq_true,if_false,Option.some.injEq] at hc
    subst hc
    have hmem:E2 o.op=false:=by unfold Hj at hmb;rw [ho] at hmb;exact hmb
    obtain ⟨av,v,hy,hR', hE'⟩:=Ni ho hx hqx hmem hE hR
    exact wpAnyH_first ho (Region.noSelect_spec hsel) (fun c a w h=>absurd h (hQ _ _ _)) _ listed a w (Region.free_spec ho h2) hri (S1 (fun _ _=>trivial) hy) hS
     (Mh hsel hQ t fuel _ none gt' h4 ht hE' hR' hK)
  ·cases hc
 | .alt i t u,0,listed,m,gt,K,g,F,H,a,w,hok,hc,hE,hR,hK=>by cases m<;>simp [Fw] at hok
 | .alt i t u,fuel+1,listed,m,gt,K,g,F,H,a,w,hok,hc,hE,hR,hK=>by
  simp only [Fw] at hok
  split at hok
  ·rename_i j r hjr
   simp only [Bool.and_eq_true,beq_iff_eq] at hok
   obtain ⟨⟨rfl,h1⟩,h2⟩:=hok
   simp only [Ew] at hc
   split at hc
   ·rename_i x gt' gu hx ht hu
    simp only [Option.some.injEq] at hc
    subst hc
    obtain ⟨hE1,hE2⟩:=hE
    have rest:=Mh hsel hQ u (fuel+1) listed (some r) gu h2 hu hE2 hR hK
    have one:i∈Region.ready .any ops listed→wpOp P ops Q i (fun a' w' => SZ g w w' ∧ wpAnyH P .any ops Q (SZ g w) fuel (listed.setIfInBounds i true) a' w') a w:=fun hri=>by
     refine Gp hx hE1 hR fun g' F' H' a' w' hR' hm hext hE' => ⟨SZ.of_Mv hR.hp hm,?_⟩
     refine aS (S:=SZ g' w') (fun u hu=>SZ.tr hR.hp hm hu) _ _ _ _ ?_
     exact Mh hsel hQ t fuel _ none gt' h1 ht hE' hR' fun g'' F'' H'' a'' w'' hR'' hm' hk=>hK _ _ _ _ _ hR'' (hm.trans hm') hk
    cases m with
    | none=>
     simp only [Option.getD_none] at hjr
     refine ⟨fun h0=>(by rw [hjr] at h0;cases h0),fun k hk=>?_⟩
     rw [hjr] at hk
     rcases List.mem_cons.1 hk with rfl | hk'
     ·exact one (by rw [hjr];simp)
     ·exact rest (fun q hq=>by rw [hjr];exact List.mem_cons_of_mem _ hq) k hk'
    | some rem=>
     simp only [Option.getD_some] at hjr
     subst hjr
     intro hall k hk
     rcases List.mem_cons.1 hk with rfl | hk'
     ·exact one (hall _ (by simp))
     ·exact rest (fun q hq=>hall q (List.mem_cons_of_mem _ hq)) k hk'
   ·cases hc
  ·cases hok
end
theorem uS {id : Nat} {ops : Array Oper} {gt : GT} {Q : Exit → Act → World → Prop} {K : Frame → Heap → Prop} (hc : Lh P N ops = some gt) (hE : Bt P false gt K F H) (hR : R N g F H a w)
    (hQ:∀ c a w,¬ Q (.panic c) a w) (hK:∀ g' F' H' a' w', R N g' F' H' a' w' → Mv g H w g' H' w' → K F' H' → Q .normal a' w'):(Code.region id ops true).wp P Q a w:=by
 unfold Lh at hc
 dsimp only at hc
 split at hc
 ·rename_i hb
  simp only [Bool.and_eq_true] at hb
  obtain ⟨⟨⟨_,hm⟩,hsel⟩,hok⟩:=hb
  refine wp_region_any hm ?_
  have hR' : R N g F H a { w with drawn:=w.drawn+1 }:=Ln hR
  have hK' : ∀ g' F' H' a' w', R N g' F' H' a' w' → Mv g H { w with drawn:=w.drawn+1 } g' H' w' → K F' H' → Q .normal a' w' := fun g' F' H' a' w' hR' hm' hk=>hK _ _ _ _ _ hR' ((Ll hR.hp).trans hm') hk
  exact wpAny_of_held _ _ _ _ (Mh hsel hQ _ _ _ none gt hok hc hE hR' hK')
 ·cases hc
end
section
variable {P:Program} {N:Nat} {g:Gh} {F:Frame} {H:Heap} {a:Act} {w:World}
theorem Cq {o:Nat}{d:Option A2}(h:g.tr H o=some d):o<H.length:=by
 rcases Nat.lt_or_ge o H.length with h' | h'
 ·exact h'
 ·unfold Gh.tr at h;rw [List.getElem?_eq_none h'] at h;cases h
theorem Np {g : Gh} {H : Heap} {w : World} (hp : HeapR g H w) : ∀ (d : Nat) (x : AV) (v : Value) (bs : List Nat), Rd w (g.tr H) g.G x v bs → (∀ b ∈ bs, g.owns H b) →
    Rd w (fun _=>none) (fun b=>g.G b∨g.owns H b) (Ai H d x) v []:=by
 intro d
 induction d with
 | zero=>intro x v bs _ _;exact .any
 | succ d ih=>
  intro x v bs h hbs
  cases h with
  | any=>exact .any
  | val=>exact .val
  | cndF=>exact .cndF
  | cndT h=>simp only [Ai];exact .cndT (ih _ _ _ h (by simp))
  | idn h=>simp only [Ai];exact .idn (ih _ _ _ h (by simp))
  | slc u hl hn hm hG hc hr=>
   simp only [Ai]
   exact .slc u (by simpa using hl) hn hm (.inl hG) (fun m hm' => hc m (by simpa using hm')) (fun m hm' => by simp only [List.getElem_map];exact ih _ _ _ (hr m (by simpa using hm')) (by simp))
  | slc0 hm=>simp only [Ai,List.map_nil];exact .slc0 hm
  | pto u hG hc hr=>
   simp only [Ai]
   exact .pto u (.inl hG) (fun m hm' => hc m (by simpa using hm')) (fun m hm' => by simp only [List.getElem_map];exact ih _ _ _ (hr m (by simpa using hm')) (by simp))
  | sl h00 hv0 h=>
   rename_i o k off len
   simp only [Ai]
   split
   ·rename_i cs hcs
    obtain ⟨h0,h1⟩:=h _ (Gh.tr_some (g:=g) hcs)
    have h2:=hp.obj o cs hcs
    dsimp only at h0 h1
    cases hl:g.ρ o with
    | none=>
     rw [hl] at h1 h2
     obtain ⟨rfl,a,rfl⟩:=h1
     simp only [Nat.zero_mul,List.take_zero,List.map_nil]
     exact .slc0 (by unfold maxLen;omega)
    | some l=>
     obtain ⟨b,base,sz⟩:=l
     rw [hl] at h1 h2
     obtain ⟨cap,h3,h4,h5,h6⟩:=h1
     obtain ⟨arr,elem,u,bss,hb,hsz,hcl,hc,hr,hob⟩:=h2.cells (by omega)
     have hlen:((cs.drop off).take (len*k)).length=len*k:=by
      rw [List.length_take,List.length_drop];omega
     ·rcases h6 with rfl | ⟨rfl,a,rfl⟩
      ·refine .slc (fun m=>u (off+m)) (by simpa using hlen) h3 h4 (.inr ⟨o,cs,hcs,by rw [hob];simp⟩) (fun m hm=>?_) (fun m hm=>?_)
       ·simp only [List.length_map,List.length_take,List.length_drop] at hm
        have:=hc (off+m) (by omega)
        simp only [World.cell?,hb]
        simpa [Nat.add_assoc] using this
       ·simp only [List.length_map,List.length_take,List.length_drop] at hm
        simp only [List.getElem_map,List.getElem_take,List.getElem_drop]
        refine ih _ _ _ (hr (off+m) (by omega)) fun b' hb' => ⟨o,cs,hcs,?_⟩
        rw [hob]
        exact List.mem_cons_of_mem _ (List.mem_flatMap.2 ⟨off+m,List.mem_range.2 (by omega),hb'⟩)
      ·have:len=0:=by omega
       subst this
       simp only [Nat.zero_mul,List.take_zero,List.map_nil]
       exact .slc0 (by unfold maxLen;omega)
   ·exact .any
  | ref h00 hv0 h=>
   rename_i o j
   simp only [Ai]
   split
   ·rename_i cs hcs
    have h1:=h _ (Gh.tr_some (g:=g) hcs)
    have h2:=hp.obj o cs hcs
    dsimp only at h1
    cases hl:g.ρ o with
    | none=>rw [hl] at h1;exact h1.elim
    | some l=>
     obtain ⟨b,base,sz⟩:=l
     rw [hl] at h1 h2
     obtain ⟨rfl,hle⟩:=h1
     obtain ⟨arr,elem,u,bss,hb,hsz,hcl,hc,hr,hob⟩:=h2.cells hle
     refine .pto u (.inr ⟨o,cs,hcs,by rw [hob];simp⟩) (fun m hm=>?_) (fun m hm=>?_)
     ·simp only [List.length_map] at hm
      have:=hc m hm
      simp only [World.cell?,hb]
      simpa using this
     ·simp only [List.length_map] at hm
      simp only [List.getElem_map]
      refine ih _ _ _ (hr m hm) fun b' hb' => ⟨o,cs,hcs,?_⟩
      rw [hob]
      exact List.mem_cons_of_mem _ (List.mem_flatMap.2 ⟨m,List.mem_range.2 hm,hb'⟩)
   ·exact .any
  | osl u bss hl hn hm hb hs hc hr=>
   simp only [Ai]
   refine .slc u (by simpa using hl) hn hm (.inr (hbs _ (by simp))) (fun m hm' => ?_) (fun m hm' => ?_)
   ·simp only [List.length_map] at hm'
    simp only [World.cell?,hb]
    simpa using hc m hm'
   ·simp only [List.length_map] at hm'
    simp only [List.getElem_map]
    refine ih _ _ _ (hr m hm') fun b' hb' => hbs b' ?_
    exact List.mem_cons_of_mem _ (List.mem_flatMap.2 ⟨m,List.mem_range.2 hm', hb'⟩)
  | osl0=>simp only [Ai,List.map_nil];exact .slc0 (by unfold maxLen;omega)
  | agg hl hr=>simp only [Ai];exact .agg (by simpa using hl) (fun m hm=>by simp only [List.getElem_map];exact ih _ _ _ (hr m (by simpa using hm)) (by simp))
  | tup hl hr=>simp only [Ai];exact .tup (by simpa using hl) (fun m hm=>by simp only [List.getElem_map];exact ih _ _ _ (hr m (by simpa using hm)) (by simp))
  | clo hf hrf hl hr=>simp only [Ai];exact .clo (by simpa using hf) (fun m hm=>by simp only [List.getElem_map];exact ih _ _ _ (hrf m (by simpa using hm)) (by simp)) (by simpa using hl) (fun m hm=>by simp only [List.getElem_map];exact ih _ _ _ (hr m (by simpa using hm)) (by simp))
  | mp h00 hv0 h=>
   rename_i o
   simp only [Ai]
   split
   ·rename_i cs hcs
    obtain ⟨r,hl,hv⟩:=(h _ (Gh.tr_some (g:=g) hcs)).inv
    dsimp only at hl
    subst hv
    obtain ⟨u,bss,⟨es,clock,hb,_,hu⟩,hr,hob⟩:=(hl ▸ hp.obj o _ hcs:ObjR w (g.tr H) g.G _ (g.ob o) (some (r,1,0))).map
    have h0:=hr 0 (by simp)
    rw [hu] at h0
    simp only [List.getElem_cons_zero] at h0
    have hob' : g.ob o=r :: bss 0:=by rw [hob];simp [List.range_succ]
    generalize bss 0=bs0 at h0 hob'
    cases h0 with
    | mpc bss' hbs' hl' hr' =>
     refine .mpz (.inr ⟨o,_,hcs,by rw [hob'];simp⟩) hb (by simpa using hl') (fun m hm=>?_)
     simp only [List.length_map] at hm
     simp only [List.getElem_map]
     refine ih _ _ _ (hr' m hm) fun b' hb' => ⟨o,_,hcs,?_⟩
     rw [hob', hbs']
     exact List.mem_cons_of_mem _ (List.mem_flatMap.2 ⟨m,List.mem_range.2 hm,hb'⟩)
   ·exact .any
  | it h00 hv0 h=>exact .any
  | mpz hG hc hl hr=>
   simp only [Ai]
   exact .mpz (.inl hG) hc (by simpa using hl) (fun m hm=>by simp only [List.getElem_map];exact ih _ _ _ (hr m (by simpa using hm)) (by simp))
  | mpc bss hbs' hl hr=>
   simp only [Ai]
   exact .mpc (fun _=>[]) (by simp) (by simpa using hl) (fun m hm=>by
    simp only [List.length_map] at hm
    simp only [List.getElem_map]
    exact ih _ _ _ (hr m hm) fun b' hb' => hbs b' (hbs' ▸ List.mem_flatMap.2 ⟨m,List.mem_range.2 hm,hb'⟩))
  | oag bss hbs' hl hr=>
   simp only [Ai]
   exact .agg (by simpa using hl) (fun m hm=>by
    simp only [List.length_map] at hm
    simp only [List.getElem_map]
    exact ih _ _ _ (hr m hm) fun b' hb' => hbs b' (hbs' ▸ List.mem_flatMap.2 ⟨m,List.mem_range.2 hm,hb'⟩))
  | ent h=>simp only [Ai];exact .ent (ih _ _ _ h hbs)
theorem Iu {o:Nat}{cs:List AV}(h:(Dj H)[o]? = some (some cs)):False:=by simp [Dj] at h
theorem Vn {g g' : Gh}{o:Nat}{d:Option A2}(h:g.tr H o=some d):g'.tr (Dj H) o=some none:=by
 have hl:=Cq h
 simp [Gh.tr,Dj,hl]
theorem Qi (hp:HeapR g H w):Mv g H w ⟨g.ρ,g.ob,fun b=>g.G b∨g.owns H b⟩ (Dj H) w:=
 ⟨⟨fun o cs h=>(Iu h).elim,fun o cs h=>(Iu h).elim,fun o o' cs cs' h=>(Iu h).elim,fun o cs h=>(Iu h).elim,fun b hb=>hb.elim (hp.low b) fun ⟨o,cs,ho,h1⟩=>(hp.obj o cs ho).all_lt b h1⟩,
  ⟨rfl,⟨rfl,Nat.le_refl _⟩,rfl,Nat.le_refl _,fun _ _ _=>rfl,fun b ⟨o,cs,ho,_⟩=>(Iu ho).elim,fun _ h=>.inl h,fun _ h=>h.elim .inl fun h=>.inr (.inl h),fun _ _=>rfl⟩,
  fun x v h=>Rd.mono (fun _ h=>.inl h) (fun _ _=>rfl) (fun _ _ h=>.inr (Vn h)) h (by simp),
  fun o d h=>.inr (Vn h)⟩
theorem Wh (H:Heap):∀ (F:Frame) (j:Nat),Ac (Iy H F) j=Ai H 6 (Ac F j)∨Ac (Iy H F) j = .any
 | [],_=>.inr rfl
 | (i,x) :: l,j=>by
  simp only [Iy,List.map_cons,C1]
  by_cases e:i=j
  ·rw [if_pos e,if_pos e];exact .inl rfl
  ·rw [if_neg e,if_neg e];exact Wh H l j
theorem iL (hR:R N g F H a w):R N ⟨g.ρ,g.ob,fun b=>g.G b∨g.owns H b⟩ (Iy H F) (Dj H) a w:=by
 refine ⟨fun j=>?_,(Qi hR.hp).hp,hR.size,hR.defers⟩
 have h1:=Np hR.hp 6 _ _ [] (hR.fr j) (by simp)
 have h2:Rd w ((⟨g.ρ,g.ob,fun b=>g.G b∨g.owns H b⟩:Gh).tr (Dj H)) (fun b=>g.G b∨g.owns H b) (Ai H 6 (Ac F j)) (a.tmps.getD j undef) []:=
  h1.mono (fun _ h=>h) (fun _ _=>rfl) (fun _ _ h=>by cases h) (by simp)
 rcases Wh H F j with e2 | e2
 ·rw [e2];exact h2
 ·rw [e2];exact .any
theorem jC {n d:Nat}{x:AV}(h:Gr x=true)(hn:Cx n d x=true):False:=by
 cases d with
 | zero=>cases hn
 | succ d=>
  cases x with
  | gho b zs=>cases hn
  | _=>cases h
theorem nS {w : World} {tr tr' : Nat → Option (Option A2)} {G G' : Nat → Prop} {n : Nat} (ht : ∀ o d, n ≤ o → tr o = some d → tr' o = some d ∨ tr' o = some none) :
    ∀ (d:Nat) (x:AV) (v:Value) (bs:List Nat),Cx n d x=true→Rd w tr G x v bs→Rd w tr' G' x v bs:=by
 intro d
 induction d with
 | zero=>intro x v bs h;cases x<;>cases h
 | succ d ih=>
  intro x v bs hn h
  have sm:∀ {o:Nat},n≤o→(tr o).isSome=true→(tr' o).isSome=true:=fun ho h0=>by
   obtain ⟨d,hd⟩:=Option.isSome_iff_exists.1 h0
   rcases ht _ d ho hd with h | h<;>simp [h]
  have bk:∀ {o:Nat} {l:A2},n≤o→(tr o).isSome=true→tr' o=some (some l)→tr o=some (some l):=fun ho h0 h=>by
   obtain ⟨d,hd⟩:=Option.isSome_iff_exists.1 h0
   rcases ht _ d ho hd with h' | h'
   ·rw [hd,← h', h]
   ·rw [h'] at h;cases h
  cases h with
  | any=>exact .any
  | val=>exact .val
  | cndF=>exact .cndF
  | cndT h=>simp only [Cx] at hn;exact .cndT (ih _ _ _ hn h)
  | sl h0 hv h=>
   simp only [Cx,decide_eq_true_eq] at hn
   exact .sl (sm hn h0) hv fun l hl=>h l (bk hn h0 hl)
  | ref h0 hv h=>
   simp only [Cx,decide_eq_true_eq] at hn
   exact .ref (sm hn h0) hv fun l hl=>h l (bk hn h0 hl)
  | osl u bss hl hn' hm hb hs hc hr=>
   simp only [Cx,List.all_eq_true] at hn
   exact .osl u bss hl hn' hm hb hs hc fun m h=>ih _ _ _ (hn _ (List.getElem_mem h)) (hr m h)
  | osl0=>exact .osl0
  | agg hl hr=>
   simp only [Cx,List.all_eq_true] at hn
   exact .agg hl fun m h=>ih _ _ _ (hn _ (List.getElem_mem h)) (hr m h)
  | tup hl hr=>
   simp only [Cx,List.all_eq_true] at hn
   exact .tup hl fun m h=>ih _ _ _ (hn _ (List.getElem_mem h)) (hr m h)
  | _=>simp [Cx] at hn
theorem V9 {F F' : Frame}{n:Nat}:∀ (ds:List Nat) (j:Nat),(j∈ds∧Ac (Jd n F F' ds) j=O7 n (Ac F' j))∨(j∉ds∧Ac (Jd n F F' ds) j=Ac F j)
 | [],j=>.inr ⟨by simp,rfl⟩
 | d :: ds,j=>by
  simp only [Jd,List.map_cons,List.cons_append,C1]
  by_cases e:d=j
  ·subst e;rw [if_pos rfl];exact .inl ⟨by simp,rfl⟩
  ·rw [if_neg e]
   rcases V9 ds j with ⟨h1,h2⟩ | ⟨h1,h2⟩
   ·exact .inl ⟨List.mem_cons_of_mem _ h1,h2⟩
   ·exact .inr ⟨fun h=>(List.mem_cons.1 h).elim (fun h=>e h.symm) h1,h2⟩
theorem yA {g' : Gh} {F' : Frame} {H' : Heap} {a' : Act} {w' : World} {ds : List Nat} (hR : R N g F H a w) (hR' : R N g' F' H' a' w') (hm : Mv ⟨g.ρ, g.ob, fun b => g.G b ∨ g.owns H b⟩ (Dj H) w g' H' w')
    (hag:∀ j,j∉ds→a'.tmps.getD j undef=a.tmps.getD j undef):∃ g'', R N g'' (Jd H.length F F' ds) (Co H H') a' w' ∧ Mv g H w g'' (Co H H') w' := by
 have hp:=hR.hp
 have hp' := hR'.hp
 have hlen:H.length≤H'.length:=by
  rcases Nat.eq_zero_or_pos H.length with h | h
  ·omega
  ·have h1 : (⟨g.ρ, g.ob, fun b => g.G b ∨ g.owns H b⟩ : Gh).tr (Dj H) (H.length - 1) = some none := by
     have:H.length - 1<H.length:=by omega
     simp [Gh.tr,Dj,this]
   rcases hm.trk _ _ h1 with h2 | h2<;>(have:=Cq h2;omega)
 have hkeep:∀ b,b<w.heap.size→w'.heap[b]? = w.heap[b]?:=fun b hb=>hm.stp.keep b hb fun ⟨o,cs,ho,_⟩=>Iu ho
 have hnew:∀ o cs,H'[o]? = some (some cs)→∀ b∈g'.ob o,w.heap.size≤b:=fun o cs ho b hb=>(hm.stp.own b ⟨o,cs,ho,hb⟩).elim (fun ⟨o,cs,ho,_⟩=>(Iu ho).elim) id
 have hlo:∀ b,g.G b→b<w.heap.size:=hp.low
 have hol:∀ o cs,H[o]? = some (some cs)→∀ b∈g.ob o,b<w.heap.size:=fun o cs ho=>(hp.obj o cs ho).all_lt
 have hgl:∀ o,o<H.length→(Co H H')[o]? = H[o]?:=fun o ho=>by unfold Co;rw [List.getElem?_append_left ho]
 have hgr:∀ o,H.length≤o→∀ cs,(Co H H')[o]? = some (some cs)→H'[o]? = some (some cs)∧∀ x∈cs,Cx H.length 6 x=true:=fun o ho cs h=>by
  unfold Co at h
  rw [List.getElem?_append_right ho,List.getElem?_map,List.getElem?_drop,Option.map_eq_some_iff] at h
  obtain ⟨c,h1,h2⟩:=h
  rw [show H.length+(o - H.length)=o by omega] at h1
  cases c with
  | none=>simp [Ii] at h2
  | some cs' =>
   simp only [Ii] at h2
   split at h2
   ·rename_i hall
    cases h2
    exact ⟨h1,fun x hx=>List.all_eq_true.1 hall x hx⟩
   ·cases h2
 have hcase:∀ o cs,(Co H H')[o]? = some (some cs)→(o<H.length∧H[o]? = some (some cs))∨(H.length≤o∧H'[o]? = some (some cs)∧∀ x∈cs,Cx H.length 6 x=true):=fun o cs h=>by
  rcases Nat.lt_or_ge o H.length with h1 | h1
  ·exact .inl ⟨h1,(hgl o h1).symm.trans h⟩
  ·exact .inr ⟨h1,hgr o h1 cs h⟩
 let g2:Gh:=⟨fun o=>if o<H.length then g.ρ o else g'.ρ o,fun o=>if o<H.length then g.ob o else g'.ob o,g.G⟩
 have htrO:∀ o d,g.tr H o=some d→g2.tr (Co H H') o=some d:=fun o d h=>by
  have ho:=Cq h
  unfold Gh.tr at *
  rw [hgl o ho]
  cases e:H[o]? with
  | none=>rw [e] at h;cases h
  | some c=>
   rw [e] at h
   cases c with
   | none=>exact h
   | some cs=>simpa [g2,ho] using h
 have htrN:∀ o d,H.length≤o→g'.tr H' o=some d→g2.tr (Co H H') o=some d∨g2.tr (Co H H') o=some none:=fun o d ho h=>by
  have hl:=Cq h
  have hg:(Co H H')[o]? = some (Ii H.length (H'.getD o none)):=by
   unfold Co
   rw [List.getElem?_append_right ho,List.getElem?_map,List.getElem?_drop,show H.length+(o - H.length)=o by omega]
   simp [hl]
  unfold Gh.tr at *
  rw [hg]
  have e:H'[o]? = some (H'.getD o none):=by simp [hl]
  rw [e] at h
  generalize H'.getD o none=c at *
  cases c with
  | none=>right;simp [Ii]
  | some cs=>
   by_cases hall:cs.all (Cx H.length 6)=true
   ·left
    have:¬ o<H.length:=by omega
    simpa [g2,this,Ii,hall] using h
   ·right
    simp only [Ii,hall]
    rfl
 have lift:∀ x v,Rd w (g.tr H) g.G x v []→Rd w' (g2.tr (Co H H')) g.G x v []:=fun x v h=>
  h.mono (fun _ h=>h) (fun b hb=>hkeep b (hlo b hb)) (fun o d hd=>.inl (htrO o d hd)) (by simp)
 have newR:∀ x v bs,Cx H.length 6 x=true→Rd w' (g'.tr H') g'.G x v bs→Rd w' (g2.tr (Co H H')) g.G x v bs:=fun x v bs h hr=>nS htrN 6 x v bs h hr
 have hob:∀ o cs,(Co H H')[o]? = some (some cs)→∀ b∈g2.ob o,(o<H.length∧H[o]? = some (some cs)∧b∈g.ob o)∨(H.length≤o∧H'[o]? = some (some cs)∧b∈g'.ob o):=fun o cs h b hb=>by
  rcases hcase o cs h with ⟨h1,h2⟩ | ⟨h1,h2,h3⟩
  ·exact .inl ⟨h1,h2,by simpa [g2,h1] using hb⟩
  ·have:¬ o<H.length:=by omega
   exact .inr ⟨h1,h2,by simpa [g2,this] using hb⟩
 have hp2:HeapR g2 (Co H H') w' := by
  refine ⟨fun o cs h=>?_,fun o cs h=>?_,fun o o' cs cs' h h' ho b hb hb' => ?_,fun o cs h b hb hG=>?_,fun b hb=>Nat.lt_of_lt_of_le (hlo b hb) hm.stp.size⟩
  ·rcases hcase o cs h with ⟨h1,h2⟩ | ⟨h1,h2,h3⟩
   ·have:=(hp.obj o cs h2).mono (w' := w') (tr' := g2.tr (Co H H')) (fun _ h=>h) (fun b hb=>hkeep b (hlo b hb)) (fun o d hd=>.inl (htrO o d hd)) (fun b hb=>hkeep b (hol o cs h2 b hb))
    simpa [g2,h1] using this
   ·have:=(hp'.obj o cs h2).tell (w' := w') (tr' := g2.tr (Co H H')) (G' := g.G) id (fun _ _=>rfl) (fun x hx v bs' _ hr=>newR x v bs' (h3 x hx) hr) (fun _ ⟨x,hx,hg⟩=>(jC hg (h3 x hx)).elim)
    have hno:¬ o<H.length:=by omega
    simpa [g2,hno] using this
  ·rcases hcase o cs h with ⟨h1,h2⟩ | ⟨h1,h2,h3⟩
   ·simpa [g2,h1] using hp.nodup o cs h2
   ·have hno:¬ o<H.length:=by omega
    simpa [g2,hno] using hp'.nodup o cs h2
  ·rcases hob o cs h b hb with ⟨h1,h2,h3⟩ | ⟨h1,h2,h3⟩<;>rcases hob o' cs' h' b hb' with ⟨k1,k2,k3⟩ | ⟨k1,k2,k3⟩
   ·exact hp.apart o o' cs cs' h2 k2 ho b h3 k3
   ·have:=hol o cs h2 b h3;have:=hnew o' cs' k2 b k3;omega
   ·have:=hol o' cs' k2 b k3;have:=hnew o cs h2 b h3;omega
   ·exact hp'.apart o o' cs cs' h2 k2 ho b h3 k3
  ·rcases hob o cs h b hb with ⟨h1,h2,h3⟩ | ⟨h1,h2,h3⟩
   ·exact hp.free o cs h2 b h3 hG
   ·have:=hlo b hG;have:=hnew o cs h2 b h3;omega
 refine ⟨g2,⟨fun j=>?_,hp2,hR'.size,hR'.defers⟩,hp2,⟨hm.stp.os,hm.stp.tape,hm.stp.output,hm.stp.size,fun b hb _=>hkeep b hb,fun b ⟨o,cs,ho,hb⟩=>?_,fun _ h=>h,fun _ h=>.inl h,hm.stp.fz⟩,lift,fun o d hd=>.inl (htrO o d hd)⟩
 ·rcases V9 (F:=F) (F' := F') (n:=H.length) ds j with ⟨_,e⟩ | ⟨h1,e⟩
  ·rw [e]
   unfold O7
   split
   ·rename_i hn;exact newR _ _ _ hn (hR'.fr j)
   ·exact .any
  ·rw [e,hag j h1]
   exact lift _ _ (hR.fr j)
 ·rcases hob o cs ho b hb with ⟨h1,h2,h3⟩ | ⟨h1,h2,h3⟩
  ·exact .inl ⟨o,cs,h2,h3⟩
  ·exact .inr (hnew o cs h2 b h3)
/-! ### Orders whose last operation Pq -/
def Nd (ops:Array Oper):List Nat:=ops.toList.filterMap (·.dst)
def Agree (ops:Array Oper)(a a' : Act):Prop:=∀ j,j∉Nd ops→a'.tmps.getD j undef=a.tmps.getD j undef
theorem Agree.refl {ops:Array Oper}:Agree ops a a:=fun _ _=>rfl
theorem Agree.trans {ops:Array Oper}{a' a'' : Act}(h:Agree ops a a')(k:Agree ops a' a''):Agree ops a a'' := fun j hj=>(k j hj).trans (h j hj)
theorem Agree.put {ops:Array Oper}{i:Nat}{o:Oper}(ho:ops[i]? = some o)(v:Value):Agree ops a (a.put o.dst v):=fun j hj=>by
 unfold Act.put
 cases hd:o.dst with
 | none=>rfl
 | some d=>
  have hm:d∈Nd ops:=List.mem_filterMap.2 ⟨o,by
   obtain ⟨h1,h2⟩:=Array.getElem?_eq_some_iff.1 ho
   rw [← h2];simp,hd⟩
  have hne:d≠j:=fun e=>hj (e ▸ hm)
  simp only
  rw [Array.getD_eq_getD_getElem?,Array.getD_eq_getD_getElem?,Array.getElem?_setIfInBounds_ne hne]
section
variable {ops:Array Oper} {Q:Exit→Act→World→Prop} {S:World→Prop} {n:Nat}
theorem zN {i:Nat}{K:Act→World→Prop}(hh:wpOp P ops Q i K a w):wpOp P ops Q i (fun a' w' => K a' w' ∧ Agree ops a a') a w:=by
 unfold wpOp at *
 split
 ·rename_i ho;simp only [ho] at hh;exact ⟨hh,.refl⟩
 ·rename_i o ho
  simp only [ho] at hh
  split
  ·rename_i hw
   rw [if_pos hw] at hh
   refine hh.imp (fun hh=>?_) id
   unfold Oper.wp at *
   generalize (execOp a.eval o).run P w=r at *
   cases r with
   | ok n w' =>
    cases n<;>simp only [Oper.upon] at hh ⊢ <;>
     first
      | exact ⟨hh,.put ho _⟩
      | exact ⟨hh,fun j hj=>.put (a:={ a with defers:=_ }) ho _ j hj⟩
      | exact Calls.mono hh (fun e w'' he=>by cases e<;>first | exact ⟨he,.put ho _⟩ | exact he)
      | exact Rows.mono hh (fun _ _ he=>⟨he,.put ho _⟩)
   | halt x w' => cases x<;>simp only [Oper.upon] at hh ⊢ <;> exact hh
  ·rename_i hw
   rw [if_neg hw] at hh
   exact ⟨hh,.put ho _⟩
def E6 (P:Program)(ops:Array Oper)(n:Nat):PT→Nat→Array Bool→Option (List Nat)→Bool
 | .fin,fuel+1,listed,none=>Region.ready .any ops listed == [n]&&(Region.ready .any ops (listed.setIfInBounds n true)).isEmpty
 | .fin,_,_,some rem=>rem.isEmpty
 | .reg i t,fuel+1,listed,none=>decide (i<n)&&(Df P ops i&&Region.free .any ops listed i&&(Region.ready .any ops listed).contains i&&E6 P ops n t fuel (listed.setIfInBounds i true) none)
 | .alt i t u,fuel+1,listed,m=>match m.getD (Region.ready .any ops listed) with
  | j :: r=>decide (i<n)&&(i == j&&E6 P ops n t fuel (listed.setIfInBounds i true) none&&E6 P ops n u (fuel+1) listed (some r))
  | []=>false
 | _,_,_,_=>false
def zO (P:Program)(ops:Array Oper)(i:Nat):Bool:=match ops[i]? with
 | some o=>match Ea P o with
  | some x=>Pq [] x
  | none=>false
 | none=>false
def Na (P:Program)(N:Nat)(ops:Array Oper):Option GT:=
 let t:=Oc P ops (ops.size - 1) (Array.replicate ops.size false)
 if decide (((List.range ops.size).filter fun i=>!Df P ops i).length≤8)&&zO P ops (ops.size - 1)&&(decide (ops.size - 1<ops.size)&&P.follows .mixedOrders&&Region.noSelect ops&&Region.sinkB .any ops (ops.size - 1)&&Region.chainB .any ops (ops.size - 1)&&E6 P ops (ops.size - 1) t ops.size (Array.replicate ops.size false) none) then
  match Ew P N ops t,Cu P N ops (ops.size - 1) with
  | some gt,some x=>some (.thw gt (Nd ops) x)
  | _,_=>none
 else none
theorem Mg (hsel : Region.noSelect ops = true) (hQ : ∀ c a w, ¬ Q (.panic c) a w) (hT : ∀ i, i < n → ∀ listed, HeadInv .any ops n listed → listed.getD i true = false → ∀ t, n ≤ t → t ∉ Region.ready .any ops listed) :
    ∀ (t:PT) (fuel:Nat) (listed:Array Bool) (m:Option (List Nat)) (gt:GT) {K:Frame→Heap→Prop} {g:Gh} {F:Frame} {H:Heap} {a:Act} {w:World},
    E6 P ops n t fuel listed m=true→Ew P N ops t=some gt→Bt P m.isSome gt K F H→R N g F H a w→HeadInv .any ops n listed →
    (∀ g' F' H' a' w', R N g' F' H' a' w' → Mv g H w g' H' w' → Agree ops a a' → K F' H' → wpOp P ops Q n (Q .normal) a' w') →
    match m with
    | none=>Cz P ops Q n (SZ g w) fuel listed a w
    | some rem=>(∀ i∈rem,i∈Region.ready .any ops listed)→∀ i∈rem,wpOp P ops Q i (fun a' w' => (n≤i∨SZ g w w')∧Cz P ops Q n (SZ g w) (fuel - 1) (listed.setIfInBounds i true) a' w') a w
 | .fin,fuel,listed,m,gt,K,g,F,H,a,w,hok,hc,hE,hR,hinv,hK=>by
  simp only [Ew,Option.some.injEq] at hc
  subst hc
  cases m with
  | none=>
   cases fuel with
   | zero=>simp [E6] at hok
   | succ fuel=>
    simp only [E6,Bool.and_eq_true,beq_iff_eq,List.isEmpty_iff] at hok
    obtain ⟨h1,h2⟩:=hok
    refine ⟨fun h0=>(by rw [h1] at h0;cases h0),fun i hi=>?_⟩
    obtain rfl:i=n:=by rw [h1] at hi;simpa using hi
    refine wpOp_mono (fun a' w' h=>⟨.inl (Nat.le_refl _),?_⟩) (hK _ _ _ _ _ hR (Mv.refl hR.hp) .refl hE)
    cases fuel with
    | zero=>exact ⟨h2,h⟩
    | succ fuel=>exact ⟨fun _=>h,fun i hi=>(by rw [h2] at hi;cases hi)⟩
  | some rem=>
   have hr:rem=[]:=by cases fuel<;>simpa [E6] using hok
   subst hr
   exact fun _ i hi=>(by cases hi)
 | .reg i t,0,listed,m,gt,K,g,F,H,a,w,hok,hc,hE,hR,hinv,hK=>by cases m<;>simp [E6] at hok
 | .reg i t,fuel+1,listed,some rem,gt,K,g,F,H,a,w,hok,hc,hE,hR,hinv,hK=>by simp [E6] at hok
 | .reg i t,fuel+1,listed,none,gt,K,g,F,H,a,w,hok,hc,hE,hR,hinv,hK=>by
  simp only [E6,Bool.and_eq_true,decide_eq_true_eq] at hok
  obtain ⟨hin,⟨⟨h11,h2⟩,h3⟩,h4⟩:=hok
  simp only [Ew] at hc
  split at hc
  ·rename_i x gt' hx ht
   obtain ⟨o,ho,hop,_⟩:=Eu hx
   have hqx:B8 x.op=true:=by
    unfold Df at h11
    simp only [ho,hop] at h11
    exact h11
   have hri:i∈Region.ready .any ops listed:=by simpa using h3
   have hS:SZ g w w:=fun _ _=>rfl
   cases hmb:Hj ops i with
   | true=>
    rw [hmb] at hc
    simp only [if_true,Option.some.injEq] at hc
    subst hc
    have hmem:E2 o.op=true:=by unfold Hj at hmb;rw [ho] at hmb;exact hmb
    obtain ⟨av,v,hy,hR', hE'⟩:=V5 ho hx hqx hmem hE.1 hE.2 hR
    exact Pn ho hin (Region.noSelect_spec hsel) (hT i hin) (fun c a w h=>absurd h (hQ _ _ _)) _ listed a w hinv (Region.free_spec ho h2) hri hy hS
     (Mg hsel hQ hT t fuel _ none gt' h4 ht hE' hR' (hinv.set hri hin) fun g' F' H' a' w' hR' hm hag hk=>hK g' F' H' a' w' hR' hm ((Agree.put ho v).trans hag) hk)
   | false=>
    rw [hmb] at hc
    simp only [Bool.false_eq_true,if_false,Option.some.injEq] at hc
    subst hc
    have hmem:E2 o.op=false:=by unfold Hj at hmb;rw [ho] at hmb;exact hmb
    obtain ⟨av,v,hy,hR', hE'⟩:=Ni ho hx hqx hmem hE hR
    exact Pn ho hin (Region.noSelect_spec hsel) (hT i hin) (fun c a w h=>absurd h (hQ _ _ _)) _ listed a w hinv (Region.free_spec ho h2) hri (S1 (fun _ _=>trivial) hy) hS
     (Mg hsel hQ hT t fuel _ none gt' h4 ht hE' hR' (hinv.set hri hin) fun g' F' H' a' w' hR' hm hag hk=>hK g' F' H' a' w' hR' hm ((Agree.put ho v).trans hag) hk)
  ·cases hc
 | .alt i t u,0,listed,m,gt,K,g,F,H,a,w,hok,hc,hE,hR,hinv,hK=>by cases m<;>simp [E6] at hok
 | .alt i t u,fuel+1,listed,m,gt,K,g,F,H,a,w,hok,hc,hE,hR,hinv,hK=>by
  simp only [E6] at hok
  split at hok
  ·rename_i j r hjr
   simp only [Bool.and_eq_true,beq_iff_eq,decide_eq_true_eq] at hok
   obtain ⟨hin,⟨rfl,h1⟩,h2⟩:=hok
   simp only [Ew] at hc
   split at hc
   ·rename_i x gt' gu hx ht hu
    simp only [Option.some.injEq] at hc
    subst hc
    obtain ⟨hE1,hE2⟩:=hE
    have rest:=Mg hsel hQ hT u (fuel+1) listed (some r) gu h2 hu hE2 hR hinv hK
    have one:i∈Region.ready .any ops listed→wpOp P ops Q i (fun a' w' => (n≤i∨SZ g w w')∧Cz P ops Q n (SZ g w) fuel (listed.setIfInBounds i true) a' w') a w:=fun hri=>by
     refine wpOp_mono (fun a' w' h=>?_) (zN (K:=fun a' w' => ∃ g' F' H', R N g' F' H' a' w' ∧ Mv g H w g' H' w' ∧ Bt P false gt' K F' H') (Gp hx hE1 hR fun g' F' H' a' w' hR' hm hext hE' => ⟨g', F', H', hR', hm,hE'⟩))
     obtain ⟨⟨g', F', H', hR', hm,hE'⟩,hag⟩:=h
     refine ⟨.inr (SZ.of_Mv hR.hp hm),?_⟩
     refine Po (S:=SZ g' w') (fun u hu=>SZ.tr hR.hp hm hu) _ _ _ _ ?_
     exact Mg hsel hQ hT t fuel _ none gt' h1 ht hE' hR' (hinv.set hri hin) fun g'' F'' H'' a'' w'' hR'' hm' hag' hk=>hK _ _ _ _ _ hR'' (hm.trans hm') (hag.trans hag') hk
    cases m with
    | none=>
     simp only [Option.getD_none] at hjr
     refine ⟨fun h0=>(by rw [hjr] at h0;cases h0),fun k hk=>?_⟩
     rw [hjr] at hk
     rcases List.mem_cons.1 hk with rfl | hk'
     ·exact one (by rw [hjr];simp)
     ·exact rest (fun q hq=>by rw [hjr];exact List.mem_cons_of_mem _ hq) k hk'
    | some rem=>
     simp only [Option.getD_some] at hjr
     subst hjr
     intro hall k hk
     rcases List.mem_cons.1 hk with rfl | hk'
     ·exact one (hall _ (by simp))
     ·exact rest (fun q hq=>hall q (List.mem_cons_of_mem _ hq)) k hk'
   ·cases hc
  ·cases hok
end
theorem uR {id : Nat} {ops : Array Oper} {gt : GT} {Q : Exit → Act → World → Prop} {K : Frame → Heap → Prop} (hc : Na P N ops = some gt) (hE : Bt P false gt K F H) (hR : R N g F H a w)
    (hQ:∀ c a w,¬ Q (.panic c) a w) (hK:∀ g' F' H' a' w', R N g' F' H' a' w' → Mv g H w g' H' w' → K F' H' → Q .normal a' w'):(Code.region id ops true).wp P Q a w:=by
 unfold Na at hc
 dsimp only at hc
 split at hc
 ·rename_i hb
  split at hc
  ·rename_i gt' x hg hx
   simp only [Option.some.injEq] at hc
   subst hc
   simp only [Bool.and_eq_true,decide_eq_true_eq] at hb
   obtain ⟨_,⟨⟨⟨⟨hn,hm⟩,hsel⟩,hs⟩,hch⟩,hok⟩:=hb
   refine wp_region_any hm ?_
   have hR1:R N g F H a { w with drawn:=w.drawn+1 }:=Ln hR
   have hE' : Bt P false gt' (fun F' H' => B5 P false x K (Jd H.length F F' (Nd ops)) (Co H H')) (Iy H F) (Dj H):=hE
   have hT:∀ i,i<ops.size - 1→∀ listed,HeadInv .any ops (ops.size - 1) listed→listed.getD i true=false→∀ t,ops.size - 1≤t→t∉Region.ready .any ops listed:=
    fun i hi listed hinv hun=>tail_waits hs hch hn hinv _ i rfl hi hun
   refine Ji _ _ _ _ (Mg hsel hQ hT _ _ _ none gt' hok hg hE' (iL hR1) ⟨by simp,fun j oj hj hl=>(by rw [getD_replicate_false] at hl;cases hl),fun t' ht' hlt=>(by simp [hlt])⟩ fun g' F' H' a' w' hR' hm' hag hk=>?_)
   obtain ⟨g'', hR'', hm''⟩:=yA hR1 hR' hm' hag
   exact Gp hx hk hR'' fun g3 F3 H3 a3 w3 hR3 hm3 _ hk3=>hK _ _ _ _ _ hR3 (((Ll hR.hp).trans hm'').trans hm3) hk3
  ·cases hc
 ·cases hc
end
section
variable {P:Program} {N:Nat} {g:Gh} {F:Frame} {H:Heap} {a:Act} {w:World} {M:List Nat} {n0:Nat}
inductive ACode where
 | skip
 | ops (h t:List As)
 | alts (t:GT)
 | seq (x y:ACode)
 | cond (c:AX) (x y:ACode)
 | block (id:Nat) (x:ACode)
 | loop (x:ACode)
 | exit (id:Nat)
 | ret
/-! Short words for the codes' texts. -/
def kk (n:Int):AX:=.c (.int .i64 n)
def gm (d s:Nat):As:=⟨some d,none,.mov (.s s)⟩
def gz (d:Nat)(n:Int):As:=⟨some d,none,.mov (.c (.int .i64 n))⟩
def gn (d:Nat):As:=⟨some d,none,.mov (.c (.slice none 0 0))⟩
def gp (d:Nat)(x:AOp):As:=⟨some d,none,x⟩
def gq (d s:Nat)(b:Bool)(x:AOp):As:=⟨some d,some ⟨s,b⟩,x⟩
def Dv (s:Nat):AOp:=.load (.val (.int .i64 0)) (.s s)
def gB (d:Nat)(o:BinOp)(a b:Nat):As:=⟨some d,none,.bin 0 o (.s a) (.s b)⟩
def gK (d:Nat)(o:BinOp)(a:Nat)(n:Int):As:=⟨some d,none,.bin 0 o (.s a) (.c (.int .i64 n))⟩
def gE (d t i:Nat):As:=⟨some d,none,.ext (.s t) i⟩
def gI (d k a b:Nat):As:=⟨some d,none,.idx k (.s a) (.s b)⟩
def gL (d s:Nat):As:=⟨some d,none,.load (.val (.int .i64 0)) (.s s)⟩
def gV (d k s:Nat):As:=⟨some d,none,.load (.slc k 0 []) (.s s)⟩
def gS (k a x:Nat):As:=⟨none,none,.store k (.s a) (.s x)⟩
def gT (d k x:Nat):As:=⟨some d,none,.loads k (.s x)⟩
def gF (d k x:Nat):As:=⟨some d,none,.fld k (.s x)⟩
def gH (d x:Nat):As:=⟨some d,none,.len (.s x)⟩
def gA (d:Nat)(f:FuncId)(a:Nat):As:=⟨some d,none,.call f [.s a]⟩
def gC (d:Nat)(f:FuncId)(a b:Nat):As:=⟨some d,none,.call f [.s a,.s b]⟩
def gD (d:Nat)(f:FuncId)(a b c:Nat):As:=⟨some d,none,.call f [.s a,.s b,.s c]⟩
def gX (d x:Nat):As:=⟨some d,none,.box (.s x)⟩
def gJ (d x:Nat):As:=⟨some d,none,.not (.s x)⟩
def gN (d:Nat):As:=⟨some d,none,.alloc [.slice none 0 0]⟩
def gR (d s:Nat)(b:Bool)(x:Nat):As:=⟨some d,some ⟨s,b⟩,.mov (.s x)⟩
abbrev sq (t:List As)(x:ACode):ACode:=.seq (.ops [] t) x
abbrev ci (n:Nat)(x y:ACode):ACode:=.cond (.s n) x y
abbrev os (t:List As):ACode:=.ops [] t
def Qh (P:Program)(M:List Nat)(N:Nat)(ops:Array Oper)(draw:Bool):Option ACode:=match Lg P M N ops draw with
 | some p=>some (.ops p.1 p.2)
 | none=>match draw,((((M9 P M N ops).or (M8 P M N ops)).or (if decide (((List.range ops.size).filter fun i=>!Df P ops i).length≤6) then Lh P N ops else none)).or (Na P N ops)).or (Lh P N ops) with
  | true,some t=>some (.alts t)
  | _,_=>some (.ops [] [⟨none,none,.bad⟩])
theorem G9 {ops:Array Oper}{draw:Bool}{c:ACode}(h:Qh P M N ops draw=some c):(∃ hd tl,c = .ops hd tl∧Lf P M N ops draw=some (hd,tl))∨∃ t,c = .alts t∧draw=true∧(M9 P M N ops=some t∨M8 P M N ops=some t∨Na P N ops=some t∨Lh P N ops=some t):=by
 unfold Qh at h
 split at h
 ·rename_i p hp
  simp only [Option.some.injEq] at h
  subst h
  exact .inl ⟨p.1,p.2,rfl,by simp [Lf,hp]⟩
 ·rename_i hp
  split at h
  ·rename_i t ht
   simp only [Option.some.injEq] at h
   subst h
   rcases Option.or_eq_some_iff.1 ht with h | h
   ·rcases Option.or_eq_some_iff.1 h with h | h
    ·rcases Option.or_eq_some_iff.1 h with h | h
     ·exact .inr ⟨t,rfl,rfl,(Option.or_eq_some_iff.1 h).imp id (fun h=>.inl h.2)⟩
     ·have h2:=h.2
      split at h2
      ·exact .inr ⟨t,rfl,rfl,.inr (.inr (.inr h2))⟩
      ·cases h2
    ·exact .inr ⟨t,rfl,rfl,.inr (.inr (.inl h.2))⟩
   ·exact .inr ⟨t,rfl,rfl,.inr (.inr (.inr h.2))⟩
  ·simp only [Option.some.injEq] at h
   subst h
   exact .inl ⟨_,_,rfl,by simp [Lf,hp]⟩
def Di (P:Program)(M:List Nat)(N:Nat):Code→Option ACode
 | .skip=>some .skip
 | .region _ ops draw=>Qh P M N ops draw
 | .seq x y=>match Di P M N x,Di P M N y with
  | some x,some y=>some (.seq x y)
  | _,_=>none
 | .cond c x y=>match Di P M N x,Di P M N y with
  | some x,some y=>some (.cond (cX c) x y)
  | _,_=>none
 | .block id x=>(Di P M N x).map (.block id)
 | .loop x=>(Di P M N x).map .loop
 | .exit id=>some (.exit id)
 | .ret=>some .ret
 | _=>none
structure MvN (n:Nat) (g:Gh) (H:Heap) (w:World) (g' : Gh) (H' : Heap) (w' : World):Prop where
 hp:HeapR g' H' w'
 stp:Step w w' (g.owns H) (g'.owns H') g.G g'.G
 trk:∀ o d,o<n→g.tr H o=some d→g'.tr H' o=some d∨g'.tr H' o=some none
theorem MvN.refl {n:Nat}(hp:HeapR g H w):MvN n g H w g H w:=⟨hp,Step.refl _ _ _,fun _ _ _ h=>.inl h⟩
theorem MvN.trans {n:Nat}{g' g'' : Gh}{H' H'' : Heap}{w' w'' : World}(h:MvN n g H w g' H' w')(k:MvN n g' H' w' g'' H'' w''):MvN n g H w g'' H'' w'' :=
 ⟨k.hp,h.stp.trans k.stp,fun o d ho hd=>(h.trk o d ho hd).elim (fun h1=>k.trk o d ho h1) (fun h1=>.inr ((k.trk o none ho h1).elim id id))⟩
theorem Mv.toN {n:Nat}{g' : Gh}{H' : Heap}{w' : World}(h:Mv g H w g' H' w'):MvN n g H w g' H' w' := ⟨h.hp,h.stp,fun o d _=>h.trk o d⟩
theorem MvN.toMv {g' : Gh}{H' : Heap}{w' : World}(hp:HeapR g H w)(h:MvN H.length g H w g' H' w'):Mv g H w g' H' w' := by
 have trk:∀ o d,g.tr H o=some d→g'.tr H' o=some d∨g'.tr H' o=some none:=fun o d hd=>h.trk o d (Cq hd) hd
 refine ⟨h.hp,h.stp,fun x v hx=>hx.mono h.stp.gin (fun b hb=>h.stp.keep b (hp.low b hb) fun ⟨o,cs,ho,hbo⟩=>hp.free o cs ho b hbo hb) trk (by simp),trk⟩
def Fin (N n0:Nat)(g:Gh)(H:Heap)(w:World)(Q:Exit→Frame→Heap→Prop):Exit→Act→World→Prop:=fun e a' w' =>
 (∀ c,e ≠ .panic c)∧∃ g' F' H', R N g' F' H' a' w' ∧ MvN n0 g H w g' H' w' ∧ Q e F' H'
def W (P:Program)(M:List Nat)(N n0:Nat)(c:ACode)(Q:Exit→Frame→Heap→Prop)(F:Frame)(H:Heap):Prop:=
 ∀ code,Di P M N code=some c→∀ g a w,R N g F H a w→code.wp P (Fin N n0 g H w Q) a w
def Ref (n0:Nat)(F:Frame)(H:Heap)(F' : Frame)(H' : Heap):Prop:=∀ N g a w,R N g F H a w→∃ g', R N g' F' H' a w∧MvN n0 g H w g' H' w
def El (next:Frame→Heap→Prop)(Q:Exit→Frame→Heap→Prop):Exit→Frame→Heap→Prop
 | .normal,F,H=>next F H
 | e,F,H=>Q e F H
def G4 (id:Nat)(Q:Exit→Frame→Heap→Prop):Exit→Frame→Heap→Prop
 | .exit id', F,H=>if id' = id then Q .normal F H else Q (.exit id') F H
 | e,F,H=>Q e F H
section
variable {Q:Exit→Frame→Heap→Prop}
theorem Fin.trans {g' : Gh}{H' : Heap}{w' : World}{e:Exit}{a' : Act}{w'' : World}(hm:MvN n0 g H w g' H' w')(h:Fin N n0 g' H' w' Q e a' w''):Fin N n0 g H w Q e a' w'' := by
 obtain ⟨h1,g'', F'', H'', hR,hm', hq⟩:=h
 exact ⟨h1,g'', F'', H'', hR,hm.trans hm', hq⟩
theorem D0 {c:ACode}{F' : Frame}{H' : Heap}(hr:Ref n0 F H F' H')(h:W P M N n0 c Q F' H'):W P M N n0 c Q F H:=fun code hc g a w hR=>by
 obtain ⟨g', hR', hm⟩:=hr N g a w hR
 exact wp_mono (h code hc g' a w hR') fun e a w h=>h.trans hm
theorem cU {c:ACode}{Q' : Exit→Frame→Heap→Prop}(h:W P M N n0 c Q F H)(hq:∀ e F H,Q e F H→Q' e F H):W P M N n0 c Q' F H:=fun code hc g a w hR=>
 wp_mono (h code hc g a w hR) fun _ _ _ ⟨h1,g', F', H', hR', hm,hk⟩=>⟨h1,g', F', H', hR', hm,hq _ _ _ hk⟩
theorem cZ (h:Q .normal F H):W P M N n0 .skip Q F H:=fun code hc g a w hR=>by
 cases code<;>simp only [Di,Option.map_eq_some_iff,Option.some.injEq,reduceCtorEq,and_false,exists_false] at hc
 ·exact wp_skip ⟨fun c=>by simp,g,F,H,hR,.refl hR.hp,h⟩
 all_goals (try (split at hc<;>cases hc))
 all_goals (rcases G9 hc with ⟨_,_,he,_⟩ | ⟨_,he,_⟩<;>cases he)
theorem cT {id:Nat}(h:Q (.exit id) F H):W P M N n0 (.exit id) Q F H:=fun code hc g a w hR=>by
 cases code<;>simp only [Di,Option.map_eq_some_iff,Option.some.injEq,reduceCtorEq,and_false,exists_false,ACode.exit.injEq] at hc
 case exit id' => subst hc;exact wp_exit ⟨fun c=>by simp,g,F,H,hR,.refl hR.hp,h⟩
 all_goals (try (split at hc<;>cases hc))
 all_goals (rcases G9 hc with ⟨_,_,he,_⟩ | ⟨_,he,_⟩<;>cases he)
theorem cY (h:Q .ret F H):W P M N n0 .ret Q F H:=fun code hc g a w hR=>by
 cases code<;>simp only [Di,Option.map_eq_some_iff,Option.some.injEq,reduceCtorEq,and_false,exists_false] at hc
 case ret=>exact wp_ret ⟨fun c=>by simp,g,F,H,hR,.refl hR.hp,h⟩
 all_goals (try (split at hc<;>cases hc))
 all_goals (rcases G9 hc with ⟨_,_,he,_⟩ | ⟨_,he,_⟩<;>cases he)
theorem cV {h t:List As}(hE:D7 P true h (D7 P false t (Q .normal)) F H):W P M N n0 (.ops h t) Q F H:=fun code hc g a w hR=>by
 cases code<;>simp only [Di,Option.map_eq_some_iff,Option.some.injEq,reduceCtorEq,and_false,exists_false] at hc
 case region id ops draw=>
  rcases G9 hc with ⟨h', t', he,hc'⟩ | ⟨_,he,_⟩
  ·cases he
   exact uU hc' hE hR (fun c a w h=>h.1 c rfl) fun g' F' H' a' w' hR' hm hk=>⟨fun c=>by simp,g', F', H', hR', hm.toN,hk⟩
  ·cases he
 all_goals (try (split at hc<;>cases hc))
theorem K7 {t:GT}(hE:Bt P false t (Q .normal) F H):W P M N n0 (.alts t) Q F H:=fun code hc g a w hR=>by
 cases code<;>simp only [Di,Option.map_eq_some_iff,Option.some.injEq,reduceCtorEq,and_false,exists_false] at hc
 case region id ops draw=>
  rcases G9 hc with ⟨h', t', he,hc'⟩ | ⟨_,he,hd,hc'⟩
  ·cases he
  ·cases he
   subst hd
   rcases hc' with hc' | hc' | hc' | hc'
   ·exact uQ hc' hE hR (fun c a w h=>h.1 c rfl) fun g' F' H' a' w' hR' hm hk=>⟨fun c=>by simp,g', F', H', hR', hm.toN,hk⟩
   ·exact uO hc' hE hR (fun c a w h=>h.1 c rfl) fun g' F' H' a' w' hR' hm hk=>⟨fun c=>by simp,g', F', H', hR', hm.toN,hk⟩
   ·exact uR hc' hE hR (fun c a w h=>h.1 c rfl) fun g' F' H' a' w' hR' hm hk=>⟨fun c=>by simp,g', F', H', hR', hm.toN,hk⟩
   ·exact uS hc' hE hR (fun c a w h=>h.1 c rfl) fun g' F' H' a' w' hR' hm hk=>⟨fun c=>by simp,g', F', H', hR', hm.toN,hk⟩
 all_goals (try (split at hc<;>cases hc))
theorem Mx {x y:ACode}(h:W P M N n0 x (El (W P M N n0 y Q) Q) F H):W P M N n0 (.seq x y) Q F H:=fun code hc g a w hR=>by
 cases code<;>simp only [Di,Option.map_eq_some_iff,Option.some.injEq,reduceCtorEq,and_false,exists_false] at hc
 case seq cx cy=>
  split at hc
  ·rename_i x' y' hx hy
   simp only [Option.some.injEq,ACode.seq.injEq] at hc
   obtain ⟨rfl,rfl⟩:=hc
   refine wp_seq (wp_mono (h cx hx g a w hR) fun e a' w' hf=>?_)
   obtain ⟨h1,g', F', H', hR', hm,hk⟩:=hf
   cases e with
   | normal=>exact wp_mono (hk cy hy g' a' w' hR') fun e a w h=>h.trans hm
   | panic c=>exact absurd rfl (h1 c)
   | _=>exact ⟨h1,g', F', H', hR', hm,hk⟩
  ·cases hc
 all_goals (try (split at hc<;>cases hc))
 all_goals (rcases G9 hc with ⟨_,_,he,_⟩ | ⟨_,he,_⟩<;>cases he)
theorem cQ {c:AX}{x y:ACode}{b:Bool}(hb:st (ax F c)=bl b)(hok:Ap (ax F c))(ht:b=true→W P M N n0 x Q F H)(hf:b=false→W P M N n0 y Q F H):W P M N n0 (.cond c x y) Q F H:=fun code hc g a w hR=>by
 cases code<;>simp only [Di,Option.map_eq_some_iff,Option.some.injEq,reduceCtorEq,and_false,exists_false] at hc
 case cond c' cx cy=>
  split at hc
  ·rename_i x' y' hx hy
   simp only [Option.some.injEq,ACode.cond.injEq] at hc
   obtain ⟨rfl,rfl,rfl⟩:=hc
   have hv:=Lb (At hR c' hok) hb
   exact wp_cond_split hv (fun e=>ht e cx hx g a w hR) (fun e=>hf e cy hy g a w hR)
  ·cases hc
 all_goals (try (split at hc<;>cases hc))
 all_goals (rcases G9 hc with ⟨_,_,he,_⟩ | ⟨_,he,_⟩<;>cases he)
theorem cP {id:Nat}{x:ACode}(h:W P M N n0 x (G4 id Q) F H):W P M N n0 (.block id x) Q F H:=fun code hc g a w hR=>by
 cases code<;>simp only [Di,Option.map_eq_some_iff,Option.some.injEq,reduceCtorEq,and_false,exists_false] at hc
 case block id' cx=>
  obtain ⟨x', hx,he⟩:=hc
  simp only [ACode.block.injEq] at he
  obtain ⟨rfl,rfl⟩:=he
  refine wp_block (wp_mono (h cx hx g a w hR) fun e a' w' hf=>?_)
  obtain ⟨h1,g', F', H', hR', hm,hk⟩:=hf
  cases e with
  | exit i=>
   simp only [Exit.inBlock,G4] at hk ⊢
   split
   ·rename_i hi;rw [if_pos hi] at hk;exact ⟨fun c=>by simp,g', F', H', hR', hm,hk⟩
   ·rename_i hi;rw [if_neg hi] at hk;exact ⟨h1,g', F', H', hR', hm,hk⟩
  | _=>exact ⟨h1,g', F', H', hR', hm,hk⟩
 all_goals (try (split at hc<;>cases hc))
 all_goals (rcases G9 hc with ⟨_,_,he,_⟩ | ⟨_,he,_⟩<;>cases he)
theorem S0 {α : Type} (S : α → Frame × Heap) (C : α → Prop) (μ : α → Nat) (x0 : α) (h0 : C x0) (hr : Ref n0 F H (S x0).1 (S x0).2) {c : ACode}
    (round:∀ x,C x→W P M N n0 c (El (fun F' H' => ∃ x', C x' ∧ μ x' < μ x∧Ref n0 F' H' (S x').1 (S x').2) Q) (S x).1 (S x).2):W P M N n0 (.loop c) Q F H:=fun code hc g a w hR=>by
 cases code<;>simp only [Di,Option.map_eq_some_iff,Option.some.injEq,reduceCtorEq,and_false,exists_false] at hc
 case loop cx=>
  obtain ⟨x', hx,he⟩:=hc
  simp only [ACode.loop.injEq] at he
  obtain rfl:=he
  obtain ⟨g0,hR0,hm0⟩:=hr N g a w hR
  refine wp_loop_ghost (fun n a' w' => ∃ x g', C x∧μ x=n∧R N g' (S x).1 (S x).2 a' w' ∧ MvN n0 g H w g' (S x).2 w') (μ x0) ⟨x0,g0,h0,rfl,hR0,hm0⟩ ?_
  rintro n a' w' ⟨x,g', hC,rfl,hR', hm'⟩
  refine wp_mono (round x hC cx hx g' a' w' hR') fun e a2 w2 hf=>?_
  obtain ⟨h1,g2,F2,H2,hR2,hm2,hk⟩:=hf
  cases e with
  | normal=>
   obtain ⟨x2,hC2,hlt,hr2⟩:=hk
   obtain ⟨g3,hR3,hm3⟩:=hr2 N g2 a2 w2 hR2
   exact ⟨μ x2,hlt,x2,g3,hC2,rfl,hR3,(hm'.trans hm2).trans hm3⟩
  | panic c=>exact absurd rfl (h1 c)
  | _=>exact ⟨h1,g2,F2,H2,hR2,hm'.trans hm2,hk⟩
 all_goals (try (split at hc<;>cases hc))
 all_goals (rcases G9 hc with ⟨_,_,he,_⟩ | ⟨_,he,_⟩<;>cases he)
end
/-! ### A function -/
def Li (P:Program):ResultVar→Option AOp
 | .tmp t=>some (.mov (.s t))
 | .cell s t=>match P.underlying t,P.info? t with
  | some d,some i=>if B7 (some d) then some (.loads i.size (.s s)) else some (.load (bJ d) (.s s))
  | _,_=>none
def Hl (rs:List AOp)(K:AV→Heap→Prop)(F:Frame)(H:Heap):Prop:=match rs with
 | [r]=>A5 r F H∧K (Am r F H) H
 | rs=>(∀ r∈rs,A5 r F H)∧K (.tup (rs.map fun r=>Am r F H)) H
def Db (rs:List AOp)(K:AV→Heap→Prop):Exit→Frame→Heap→Prop
 | .normal,F,H | .ret,F,H=>Hl rs K F H
 | _,_,_=>False
def Cb:Nat→List AV→Frame
 | _,[]=>[]
 | i,x :: l=>(i,x) :: Cb (i+1) l
theorem Wp:∀ (l:List AV) (i j:Nat),(∀ m (h:m<l.length),j=i+m→Ac (Cb i l) j=l[m])∧((∀ m,m<l.length→j≠i+m)→Ac (Cb i l) j = .any)
 | [],i,j=>⟨fun m h=>by simp at h,fun _=>rfl⟩
 | x :: l,i,j=>by
  obtain ⟨h1,h2⟩:=Wp l (i+1) j
  constructor
  ·intro m hm hj
   simp only [Cb,C1]
   cases m with
   | zero=>rw [if_pos (by omega)];rfl
   | succ m=>rw [if_neg (by omega)];simpa using h1 m (by simpa using hm) (by omega)
  ·intro hne
   simp only [Cb,C1]
   rw [if_neg (by have:=hne 0 (by simp);omega)]
   exact h2 fun m hm=>by have:=hne (m+1) (by simpa using hm);omega
theorem uY {fn : Func} {r : ResultVar} {x : AOp} (hc : Li P r = some x) (hok : A5 x F H) (hR : R N g F H a w) :
    ∃ v,(match r with | .tmp t=>(pure (a.tmps.getD t undef):Sem Value) | .cell s t=>do loadVar t (← asAddr (a.tmps.getD s undef))).run P w = .ok v w∧Rd w (g.tr H) g.G (Am x F H) v []:=by
 cases r with
 | tmp t=>
  simp only [Li,Option.some.injEq] at hc
  subst hc
  exact ⟨_,rfl,hR.fr t⟩
 | cell s t=>
  have conv:∀ (o:Oper) (x:AOp),o.op = .load t (.tmp s)→(∃ b off,a.tmps.getD s undef = .pointer (some ⟨b,off,none⟩))→Bj P a w g H o (Am x F H)→∃ v,(do loadVar t (← asAddr (a.tmps.getD s undef)):Sem Value).run P w = .ok v w∧Rd w (g.tr H) g.G (Am x F H) v []:=by
   rintro o x hop ⟨b,off,hv⟩ ⟨v,hrun,hx⟩
   refine ⟨v,?_,hx⟩
   have h1:=hrun w (fun _ _ _=>rfl)
   simp only [execOp,hop,Act.eval,hv,Instr.loadAt,Instr.sureAddr,pure_bind,Sem.run_bind,Sem.run_pure] at h1
   rw [hv]
   simp only [asAddr,pure_bind]
   cases hl:(loadVar t ⟨b,off,none⟩).run P w with
   | ok v' w' => rw [hl] at h1;simp only [Result.andThen_ok,Result.ok.injEq,Next.value.injEq] at h1;rw [h1.1,h1.2]
   | halt x w' => rw [hl] at h1;simp at h1
  simp only [Li] at hc
  split at hc
  ·rename_i d i hd hi
   by_cases hg:B7 (some d)=true
   ·rw [if_pos hg] at hc
    obtain rfl:=Option.some.inj hc
    refine conv { (default:Oper) with op:=.load t (.tmp s) } _ rfl ?_ (R0 (x:=.tmp s) hR rfl hd hi hg hok)
    obtain ⟨h1,h2⟩:=hok
    split at h2
    ·rename_i cs j hcs
     obtain ⟨b,off,u,bss,hv,_⟩:=M5 hR.hp (At hR (.tmp s) h1) hcs
     exact ⟨b,off+j,hv⟩
    ·exact h2.elim
   ·rw [if_neg hg] at hc
    obtain rfl:=Option.some.inj hc
    refine conv { (default:Oper) with op:=.load t (.tmp s) } _ rfl ?_ (Zo (x:=.tmp s) hR rfl hd (by simpa using hg) hok)
    obtain ⟨h1,h2⟩:=hok
    split at h2
    ·rename_i cs j hcs
     obtain ⟨b,off,u,bss,hv,_⟩:=M5 hR.hp (At hR (.tmp s) h1) hcs
     exact ⟨b,off+j,hv⟩
    ·exact h2.elim
  ·cases hc
end
section
variable {P:Program} {N:Nat} {g:Gh} {F:Frame} {H:Heap} {a:Act} {w:World} {M:List Nat} {n0:Nat}
def Aj (P:Program)(M:List Nat)(f:FuncId):Option (Nat×ACode×List AOp):=match P.funcs[f]? with
 | some fn=>match fn.body with
  | some code=>match Di P M fn.ntmps code,fn.results.toList.mapM (Li P) with
   | some ac,some rs=>some (fn.ntmps,ac,rs)
   | _,_=>none
  | none=>none
 | none=>none
theorem X8 {fr : ResultVar → Sem Value} {q : AOp → AV} {cr : ResultVar → Option AOp} {ok : AOp → Prop} {X : AV → Value → Prop} (h : ∀ r x, cr r = some x → ok x → ∃ v, (fr r).run P w = .ok v w ∧ X (q x) v) : ∀ (l : List ResultVar) (rs : List AOp), l.mapM cr = some rs → (∀ x ∈ rs, ok x) →
    ∃ vs:List Value,(l.mapM fr).run P w = .ok vs w∧vs.length=rs.length∧∀ m (h:m<rs.length),X (q rs[m]) (vs.getD m undef)
 | [],rs,hl,_=>by
  simp only [List.mapM_nil,Option.pure_def,Option.some.injEq] at hl
  subst hl
  exact ⟨[],rfl,rfl,fun m hm=>by simp at hm⟩
 | r :: l,rs,hl,hok=>by
  simp only [List.mapM_cons,Option.pure_def,Option.bind_eq_bind,Option.bind_eq_some_iff] at hl
  obtain ⟨x,hx,l', hl', he⟩:=hl
  obtain rfl:=Option.some.inj he
  obtain ⟨v,hv,hX⟩:=h r x hx (hok x (by simp))
  obtain ⟨vs,hvs,hlen,hXs⟩:=X8 h l l' hl' (fun y hy=>hok y (List.mem_cons_of_mem _ hy))
  refine ⟨v :: vs,?_,by simp [hlen],fun m hm=>?_⟩
  ·rw [List.mapM_cons,Cc hv,Cc hvs]
   rfl
  ·cases m with
   | zero=>exact hX
   | succ m=>simpa using hXs m (by simpa using hm)
theorem G5 {f:FuncId}{ac:ACode}{rs:List AOp}{args:List AV}{K:AV→Heap→Prop}(hc:Aj P M f=some (N,ac,rs))(hl:args.length≤N)(hW:W P M N H.length ac (Db rs K) (Cb 0 args) H):CallsX P false f args H K:=by
 unfold Aj at hc
 split at hc
 ·rename_i fn hfn
  split at hc
  ·rename_i code hcode
   split at hc
   ·rename_i ac' rs' hac hrs
    simp only [Option.some.injEq,Prod.mk.injEq] at hc
    obtain ⟨rfl,rfl,rfl⟩:=hc
    intro g w vals hp hlen hrd
    refine calls_of_wp hfn hcode ?_
    have hR:R fn.ntmps g (Cb 0 args) H { tmps:=vals++Array.replicate (fn.ntmps - vals.size) undef,defers:=[] } w:=by
     refine ⟨fun j=>?_,hp,by simp;omega,rfl⟩
     obtain ⟨h1,h2⟩:=Wp args 0 j
     by_cases hj:j<args.length
     ·rw [h1 j hj (by omega)]
      have:(vals++Array.replicate (fn.ntmps - vals.size) undef).getD j undef=vals.getD j undef:=by simp [Array.getElem?_append,show j<vals.size by omega]
      rw [this];exact hrd j hj
     ·rw [h2 fun m hm=>by omega];exact .any
    refine wp_mono (hW code hac g _ w hR) fun e a' w' hf=>?_
    obtain ⟨_,g', F', H', hR', hm,hk⟩:=hf
    have hm' := hm.toMv hp
    have ret:Hl rs' K F' H' → a'.defers=[]∧∃ v,(results fn a'.tmps).run P w' = .ok v w' ∧ ∃ v' g' av H', Ending.returned v = .returned v' ∧ Mv g H w g' H' w' ∧ Rd w' (g'.tr H') g'.G av v' []∧(false=true→Ext w w')∧K av H' := by
     intro hk
     refine ⟨hR'.defers,?_⟩
     have hall:∀ x∈rs', A5 x F' H' := by
      unfold Hl at hk
      split at hk
      ·intro x hx;obtain rfl:x=_:=by simpa using hx
       exact hk.1
      ·exact hk.1
     obtain ⟨vs,hvs,hvl,hX⟩:=X8 (P:=P) (w:=w') (fr:=fun | .tmp t=>pure (a'.tmps.getD t undef) | .cell s t=>do loadVar t (← asAddr (a'.tmps.getD s undef))) (q:=fun x=>Am x F' H') (cr:=Li P) (ok:=fun x=>A5 x F' H') (X:=fun x v=>Rd w' (g'.tr H') g'.G x v [])
      (fun r x hx hok=>uY (fn:=fn) hx hok hR') fn.results.toList rs' hrs hall
     have hrun:(results fn a'.tmps).run P w' = .ok (if h:vs.toArray.size=1 then vs.toArray[0] else .tuple vs.toArray) w' := by
      unfold results
      rw [Array.mapM_eq_mapM_toList]
      simp only [Sem.run_bind,Sem.run_map]
      erw [hvs]
      rfl
     refine ⟨_,hrun,?_⟩
     unfold Hl at hk
     split at hk
     ·rename_i r
      simp only [List.length_singleton] at hvl
      obtain ⟨v,rfl⟩:=List.length_eq_one_iff.1 hvl
      exact ⟨v,g', _,H', rfl,hm', hX 0 (by simp),fun h=>(by cases h),hk.2⟩
     ·rename_i hne
      have hn1:¬ vs.toArray.size=1:=by
       simp only [List.size_toArray,hvl]
       intro h1
       obtain ⟨r,rfl⟩:=List.length_eq_one_iff.1 h1
       exact hne r rfl
      rw [dif_neg hn1]
      refine ⟨_,g', _,H', rfl,hm', .tup (by simp [hvl]) (fun m hm=>?_),fun h=>(by cases h),hk.2⟩
      simp only [List.length_map] at hm
      simp only [List.getElem_map]
      have:=hX m hm
      rwa [show vs.toArray.getD m undef=vs.getD m undef by simp [List.getD]]
    cases e<;>simp only [Db] at hk
    ·exact ret hk
    ·exact ret hk
   ·cases hc
  ·cases hc
 ·cases hc
theorem CallsX.mono {ext:Bool}{f:FuncId}{args:List AV}{K K' : AV→Heap→Prop}(h:CallsX P ext f args H K)(hk:∀ av H', K av H' → K' av H'):CallsX P ext f args H K' :=
 fun g w vals hp hl hr=>(h g w vals hp hl hr).mono fun _ _ ⟨v,g', av,H', he,hm,hx,hext,hkk⟩=>⟨v,g', av,H', he,hm,hx,hext,hk _ _ hkk⟩
theorem CallsX.ext_nil {f:FuncId}{args:List AV}{K:AV→Heap→Prop}(h:CallsX P false f args [] K):CallsX P true f args [] K:=
 fun g w vals hp hl hr=>(h g w vals hp hl hr).mono fun _ _ ⟨v,g', av,H', he,hm,hx,_,hk⟩=>⟨v,g', av,H', he,hm,hx,fun _ b hb=>hm.stp.keep b hb (fun ⟨o,cs,ho,_⟩=>by simp at ho),hk⟩
theorem CallsX.weak {f:FuncId}{args:List AV}{K:AV→Heap→Prop}{ext:Bool}(h:CallsX P true f args H K):CallsX P ext f args H K:=
 fun g w vals hp hl hr=>(h g w vals hp hl hr).mono fun _ _ ⟨v,g', av,H', he,hm,hx,hext,hk⟩=>⟨v,g', av,H', he,hm,hx,fun _=>hext rfl,hk⟩
def Az (n:Nat):Nat→AV→AV
 | 0,x=>x
 | d+1,.osl k m cs=>.osl k m (cs.map (Az n d))
 | d+1,.agg cs=>.agg (cs.map (Az n d))
 | d+1,.tup cs=>.tup (cs.map (Az n d))
 | d+1,.clo f fs cs=>.clo f (fs.map (Az n d)) (cs.map (Az n d))
 | d+1,.cnd b x=>.cnd b (Az n d x)
 | d+1,.idn v x=>.idn v (Az n d x)
 | _+1,.sl o k off len=>.sl (o+n) k off len
 | _+1,.ref o j=>.ref (o+n) j
 | _+1,.mp o=>.mp (o+n)
 | _+1,.it o=>.it (o+n)
 | d+1,.mpc cs=>.mpc (cs.map (Az n d))
 | d+1,.oag cs=>.oag (cs.map (Az n d))
 | d+1,.ent b k x=>.ent b k (Az n d x)
 | _+1,x=>x
def nf:Nat→AV→Bool
 | 0,_=>false
 | d+1,.osl _ _ cs=>cs.all (nf d)
 | d+1,.agg cs=>cs.all (nf d)
 | d+1,.tup cs=>cs.all (nf d)
 | d+1,.clo _ fs cs=>fs.all (nf d)&&cs.all (nf d)
 | d+1,.cnd _ x=>nf d x
 | d+1,.idn _ x=>nf d x
 | _+1,.slc _ n _=>n == 0
 | _+1,.pto _ _=>false
 | _+1,.gho _ _=>false
 | _+1,.mpz _=>false
 | d+1,.mpc cs=>cs.all (nf d)
 | d+1,.oag cs=>cs.all (nf d)
 | d+1,.ent _ _ x=>nf d x
 | _+1,_=>true
def Dg (n d:Nat)(H:Heap):Heap:=H.map (Option.map (List.map (Az n d)))
def Cj (d:Nat)(H:Heap):Bool:=H.all fun x=>match x with
 | some cs=>cs.all (nf d)
 | none=>true
theorem Z7 {tr tr' : Nat→Option (Option A2)}{G G' : Nat→Prop}{n:Nat}(ht:∀ o d,tr o=some d→tr' (o+n)=some d):∀ (d:Nat) (x:AV) (v:Value) (bs:List Nat),nf d x=true→Rd w tr G x v bs→Rd w tr' G' (Az n d x) v bs
 | 0,x,v,bs,h,_=>by cases h
 | d+1,x,v,bs,h,hr=>by
  have ih:=Z7 (G:=G) (G' := G') ht d
  cases hr with
  | any=>exact .any
  | val=>exact .val
  | cndF=>exact .cndF
  | cndT hr=>exact .cndT (ih _ _ _ h hr)
  | idn hr=>exact .idn (ih _ _ _ h hr)
  | slc u hl hn hm hG hc hr=>
   simp only [nf,beq_iff_eq] at h
   subst h
   rename_i k cs b off cap
   have:cs=[]:=List.eq_nil_of_length_eq_zero (by simpa using hl)
   subst this
   exact .slc0 hm
  | slc0 hm=>exact .slc0 hm
  | pto=>cases h
  | sl h0 hv h1=>
   obtain ⟨d', hd'⟩:=Option.isSome_iff_exists.1 h0
   refine .sl (by rw [ht _ _ hd'];rfl) hv fun l hl=>h1 l ?_
   rw [ht _ _ hd'] at hl
   rw [hd', hl]
  | ref h0 hv h1=>
   obtain ⟨d', hd'⟩:=Option.isSome_iff_exists.1 h0
   refine .ref (by rw [ht _ _ hd'];rfl) hv fun l hl=>h1 l ?_
   rw [ht _ _ hd'] at hl
   rw [hd', hl]
  | mp h0 hv h1=>
   obtain ⟨d', hd'⟩:=Option.isSome_iff_exists.1 h0
   refine .mp (by rw [ht _ _ hd'];rfl) hv fun l hl=>h1 l ?_
   rw [ht _ _ hd'] at hl
   rw [hd', hl]
  | it h0 hv h1=>
   obtain ⟨d', hd'⟩:=Option.isSome_iff_exists.1 h0
   refine .it (by rw [ht _ _ hd'];rfl) hv fun l hl=>h1 l ?_
   rw [ht _ _ hd'] at hl
   rw [hd', hl]
  | mpz=>cases h
  | mpc bss hbs hl hr=>
   simp only [nf] at h
   simp only [Az]
   exact .mpc bss (by simpa using hbs) (by simpa using hl) fun m hm=>by simp only [List.getElem_map];exact ih _ _ _ (List.all_eq_true.1 h _ (List.getElem_mem _)) (hr m (by simpa using hm))
  | oag bss hbs hl hr=>
   simp only [nf] at h
   simp only [Az]
   exact .oag bss (by simpa using hbs) (by simpa using hl) fun m hm=>by simp only [List.getElem_map];exact ih _ _ _ (List.all_eq_true.1 h _ (List.getElem_mem _)) (hr m (by simpa using hm))
  | ent hx=>exact .ent (ih _ _ _ h hx)
  | osl u bss hl hn hm hb hs hc hr=>
   simp only [nf] at h
   simp only [Az]
   rename_i k n2 cs b off cap arr elem
   have:=Rd.osl (tr:=tr') (G:=G') (cs:=cs.map (Az n d)) u bss (by simpa using hl) hn hm hb hs (fun m hm' => hc m (by simpa using hm')) (fun m hm' => by
    simp only [List.getElem_map]
    exact ih _ _ _ (List.all_eq_true.1 h _ (List.getElem_mem _)) (hr m (by simpa using hm')))
   simpa only [List.length_map] using this
  | osl0=>simp only [Az,List.map_nil];exact .osl0
  | agg hl hr=>
   simp only [nf] at h
   simp only [Az]
   exact .agg (by simpa using hl) fun m hm=>by simp only [List.getElem_map];exact ih _ _ _ (List.all_eq_true.1 h _ (List.getElem_mem _)) (hr m (by simpa using hm))
  | tup hl hr=>
   simp only [nf] at h
   simp only [Az]
   exact .tup (by simpa using hl) fun m hm=>by simp only [List.getElem_map];exact ih _ _ _ (List.all_eq_true.1 h _ (List.getElem_mem _)) (hr m (by simpa using hm))
  | clo hf hrf hl hr=>
   simp only [nf,Bool.and_eq_true] at h
   simp only [Az]
   exact .clo (by simpa using hf) (fun m hm=>by simp only [List.getElem_map];exact ih _ _ _ (List.all_eq_true.1 h.1 _ (List.getElem_mem _)) (hrf m (by simpa using hm)))
    (by simpa using hl) fun m hm=>by simp only [List.getElem_map];exact ih _ _ _ (List.all_eq_true.1 h.2 _ (List.getElem_mem _)) (hr m (by simpa using hm))
theorem Wq {d:Nat}{x:AV}(h:Gr x=true)(hn:nf d x=true):False:=by
 cases d with
 | zero=>cases hn
 | succ d=>
  cases x with
  | gho b zs=>cases hn
  | _=>cases h
theorem wA {n d:Nat}{H0:Heap}{i:Nat}{cs:List AV}(h:(Dg n d H0)[i]? = some (some cs)):∃ c,H0[i]? = some (some c)∧cs=c.map (Az n d):=by
 unfold Dg at h
 rw [List.getElem?_map,Option.map_eq_some_iff] at h
 obtain ⟨x,hx,he⟩:=h
 rw [Option.map_eq_some_iff] at he
 obtain ⟨c,rfl,rfl⟩:=he
 exact ⟨c,hx,rfl⟩
def Ez (w:World):Gh:=⟨fun _=>none,fun _=>[],fun b=>b<w.heap.size⟩
theorem Nq (w:World):HeapR (Ez w) [] w:=⟨fun o cs h=>by simp at h,fun o cs h=>by simp at h,fun o o' cs cs' h=>by simp at h,fun o cs h=>by simp at h,fun b hb=>hb⟩
theorem iT (w:World):(Ez w).tr []=fun _=>none:=by funext o;simp [Gh.tr]
theorem X3 {f : FuncId} {K : AV → Heap → Prop} {vals : Array Value} (d' : Nat) (hp : HeapR g H w) (hnf : ∀ av H0, K av H0 → nf d' av = true ∧ Cj d' H0 = true)
    (h:Calls P f vals w fun e w' => ∃ v g1 av H0,e = .returned v∧Mv (Ez w) [] w g1 H0 w' ∧ Rd w' (g1.tr H0) g1.G av v []∧Ext w w' ∧ K av H0):
    Calls P f vals w fun e w' => ∃ v g' av H', e = .returned v∧Mv g H w g' H' w' ∧ Rd w' (g'.tr H') g'.G av v []∧(true=true→Ext w w')∧∃ av0 H0,K av0 H0∧av=Az H.length d' av0∧H' = H++Dg H.length d' H0:=by
 refine h.mono ?_
 rintro e w' ⟨v,g1,av,H0,he,hm,hx,hext,hk⟩
 obtain ⟨hnf1,hnf2⟩:=hnf av H0 hk
 have hE:Ext w w' := hext
 have hsz:=hm.stp.size
 let n:=H.length
 let g' : Gh:=⟨fun o=>if o<n then g.ρ o else g1.ρ (o - n),fun o=>if o<n then g.ob o else g1.ob (o - n),g.G⟩
 let H' := H++Dg n d' H0
 have hfresh:∀ o cs,H0[o]? = some (some cs)→∀ b∈g1.ob o,w.heap.size≤b:=fun o cs ho b hb=>by
  rcases hm.stp.own b ⟨o,cs,ho,hb⟩ with ⟨o', cs', ho', _⟩ | h
  ·simp at ho'
  ·exact h
 have hget:∀ o cs,H'[o]? = some (some cs)→(o<n∧H[o]? = some (some cs))∨(n≤o∧∃ c,H0[o - n]? = some (some c)∧cs=c.map (Az n d')):=fun o cs ho=>by
  rcases Nat.lt_or_ge o n with h' | h'
  ·left;rw [List.getElem?_append_left h'] at ho;exact ⟨h', ho⟩
  ·right;rw [List.getElem?_append_right h'] at ho;exact ⟨h', wA ho⟩
 have htr1:∀ o dd,g.tr H o=some dd→g'.tr H' o=some dd:=fun o dd ho=>by
  have hlt:=Cq ho
  unfold Gh.tr at *
  rw [List.getElem?_append_left hlt]
  simp only [g', n,if_pos hlt]
  exact ho
 have htr2:∀ o dd,g1.tr H0 o=some dd→g'.tr H' (o+n)=some dd:=fun o dd ho=>by
  have hlt:=Cq ho
  unfold Gh.tr at *
  rw [List.getElem?_append_right (by simp [n])]
  simp only [Dg,List.getElem?_map,n,Nat.add_sub_cancel]
  rw [List.getElem?_eq_getElem hlt] at ho ⊢
  cases hh:H0[o] with
  | none=>rw [hh] at ho;simpa using ho
  | some cs=>rw [hh] at ho;simpa [g', n,show ¬ o+H.length<H.length by omega] using ho
 have hshift:=fun (x:AV) v bs hx hr=>Z7 (w:=w') (G:=g1.G) (G' := g'.G) htr2 d' x v bs hx hr
 have hcells:∀ (o:Nat) (c:List AV),H0[o]? = some (some c)→c.all (nf d')=true:=fun o c ho=>by
  have:=List.all_eq_true.1 hnf2 (some c) (List.mem_of_getElem? ho)
  exact this
 have hold:∀ x v bs,Rd w (g.tr H) g.G x v bs→Rd w' (g'.tr H') g'.G x v bs:=fun x v bs h=>h.mono (fun _ h=>h) (fun b hb=>hE b (hp.low b hb)) (fun o dd h=>.inl (htr1 o dd h)) (fun b hb=>hE b (h.lt b hb))
 have hp' : HeapR g' H' w' := by
  refine ⟨?_,?_,?_,?_,fun b hb=>Nat.lt_of_lt_of_le (hp.low b hb) hsz⟩
  ·intro o cs ho
   rcases hget o cs ho with ⟨hlt,ho'⟩ | ⟨hge,c,ho', rfl⟩
   ·simp only [g', if_pos hlt]
    have h1:=hp.obj o cs ho'
    exact h1.mono (fun _ h=>h) (fun b hb=>hE b (hp.low b hb)) (fun o dd h=>.inl (htr1 o dd h)) (fun b hb=>hE b (h1.all_lt b hb))
   ·simp only [g', if_neg (Nat.not_lt.2 hge)]
    have h1:=hm.hp.obj (o - n) c ho'
    exact h1.tell (Az n d') (fun _ _=>rfl) (fun x hx v bs' _ hr=>hshift _ _ _ (List.all_eq_true.1 (hcells _ _ ho') _ hx) hr) (fun _ ⟨x,hx,hg⟩=>(Wq hg (List.all_eq_true.1 (hcells _ _ ho') _ hx)).elim)
  ·intro o cs ho
   rcases hget o cs ho with ⟨hlt,ho'⟩ | ⟨hge,c,ho', rfl⟩
   ·simp only [g', if_pos hlt];exact hp.nodup o cs ho'
   ·simp only [g', if_neg (Nat.not_lt.2 hge)];exact hm.hp.nodup _ c ho'
  ·intro o o2 cs cs2 ho ho2 hne b h1 h2
   rcases hget o cs ho with ⟨hlt,ho'⟩ | ⟨hge,c,ho', rfl⟩<;>rcases hget o2 cs2 ho2 with ⟨hlt2,ho2'⟩ | ⟨hge2,c2,ho2', rfl⟩
   ·simp only [g', if_pos hlt] at h1;simp only [g', if_pos hlt2] at h2;exact hp.apart o o2 cs cs2 ho' ho2' hne b h1 h2
   ·simp only [g', if_pos hlt] at h1;simp only [g', if_neg (Nat.not_lt.2 hge2)] at h2
    have:=(hp.obj o cs ho').all_lt b h1;have:=hfresh _ _ ho2' b h2;omega
   ·simp only [g', if_neg (Nat.not_lt.2 hge)] at h1;simp only [g', if_pos hlt2] at h2
    have:=(hp.obj o2 cs2 ho2').all_lt b h2;have:=hfresh _ _ ho' b h1;omega
   ·simp only [g', if_neg (Nat.not_lt.2 hge)] at h1;simp only [g', if_neg (Nat.not_lt.2 hge2)] at h2
    exact hm.hp.apart _ _ c c2 ho' ho2' (by omega) b h1 h2
  ·intro o cs ho b h1 hG
   rcases hget o cs ho with ⟨hlt,ho'⟩ | ⟨hge,c,ho', rfl⟩
   ·simp only [g', if_pos hlt] at h1;exact hp.free o cs ho' b h1 hG
   ·simp only [g', if_neg (Nat.not_lt.2 hge)] at h1
    have:=hfresh _ _ ho' b h1;have:=hp.low b hG;omega
 refine ⟨v,g', Az n d' av,H', he,⟨hp', ⟨hm.stp.os,hm.stp.tape,hm.stp.output,hsz,fun b hb _=>hE b hb,fun b ⟨o,cs,ho,h1⟩=>?_,fun _ h=>h,fun _ h=>.inl h,hm.stp.fz⟩,fun x v h=>hold x v [] h,fun o dd h=>.inl (htr1 o dd h)⟩,hshift _ _ _ hnf1 hx,fun _=>hE,av,H0,hk,rfl,rfl⟩
 rcases hget o cs ho with ⟨hlt,ho'⟩ | ⟨hge,c,ho', rfl⟩
 ·left;simp only [g', if_pos hlt] at h1;exact ⟨o,cs,ho', h1⟩
 ·right;simp only [g', if_neg (Nat.not_lt.2 hge)] at h1;exact hfresh _ _ ho' b h1
theorem CallsX.lift {f : FuncId} {args args' : List AV} {K : AV → Heap → Prop} (h : CallsX P true f args [] K) (d d' : Nat) (ha : args = args'.map (Ai H d)) (hnf : ∀ av H0, K av H0 → nf d' av = true ∧ Cj d' H0 = true) :
    CallsX P true f args' H fun av H' => ∃ av0 H0,K av0 H0∧av=Az H.length d' av0∧H' = H++Dg H.length d' H0:=by
 intro g w vals hp hl hr
 refine X3 d' hp hnf ((h (Ez w) w vals (Nq w) (by rw [ha];simpa using hl) (fun m hm=>?_)).mono ?_)
 ·rw [iT]
  subst ha
  simp only [List.getElem_map]
  exact Wi hp d _ _ _ (hr m (by simpa using hm))
 ·rintro e w' ⟨v,g1,av,H0,he,hm,hx,hext,hk⟩
  exact ⟨v,g1,av,H0,he,hm,hx,hext rfl,hk⟩
end
section
variable {P:Program} {N:Nat} {g:Gh} {F:Frame} {H:Heap} {a:Act} {w:World} {M:List Nat} {n0:Nat}
theorem Ref.refl:Ref n0 F H F H:=fun _ g _ _ hR=>⟨g,hR,.refl hR.hp⟩
theorem Ref.trans {F' F'' : Frame}{H' H'' : Heap}(h:Ref n0 F H F' H')(k:Ref n0 F' H' F'' H''):Ref n0 F H F'' H'' := fun N g a w hR=>by
 obtain ⟨g', hR', hm⟩:=h N g a w hR
 obtain ⟨g'', hR'', hm'⟩:=k N g' a w hR'
 exact ⟨g'', hR'', hm.trans hm'⟩
def sub (F:Frame):Frame→Prop
 | []=>True
 | (j,x) :: l=>Ac F j=x∧sub F l
theorem Kx:∀ {F' : Frame},sub F F' → ∀ j,Ac F' j = .any∨Ac F' j=Ac F j
 | [],_,_=>.inl rfl
 | (i,x) :: l,h,j=>by
  simp only [C1]
  by_cases e:i=j
  ·rw [if_pos e];right;rw [← e];exact h.1.symm
  ·rw [if_neg e];exact Kx h.2 j
theorem Ref.frame {F' : Frame}(h:sub F F'):Ref n0 F H F' H:=fun N g a w hR=>by
 refine ⟨g,⟨fun j=>?_,hR.hp,hR.size,hR.defers⟩,.refl hR.hp⟩
 rcases Kx h j with e | e
 ·rw [e];exact .any
 ·rw [e];exact hR.fr j
def Nc (F:Frame)(c:AX)(X Y:Prop):Prop:=match st (ax F c) with
 | .val (.bool b)=>Ap (ax F c)∧(b=true→X)∧(b=false→Y)
 | _=>False
theorem cR {Q:Exit→Frame→Heap→Prop}{c:AX}{x y:ACode}(h:Nc F c (W P M N n0 x Q F H) (W P M N n0 y Q F H)):W P M N n0 (.cond c x y) Q F H:=by
 unfold Nc at h
 split at h
 ·rename_i b hb;exact cQ hb h.1 h.2.1 h.2.2
 ·exact h.elim
theorem yF (x:Nat):((x:Int) - 1).toNat=x - 1:=by omega
theorem yG (x:Nat):((x:Int)+1).toNat=x+1:=by omega
theorem eA (b:Bool):(b == true)=b:=by cases b<;>rfl
theorem dZ (b:Bool):(b == false) = !b:=by cases b<;>rfl
theorem uZ (K:AV→Heap→Prop):Hl [] K F H=K (.tup []) H:=by simp [Hl]
theorem vA (a:AOp)(K:AV→Heap→Prop):Hl [a] K F H=(A5 a F H∧K (Am a F H) H):=rfl
theorem vB (a b:AOp)(K:AV→Heap→Prop):Hl [a,b] K F H=(A5 a F H∧A5 b F H∧K (.tup [Am a F H,Am b F H]) H):=by simp [Hl,and_assoc]
def D8 (P:Program)(ext:Bool)(l:List As)(K:Frame→Heap→Prop)(F:Frame)(H:Heap):Prop:=D7 P ext l K F H
@[congr] theorem Aag {ext:Bool} {l:List As} {K:Frame→Heap→Prop} {F' : Frame} {H' : Heap} (hF:F=F') (hH:H=H'):D8 P ext l K F H=D8 P ext l K F' H' := by rw [hF,hH]
theorem cW {Q:Exit→Frame→Heap→Prop}{h t:List As}(hE:D8 P true h (D8 P false t (Q .normal)) F H):W P M N n0 (.ops h t) Q F H:=cV hE
def Ao (P:Program)(f:FuncId)(args:List AV)(x:AV)(H0:Heap):Prop:=CallsX P true f args [] fun av H' => av=x∧H' = H0
theorem sU {f:FuncId}{ac:ACode}{rs:List AOp}{args:List AV}{x:AV}{H0:Heap}(hc:Aj P M f=some (N,ac,rs))(hl:decide (args.length≤N)=true)(hW:W P M N 0 ac (Db rs fun av H' => av=x∧H' = H0) (Cb 0 args) []):Ao P f args x H0:=
 (G5 hc (of_decide_eq_true hl) hW).ext_nil
theorem M3 {ext:Bool}{f:FuncId}{args args' : List AV}{x:AV}{H0:Heap}{K:AV→Heap→Prop}(h:Ao P f args x H0)(ha:args'.map (Ai H 6)=args)(hx:nf 6 x=true)(hH:Cj 6 H0=true)(hK:K (Az H.length 6 x) (H++Dg H.length 6 H0)):CallsX P ext f args' H K:=
 ((CallsX.lift h 6 6 ha.symm (by rintro av H' ⟨rfl,rfl⟩;exact ⟨hx,hH⟩)).weak).mono (by rintro av H' ⟨av0,H0', ⟨rfl,rfl⟩,rfl,rfl⟩;exact hK)
/-! ### Small lemmas for the evaluation -/
theorem I4 (H:Heap)(d:Nat)(xs:List Int):(Aa xs).map (Ai H (d+1))=Aa xs:=by simp [Aa,Ai]
theorem mL (H:Heap)(d:Nat)(xs:List Bool):(Bc xs).map (Ai H (d+1))=Bc xs:=by simp [Bc,Ai]
theorem iO (H:Heap)(d:Nat)(xs:List Int):Ai H (d+2) (Ad xs)=Ad xs:=by simp only [Ad,Ai];rw [I4]
theorem X9 (H:Heap)(d:Nat)(xss:List (List Int)):(xss.map Ad).map (Ai H (d+2))=xss.map Ad:=by
 rw [List.map_map];exact List.map_congr_left fun xs _=>iO H d xs
theorem iP (H:Heap)(d:Nat)(xs:List Int):Ai H (d+2) (Af xs)=Ad xs:=by simp only [Af,Ai];rw [I4]
theorem Gt (H:Heap)(d:Nat)(xss:List (List Int)):(xss.map Af).map (Ai H (d+2))=xss.map Ad:=by
 rw [List.map_map];exact List.map_congr_left fun xs _=>iP H d xs
theorem Ya (n d:Nat)(xs:List Int):(Aa xs).map (Az n d)=Aa xs:=by cases d<;>simp [Aa,Az]
theorem wD (n d:Nat)(xs:List Int):Az n d (Af xs)=Af xs:=by
 cases d with
 | zero=>rfl
 | succ d=>simp only [Af,Az];rw [Ya]
theorem mP (n d:Nat)(xss:List (List Int)):(xss.map Af).map (Az n d)=xss.map Af:=by
 rw [List.map_map];exact List.map_congr_left fun xs _=>wD n d xs
theorem S9 (d:Nat)(xs:List Int):(Aa xs).all (nf (d+1))=true:=by simp [Aa,nf]
theorem nR (d:Nat)(xs:List Int):nf (d+2) (Af xs)=true:=by simp only [Af,nf];exact S9 d xs
theorem dI (d:Nat)(xss:List (List Int)):(xss.map Af).all (nf (d+2))=true:=by
 rw [List.all_map];exact List.all_eq_true.2 fun xs _=>nR d xs
theorem Ef (xs:List Int):(Aa xs).length=xs.length:=by simp [Aa]
theorem lS (xs:List Bool):(Bc xs).length=xs.length:=by simp [Bc]
theorem iY (xs:List Int)(i:Nat):(Aa xs).getD i (.val (.int .i64 0))=i64 (xs.getD i 0):=by
 by_cases h:i<xs.length<;>simp [Aa,h]
theorem iX (xs:List Bool)(i:Nat):(Bc xs).getD i (bl false)=bl (xs.getD i false):=by
 by_cases h:i<xs.length<;>simp [Bc,h]
theorem iZ (xss:List (List Int))(i:Nat):(xss.map Ad).getD i (.slc 1 0 [])=Ad (xss.getD i []):=by
 by_cases h:i<xss.length
 ·simp [h]
 ·simp [h,Ad,Aa]
theorem sB (xs:List Int)(i:Nat):Bf ((Aa xs).getD i .any)=true:=by
 by_cases h:i<xs.length
 ·simp [Aa,h,Bf]
 ·simp [Aa,h,Bf]
theorem sA (xs:List Bool)(i:Nat):Bf ((Bc xs).getD i .any)=true:=by
 by_cases h:i<xs.length
 ·simp [Bc,h,Bf]
 ·simp [Bc,h,Bf]
theorem sE (xss:List (List Int))(i:Nat):Bf ((xss.map Ad).getD i .any)=true:=by
 by_cases h:i<xss.length
 ·simp [h,Bf,Ad]
 ·simp [h,Bf]
theorem sI (v:Value):Bf (.val v)=true:=rfl
theorem sG (k n:Nat)(cs:List AV):Bf (.slc k n cs)=true:=rfl
theorem sC (cs:List AV)(j:Nat):Bf (.pto cs j)=true:=rfl
theorem sF (o k off len:Nat):Bf (.sl o k off len)=true:=rfl
theorem sD (o j:Nat):Bf (.ref o j)=true:=rfl
theorem rZ:Bf .any=true:=rfl
theorem vV (xs:List Int)(i:Nat)(n:Int):(Aa xs).set i (i64 n)=Aa (xs.set i n):=by simp [Aa,List.map_set]
theorem vU (xs:List Bool)(i:Nat)(n:Bool):(Bc xs).set i (bl n)=Bc (xs.set i n):=by simp [Bc,List.map_set]
theorem La (xs ys:List Int):Aa xs++Aa ys=Aa (xs++ys):=by simp [Aa]
theorem Rr (n:Int):[i64 n]=Aa [n]:=rfl
theorem uW (n:Nat)(k:Int):List.replicate n (AV.val (.int .i64 k))=Aa (List.replicate n k):=by simp [Aa]
theorem uV (n:Nat)(k:Bool):List.replicate n (AV.val (.bool k))=Bc (List.replicate n k):=by simp [Bc]
theorem Vs (xs:List Int)(n:Nat):(Aa xs).drop n=Aa (xs.drop n):=by simp [Aa]
theorem aI (xs:List Int)(n:Nat):(Aa xs).take n=Aa (xs.take n):=by simp [Aa]
theorem Tb (xs:List Int):(Aa xs).all Bf=true:=by simp [Aa,Bf]
theorem Ta (xs:List Int):(Aa xs).all B1=true:=by simp [Aa,B1,Value.oneCell']
theorem fT (b x:Bool):(bif b then x else false)=(b&&x):=by cases b<;>rfl
theorem fU (b x:Bool):(bif b then true else x)=(b || x):=by cases b<;>rfl
theorem iW (b w:Bool):H5 (bl b) w=some (b == w):=rfl
end
end Go.Gov
