/- Texts that belong together. -/
import Derived.Test.YtaekhhaaphgndaaGreatDoorY2
set_option maxHeartbeats 16000000
set_option linter.unusedSimpArgs false
set_option linter.unusedVariables false
set_option maxRecDepth 100000
namespace Go.Proofs.YtaekhhaaphgndaaGreatDoor
section
open Go.Gov
open Classical
inductive Alv (r:Int) (R:List Int) (B:List (List Int)):Nat→Prop
 | top {x:Nat}:x<R.length→R.getD x 0=r - 1→Alv r R B x
 | up {x f:Nat}:f<R.length→Alv r R B f→R.getD x 0=R.getD f 0 - 1→(x:Int)∈B.getD f []→Alv r R B x
section
variable (r:Int) (R:List Int) (B:List (List Int))
noncomputable def nxt (start:List Int):List Nat:=(List.range R.length).filter fun e=>decide (R.getD e 0=start.length∧Alv r R B e∧(start=[]∨start.getLastD 0∈B.getD e []))
noncomputable def exts:Nat→List Int→List (List Int)
 | 0,start=>[start]
 | k+1,start=>(nxt r R B start).flatMap fun e:Nat=>exts k (start++[(e:Int)])
end
theorem take_app {α:Type}(n:Nat)(l a b:List α):((l++a).take n++b).take n=(l++a++b).take n:=by
 rw [List.take_append (l₁:=(l++a).take n),List.take_append (l₁:=l++a),List.take_take,Nat.min_self]
 congr 1
 rcases Nat.lt_or_ge n (l++a).length with h | h
 ·rw [List.length_take,Nat.min_eq_left (by omega),Nat.sub_self,Nat.sub_eq_zero_of_le (by omega)]
 ·rw [List.take_of_length_le h]
theorem take_full {α:Type}{n:Nat}{l:List α}(h:l.length=n)(a:List α):(l++a).take n=l:=by
 rw [← h,List.take_left']
 rfl
end
section
open Go.Gov
open Classical
def Mk (r:Int)(R:List Int)(B:List (List Int))(f:Nat)(e:Nat):Prop:=
 (f≤e∧e<R.length∧Alv r R B e)∨∃ f', f≤f' ∧ f' < R.length∧Alv r R B f' ∧ R.getD e 0=R.getD f' 0 - 1∧(e:Int)∈B.getD f' []
theorem mk_zero {r:Int}{R:List Int}{B:List (List Int)}(e:Nat)(he:e<R.length):Mk r R B 0 e ↔ Alv r R B e:=by
 constructor
 ·rintro (⟨_,_,h⟩ | ⟨f,_,h1,h2,h3,h4⟩)
  ·exact h
  ·exact .up h1 h2 h3 h4
 ·exact fun h=>.inl ⟨Nat.zero_le _,he,h⟩
theorem mk_self {r:Int}{R:List Int}{B:List (List Int)}(f:Nat)(hf:f<R.length)(hlt:∀ f' x:Nat,f' < R.length→(x:Int)∈B.getD f' []→x<f'):(R.getD f 0=r - 1∨Mk r R B (f+1) f) ↔ Alv r R B f:=by
 constructor
 ·rintro (h | ⟨h,_⟩ | ⟨f', _,h1,h2,h3,h4⟩)
  ·exact .top hf h
  ·omega
  ·exact .up h1 h2 h3 h4
 ·intro h
  cases h with
  | top _ h=>exact .inl h
  | up h1 h2 h3 h4=>
   rename_i f'
   have:=hlt f' f h1 h4
   exact .inr (.inr ⟨f', by omega,h1,h2,h3,h4⟩)
noncomputable def mkL (r:Int)(R:List Int)(B:List (List Int))(f:Nat):List Bool:=(List.range R.length).map fun e=>decide (Mk r R B f e)
theorem mkL_len (r:Int)(R:List Int)(B:List (List Int))(f:Nat):(mkL r R B f).length=R.length:=by simp [mkL]
theorem mkL_at (r:Int)(R:List Int)(B:List (List Int))(f e:Nat)(h:e<R.length):(mkL r R B f).getD e false=decide (Mk r R B f e):=by
 unfold mkL
 rw [List.getD_eq_getElem?_getD,List.getElem?_map,List.getElem?_range h]
 rfl
theorem mkL_top (r:Int)(R:List Int)(B:List (List Int)):mkL r R B R.length=List.replicate R.length false:=by
 refine List.ext_getElem (by simp [mkL]) fun e h1 h2=>?_
 simp only [mkL,List.getElem_map,List.getElem_range,List.getElem_replicate,decide_eq_false_iff_not]
 rintro (⟨h,h', _⟩ | ⟨f,h,h', _⟩)<;>omega
end
section
open Go.Gov
open Classical
theorem mk_step {r:Int}{R:List Int}{B:List (List Int)}{x e:Nat}(hx:x<R.length):Mk r R B x e ↔ Mk r R B (x+1) e∨(e=x∧Alv r R B x)∨(Alv r R B x∧R.getD e 0=R.getD x 0 - 1∧(e:Int)∈B.getD x []):=by
 constructor
 ·rintro (⟨h1,h2,h3⟩ | ⟨f,h1,h2,h3,h4,h5⟩)
  ·rcases Nat.eq_or_lt_of_le h1 with h | h
   ·exact .inr (.inl ⟨h.symm,h ▸ h3⟩)
   ·exact .inl (.inl ⟨h,h2,h3⟩)
  ·rcases Nat.eq_or_lt_of_le h1 with h | h
   ·subst h;exact .inr (.inr ⟨h3,h4,h5⟩)
   ·exact .inl (.inr ⟨f,h,h2,h3,h4,h5⟩)
 ·rintro ((⟨h1,h2,h3⟩ | ⟨f,h1,h2,h3,h4,h5⟩) | ⟨rfl,h⟩ | ⟨h1,h2,h3⟩)
  ·exact .inl ⟨by omega,h2,h3⟩
  ·exact .inr ⟨f,by omega,h2,h3,h4,h5⟩
  ·exact .inl ⟨Nat.le_refl _,hx,h⟩
  ·exact .inr ⟨x,Nat.le_refl _,hx,h1,h2,h3⟩
theorem bools_ext {Y Z:List Bool}(h:Y.length=Z.length)(h2:∀ e,e<Y.length→Y.getD e false=Z.getD e false):Y=Z:=by
 refine List.ext_getElem h fun e h3 h4=>?_
 have:=h2 e h3
 simpa [h3,h4] using this
theorem setT_at (Y:List Bool)(x e:Nat)(h:x<Y.length):(Y.set x true).getD e false=(decide (e=x) || Y.getD e false):=by
 rw [List.getD_eq_getElem?_getD,List.getD_eq_getElem?_getD,List.getElem?_set]
 by_cases he:x=e
 ·subst he;simp [h]
 ·simp [he,show ¬ e=x from fun h=>he h.symm]
def Mi (r:Int)(R:List Int)(B:List (List Int))(x j e:Nat):Prop:=Mk r R B (x+1) e∨(e=x∧Alv r R B x)∨(Alv r R B x∧∃ i,i<j∧(B.getD x []).getD i 0=(e:Int)∧R.getD e 0=R.getD x 0 - 1)
theorem mi_end {r:Int}{R:List Int}{B:List (List Int)}{x j e:Nat}(hx:x<R.length)(hj:j=(B.getD x []).length∨¬ Alv r R B x):Mi r R B x j e ↔ Mk r R B x e:=by
 rw [mk_step hx]
 unfold Mi
 refine or_congr Iff.rfl (or_congr Iff.rfl (and_congr_right fun ha=>?_))
 obtain rfl:j=(B.getD x []).length:=hj.resolve_right (not_not_intro ha)
 constructor
 ·rintro ⟨i,h1,h2,h3⟩
  refine ⟨h3,?_⟩
  rw [← h2,getD_el _ i h1]
  exact List.getElem_mem h1
 ·rintro ⟨h3,h4⟩
  obtain ⟨i,h1,h2⟩:=List.mem_iff_getElem.1 h4
  exact ⟨i,h1,by rw [getD_el _ i h1,h2],h3⟩
theorem mi_succ {r:Int}{R:List Int}{B:List (List Int)}{x j e:Nat}:Mi r R B x (j+1) e ↔ Mi r R B x j e∨(Alv r R B x∧(B.getD x []).getD j 0=(e:Int)∧R.getD e 0=R.getD x 0 - 1):=by
 unfold Mi
 constructor
 ·rintro (h | h | ⟨h,i,h1,h2,h3⟩)
  ·exact .inl (.inl h)
  ·exact .inl (.inr (.inl h))
  ·rcases Nat.lt_or_ge i j with h' | h'
   ·exact .inl (.inr (.inr ⟨h,i,h', h2,h3⟩))
   ·obtain rfl:i=j:=by omega
    exact .inr ⟨h,h2,h3⟩
 ·rintro ((h | h | ⟨h,i,h1,h2,h3⟩) | ⟨h,h2,h3⟩)
  ·exact .inl h
  ·exact .inr (.inl h)
  ·exact .inr (.inr ⟨h,i,by omega,h2,h3⟩)
  ·exact .inr (.inr ⟨h,j,by omega,h2,h3⟩)
theorem mi_zero {r:Int}{R:List Int}{B:List (List Int)}{x e:Nat}:Mi r R B x 0 e ↔ Mk r R B (x+1) e∨(e=x∧Alv r R B x):=by
 unfold Mi
 constructor
 ·rintro (h | h | ⟨h,i,h1,_⟩)
  ·exact .inl h
  ·exact .inr h
  ·omega
 ·rintro (h | h)
  ·exact .inl h
  ·exact .inr (.inl h)
theorem mi_first {r:Int}{R:List Int}{B:List (List Int)}{x e:Nat}(hx:x<R.length)(hlt:∀ f' x:Nat,f' < R.length→(x:Int)∈B.getD f' []→x<f')(h:R.getD x 0=r - 1):Mk r R B (x+1) e∨(e=x∧Alv r R B x) ↔ e=x∨Mk r R B (x+1) e:=by
 have:=(mk_self x hx hlt).1 (.inl h)
 constructor
 ·rintro (h | h)
  ·exact .inr h
  ·exact .inl h.1
 ·rintro (h | h)
  ·exact .inr ⟨h,this⟩
  ·exact .inl h
theorem mi_none {r:Int}{R:List Int}{B:List (List Int)}{x e:Nat}(hx:x<R.length)(hlt:∀ f' x:Nat,f' < R.length→(x:Int)∈B.getD f' []→x<f')(h:¬ R.getD x 0=r - 1):Mk r R B (x+1) e∨(e=x∧Alv r R B x) ↔ Mk r R B (x+1) e:=by
 constructor
 ·rintro (h1 | ⟨rfl,h1⟩)
  ·exact h1
  ·exact ((mk_self e hx hlt).2 h1).resolve_left h
 ·exact .inl
theorem mi_self {r:Int}{R:List Int}{B:List (List Int)}{x j:Nat}(hx:x<R.length)(hlt:∀ f' x:Nat,f' < R.length→(x:Int)∈B.getD f' []→x<f'):Mi r R B x j x ↔ Alv r R B x:=by
 unfold Mi
 constructor
 ·rintro (h | h | h)
  ·exact (mk_self x hx hlt).1 (.inr h)
  ·exact h.2
  ·exact h.1
 ·exact fun h=>.inr (.inl ⟨rfl,h⟩)
theorem IsPos.low {r:Int}{R:List Int}{B:List (List Int)}(hp:IsPos r R B)(f x:Nat)(hf:f<R.length)(h:(x:Int)∈B.getD f []):x<f:=by
 obtain ⟨j,hj,he⟩:=List.mem_iff_getElem.1 h
 have:=((hp.2 f hf).2 j hj).1
 unfold CvrP at this
 rw [getD_el _ j hj,he] at this
 omega
theorem l03Alive_p (r:Int)(R:List Int)(B:List (List Int))(hp:IsPos r R B):Pure Tryz.prog 59 [posetA r R B] (.sl 0 1 0 (mkL r R B 0).length) [some (boolsC (mkL r R B 0))]:=by
 obtain ⟨a1,a2,a3,a4,a5⟩:=hp.rank
 obtain ⟨hok,hs⟩:=hp.rows
 have hrow:=row_500 hp
 have hlt:=hp.low
 refine pureVg [1] ok59 rfl ?_;unfold c59
 refine RN ?_
 refine V_loop (α:=Nat×List Bool) (S:=fun q=>([(1,.ref 0 0),(3,.sl 1 1 0 q.2.length),(4,i64 ((q.1:Int) - 1))],[some [i64 r,ints R,mat B],some (boolsC q.2)])) (C:=fun q=>q.1≤R.length∧q.2.length=R.length∧∀ e,e<R.length→q.2.getD e false=decide (Mk r R B q.1 e)) (μ:=fun q=>q.1) (R.length,List.replicate R.length false) ⟨Nat.le_refl _,by simp,fun e he=>by rw [← mkL_top r R B];exact mkL_at r R B R.length e he⟩ (Ref.to (by simp) (by simp [sub,fget])) ?_
 rintro ⟨f,Y⟩ ⟨hf,hY,hYm⟩
 dsimp only at hf hY hYm ⊢
 refine RN ?_
 refine ⟨fun hc=>?_,fun hc=>?_⟩
 ·obtain ⟨x,rfl⟩:∃ x,f=x+1:=⟨f - 1,by omega⟩
  have hlen:=hrow x
  have hRx:=a5 x (by omega)
  rw [show ((x+1:Nat):Int) - 1=(x:Int) by omega]
  have hx:x<R.length:=by omega
  refine RN ?_
  refine ⟨fun hc1=>?_,fun hc1=>?_⟩
  ·(refine RN ?_;try with_reducible exact trivial)
   refine V_loop (α:=Nat×List Bool) (S:=fun q=>([(1,.ref 0 0),(3,.sl 1 1 0 q.2.length),(4,i64 (x:Int)),(5,i64 q.1)],[some [i64 r,ints R,mat B],some (boolsC q.2)])) (C:=fun q=>q.1≤(B.getD x []).length∧q.2.length=R.length∧∀ e,e<R.length→q.2.getD e false=decide (Mi r R B x q.1 e)) (μ:=fun q=>(B.getD x []).length - q.1) (0,Y.set x true) ⟨Nat.zero_le _,by simpa using hY,fun e he=>by rw [setT_at Y x e (by omega),hYm e he,← Bool.decide_or,decide_eq_decide,mi_zero,mi_first hx hlt hc1]⟩ (Ref.to (by simp) (by simp [sub,fget])) ?_
   rintro ⟨j,Z⟩ ⟨hj,hZ,hZm⟩
   dsimp only at hj hZ hZm ⊢
   have hZx:Z.getD x false=decide (Alv r R B x):=by
    rw [hZm x hx,decide_eq_decide]
    exact mi_self hx hlt
   refine RN ?_
   refine ⟨fun hc2=>?_,fun hc2=>?_⟩
   ·obtain ⟨hj1,hZt⟩:=hc2
    have hal:Alv r R B x:=of_decide_eq_true (hZx.symm.trans hZt)
    have hb:0≤(B.getD x []).getD j 0∧(B.getD x []).getD j 0≤(R.length:Int) - 1:=hok x (by omega) j (by omega)
    refine RN ?_
    refine ⟨fun hc3=>?_,fun hc3=>?_⟩
    ·(refine RN ?_;try with_reducible exact trivial)
     refine ⟨(j+1,Z.set ((B.getD x []).getD j 0).toNat true),⟨by dsimp only;omega,by simpa using hZ,fun e he=>?_⟩,by dsimp only;omega,Ref.to (by simp) (by simp [sub,fget])⟩
     dsimp only
     rw [setT_at Z _ e (by omega),hZm e he,← Bool.decide_or,decide_eq_decide,mi_succ]
     constructor
     ·rintro (rfl | h)
      ·exact .inr ⟨hal,by omega,hc3⟩
      ·exact .inl h
     ·rintro (h | ⟨_,h,_⟩)
      ·exact .inr h
      ·exact .inl (by omega)
    ·(refine RN ?_;try with_reducible exact trivial)
     refine ⟨(j+1,Z),⟨by dsimp only;omega,hZ,fun e he=>?_⟩,by dsimp only;omega,Ref.to (by simp) (by simp [sub,fget])⟩
     dsimp only
     rw [hZm e he,decide_eq_decide,mi_succ]
     constructor
     ·exact .inl
     ·rintro (h | ⟨_,h,h2⟩)
      ·exact h
      ·rw [h] at hc3
       exact absurd h2 hc3
   ·(refine RN ?_;try with_reducible exact trivial)
    refine ⟨(x,Z),⟨by dsimp only;omega,hZ,fun e he=>?_⟩,by dsimp only;omega,Ref.to (by simp) (by simp [sub,fget])⟩
    dsimp only
    rw [hZm e he,decide_eq_decide]
    refine mi_end hx ?_
    by_cases h:j=(B.getD x []).length
    ·exact .inl h
    ·refine .inr fun hal=>?_
     rcases hc2 with h2 | h2
     ·omega
     ·rw [hZx] at h2
      exact of_decide_eq_false h2 hal
  ·(refine RN ?_;try with_reducible exact trivial)
   refine V_loop (α:=Nat×List Bool) (S:=fun q=>([(1,.ref 0 0),(3,.sl 1 1 0 q.2.length),(4,i64 (x:Int)),(5,i64 q.1)],[some [i64 r,ints R,mat B],some (boolsC q.2)])) (C:=fun q=>q.1≤(B.getD x []).length∧q.2.length=R.length∧∀ e,e<R.length→q.2.getD e false=decide (Mi r R B x q.1 e)) (μ:=fun q=>(B.getD x []).length - q.1) (0,Y) ⟨Nat.zero_le _,hY,fun e he=>by rw [hYm e he,decide_eq_decide,mi_zero,mi_none hx hlt hc1]⟩ (Ref.to (by simp) (by simp [sub,fget])) ?_
   rintro ⟨j,Z⟩ ⟨hj,hZ,hZm⟩
   dsimp only at hj hZ hZm ⊢
   have hZx:Z.getD x false=decide (Alv r R B x):=by
    rw [hZm x hx,decide_eq_decide]
    exact mi_self hx hlt
   refine RN ?_
   refine ⟨fun hc2=>?_,fun hc2=>?_⟩
   ·obtain ⟨hj1,hZt⟩:=hc2
    have hal:Alv r R B x:=of_decide_eq_true (hZx.symm.trans hZt)
    have hb:0≤(B.getD x []).getD j 0∧(B.getD x []).getD j 0≤(R.length:Int) - 1:=hok x (by omega) j (by omega)
    refine RN ?_
    refine ⟨fun hc3=>?_,fun hc3=>?_⟩
    ·(refine RN ?_;try with_reducible exact trivial)
     refine ⟨(j+1,Z.set ((B.getD x []).getD j 0).toNat true),⟨by dsimp only;omega,by simpa using hZ,fun e he=>?_⟩,by dsimp only;omega,Ref.to (by simp) (by simp [sub,fget])⟩
     dsimp only
     rw [setT_at Z _ e (by omega),hZm e he,← Bool.decide_or,decide_eq_decide,mi_succ]
     constructor
     ·rintro (rfl | h)
      ·exact .inr ⟨hal,by omega,hc3⟩
      ·exact .inl h
     ·rintro (h | ⟨_,h,_⟩)
      ·exact .inr h
      ·exact .inl (by omega)
    ·(refine RN ?_;try with_reducible exact trivial)
     refine ⟨(j+1,Z),⟨by dsimp only;omega,hZ,fun e he=>?_⟩,by dsimp only;omega,Ref.to (by simp) (by simp [sub,fget])⟩
     dsimp only
     rw [hZm e he,decide_eq_decide,mi_succ]
     constructor
     ·exact .inl
     ·rintro (h | ⟨_,h,h2⟩)
      ·exact h
      ·rw [h] at hc3
       exact absurd h2 hc3
   ·(refine RN ?_;try with_reducible exact trivial)
    refine ⟨(x,Z),⟨by dsimp only;omega,hZ,fun e he=>?_⟩,by dsimp only;omega,Ref.to (by simp) (by simp [sub,fget])⟩
    dsimp only
    rw [hZm e he,decide_eq_decide]
    refine mi_end hx ?_
    by_cases h:j=(B.getD x []).length
    ·exact .inl h
    ·refine .inr fun hal=>?_
     rcases hc2 with h2 | h2
     ·omega
     ·rw [hZx] at h2
      exact of_decide_eq_false h2 hal
 ·obtain rfl:f=0:=by omega
  refine RN ?_
  obtain rfl:Y=mkL r R B 0:=bools_ext (hY.trans (mkL_len r R B 0).symm) fun e he=>by rw [hYm e (by omega),mkL_at r R B 0 e (by omega)]
  exact ⟨rfl,rfl⟩
end
section
open Go.Gov
open Classical
section
variable (r:Int) (R:List Int) (B:List (List Int))
def nxP (start:List Int)(e:Nat):Prop:=R.getD e 0=start.length∧Alv r R B e∧(start=[]∨start.getLastD 0∈B.getD e [])
noncomputable def exto (k:Nat)(start:List Int)(j:Nat):List (List Int):=((List.range j).filter fun e=>decide (nxP r R B start e)).flatMap fun e:Nat=>exts r R B k (start++[(e:Int)])
noncomputable def allF:List (List Int):=exts r R B r.toNat []
end
variable {r:Int} {R:List Int} {B:List (List Int)}
theorem exts_succ (k:Nat)(start:List Int):exts r R B (k+1) start=exto r R B k start R.length:=by
 show (nxt r R B start).flatMap _=_
 unfold nxt exto
 congr 1
 exact List.filter_congr fun e _=>decide_eq_decide.2 Iff.rfl
theorem exto_zero (k:Nat)(start:List Int):exto r R B k start 0=[]:=rfl
theorem exto_yes {k:Nat}{start:List Int}{j:Nat}(h:nxP r R B start j):exto r R B k start (j+1)=exto r R B k start j++exts r R B k (start++[(j:Int)]):=by
 unfold exto
 rw [List.range_succ,List.filter_append,List.flatMap_append,List.filter_cons_of_pos (by simpa using h)]
 simp
theorem exto_no {k:Nat}{start:List Int}{j:Nat}(h:¬ nxP r R B start j):exto r R B k start (j+1)=exto r R B k start j:=by
 unfold exto
 rw [List.range_succ,List.filter_append,List.filter_cons_of_neg (by simpa using h)]
 simp
theorem exts_mem:∀ (k:Nat) (start f:List Int),f∈exts r R B k start→f.length=start.length+k∧∀ x∈f,x∈start∨(0≤x∧x≤(R.length:Int) - 1)
 | 0,start,f,h=>by
  obtain rfl:f=start:=by simpa [exts] using h
  exact ⟨rfl,fun x hx=>.inl hx⟩
 | k+1,start,f,h=>by
  rw [exts_succ] at h
  obtain ⟨e,he,hf⟩:=List.mem_flatMap.1 h
  have h1:=List.mem_range.1 (List.mem_filter.1 he).1
  obtain ⟨h2,h3⟩:=exts_mem k _ f hf
  refine ⟨by rw [h2];simp;omega,fun x hx=>?_⟩
  rcases h3 x hx with h | h
  ·rcases List.mem_append.1 h with h | h
   ·exact .inl h
   ·obtain rfl:x=(e:Int):=by simpa using h
    exact .inr ⟨by omega,by omega⟩
  ·exact .inr h
theorem allF_mem {f:List Int}(h:f∈allF r R B):(f.length:Int)=r.toNat∧∀ k,k<f.length→0≤f.getD k 0∧f.getD k 0≤(R.length:Int) - 1:=by
 obtain ⟨h1,h2⟩:=exts_mem _ _ f h
 refine ⟨by rw [h1];simp,fun k hk=>?_⟩
 rw [getD_el _ k hk]
 rcases h2 _ (List.getElem_mem hk) with h | h
 ·simp at h
 ·exact h
end
section
open Go.Gov
open Classical
def Cov (R:List Int)(F:List (List Int)):Prop:=∀ e:Nat,e<R.length→∃ f∈F,(e:Int)∈f
def Sn (F:List (List Int))(i k e:Nat):Prop:=(∃ i', i' < i∧(e:Int)∈F.getD i' [])∨∃ k', k' < k∧(F.getD i []).getD k' 0=(e:Int)
theorem sn_start (F:List (List Int))(e:Nat):¬ Sn F 0 0 e:=by
 rintro (⟨_,h,_⟩ | ⟨_,h,_⟩)<;>omega
theorem sn_succ (F:List (List Int))(i k e:Nat):Sn F i (k+1) e ↔ Sn F i k e∨(F.getD i []).getD k 0=(e:Int):=by
 unfold Sn
 constructor
 ·rintro (h | ⟨k', h1,h2⟩)
  ·exact .inl (.inl h)
  ·rcases Nat.lt_or_ge k' k with h | h
   ·exact .inl (.inr ⟨k', h,h2⟩)
   ·obtain rfl:k' = k:=by omega
    exact .inr h2
 ·rintro ((h | ⟨k', h1,h2⟩) | h)
  ·exact .inl h
  ·exact .inr ⟨k', by omega,h2⟩
  ·exact .inr ⟨k,by omega,h⟩
theorem sn_row (F:List (List Int))(i e:Nat):Sn F i (F.getD i []).length e ↔ Sn F (i+1) 0 e:=by
 unfold Sn
 constructor
 ·rintro (⟨i', h1,h2⟩ | ⟨k', h1,h2⟩)
  ·exact .inl ⟨i', by omega,h2⟩
  ·refine .inl ⟨i,by omega,?_⟩
   rw [← h2,getD_el _ _ h1]
   exact List.getElem_mem h1
 ·rintro (⟨i', h1,h2⟩ | ⟨k', h1,h2⟩)
  ·rcases Nat.lt_or_ge i' i with h | h
   ·exact .inl ⟨i', h,h2⟩
   ·obtain rfl:i' = i:=by omega
    obtain ⟨k,h3,h4⟩:=List.mem_iff_getElem.1 h2
    exact .inr ⟨k,h3,by rw [getD_el _ _ h3,h4]⟩
  ·omega
theorem sn_end (F:List (List Int))(e:Nat):Sn F F.length 0 e ↔ ∃ f∈F,(e:Int)∈f:=by
 unfold Sn
 constructor
 ·rintro (⟨i', h1,h2⟩ | ⟨k', h1,h2⟩)
  ·refine ⟨F.getD i' [],?_,h2⟩
   rw [show F.getD i' []=F[i'] by simp [h1]]
   exact List.getElem_mem h1
  ·omega
 ·rintro ⟨f,h1,h2⟩
  obtain ⟨i,h3,rfl⟩:=List.mem_iff_getElem.1 h1
  exact .inl ⟨i,h3,by rwa [show F.getD i []=F[i] by simp [h3]]⟩
theorem setT_count (Y:List Bool)(x:Nat)(h:x<Y.length)(hx:Y.getD x false=false):(Y.set x true).count true=Y.count true+1:=by
 rw [List.count_set h]
 have:Y[x]=false:=by simpa [h] using hx
 simp [this]
theorem all_at {Y:List Bool}{n:Nat}{p:Nat→Prop}(hl:Y.length=n)(h:∀ e,e<n→Y.getD e false=decide (p e)):(∀ b∈Y,true=b) ↔ ∀ e,e<n→p e:=by
 constructor
 ·intro hb e he
  have h1:=h e he
  rw [show Y.getD e false=Y[e]'(by omega) by simp [show e<Y.length by omega],← hb _ (List.getElem_mem _)] at h1
  exact of_decide_eq_true h1.symm
 ·intro hp b hb
  obtain ⟨e,he,rfl⟩:=List.mem_iff_getElem.1 hb
  have h1:=h e (by omega)
  rw [decide_eq_true (hp e (by omega)),show Y.getD e false=Y[e] by simp [he]] at h1
  exact h1.symm
theorem cov_count {R:List Int}{F:List (List Int)}{Y:List Bool}(hl:Y.length=R.length)(h:∀ e,e<R.length→Y.getD e false=decide (Sn F F.length 0 e)):Y.count true=R.length ↔ Cov R F:=by
 rw [← hl,List.count_eq_length,all_at hl h]
 exact forall_congr' fun e=>imp_congr_right fun _=>sn_end F e
theorem cov_has {R:List Int}{F:List (List Int)}{Y:List Bool}(hl:Y.length=R.length)(h:∀ e,e<R.length→Y.getD e false=decide (Sn F F.length 0 e)):false∉Y ↔ Cov R F:=by
 have:false∉Y ↔ ∀ b∈Y,true=b:=by
  constructor
  ·intro h b hb
   cases b
   ·exact absurd hb h
   ·rfl
  ·intro h hb
   exact absurd (h _ hb) (by decide)
 rw [this,all_at hl h]
 exact forall_congr' fun e=>imp_congr_right fun _=>sn_end F e
end
section
open Go.Gov
open Classical
theorem nxP_iff {r:Int}{R:List Int}{B:List (List Int)}{start:List Int}{j:Nat}:nxP r R B start j ↔ (R.getD j 0=start.length∧Alv r R B j)∧((start.length:Int)=0∨start.getD (start.length - 1) 0∈B.getD j []):=by
 unfold nxP
 rw [and_assoc]
 refine and_congr_right fun _=>and_congr_right fun _=>?_
 rcases List.eq_nil_or_concat start with rfl | ⟨l,x,rfl⟩
 ·simp
 ·simp
  exact fun h=>by omega
theorem l03Extend_w (r : Int) (R : List Int) (B : List (List Int)) (hp : IsPos r R B) (A : List Bool) (hA : A.length = R.length) (hAm : ∀ e, e < R.length → A.getD e false = decide (Alv r R B e)) : ∀ (k : Nat) (start : List Int) (L L' : List (List Int)), start.length + k = r.toNat → L.length ≤ 401 → L' = (L ++ exts r R B k start).take 401 →
    Wri Tryz.prog 58 [posetA r R B,bools A,.sl 0 1 0 start.length,.sl 1 1 0 L.length] [some (intsC start),some (L.map oints)] (.sl 2 1 0 L'.length) [none,none,some (L'.map oints)]:=by
 obtain ⟨a1,a2,a3,a4,a5⟩:=hp.rank
 have hrow:=row_500 hp
 intro k
 induction k with
 | zero=>
  intro start L L' hk hL hL'
  refine wriRV ok58 rfl ?_;unfold c58
  refine RN ?_
  refine ⟨fun hc=>?_,fun hc=>?_⟩
  ·(refine RN ?_;try with_reducible exact trivial)
   have hL1:L.length=401:=by omega
   obtain rfl:L' = L:=by rw [hL', take_full hL1]
   refine (Ref.kill 0).trans ((Ref.mv 1 (cs:=L'.map oints) (F' := [(0,.sl 3 1 0 L'.length)]) (H' := [none,none,some [i64 r,ints R,mat B],some (L'.map oints)]) rfl (by simp only [go_sem,↓reduceIte,Nat.reduceEqDiff,Nat.reduceAdd,reduceCtorEq]) (by simp [sub,fget,go_sem,↓reduceIte,Nat.reduceEqDiff,Nat.reduceAdd,reduceCtorEq])).trans (Ref.gc1 [0,1,3]))
  ·(refine RN ?_;try with_reducible exact trivial)
   refine ⟨fun hc2=>?_,fun hc2=>?_⟩
   ·(refine RN ?_;try with_reducible exact trivial)
    obtain rfl:L' = L++[start]:=by
     rw [hL', List.take_of_length_le (by simp [exts];omega)]
     simp [exts]
    refine (Ref.close 4 L.length 0 (k:=1) (n:=start.length) (cs:=L.map oints++[.sl 0 1 0 start.length]) (cs2:=intsC start) rfl (by simp) rfl (by decide) (by simp [intsC])).trans (Ref.gc [0,1,4] rfl ?_ (by simp [sub,fget,go_sem,↓reduceIte,Nat.reduceEqDiff,Nat.reduceAdd,reduceCtorEq]))
    simp [go_sem,↓reduceIte,Nat.reduceEqDiff,Nat.reduceAdd,reduceCtorEq]
   ·exfalso;omega
 | succ k ih=>
  intro start L L' hk hL hL'
  refine wriRV ok58 rfl ?_;unfold c58
  refine RN ?_
  refine ⟨fun hc=>?_,fun hc=>?_⟩
  ·(refine RN ?_;try with_reducible exact trivial)
   have hL1:L.length=401:=by omega
   obtain rfl:L' = L:=by rw [hL', take_full hL1]
   refine (Ref.kill 0).trans ((Ref.mv 1 (cs:=L'.map oints) (F' := [(0,.sl 3 1 0 L'.length)]) (H' := [none,none,some [i64 r,ints R,mat B],some (L'.map oints)]) rfl (by simp only [go_sem,↓reduceIte,Nat.reduceEqDiff,Nat.reduceAdd,reduceCtorEq]) (by simp [sub,fget,go_sem,↓reduceIte,Nat.reduceEqDiff,Nat.reduceAdd,reduceCtorEq])).trans (Ref.gc1 [0,1,3]))
  ·(refine RN ?_;try with_reducible exact trivial)
   intro hc2
   refine RN ?_
   refine V_loop (α:=Nat×List (List Int)) (S:=fun q=>([(1,bools A),(2,.sl 0 1 0 start.length),(3,.sl 3 1 0 q.2.length),(4,.ref 2 0),(9,i64 start.length),(10,i64 q.1)],[some (intsC start),none,some [i64 r,ints R,mat B],some (q.2.map oints)])) (C:=fun q=>q.1≤R.length∧q.2=(L++exto r R B k start q.1).take 401) (μ:=fun q=>R.length - q.1) (0,L) ⟨Nat.zero_le _,by rw [exto_zero,List.append_nil,List.take_of_length_le hL]⟩ ?_ ?_
   ·refine (Ref.mv 1 (cs:=L.map oints) (F' := [(1,bools A),(2,.sl 0 1 0 start.length),(3,.sl 3 1 0 L.length),(4,.ref 2 0),(9,i64 start.length),(10,i64 0)]) (H' := [some (intsC start),none,some [i64 r,ints R,mat B],some (L.map oints)]) rfl (by simp only [go_sem,↓reduceIte,Nat.reduceEqDiff,Nat.reduceAdd,reduceCtorEq]) (by simp [sub,fget,go_sem,↓reduceIte,Nat.reduceEqDiff,Nat.reduceAdd,reduceCtorEq])).trans (Ref.to (by simp only [go_sem,↓reduceIte,Nat.reduceEqDiff,Nat.reduceAdd,reduceCtorEq]) (by simp [sub,fget,go_sem,↓reduceIte,Nat.reduceEqDiff,Nat.reduceAdd,reduceCtorEq]))
   rintro ⟨j,Lj⟩ ⟨hj,hLj⟩
   dsimp only at hj hLj ⊢
   have hLl:Lj.length≤401:=by rw [hLj,List.length_take];exact Nat.min_le_left _ _
   refine RN ?_
   refine ⟨fun hc3=>?_,fun hc3=>?_⟩
   ·have hj' : j<R.length:=by omega
    have hrw:=hrow j
    refine RN ?_
    refine GC1 (bl (decide (start.getD (start.length - 1) 0∈B.getD j [])) ) (fun hg =>  l01Has_c (B.getD j []) (start.getD (start.length - 1) 0) (by omega)) ?_
    refine RN ?_
    refine ⟨fun hc4=>?_,fun hc4=>?_⟩
    ·have hnx:nxP r R B start j:=nxP_iff.2 ⟨⟨hc4.1.1,of_decide_eq_true ((hAm j hj').symm.trans hc4.1.2)⟩,hc4.2⟩
     obtain ⟨L2,hL2⟩:∃ L2,L2=(L++exto r R B k start (j+1)).take 401:=⟨_,rfl⟩
     have hx:=ih (start++[(j:Int)]) Lj L2 (by simp;omega) hLl (by rw [hL2,exto_yes hnx,hLj,take_app,List.append_assoc])
     rw [show intsC (start++[(j:Int)])=intsC start++[i64 (j:Int)] by simp [intsC],show (start++[(j:Int)]).length=start.length+1 by simp] at hx
     have ho:=own_c start (by omega)
     refine V_altsB [(1,bools A),(2,.sl 0 1 0 start.length),(3,.sl 3 1 0 L2.length),(4,.ref 2 0),(9,i64 start.length),(10,i64 j)] [some (intsC start),none,some [i64 r,ints R,mat B],some (L2.map oints)] ?_ ?_
     ·repeat' first
        | simp only [go_sem,↓reduceIte,Nat.reduceEqDiff,Nat.reduceAdd,reduceCtorEq]
        | with_reducible refine LT_reg ?_
        | with_reducible refine LT_fin ?_
        | with_reducible exact LT_tt
        | with_reducible refine LT_alt ?_ ?_
        | (with_reducible refine And.intro ?_ ?_;focus first | assumption | omega | grind)
        | (refine pureC (ho) ?_ ?_ ?_;(focus (simp only [go_sem,↓reduceIte,Nat.reduceEqDiff,Nat.reduceAdd,reduceCtorEq]<;>rfl));(focus first | rfl | simp only [go_sem,↓reduceIte,Nat.reduceEqDiff,Nat.reduceAdd,reduceCtorEq]))
        | (refine wriC (hx) [6,3] ?_ ?_ ?_ ?_ ?_;(focus first | rfl | simp);(focus (simp only [go_sem,↓reduceIte,Nat.reduceEqDiff,Nat.reduceAdd,reduceCtorEq]<;>rfl));(focus (simp only [go_sem,↓reduceIte,Nat.reduceEqDiff,Nat.reduceAdd,reduceCtorEq]<;>rfl));(focus first | rfl | simp only [go_sem,↓reduceIte,Nat.reduceEqDiff,Nat.reduceAdd,reduceCtorEq]))
      all_goals exact Ref.gc1 [0,1,2,7]
     ·(refine RN ?_;try with_reducible exact trivial)
      exact ⟨(j+1,L2),⟨by dsimp only;omega,hL2⟩,by dsimp only;omega,by exact Ref.frame (by simp [sub,fget])⟩
    ·have hnx : ¬ nxP r R B start j := fun h => by
       have:=nxP_iff.1 h
       have h3:=(hAm j hj').trans (decide_eq_true this.1.2)
       rcases hc4 with (h4 | h4) | h4
       ·exact h4 this.1.1
       ·rw [h3] at h4;cases h4
       ·exact this.2.elim h4.1 h4.2
     refine RN ?_
     refine ⟨(j+1,Lj),⟨by dsimp only;omega,by dsimp only;rw [hLj,exto_no hnx]⟩,by dsimp only;omega,by exact Ref.frame (by simp [sub,fget])⟩
   ·(refine RN ?_;try with_reducible exact trivial)
    obtain rfl:j=R.length:=by omega
    obtain rfl:L' = Lj:=by rw [hL', hLj,exts_succ]
    refine (Ref.kill 0).trans (Ref.gc1 [0,1,3])
end
end Go.Proofs.YtaekhhaaphgndaaGreatDoor
