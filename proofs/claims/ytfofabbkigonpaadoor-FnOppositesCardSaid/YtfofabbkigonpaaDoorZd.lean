/- Texts that belong together. -/
import Derived.Test.YtfofabbkigonpaaDoorZc
set_option linter.unusedSimpArgs false
set_option linter.unusedVariables false
namespace Go.Gov
section
variable {P:Program} {N:Nat} {g:Gh} {F:Frame} {H:Heap} {a:Act} {w:World} {M:List Nat} {n0:Nat}
mutual
def Al (τ:Nat→Option Nat):AV→AV
 | .sl o k off len=>match τ o with
  | some o' => .sl o' k off len
  | none=>.any
 | .ref o j=>match τ o with
  | some o' => .ref o' j
  | none=>.any
 | .cnd b x=>.cnd b (Al τ x)
 | .idn v x=>.idn v (Al τ x)
 | .slc k n cs=>.slc k n (Av τ cs)
 | .pto cs j=>.pto (Av τ cs) j
 | .osl k n cs=>.osl k n (Av τ cs)
 | .agg cs=>.agg (Av τ cs)
 | .tup cs=>.tup (Av τ cs)
 | .clo f fs cs=>.clo f (Av τ fs) (Av τ cs)
 | .any=>.any
 | .val v=>.val v
 | .mp o=>match τ o with
  | some o' => .mp o'
  | none=>.any
 | .it o=>match τ o with
  | some o' => .it o'
  | none=>.any
 | .mpz cs=>.mpz (Av τ cs)
 | .mpc cs=>.mpc (Av τ cs)
 | .oag cs=>.oag (Av τ cs)
 | .ent b k x=>.ent b k (Al τ x)
 | .gho b zs=>.gho b zs
def Av (τ:Nat→Option Nat):List AV→List AV
 | []=>[]
 | x :: l=>Al τ x :: Av τ l
end
theorem A8 (τ:Nat→Option Nat):∀ l:List AV,Av τ l=l.map (Al τ)
 | []=>rfl
 | x :: l=>by rw [Av,A8 τ l,List.map_cons]
theorem E9 {τ : Nat → Option Nat} {tr tr' : Nat → Option (Option A2)} {G : Nat → Prop} (ht : ∀ o o' d, τ o = some o' → tr o = some d → tr' o' = some d ∨ tr' o' = some none) {x : AV} {v : Value} {bs : List Nat}
    (h:Rd w tr G x v bs):Rd w tr' G (Al τ x) v bs:=by
 induction h with
 | any=>exact .any
 | val=>exact .val
 | cndF=>exact .cndF
 | cndT _ ih=>exact .cndT ih
 | idn _ ih=>exact .idn ih
 | slc u hl hn hm hg hc _ ih=>
  simp only [Al,A8]
  exact .slc u (by simpa using hl) hn hm hg (fun m hm' => hc m (by simpa using hm')) (fun m hm' => by simp only [List.getElem_map];exact ih m (by simpa using hm'))
 | slc0 hm=>simp only [Al,Av];exact .slc0 hm
 | pto u hg hc _ ih=>
  simp only [Al,A8]
  exact .pto u hg (fun m hm' => hc m (by simpa using hm')) (fun m hm' => by simp only [List.getElem_map];exact ih m (by simpa using hm'))
 | sl h0 hv h=>
  simp only [Al]
  split
  ·rename_i o' ho'
   obtain ⟨d,hd⟩:=Option.isSome_iff_exists.1 h0
   refine .sl ?_ hv fun l hl=>?_
   ·rcases ht _ _ d ho' hd with h' | h' <;> simp [h']
   ·rcases ht _ _ d ho' hd with h' | h'
    ·exact h l (by rw [hd,← h', hl])
    ·rw [h'] at hl;cases hl
  ·exact .any
 | ref h0 hv h=>
  simp only [Al]
  split
  ·rename_i o' ho'
   obtain ⟨d,hd⟩:=Option.isSome_iff_exists.1 h0
   refine .ref ?_ hv fun l hl=>?_
   ·rcases ht _ _ d ho' hd with h' | h' <;> simp [h']
   ·rcases ht _ _ d ho' hd with h' | h'
    ·exact h l (by rw [hd,← h', hl])
    ·rw [h'] at hl;cases hl
  ·exact .any
 | osl u bss hl hn hm hb hs hc hr ih=>
  rename_i k n cs b off cap arr elem
  simp only [Al,A8]
  have:=Rd.osl (tr:=tr') (G:=G) (cs:=cs.map (Al τ)) u bss (by simpa using hl) hn hm hb hs (fun m hm' => hc m (by simpa using hm')) (fun m hm' => by
   simp only [List.getElem_map];exact ih m (by simpa using hm'))
  simpa only [List.length_map] using this
 | osl0=>simp only [Al,Av];exact .osl0
 | mp h0 hv h=>
  simp only [Al]
  split
  ·rename_i o' ho'
   obtain ⟨d,hd⟩:=Option.isSome_iff_exists.1 h0
   refine .mp ?_ hv fun l hl=>?_
   ·rcases ht _ _ d ho' hd with h' | h' <;> simp [h']
   ·rcases ht _ _ d ho' hd with h' | h'
    ·exact h l (by rw [hd,← h', hl])
    ·rw [h'] at hl;cases hl
  ·exact .any
 | it h0 hv h=>
  simp only [Al]
  split
  ·rename_i o' ho'
   obtain ⟨d,hd⟩:=Option.isSome_iff_exists.1 h0
   refine .it ?_ hv fun l hl=>?_
   ·rcases ht _ _ d ho' hd with h' | h' <;> simp [h']
   ·rcases ht _ _ d ho' hd with h' | h'
    ·exact h l (by rw [hd,← h', hl])
    ·rw [h'] at hl;cases hl
  ·exact .any
 | mpz hg hc hl _ ih=>simp only [Al,A8];exact .mpz hg hc (by simpa using hl) (fun m hm=>by simp only [List.getElem_map];exact ih m (by simpa using hm))
 | mpc bss hbs hl _ ih=>simp only [Al,A8];exact .mpc bss (by simpa using hbs) (by simpa using hl) (fun m hm=>by simp only [List.getElem_map];exact ih m (by simpa using hm))
 | oag bss hbs hl _ ih=>simp only [Al,A8];exact .oag bss (by simpa using hbs) (by simpa using hl) (fun m hm=>by simp only [List.getElem_map];exact ih m (by simpa using hm))
 | ent _ ih=>simp only [Al];exact .ent ih
 | agg hl _ ih=>simp only [Al,A8];exact .agg (by simpa using hl) (fun m hm=>by simp only [List.getElem_map];exact ih m (by simpa using hm))
 | tup hl _ ih=>simp only [Al,A8];exact .tup (by simpa using hl) (fun m hm=>by simp only [List.getElem_map];exact ih m (by simpa using hm))
 | clo hf _ hl _ ihf ih=>
  simp only [Al,A8]
  exact .clo (by simpa using hf) (fun m hm=>by simp only [List.getElem_map];exact ihf m (by simpa using hm)) (by simpa using hl) (fun m hm=>by simp only [List.getElem_map];exact ih m (by simpa using hm))
theorem H6 {τ:Nat→Option Nat}{w:World}{G:Nat→Prop}{cs:List AV}(h:Gho w G cs):∀ x,x∈cs→Gr x=true→Al τ x=x:=fun x hx _=>by
 obtain ⟨L,rfl,_⟩:=h
 obtain ⟨p,_,rfl⟩:=List.mem_map.1 hx
 rfl
def A3:List Nat→Nat→Nat→Option Nat
 | [],_,_=>none
 | k :: ks,i,o=>if o=k then some i else A3 ks (i+1) o
def H4 (ks:List Nat):Frame→Frame
 | []=>[]
 | (j,x) :: l=>(j,Al (A3 ks 0) x) :: H4 ks l
def Gq (ks:List Nat):Option (List AV)→Option (List AV)
 | some cs=>some (Av (A3 ks 0) cs)
 | none=>none
def Aq (ks:List Nat)(H:Heap):Heap:=ks.map fun o=>Gq ks (H.getD o none)
def Fp (ks:List Nat)(n n0:Nat):Bool:=decide ks.Nodup&&ks.all (fun o=>decide (o<n))&&decide (ks.take n0=List.range n0)
theorem E0:∀ (ks:List Nat) (i o o' : Nat),A3 ks i o=some o' → ∃ m,o' = i+m∧ks[m]? = some o
 | [],i,o,o', h=>by cases h
 | k :: ks,i,o,o', h=>by
  simp only [A3] at h
  split at h
  ·rename_i e;cases h;exact ⟨0,rfl,by simp [e]⟩
  ·obtain ⟨m,hm,hk⟩:=E0 ks (i+1) o o' h
   exact ⟨m+1,by omega,by simpa using hk⟩
theorem Wn (ks:List Nat):∀ (F:Frame) (j:Nat),Ac (H4 ks F) j=Al (A3 ks 0) (Ac F j)
 | [],j=>rfl
 | (i,x) :: l,j=>by
  simp only [H4,C1]
  split
  ·rfl
  ·exact Wn ks l j
theorem Ref.gc (ks:List Nat){F' : Frame}{H' : Heap}(hk:Fp ks H.length n0=true)(hH:Aq ks H=H')(hF:sub (H4 ks F) F'):Ref n0 F H F' H' := fun N g a w hR=>by
 subst hH
 simp only [Fp,Bool.and_eq_true,decide_eq_true_eq,List.all_eq_true] at hk
 obtain ⟨⟨hnd,hlt⟩,h0⟩:=hk
 let g' : Gh:=⟨fun o=>g.ρ (ks.getD o 0),fun o=>g.ob (ks.getD o 0),g.G⟩
 have hget:∀ (o' o:Nat),ks[o']? = some o→g'.tr (Aq ks H) o' = g.tr H o:=fun o' o ho=>by
  have hl:o<H.length:=hlt o (List.mem_of_getElem? ho)
  have e1:(Aq ks H)[o']? = some (Gq ks (H.getD o none)):=by simp only [Aq,List.getElem?_map,ho,Option.map_some]
  have e2:H[o]? = some (H.getD o none):=by simp [hl]
  have e3:g'.ρ o' = g.ρ o:=by simp [g', List.getD,ho]
  unfold Gh.tr
  rw [e1,e2,e3]
  cases H.getD o none with
  | none=>rfl
  | some cs=>simp only [Gq,A8,List.length_map]
 have hτ:∀ o o' d,A3 ks 0 o=some o' → g.tr H o=some d→g'.tr (Aq ks H) o' = some d∨g'.tr (Aq ks H) o' = some none:=fun o o' d h hd=>by
  obtain ⟨m,rfl,hm⟩:=E0 ks 0 o o' h
  left;rw [Nat.zero_add,hget m o hm,hd]
 have hal:∀ o' c,(Aq ks H)[o']? = some (some c)→∃ o cs,ks[o']? = some o∧H[o]? = some (some cs)∧c=Av (A3 ks 0) cs∧g'.ρ o' = g.ρ o∧g'.ob o' = g.ob o:=fun o' c h=>by
  simp only [Aq,List.getElem?_map,Option.map_eq_some_iff] at h
  obtain ⟨o,ho,he⟩:=h
  have hl:o<H.length:=hlt o (List.mem_of_getElem? ho)
  cases hc:H.getD o none with
  | none=>rw [hc] at he;cases he
  | some cs=>
   rw [hc] at he
   refine ⟨o,cs,ho,?_,(Option.some.inj he).symm,by simp [g', List.getD,ho],by simp [g', List.getD,ho]⟩
   have:H[o]? = some (H.getD o none):=by simp [hl]
   rw [this,hc]
 have hinj:∀ i j o,ks[i]? = some o→ks[j]? = some o→i=j:=fun i j o hi hj=>by
  obtain ⟨hi1,hi2⟩:=List.getElem?_eq_some_iff.1 hi
  obtain ⟨hj1,hj2⟩:=List.getElem?_eq_some_iff.1 hj
  exact (List.getElem_inj hnd).1 (hi2.trans hj2.symm)
 have hp:=hR.hp
 have hp' : HeapR g' (Aq ks H) w:=by
  refine ⟨?_,?_,?_,?_,hp.low⟩
  ·intro o' c ho
   obtain ⟨o,cs,hk,hc,rfl,e1,e2⟩:=hal o' c ho
   rw [e1,e2]
   have h1:=hp.obj o cs hc
   rw [A8]
   exact h1.tell (Al _) (fun _ _=>rfl) (fun x _ v bs' _ hr=>E9 hτ hr) (fun hn _=>⟨H6 (hn ▸ h1).1,fun _ h=>h,fun _ _=>rfl⟩)
  ·intro o' c ho
   obtain ⟨o,cs,hk,hc,rfl,e1,e2⟩:=hal o' c ho
   rw [e2];exact hp.nodup o cs hc
  ·intro o' o2' c c2 ho ho2 hne b hb
   obtain ⟨o,cs,hk,hc,rfl,e1,e2⟩:=hal o' c ho
   obtain ⟨o2,cs2,hk2,hc2,rfl,e12,e22⟩:=hal o2' c2 ho2
   rw [e2] at hb
   rw [e22]
   refine hp.apart o o2 cs cs2 hc hc2 (fun e=>hne ?_) b hb
   subst e;exact hinj _ _ _ hk hk2
  ·intro o' c ho b hb
   obtain ⟨o,cs,hk,hc,rfl,e1,e2⟩:=hal o' c ho
   rw [e2] at hb
   exact hp.free o cs hc b hb
 refine ⟨g', ⟨fun j=>?_,hp', hR.size,hR.defers⟩,hp', ⟨rfl,⟨rfl,Nat.le_refl _⟩,rfl,Nat.le_refl _,fun _ _ _=>rfl,fun b ⟨o', c,ho,hb⟩=>.inl ?_,fun _ h=>h,fun _ h=>.inl h,fun _ _=>rfl⟩,fun o d ho hd=>.inl ?_⟩
 ·rcases Kx hF j with e | e
  ·rw [e];exact .any
  ·rw [e,Wn];exact E9 hτ (hR.fr j)
 ·obtain ⟨o,cs,hk,hc,rfl,e1,e2⟩:=hal o' c ho
  rw [e2] at hb
  exact ⟨o,cs,hc,hb⟩
 ·have : ks[o]? = some o := by
    have h1:(ks.take n0)[o]? = (List.range n0)[o]?:=by rw [h0]
    rw [List.getElem?_take_of_lt ho,List.getElem?_range ho] at h1
    exact h1
  rw [hget o o this,hd]
theorem Lq {bss : Nat → List Nat} {j n : Nat} (hj : j < n) (h0 : bss j = []) (bs : List Nat) :
    List.Perm ((List.range n).flatMap fun m=>if m=j then bs else bss m) (bs++(List.range n).flatMap bss):=by
 obtain ⟨s,t,he⟩:=List.append_of_mem (List.mem_range.2 hj)
 have hnd:(List.range n).Nodup:=List.nodup_range
 rw [he] at hnd ⊢
 have h1:=List.nodup_append.1 hnd
 have hs:j∉s:=fun h=>h1.2.2 j h j (by simp) rfl
 have ht:j∉t:=(List.nodup_cons.1 h1.2.1).1
 have c:∀ l:List Nat,j∉l→(l.flatMap fun m=>if m=j then bs else bss m)=l.flatMap bss:=fun l hl=>by
  rw [List.flatMap_def,List.flatMap_def]
  congr 1
  refine List.map_congr_left fun m hm=>?_
  exact if_neg (fun e:m=j=>hl (e ▸ hm))
 simp only [List.flatMap_append,List.flatMap_cons,if_true,c s hs,c t ht,h0,List.nil_append]
 exact List.perm_append_comm_assoc _ _ _
theorem Ref.close (o j o2 : Nat) {cs cs2 : List AV} {k n : Nat} (ho : H[o]? = some (some cs)) (hj : cs[j]? = some (.sl o2 k 0 n)) (h2 : H[o2]? = some (some cs2)) (hne : o ≠ o2) (hlen : cs2.length = n * k) :
    Ref n0 F H F ((H.set o (some (cs.set j (.osl k n cs2)))).set o2 none):=fun N g a w hR=>by
 have hp:=hR.hp
 obtain ⟨hjl,hje⟩:=List.getElem?_eq_some_iff.1 hj
 have h1:=hp.obj o cs ho
 cases hl:g.ρ o with
 | none=>
  rw [hl] at h1
  have h3:=h1.1.gh _ (List.getElem_mem hjl)
  rw [hje] at h3
  cases h3
 | some l=>
  obtain ⟨b,base,sz⟩:=l
  rw [hl] at h1
  obtain ⟨u,bss,hblk,hr,hob⟩:=h1
  have hrj:=hr j hjl
  rw [hje] at hrj
  have hbj:bss j=[]:=by
   generalize bss j=x at hrj
   cases hrj;rfl
  obtain ⟨bs', hsub,hrd⟩:∃ bs', bs'.Sublist (g.ob o2)∧Rd w (g.tr H) g.G (.osl k n cs2) (u j) bs' := by
   generalize u j=x,bss j=y at hrj
   cases hrj with
   | sl h0 hv h=>
    obtain ⟨_,hS⟩:=h _ (Gh.tr_some (g:=g) h2)
    have h3:=hp.obj o2 cs2 h2
    dsimp only at hS
    cases hl2:g.ρ o2 with
    | none=>
     rw [hl2] at hS h3
     obtain ⟨rfl,a0,rfl⟩:=hS
     obtain rfl:cs2=[]:=List.eq_nil_of_length_eq_zero (by simpa using hlen)
     obtain ⟨_,_⟩:=h3
     exact ⟨[],List.nil_sublist _,.osl0⟩
    | some l2=>
     obtain ⟨b2,base2,sz2⟩:=l2
     rw [hl2] at hS h3
     obtain ⟨cap,hn,hm,hs,hv⟩:=hS
     obtain ⟨arr2,elem2,u2,bss2,hb2,hsz2,hbase2,hc2,hr2,hob2⟩:=h3.cells (by omega)
     subst hsz2
     rcases hv with rfl | ⟨rfl,a0,rfl⟩
     ·refine ⟨g.ob o2,List.Sublist.refl _,?_⟩
      rw [hob2]
      exact .osl (elem:=elem2) u2 bss2 hlen hn hm hb2 (by omega) hc2 hr2
     ·have:n=0:=by omega
      subst this
      have:cs2=[]:=List.eq_nil_of_length_eq_zero (by simpa using hlen)
      subst this
      exact ⟨[],List.nil_sublist _,.osl0⟩
  let bss' : Nat→List Nat:=fun m=>if m=j then bs' else bss m
  let nb:=b :: (List.range cs.length).flatMap bss'
  let g' : Gh:=⟨g.ρ,fun x=>if x=o then nb else g.ob x,g.G⟩
  have hperm:List.Perm nb (bs' ++ g.ob o):=by
   rw [hob]
   exact ((Lq hjl hbj bs').cons b).trans List.perm_middle.symm
  have hmem:∀ y,y∈nb→y∈g.ob o2∨y∈g.ob o:=fun y hy=>(List.mem_append.1 (hperm.mem_iff.1 hy)).imp (fun h=>hsub.subset h) id
  let H' : Heap:=(H.set o (some (cs.set j (.osl k n cs2)))).set o2 none
  have hol:o<H.length:=(List.getElem?_eq_some_iff.1 ho).1
  have hal:∀ x c,H'[x]? = some (some c)→x≠o2∧((x=o∧c=cs.set j (.osl k n cs2))∨(x≠o∧H[x]? = some (some c))):=fun x c h=>by
   obtain ⟨h3,h4⟩:=Cs h
   exact ⟨h3,Ie h4⟩
  have htr:∀ x d,g.tr H x=some d→g'.tr H' x=some d∨g'.tr H' x=some none:=fun x d hd=>by
   by_cases e:o2=x
   ·subst e
    right
    have:o2<H.length:=(List.getElem?_eq_some_iff.1 h2).1
    simp [Gh.tr,H', this]
   ·left
    unfold Gh.tr at *
    rw [List.getElem?_set_ne e]
    by_cases e1:o=x
    ·subst e1
     rw [List.getElem?_set_self hol]
     rw [ho] at hd
     simpa [g'] using hd
    ·rw [List.getElem?_set_ne e1];exact hd
  have lift:∀ x v bs,Rd w (g.tr H) g.G x v bs→Rd w (g'.tr H') g'.G x v bs:=fun x v bs h=>h.mono (fun _ h=>h) (fun _ _=>rfl) htr (fun _ _=>rfl)
  have hp' : HeapR g' H' w:=by
   refine ⟨?_,?_,?_,?_,hp.low⟩
   ·intro x c hx
    obtain ⟨h3,⟨rfl,rfl⟩ | ⟨h4,h5⟩⟩:=hal x c hx
    ·show ObjR w _ _ _ (g'.ob x) (g.ρ x)
     rw [hl]
     have e2:g'.ob x=nb:=by simp [g']
     rw [e2]
     refine ⟨u,bss', by simpa using hblk,fun m hm=>?_,by simp [nb]⟩
     simp only [List.length_set] at hm
     by_cases e:m=j
     ·subst e
      simp only [List.getElem_set_self,bss', if_true]
      exact lift _ _ _ hrd
     ·rw [List.getElem_set_ne (Ne.symm e)]
      simp only [bss', if_neg e]
      exact lift _ _ _ (hr m hm)
    ·have e2:g'.ob x=g.ob x:=by simp [g', h4]
     show ObjR w _ _ _ (g'.ob x) (g.ρ x)
     rw [e2]
     exact (hp.obj x c h5).mono (fun _ h=>h) (fun _ _=>rfl) htr (fun _ _=>rfl)
   ·intro x c hx
    obtain ⟨h3,⟨rfl,rfl⟩ | ⟨h4,h5⟩⟩:=hal x c hx
    ·have e2:g'.ob x=nb:=by simp [g']
     rw [e2,hperm.nodup_iff,List.nodup_append]
     exact ⟨hsub.nodup (hp.nodup o2 cs2 h2),hp.nodup x cs ho,fun y hy z hz e=>hp.apart x o2 cs cs2 ho h2 hne z hz (e ▸ hsub.subset hy)⟩
    ·have e2:g'.ob x=g.ob x:=by simp [g', h4]
     rw [e2];exact hp.nodup x c h5
   ·intro x y c d hx hy hxy b' h1 h4
    obtain ⟨h5,⟨rfl,rfl⟩ | ⟨h6,h7⟩⟩:=hal x c hx<;>obtain ⟨k5,⟨rfl,rfl⟩ | ⟨k6,k7⟩⟩:=hal y d hy
    ·exact hxy rfl
    ·simp only [g', if_true] at h1
     simp only [g', if_neg k6] at h4
     rcases hmem b' h1 with h | h
     ·exact hp.apart o2 y cs2 d h2 k7 (Ne.symm k5) b' h h4
     ·exact hp.apart x y cs d ho k7 (Ne.symm k6) b' h h4
    ·simp only [g', if_neg h6] at h1
     simp only [g', if_true] at h4
     rcases hmem b' h4 with h | h
     ·exact hp.apart x o2 c cs2 h7 h2 h5 b' h1 h
     ·exact hp.apart x y c cs h7 ho h6 b' h1 h
    ·simp only [g', if_neg h6] at h1
     simp only [g', if_neg k6] at h4
     exact hp.apart x y c d h7 k7 hxy b' h1 h4
   ·intro x c hx b' h1
    obtain ⟨h5,⟨rfl,rfl⟩ | ⟨h6,h7⟩⟩:=hal x c hx
    ·simp only [g', if_true] at h1
     rcases hmem b' h1 with h | h
     ·exact hp.free o2 cs2 h2 b' h
     ·exact hp.free x cs ho b' h
    ·simp only [g', if_neg h6] at h1
     exact hp.free x c h7 b' h1
  refine ⟨g', ⟨fun i=>lift _ _ _ (hR.fr i),hp', hR.size,hR.defers⟩,hp', ⟨rfl,⟨rfl,Nat.le_refl _⟩,rfl,Nat.le_refl _,fun _ _ _=>rfl,fun b' ⟨x,c,hx,h1⟩=>.inl ?_,fun _ h=>h,fun _ h=>.inl h,fun _ _=>rfl⟩,fun x d _ hd=>htr x d hd⟩
  obtain ⟨h5,⟨rfl,rfl⟩ | ⟨h6,h7⟩⟩:=hal x c hx
  ·simp only [g', if_true] at h1
   rcases hmem b' h1 with h | h
   ·exact ⟨o2,cs2,h2,h⟩
   ·exact ⟨x,cs,ho,h⟩
  ·simp only [g', if_neg h6] at h1
   exact ⟨x,c,h7,h1⟩
theorem Ref.to {F' : Frame}{H' : Heap}(hH:H=H')(h:sub F F'):Ref n0 F H F' H' := hH ▸ Ref.frame h
theorem Ej (τ:Nat→Option Nat)(xs:List Int):Av τ (Aa xs)=Aa xs:=by simp [A8,Aa,Al]
theorem vE (τ:Nat→Option Nat)(xs:List Bool):Av τ (Bc xs)=Bc xs:=by simp [A8,Bc,Al]
theorem Ic (τ:Nat→Option Nat)(xss:List (List Int)):Av τ (xss.map Ad)=xss.map Ad:=by
 rw [A8,List.map_map];exact List.map_congr_left fun xs _=>by simp only [Function.comp_apply,Ad,Al,Ej]
theorem Dx (τ:Nat→Option Nat)(xss:List (List Int)):Av τ (xss.map Af)=xss.map Af:=by
 rw [A8,List.map_map];exact List.map_congr_left fun xs _=>by simp only [Function.comp_apply,Af,Al,Ej]
theorem R4 (τ:Nat→Option Nat)(a b:List AV):Av τ (a++b)=Av τ a++Av τ b:=by simp [A8]
theorem vG (τ:Nat→Option Nat)(n:Nat)(x:AV):Av τ (List.replicate n x)=List.replicate n (Al τ x):=by simp [A8]
theorem O0 (τ:Nat→Option Nat)(a:List AV)(i:Nat)(x:AV):Av τ (a.set i x)=(Av τ a).set i (Al τ x):=by simp [A8,List.map_set]
theorem CallsX.gc {f:FuncId}{args:List AV}{K K' : AV→Heap→Prop}(ks:List Nat)(h:CallsX P true f args [] K')(hk:∀ av H', K' av H' → Fp ks H'.length 0=true∧K (Al (A3 ks 0) av) (Aq ks H')):CallsX P true f args [] K:=
 fun g w vals hp hl hr=>(h g w vals hp hl hr).mono fun _ w' ⟨v,g', av,H', he,hm,hx,hext,hkk⟩=>by
  obtain ⟨h1,h2⟩:=hk av H' hkk
  have hR:R 1 g' [(0,av)] H' { tmps:=#[v],defers:=[] } w' := by
   refine ⟨fun j=>?_,hm.hp,rfl,rfl⟩
   simp only [C1]
   by_cases e:0=j
   ·rw [if_pos e];subst e;exact hx
   ·rw [if_neg e];exact .any
  obtain ⟨g2,hR2,hm2⟩:=Ref.gc (n0:=0) (F:=[(0,av)]) ks (F' := [(0,Al (A3 ks 0) av)]) h1 rfl (by simp [sub,Ac,H4]) 1 g' _ w' hR
  have hx2:=hR2.fr 0
  simp only [C1,if_true] at hx2
  have hmn:MvN 0 g [] w g2 (Aq ks H') w' := (hm.toN).trans hm2
  exact ⟨v,g2,_,_,he,MvN.toMv hp hmn,hx2,fun h=>hext h,h2⟩
theorem sW {f:FuncId}{ac:ACode}{rs:List AOp}{args:List AV}{x:AV}(hc:Aj P M f=some (N,ac,rs))(hl:decide (args.length≤N)=true)(hx:Al (A3 [] 0) x=x)(hW:W P M N 0 ac (Db rs fun av _=>av=x) (Cb 0 args) []):Ao P f args x []:=
 CallsX.gc [] ((G5 hc (of_decide_eq_true hl) hW).ext_nil) (by rintro av H' rfl;exact ⟨rfl,hx,rfl⟩)
theorem sX {f:FuncId}{ac:ACode}{rs:List AOp}{args:List AV}{x:AV}{H0:Heap}(ks:List Nat)(hc:Aj P M f=some (N,ac,rs))(hl:decide (args.length≤N)=true)(hW:W P M N 0 ac (Db rs fun av H' => Fp ks H'.length 0=true∧Al (A3 ks 0) av=x∧Aq ks H' = H0) (Cb 0 args) []):Ao P f args x H0:=
 CallsX.gc ks ((G5 hc (of_decide_eq_true hl) hW).ext_nil) fun _ _ ⟨h1,h2,h3⟩=>⟨h1,h2,h3⟩
theorem eU (cs:List AV):cellsOf (.agg cs)=some cs:=rfl
theorem eX (n:Int)(k:IntKind):cellsOf (.val (.int k n))=some [.val (.int k n)]:=rfl
theorem eV (n:Bool):cellsOf (bl n)=some [bl n]:=rfl
theorem eY (a:Option Addr)(n c:Nat):cellsOf (.val (.slice a n c))=some [.val (.slice a n c)]:=rfl
theorem fD (s:ByteArray):cellsOf (.val (.string s))=some [.val (.string s)]:=rfl
theorem fC (k n:Nat)(cs:List AV):cellsOf (.slc k n cs)=some [.slc k n cs]:=rfl
theorem eZ (cs:List AV)(j:Nat):cellsOf (.pto cs j)=some [.pto cs j]:=rfl
theorem fB (o k off len:Nat):cellsOf (.sl o k off len)=some [.sl o k off len]:=rfl
theorem fA (o j:Nat):cellsOf (.ref o j)=some [.ref o j]:=rfl
theorem eW (f:FuncId)(a b:List AV):cellsOf (.clo f a b)=some [.clo f a b]:=rfl
theorem qU (n:Int)(k:IntKind):B1 (.val (.int k n))=true:=rfl
theorem qR (n:Bool):B1 (bl n)=true:=rfl
theorem qW (a:Option Addr)(n c:Nat):B1 (.val (.slice a n c))=true:=rfl
theorem rF (s:ByteArray):B1 (.val (.string s))=true:=rfl
theorem rE (k n:Nat)(cs:List AV):B1 (.slc k n cs)=true:=rfl
theorem qY (cs:List AV)(j:Nat):B1 (.pto cs j)=true:=rfl
theorem rD (o k off len:Nat):B1 (.sl o k off len)=true:=rfl
theorem qZ (o j:Nat):B1 (.ref o j)=true:=rfl
theorem qT (f:FuncId)(a b:List AV):B1 (.clo f a b)=true:=rfl
theorem wV (cs:List AV)(j:Nat)(v:AV):Fb cs j [v]=cs.set j v:=rfl
theorem wW (x y z a b c:AV):Fb [x,y,z] 0 [a,b,c]=[a,b,c]:=rfl
theorem wX (x y a b:AV):Fb [x,y] 0 [a,b]=[a,b]:=rfl
theorem nH (v:Value)(n:Nat):Ia [v] n=List.replicate n (.val v):=rfl
end
section
variable {P:Program} {N:Nat} {g:Gh} {F:Frame} {H:Heap} {a:Act} {w:World} {M:List Nat} {n0:Nat}
def Ch:List Nat→Heap→Heap
 | [],H=>H
 | k :: ks,H=>Ch ks (H.set k none)
theorem F9:∀ (ks:List Nat) (H:Heap) (o:Nat) (cs:List AV),(Ch ks H)[o]? = some (some cs)→o∉ks∧H[o]? = some (some cs)
 | [],H,o,cs,h=>⟨by simp,h⟩
 | k :: ks,H,o,cs,h=>by
  obtain ⟨h1,h2⟩:=F9 ks _ o cs h
  rw [List.getElem?_set] at h2
  by_cases e:k=o
  ·subst e
   rw [if_pos rfl] at h2
   split at h2<;>cases h2
  ·rw [if_neg e] at h2
   refine ⟨?_,h2⟩
   intro hm
   rcases List.mem_cons.1 hm with h | h
   ·exact e h.symm
   ·exact h1 h
theorem N1:∀ (ks:List Nat) (H:Heap) (o:Nat),o∉ks→(Ch ks H)[o]? = H[o]?
 | [],H,o,_=>rfl
 | k :: ks,H,o,h=>by
  rw [Ch,N1 ks _ o (fun hm=>h (List.mem_cons_of_mem _ hm)),List.getElem?_set_ne (fun e=>h (by simp [e]))]
theorem Xb:∀ (ks:List Nat) (H:Heap) (o:Nat),o∈ks→o<H.length→(Ch ks H)[o]? = some none
 | k :: ks,H,o,h,hl=>by
  by_cases e:o∈ks
  ·exact Xb ks _ o e (by simpa using hl)
  ·obtain rfl : o = k := by
     rcases List.mem_cons.1 h with h | h
     ·exact h
     ·exact absurd h e
   rw [Ch,N1 ks _ o e,List.getElem?_set_self hl]
theorem N2 (ks:List Nat)(o:Nat)(d:Option A2)(h:g.tr H o=some d):g.tr (Ch ks H) o=some d∨g.tr (Ch ks H) o=some none:=by
 by_cases e:o∈ks
 ·right
  unfold Gh.tr
  rw [Xb ks H o e (Cq h)]
 ·left
  unfold Gh.tr at *
  rw [N1 ks H o e]
  exact h
theorem Xc (ks:List Nat)(hp:HeapR g H w):HeapR g (Ch ks H) w:=by
 refine ⟨fun o cs h=>?_,fun o cs h=>?_,fun o o' cs cs' h h' => ?_,fun o cs h=>?_,hp.low⟩
 ·exact (hp.obj o cs (F9 ks H o cs h).2).mono (fun _ h=>h) (fun _ _=>rfl) (fun o d hd=>N2 ks o d hd) (fun _ _=>rfl)
 ·exact hp.nodup o cs (F9 ks H o cs h).2
 ·exact hp.apart o o' cs cs' (F9 ks H o cs h).2 (F9 ks H o' cs' h').2
 ·exact hp.free o cs (F9 ks H o cs h).2
def vw (ks:List Nat)(H:Heap):Nat→AV→AV
 | 0,_=>.any
 | d+1,.sl o k off len=>match A3 ks 0 o with
  | some i=>.sl i k off len
  | none=>Ai (Ch ks H) (d+1) (.sl o k off len)
 | d+1,.ref o j=>match A3 ks 0 o with
  | some i=>.ref i j
  | none=>Ai (Ch ks H) (d+1) (.ref o j)
 | d+1,.mp o=>match A3 ks 0 o with
  | some i=>.mp i
  | none=>Ai (Ch ks H) (d+1) (.mp o)
 | d+1,.cnd b x=>.cnd b (vw ks H d x)
 | d+1,.agg cs=>.agg (cs.map (vw ks H d))
 | d+1,.tup cs=>.tup (cs.map (vw ks H d))
 | d+1,.clo f fs cs=>.clo f (fs.map (vw ks H d)) (cs.map (vw ks H d))
 | d+1,x=>Ai (Ch ks H) (d+1) x
def Bn (g:Gh)(ks:List Nat)(H:Heap):Gh:=⟨fun o=>g.ρ (ks.getD o 0),fun o=>g.ob (ks.getD o 0),fun b=>g.G b∨g.owns (Ch ks H) b⟩
theorem Gg {ks:List Nat}(hlt:∀ o∈ks,o<H.length){o' o:Nat}(ho:ks[o']? = some o):(Bn g ks H).tr (Aq ks H) o' = g.tr H o:=by
 have hl:o<H.length:=hlt o (List.mem_of_getElem? ho)
 have e1:(Aq ks H)[o']? = some (Gq ks (H.getD o none)):=by simp only [Aq,List.getElem?_map,ho,Option.map_some]
 have e2:H[o]? = some (H.getD o none):=by simp [hl]
 have e3:(Bn g ks H).ρ o' = g.ρ o:=by simp [Bn,List.getD,ho]
 unfold Gh.tr
 rw [e1,e2,e3]
 cases H.getD o none with
 | none=>rfl
 | some cs=>simp only [Gq,A8,List.length_map]
theorem Ks {ks:List Nat}(hlt:∀ o∈ks,o<H.length){o' : Nat}{c:List AV}(h:(Aq ks H)[o']? = some (some c)):∃ o cs,ks[o']? = some o∧H[o]? = some (some cs)∧c=Av (A3 ks 0) cs∧(Bn g ks H).ρ o' = g.ρ o∧(Bn g ks H).ob o' = g.ob o:=by
 simp only [Aq,List.getElem?_map,Option.map_eq_some_iff] at h
 obtain ⟨o,ho,he⟩:=h
 have hl:o<H.length:=hlt o (List.mem_of_getElem? ho)
 cases hc:H.getD o none with
 | none=>rw [hc] at he;cases he
 | some cs=>
  rw [hc] at he
  refine ⟨o,cs,ho,?_,(Option.some.inj he).symm,by simp [Bn,List.getD,ho],by simp [Bn,List.getD,ho]⟩
  have:H[o]? = some (H.getD o none):=by simp [hl]
  rw [this,hc]
theorem Z5 {ks:List Nat}(hp:HeapR g H w)(hnd:ks.Nodup)(hlt:∀ o∈ks,o<H.length):HeapR (Bn g ks H) (Aq ks H) w:=by
 have hτ:∀ o o' d,A3 ks 0 o=some o' → g.tr H o=some d→(Bn g ks H).tr (Aq ks H) o' = some d∨(Bn g ks H).tr (Aq ks H) o' = some none:=fun o o' d h hd=>by
  obtain ⟨m,rfl,hm⟩:=E0 ks 0 o o' h
  left;rw [Nat.zero_add,Gg hlt hm,hd]
 have hinj:∀ i j o,ks[i]? = some o→ks[j]? = some o→i=j:=fun i j o hi hj=>by
  obtain ⟨hi1,hi2⟩:=List.getElem?_eq_some_iff.1 hi
  obtain ⟨hj1,hj2⟩:=List.getElem?_eq_some_iff.1 hj
  exact (List.getElem_inj hnd).1 (hi2.trans hj2.symm)
 refine ⟨?_,?_,?_,?_,?_⟩
 ·intro o' c ho
  obtain ⟨o,cs,hk,hc,rfl,e1,e2⟩:=Ks (g:=g) hlt ho
  rw [e1,e2]
  have h1:=hp.obj o cs hc
  rw [A8]
  exact h1.tell (Al _) (fun _ _=>rfl) (fun x _ v bs' _ hr=>(E9 hτ hr).mono (fun _ h=>.inl h) (fun _ _=>rfl) (fun _ _ h=>.inl h) (fun _ _=>rfl)) (fun hn _=>⟨H6 (hn ▸ h1).1,fun _ h=>.inl h,fun _ _=>rfl⟩)
 ·intro o' c ho
  obtain ⟨o,cs,hk,hc,rfl,e1,e2⟩:=Ks (g:=g) hlt ho
  rw [e2];exact hp.nodup o cs hc
 ·intro o' o2' c c2 ho ho2 hne b hb
  obtain ⟨o,cs,hk,hc,rfl,e1,e2⟩:=Ks (g:=g) hlt ho
  obtain ⟨o2,cs2,hk2,hc2,rfl,e12,e22⟩:=Ks (g:=g) hlt ho2
  rw [e2] at hb
  rw [e22]
  refine hp.apart o o2 cs cs2 hc hc2 (fun e=>hne ?_) b hb
  subst e;exact hinj _ _ _ hk hk2
 ·intro o' c ho b hb
  obtain ⟨o,cs,hk,hc,rfl,e1,e2⟩:=Ks (g:=g) hlt ho
  rw [e2] at hb
  rintro (h | ⟨o2,c2,h2,hb2⟩)
  ·exact hp.free o cs hc b hb h
  ·obtain ⟨h3,h4⟩:=F9 ks H o2 c2 h2
   exact hp.apart o o2 cs c2 hc h4 (fun e=>h3 (e ▸ List.mem_of_getElem? hk)) b hb hb2
 ·rintro b (h | ⟨o2,c2,h2,hb2⟩)
  ·exact hp.low b h
  ·exact (hp.obj o2 c2 (F9 ks H o2 c2 h2).2).all_lt b hb2
theorem Sj {ks:List Nat}(hp:HeapR g H w)(hlt:∀ o∈ks,o<H.length):∀ (d:Nat) (x:AV) (v:Value),Rd w (g.tr H) g.G x v []→Rd w ((Bn g ks H).tr (Aq ks H)) (Bn g ks H).G (vw ks H d x) v []:=by
 have hf:∀ (d:Nat) (x:AV) (v:Value),Rd w (g.tr H) g.G x v []→Rd w ((Bn g ks H).tr (Aq ks H)) (Bn g ks H).G (Ai (Ch ks H) d x) v []:=fun d x v h=>
  (Np (Xc ks hp) d x v [] (h.mono (fun _ h=>h) (fun _ _=>rfl) (fun o d hd=>N2 ks o d hd) (fun _ _=>rfl)) (by simp)).mono (fun _ h=>h) (fun _ _=>rfl) (fun _ _ h=>by cases h) (fun _ _=>rfl)
 intro d
 induction d with
 | zero=>intro x v _;exact .any
 | succ d ih=>
  intro x v h
  have h' := hf (d+1) x v h
  cases h with
  | sl h0 hv h=>
   simp only [vw]
   split
   ·rename_i i hi
    obtain ⟨m,rfl,hm⟩:=E0 ks 0 _ i hi
    rw [Nat.zero_add]
    refine .sl (by rw [Gg hlt hm];exact h0) hv fun l hl=>h l ?_
    rwa [Gg hlt hm] at hl
   ·exact h'
  | ref h0 hv h=>
   simp only [vw]
   split
   ·rename_i i hi
    obtain ⟨m,rfl,hm⟩:=E0 ks 0 _ i hi
    rw [Nat.zero_add]
    refine .ref (by rw [Gg hlt hm];exact h0) hv fun l hl=>h l ?_
    rwa [Gg hlt hm] at hl
   ·exact h'
  | mp h0 hv h=>
   simp only [vw]
   split
   ·rename_i i hi
    obtain ⟨m,rfl,hm⟩:=E0 ks 0 _ i hi
    rw [Nat.zero_add]
    refine .mp (by rw [Gg hlt hm];exact h0) hv fun l hl=>h l ?_
    rwa [Gg hlt hm] at hl
   ·exact h'
  | cndF=>simp only [vw];exact .cndF
  | cndT h=>simp only [vw];exact .cndT (ih _ _ h)
  | agg hl hr=>simp only [vw];exact .agg (by simpa using hl) (fun m hm=>by simp only [List.getElem_map];exact ih _ _ (hr m (by simpa using hm)))
  | tup hl hr=>simp only [vw];exact .tup (by simpa using hl) (fun m hm=>by simp only [List.getElem_map];exact ih _ _ (hr m (by simpa using hm)))
  | clo hf hrf hl hr=>simp only [vw];exact .clo (by simpa using hf) (fun m hm=>by simp only [List.getElem_map];exact ih _ _ (hrf m (by simpa using hm))) (by simpa using hl) (fun m hm=>by simp only [List.getElem_map];exact ih _ _ (hr m (by simpa using hm)))
  | _=>simpa only [vw] using h'
def Ca:List Nat→Nat→Nat→Nat
 | [],n,i=>n+i
 | k :: _,_,0=>k
 | _ :: ks,n,i+1=>Ca ks n i
def shr (σ:Nat→Nat):Nat→AV→AV
 | 0,x=>x
 | d+1,.osl k m cs=>.osl k m (cs.map (shr σ d))
 | d+1,.agg cs=>.agg (cs.map (shr σ d))
 | d+1,.tup cs=>.tup (cs.map (shr σ d))
 | d+1,.clo f fs cs=>.clo f (fs.map (shr σ d)) (cs.map (shr σ d))
 | d+1,.cnd b x=>.cnd b (shr σ d x)
 | d+1,.idn v x=>.idn v (shr σ d x)
 | _+1,.sl o k off len=>.sl (σ o) k off len
 | _+1,.ref o j=>.ref (σ o) j
 | _+1,.mp o=>.mp (σ o)
 | _+1,.it o=>.it (σ o)
 | d+1,.mpc cs=>.mpc (cs.map (shr σ d))
 | d+1,.oag cs=>.oag (cs.map (shr σ d))
 | d+1,.ent b k x=>.ent b k (shr σ d x)
 | _+1,x=>x
def Hp (σ:Nat→Nat)(d:Nat)(H:Heap):Heap:=H.map (Option.map (List.map (shr σ d)))
def Cn:List Nat→Heap→Heap→Heap
 | [],H1,H=>H++H1
 | k :: ks,c :: H1,H=>Cn ks H1 (H.set k c)
 | _ :: _,[],H=>H
theorem R8 {tr tr' : Nat→Option (Option A2)}{G G' : Nat→Prop}{σ:Nat→Nat}(ht:∀ o d,tr o=some d→tr' (σ o)=some d):∀ (d:Nat) (x:AV) (v:Value) (bs:List Nat),nf d x=true→Rd w tr G x v bs→Rd w tr' G' (shr σ d x) v bs
 | 0,x,v,bs,h,_=>by cases h
 | d+1,x,v,bs,h,hr=>by
  have ih:=R8 (G:=G) (G' := G') ht d
  cases hr with
  | any=>exact .any
  | val=>exact .val
  | cndF=>exact .cndF
  | cndT hr=>exact .cndT (ih _ _ _ h hr)
  | idn hr=>exact .idn (ih _ _ _ h hr)
  | slc u hl hn hm hG hc hr=>
   simp only [nf,beq_iff_eq] at h
   subst h
   rename_i k cs b off cap
   have:cs=[]:=List.eq_nil_of_length_eq_zero (by simpa using hl)
   subst this
   exact .slc0 hm
  | slc0 hm=>exact .slc0 hm
  | pto=>cases h
  | sl h0 hv h1=>
   obtain ⟨d', hd'⟩:=Option.isSome_iff_exists.1 h0
   refine .sl (by rw [ht _ _ hd'];rfl) hv fun l hl=>h1 l ?_
   rw [ht _ _ hd'] at hl
   rw [hd', hl]
  | ref h0 hv h1=>
   obtain ⟨d', hd'⟩:=Option.isSome_iff_exists.1 h0
   refine .ref (by rw [ht _ _ hd'];rfl) hv fun l hl=>h1 l ?_
   rw [ht _ _ hd'] at hl
   rw [hd', hl]
  | mp h0 hv h1=>
   obtain ⟨d', hd'⟩:=Option.isSome_iff_exists.1 h0
   refine .mp (by rw [ht _ _ hd'];rfl) hv fun l hl=>h1 l ?_
   rw [ht _ _ hd'] at hl
   rw [hd', hl]
  | it h0 hv h1=>
   obtain ⟨d', hd'⟩:=Option.isSome_iff_exists.1 h0
   refine .it (by rw [ht _ _ hd'];rfl) hv fun l hl=>h1 l ?_
   rw [ht _ _ hd'] at hl
   rw [hd', hl]
  | mpz=>cases h
  | mpc bss hbs hl hr=>
   simp only [nf] at h
   simp only [shr]
   exact .mpc bss (by simpa using hbs) (by simpa using hl) fun m hm=>by simp only [List.getElem_map];exact ih _ _ _ (List.all_eq_true.1 h _ (List.getElem_mem _)) (hr m (by simpa using hm))
  | oag bss hbs hl hr=>
   simp only [nf] at h
   simp only [shr]
   exact .oag bss (by simpa using hbs) (by simpa using hl) fun m hm=>by simp only [List.getElem_map];exact ih _ _ _ (List.all_eq_true.1 h _ (List.getElem_mem _)) (hr m (by simpa using hm))
  | ent hx=>exact .ent (ih _ _ _ h hx)
  | osl u bss hl hn hm hb hs hc hr=>
   simp only [nf] at h
   simp only [shr]
   rename_i k n2 cs b off cap arr elem
   have:=Rd.osl (tr:=tr') (G:=G') (cs:=cs.map (shr σ d)) u bss (by simpa using hl) hn hm hb hs (fun m hm' => hc m (by simpa using hm')) (fun m hm' => by
    simp only [List.getElem_map]
    exact ih _ _ _ (List.all_eq_true.1 h _ (List.getElem_mem _)) (hr m (by simpa using hm')))
   simpa only [List.length_map] using this
  | osl0=>simp only [shr,List.map_nil];exact .osl0
  | agg hl hr=>
   simp only [nf] at h
   simp only [shr]
   exact .agg (by simpa using hl) fun m hm=>by simp only [List.getElem_map];exact ih _ _ _ (List.all_eq_true.1 h _ (List.getElem_mem _)) (hr m (by simpa using hm))
  | tup hl hr=>
   simp only [nf] at h
   simp only [shr]
   exact .tup (by simpa using hl) fun m hm=>by simp only [List.getElem_map];exact ih _ _ _ (List.all_eq_true.1 h _ (List.getElem_mem _)) (hr m (by simpa using hm))
  | clo hf hrf hl hr=>
   simp only [nf,Bool.and_eq_true] at h
   simp only [shr]
   exact .clo (by simpa using hf) (fun m hm=>by simp only [List.getElem_map];exact ih _ _ _ (List.all_eq_true.1 h.1 _ (List.getElem_mem _)) (hrf m (by simpa using hm)))
    (by simpa using hl) fun m hm=>by simp only [List.getElem_map];exact ih _ _ _ (List.all_eq_true.1 h.2 _ (List.getElem_mem _)) (hr m (by simpa using hm))
theorem Gx:∀ (ks:List Nat) (n i:Nat) (k:Nat),ks[i]? = some k→Ca ks n i=k
 | [],n,i,k,h=>by simp at h
 | k' :: ks,n,0,k,h=>by simpa [Ca] using h
 | k' :: ks,n,i+1,k,h=>by simpa [Ca] using Gx ks n i k (by simpa using h)
theorem Ih:∀ (ks:List Nat) (n i:Nat),ks.length≤i→Ca ks n i=n+(i - ks.length)
 | [],n,i,h=>by simp [Ca]
 | k' :: ks,n,0,h=>by simp at h
 | k' :: ks,n,i+1,h=>by rw [Ca,Ih ks n i (by simpa using h)];simp
theorem Ow:∀ (ks:List Nat) (H1 H:Heap) (i:Nat),ks.length≤H1.length→ks.length≤i→(Cn ks H1 H)[H.length+(i - ks.length)]? = H1[i]?
 | [],H1,H,i,_,_=>by simp [Cn,List.getElem?_append_right]
 | k :: ks,[],H,i,h,_=>by simp at h
 | k :: ks,c :: H1,H,0,_,h=>by simp at h
 | k :: ks,c :: H1,H,i+1,h,hi=>by
  have:=Ow ks H1 (H.set k c) i (by simpa using h) (by simpa using hi)
  rw [Cn]
  simpa using this
theorem L7:∀ (ks:List Nat) (H1 H:Heap) (o:Nat),o<H.length→o∉ks→(Cn ks H1 H)[o]? = H[o]?
 | [],H1,H,o,hl,_=>by simp [Cn,List.getElem?_append_left hl]
 | k :: ks,[],H,o,_,_=>rfl
 | k :: ks,c :: H1,H,o,hl,h=>by
  rw [Cn,L7 ks H1 _ o (by simpa using hl) (fun hm=>h (List.mem_cons_of_mem _ hm)),List.getElem?_set_ne (fun e=>h (by simp [e]))]
theorem Ov:∀ (ks:List Nat) (H1 H:Heap) (i k:Nat),ks.Nodup→(∀ o∈ks,o<H.length)→ks.length≤H1.length→ks[i]? = some k→(Cn ks H1 H)[k]? = H1[i]?
 | [],H1,H,i,k,_,_,_,h=>by simp at h
 | k' :: ks,[],H,i,k,_,_,hl,h=>by simp at hl
 | k' :: ks,c :: H1,H,0,k,hnd,hlt,hl,h=>by
  obtain rfl:k' = k:=by simpa using h
  rw [Cn,L7 ks H1 _ k' (by simpa using hlt k' (by simp)) (List.nodup_cons.1 hnd).1,List.getElem?_set_self (hlt k' (by simp))]
  rfl
 | k' :: ks,c :: H1,H,i+1,k,hnd,hlt,hl,h=>by
  rw [Cn,Ov ks H1 _ i k (List.nodup_cons.1 hnd).2 (fun o ho=>by simpa using hlt o (List.mem_cons_of_mem _ ho)) (by simpa using hl) (by simpa using h)]
  rfl
theorem Zm (ks : List Nat) (H1 H : Heap) (hnd : ks.Nodup) (hlt : ∀ o ∈ ks, o < H.length) (hl : ks.length ≤ H1.length) (o : Nat) (x : Option (List AV)) (h : (Cn ks H1 H)[o]? = some x) :
    (o∉ks∧o<H.length∧H[o]? = some x)∨∃ i,H1[i]? = some x∧Ca ks H.length i=o∧(ks[i]? = some o∨(ks.length≤i∧H.length≤o)):=by
 by_cases hm:o∈ks
 ·obtain ⟨i,hi⟩:=List.mem_iff_getElem?.1 hm
  right
  exact ⟨i,by rw [← Ov ks H1 H i o hnd hlt hl hi];exact h,Gx ks _ i o hi,.inl hi⟩
 ·by_cases ho:o<H.length
  ·left;exact ⟨hm,ho,by rwa [L7 ks H1 H o ho hm] at h⟩
  ·right
   have e:o=H.length+((o - H.length+ks.length) - ks.length):=by omega
   refine ⟨o - H.length+ks.length,?_,?_,.inr ⟨by omega,by omega⟩⟩
   ·rw [← Ow ks H1 H _ hl (by omega),← e];exact h
   ·rw [Ih ks _ _ (by omega)];omega
theorem CallsX.liftW {f : FuncId} {args args' : List AV} {H0 : Heap} {K : AV → Heap → Prop} (ks : List Nat) (d d' : Nat) (h : CallsX P false f args H0 K) (hnd : ks.Nodup) (hlt : ∀ o ∈ ks, o < H.length) (hH0 : Aq ks H = H0) (ha : args = args'.map (vw ks H d))
    (hnf:∀ av H1,K av H1→nf d' av=true∧Cj d' H1=true):
    CallsX P false f args' H fun av H' => ∃ av0 H1,K av0 H1∧av=shr (Ca ks H.length) d' av0∧H' = Cn ks (Hp (Ca ks H.length) d' H1) H:=by
 intro g w vals hp hl hr
 subst hH0
 refine (h (Bn g ks H) w vals (Z5 hp hnd hlt) (by rw [ha];simpa using hl) (fun m hm=>?_)).mono ?_
 ·subst ha
  simp only [List.getElem_map]
  exact Sj hp hlt d _ _ (hr m (by simpa using hm))
 ·rintro e w' ⟨v,g1,av,H1,he,hm,hx,_,hk⟩
  obtain ⟨hnf1,hnf2⟩:=hnf av H1 hk
  have hsz:=hm.stp.size
  have hown0:∀ b,(Bn g ks H).owns (Aq ks H) b→∃ o cs,o∈ks∧H[o]? = some (some cs)∧b∈g.ob o:=fun b ⟨o', c,ho,hb⟩=>by
   obtain ⟨o,cs,hk,hc,rfl,e1,e2⟩:=Ks (g:=g) hlt ho
   exact ⟨o,cs,List.mem_of_getElem? hk,hc,by rwa [e2] at hb⟩
  have hkeepG:∀ b,g.G b→w'.heap[b]? = w.heap[b]?:=fun b hb=>hm.stp.keep b (hp.low b hb) fun ho=>by
   obtain ⟨o,cs,_,hc,hbo⟩:=hown0 b ho
   exact hp.free o cs hc b hbo hb
  have hkeepO:∀ o cs,H[o]? = some (some cs)→o∉ks→∀ b∈g.ob o,w'.heap[b]? = w.heap[b]?:=fun o cs ho hn b hb=>hm.stp.keep b ((hp.obj o cs ho).all_lt b hb) fun hon=>by
   obtain ⟨o2,cs2,h2,hc2,hbo⟩:=hown0 b hon
   exact hp.apart o o2 cs cs2 ho hc2 (fun e=>hn (e ▸ h2)) b hb hbo
  have hlen:ks.length≤H1.length:=by
   rcases Nat.eq_zero_or_pos ks.length with h0 | h0
   ·omega
   ·obtain ⟨o,ho⟩:∃ o,ks[ks.length - 1]? = some o:=⟨_,List.getElem?_eq_getElem (by omega)⟩
    have h1:(Bn g ks H).tr (Aq ks H) (ks.length - 1)=g.tr H o:=Gg hlt ho
    have hol:=hlt o (List.mem_of_getElem? ho)
    have h2:∃ d,g.tr H o=some d:=by
     unfold Gh.tr
     rw [List.getElem?_eq_getElem hol]
     cases H[o]<;>exact ⟨_,rfl⟩
    obtain ⟨dd,hdd⟩:=h2
    have h3:ks.length - 1<H1.length:=by
     rcases hm.trk _ _ (h1.trans hdd) with h | h<;>exact Cq h
    omega
  let σ:=Ca ks H.length
  let H2:=Hp σ d' H1
  let H' := Cn ks H2 H
  have hlen2:ks.length≤H2.length:=by simpa [H2,Hp] using hlen
  let inv:Nat→Nat:=fun o=>match A3 ks 0 o with
   | some i=>i
   | none=>o - H.length+ks.length
  let isN:Nat→Bool:=fun o=>(A3 ks 0 o).isSome || decide (H.length≤o)
  let g' : Gh:=⟨fun o=>if isN o then g1.ρ (inv o) else g.ρ o,fun o=>if isN o then g1.ob (inv o) else g.ob o,g.G⟩
  have gcT_of:∀ (l:List Nat) (i o m:Nat),l.Nodup→l[m]? = some o→A3 l i o=some (i+m):=fun l=>by
   induction l with
   | nil=>intro i o m _ h;simp at h
   | cons k l ih=>
    intro i o m hn h
    cases m with
    | zero => obtain rfl : k = o := by simpa using h
              simp [A3]
    | succ m=>
     have h' : l[m]? = some o:=by simpa using h
     have hne:o≠k:=fun e=>(List.nodup_cons.1 hn).1 (e ▸ List.mem_of_getElem? h')
     rw [A3,if_neg hne,ih (i+1) o m (List.nodup_cons.1 hn).2 h']
     congr 1;omega
  have gcT_no:∀ o,o∉ks→A3 ks 0 o=none:=fun o ho=>by
   cases hg:A3 ks 0 o with
   | none=>rfl
   | some i=>
    obtain ⟨m,_,hm⟩:=E0 ks 0 o i hg
    exact absurd (List.mem_of_getElem? hm) ho
  have hisO:∀ o,o∉ks→o<H.length→isN o=false:=fun o h1 h2=>by simp [isN,gcT_no o h1];omega
  have hisN:∀ i o,Ca ks H.length i=o→(ks[i]? = some o∨(ks.length≤i∧H.length≤o))→isN o=true∧inv o=i:=fun i o hs h=>by
   rcases h with h | ⟨h1,h2⟩
   ·have:=gcT_of ks 0 o i hnd h
    rw [Nat.zero_add] at this
    exact ⟨by simp [isN,this],by simp [inv,this]⟩
   ·have hno:o∉ks:=fun hm=>by have:=hlt o hm;omega
    rw [Ih ks _ _ h1] at hs
    refine ⟨by simp [isN];omega,?_⟩
    simp only [inv,gcT_no o hno]
    omega
  have hinv:∀ o cs,H'[o]? = some (some cs)→(o∉ks∧o<H.length∧H[o]? = some (some cs))∨∃ i c,H1[i]? = some (some c)∧cs=c.map (shr σ d')∧isN o=true∧inv o=i:=fun o cs ho=>by
   rcases Zm ks H2 H hnd hlt hlen2 o _ ho with h | ⟨i,h1,h2,h3⟩
   ·exact .inl h
   ·right
    simp only [H2,Hp,List.getElem?_map,Option.map_eq_some_iff] at h1
    obtain ⟨x,hx,he⟩:=h1
    obtain ⟨c,rfl,rfl⟩:=he
    exact ⟨i,c,hx,rfl,hisN i o h2 h3⟩
  have htrO:∀ o d,o∉ks→g.tr H o=some d→g'.tr H' o=some d:=fun o dd hn ho=>by
   have hlo:=Cq ho
   unfold Gh.tr at *
   rw [L7 ks H2 H o hlo hn]
   simp only [g', hisO o hn hlo]
   exact ho
  have htrN:∀ i d,g1.tr H1 i=some d→g'.tr H' (σ i)=some d:=fun i dd hi=>by
   have hli:=Cq hi
   have hat:H'[σ i]? = H2[i]? ∧ isN (σ i)=true∧inv (σ i)=i:=by
    rcases Nat.lt_or_ge i ks.length with h1 | h1
    ·have h2:ks[i]? = some ks[i]:=List.getElem?_eq_getElem h1
     have e:σ i=ks[i]:=Gx ks _ i _ h2
     rw [e]
     exact ⟨Ov ks H2 H i _ hnd hlt hlen2 h2,hisN i _ (Gx ks _ i _ h2) (.inl h2)⟩
    ·have e:σ i=H.length+(i - ks.length):=Ih ks _ i h1
     exact ⟨by rw [e];exact Ow ks H2 H i hlen2 h1,hisN i _ rfl (.inr ⟨h1,by rw [e];omega⟩)⟩
   obtain ⟨h1,h2,h3⟩:=hat
   unfold Gh.tr at *
   rw [h1]
   simp only [H2,Hp,List.getElem?_map,g', h2,h3,if_true]
   rw [List.getElem?_eq_getElem hli] at hi ⊢
   cases hh:H1[i] with
   | none=>rw [hh] at hi;simpa using hi
   | some cs=>rw [hh] at hi;simpa using hi
  have hcells:∀ (i:Nat) (c:List AV),H1[i]? = some (some c)→c.all (nf d')=true:=fun i c ho=>List.all_eq_true.1 hnf2 (some c) (List.mem_of_getElem? ho)
  have htr:∀ o d,g.tr H o=some d→g'.tr H' o=some d∨g'.tr H' o=some none:=fun o dd ho=>by
   by_cases hm' : o∈ks
   ·obtain ⟨i,hi⟩:=List.mem_iff_getElem?.1 hm'
    have e:σ i=o:=Gx ks _ i o hi
    have h1:(Bn g ks H).tr (Aq ks H) i=some dd:=by rw [Gg hlt hi];exact ho
    rw [← e]
    exact (hm.trk i dd h1).imp (htrN i dd) (htrN i none)
   ·exact .inl (htrO o dd hm' ho)
  have hfr:∀ i c,H1[i]? = some (some c)→∀ b∈g1.ob i,(∃ o cs,o∈ks∧H[o]? = some (some cs)∧b∈g.ob o)∨w.heap.size≤b:=fun i c hi b hb=>
   (hm.stp.own b ⟨i,c,hi,hb⟩).imp (hown0 b) id
  have hp' : HeapR g' H' w' := by
   refine ⟨?_,?_,?_,?_,fun b hb=>Nat.lt_of_lt_of_le (hp.low b hb) hsz⟩
   ·intro o cs ho
    rcases hinv o cs ho with ⟨hn,hlo,ho'⟩ | ⟨i,c,hi,rfl,hN,hI⟩
    ·simp only [g', hisO o hn hlo]
     exact (hp.obj o cs ho').mono (fun _ h=>h) hkeepG htr (hkeepO o cs ho' hn)
    ·simp only [g', hN,hI,if_true]
     have h1:=hm.hp.obj i c hi
     exact h1.tell (shr σ d') (fun _ _=>rfl) (fun x hx v bs' _ hr=>R8 htrN d' _ _ _ (List.all_eq_true.1 (hcells _ _ hi) _ hx) hr) (fun _ ⟨x,hx,hg⟩=>(Wq hg (List.all_eq_true.1 (hcells _ _ hi) _ hx)).elim)
   ·intro o cs ho
    rcases hinv o cs ho with ⟨hn,hlo,ho'⟩ | ⟨i,c,hi,rfl,hN,hI⟩
    ·simp only [g', hisO o hn hlo];exact hp.nodup o cs ho'
    ·simp only [g', hN,hI,if_true];exact hm.hp.nodup i c hi
   ·intro o o2 cs cs2 ho ho2 hne b h1 h2
    rcases hinv o cs ho with ⟨hn,hlo,ho'⟩ | ⟨i,c,hi,rfl,hN,hI⟩<;>rcases hinv o2 cs2 ho2 with ⟨hn2,hlo2,ho2'⟩ | ⟨i2,c2,hi2,rfl,hN2,hI2⟩
    ·simp only [g', hisO o hn hlo] at h1;simp only [g', hisO o2 hn2 hlo2] at h2;exact hp.apart o o2 cs cs2 ho' ho2' hne b h1 h2
    ·simp only [g', hisO o hn hlo] at h1;simp only [g', hN2,hI2,if_true] at h2
     rcases hfr i2 c2 hi2 b h2 with ⟨o3,cs3,h3,h4,h5⟩ | h
     ·exact hp.apart o o3 cs cs3 ho' h4 (fun e=>hn (e ▸ h3)) b h1 h5
     ·have:=(hp.obj o cs ho').all_lt b h1;omega
    ·simp only [g', hN,hI,if_true] at h1;simp only [g', hisO o2 hn2 hlo2] at h2
     rcases hfr i c hi b h1 with ⟨o3,cs3,h3,h4,h5⟩ | h
     ·exact hp.apart o2 o3 cs2 cs3 ho2' h4 (fun e=>hn2 (e ▸ h3)) b h2 h5
     ·have:=(hp.obj o2 cs2 ho2').all_lt b h2;omega
    ·simp only [g', hN,hI,if_true] at h1;simp only [g', hN2,hI2,if_true] at h2
     refine hm.hp.apart i i2 c c2 hi hi2 (fun e=>hne ?_) b h1 h2
     subst e
     have:∀ o,isN o=true→σ (inv o)=o:=fun o hN=>by
      simp only [isN,Bool.or_eq_true,decide_eq_true_eq,Option.isSome_iff_exists] at hN
      rcases hN with ⟨j,hj⟩ | hge
      ·obtain ⟨m,rfl,hm⟩:=E0 ks 0 o j hj
       simp only [inv,hj,Nat.zero_add]
       exact Gx ks _ m o hm
      ·have hno:o∉ks:=fun hm=>by have:=hlt o hm;omega
       simp only [inv,gcT_no o hno]
       show Ca ks H.length _=o
       rw [Ih ks _ _ (by omega)];omega
     rw [← this o hN,← this o2 hN2,hI,hI2]
   ·intro o cs ho b h1 hG
    rcases hinv o cs ho with ⟨hn,hlo,ho'⟩ | ⟨i,c,hi,rfl,hN,hI⟩
    ·simp only [g', hisO o hn hlo] at h1;exact hp.free o cs ho' b h1 hG
    ·simp only [g', hN,hI,if_true] at h1
     rcases hfr i c hi b h1 with ⟨o3,cs3,h3,h4,h5⟩ | h
     ·exact hp.free o3 cs3 h4 b h5 hG
     ·have:=hp.low b hG;omega
  refine ⟨v,g', shr σ d' av,H', he,⟨hp', ⟨hm.stp.os,hm.stp.tape,hm.stp.output,hsz,fun b hb hno=>hm.stp.keep b hb fun ho=>?_,fun b ⟨o,cs,ho,h1⟩=>?_,fun _ h=>h,fun _ h=>.inl h,hm.stp.fz⟩,
   fun x v h=>h.mono (fun _ h=>h) hkeepG htr (by simp),htr⟩,R8 htrN d' _ _ _ hnf1 hx,fun h=>(by cases h),av,H1,hk,rfl,rfl⟩
  ·obtain ⟨o,cs,_,hc,hbo⟩:=hown0 b ho
   exact hno ⟨o,cs,hc,hbo⟩
  ·rcases hinv o cs ho with ⟨hn,hlo,ho'⟩ | ⟨i,c,hi,rfl,hN,hI⟩
   ·left;simp only [g', hisO o hn hlo] at h1;exact ⟨o,cs,ho', h1⟩
   ·simp only [g', hN,hI,if_true] at h1
    exact (hfr i c hi b h1).imp (fun ⟨o3,cs3,h3,h4,h5⟩=>⟨o3,cs3,h4,h5⟩) id
def Er (P:Program)(f:FuncId)(args:List AV)(H0:Heap)(x:AV)(H1:Heap):Prop:=CallsX P false f args H0 fun av H' => av=x∧H' = H1
theorem eO {f : FuncId} {args args' : List AV} {H0 : Heap} {x : AV} {H1 : Heap} {K : AV → Heap → Prop} (h : Er P f args H0 x H1) (ks : List Nat) (hks : (decide ks.Nodup && ks.all fun o => decide (o < H.length)) = true) (hH : Aq ks H = H0) (ha : args'.map (vw ks H 6) = args) (hx : nf 6 x = true) (hH1 : Cj 6 H1 = true)
    (hK:K (shr (Ca ks H.length) 6 x) (Cn ks (Hp (Ca ks H.length) 6 H1) H)):CallsX P false f args' H K:=by
 simp only [Bool.and_eq_true,decide_eq_true_eq,List.all_eq_true] at hks
 exact (CallsX.liftW ks 6 6 h hks.1 hks.2 hH ha.symm (by rintro av H' ⟨rfl,rfl⟩;exact ⟨hx,hH1⟩)).mono (by rintro av H' ⟨av0,H0', ⟨rfl,rfl⟩,rfl,rfl⟩;exact hK)
end
section
variable {P:Program} {N:Nat} {g:Gh} {F:Frame} {H:Heap} {a:Act} {w:World} {M:List Nat} {n0:Nat}
theorem Dd {o x:Nat}{c cs' cs2:List AV}(h:(H.set o (some cs')++[some cs2])[x]? = some (some c))(hol:o<H.length):(x=H.length∧c=cs2)∨(x=o∧x<H.length∧c=cs')∨(x≠o∧x<H.length∧H[x]? = some (some c)):=by
 rcases Nat.lt_trichotomy x H.length with hlt | rfl | hgt
 ·rw [List.getElem?_append_left (by simpa using hlt)] at h
  by_cases e:o=x
  ·subst e
   rw [List.getElem?_set_self hol] at h
   exact .inr (.inl ⟨rfl,hlt,(Option.some.inj (Option.some.inj h)).symm⟩)
  ·rw [List.getElem?_set_ne e] at h
   exact .inr (.inr ⟨Ne.symm e,hlt,h⟩)
 ·have e:(H.set o (some cs')++[some cs2])[H.length]? = some (some cs2):=by simp
  rw [e] at h
  exact .inl ⟨rfl,(Option.some.inj (Option.some.inj h)).symm⟩
 ·rw [List.getElem?_eq_none (by simp;omega)] at h;cases h
theorem Ref.open (o j : Nat) {cs cs2 : List AV} {k n : Nat} (ho : H[o]? = some (some cs)) (hj : cs[j]? = some (.osl k n cs2)) :
    Ref n0 F H F (H.set o (some (cs.set j (.sl H.length k 0 n)))++[some cs2]):=fun N g a w hR=>by
 have hp:=hR.hp
 obtain ⟨hjl,hje⟩:=List.getElem?_eq_some_iff.1 hj
 have hol:o<H.length:=(List.getElem?_eq_some_iff.1 ho).1
 have h1:=hp.obj o cs ho
 cases hl:g.ρ o with
 | none=>
  rw [hl] at h1
  have h3:=h1.1.gh _ (List.getElem_mem hjl)
  rw [hje] at h3
  cases h3
 | some l=>
  obtain ⟨b,base,sz⟩:=l
  rw [hl] at h1
  obtain ⟨u,bss,hblk,hr,hob⟩:=h1
  have hjr:=hr j hjl
  rw [hje] at hjr
  generalize hbj:bss j=bsj at hjr
  have hnew:∃ l2,(∀ (tr:Nat→Option (Option A2)),(∀ x d,g.tr H x=some d→tr x=some d)→ObjR w tr g.G cs2 bsj l2)∧Ju l2 k 0 n (u j)∧(u j).oneCell' = true∧n*k≤cs2.length:=by
   generalize u j=v at hjr
   cases hjr with
   | osl u2 bss2 hl2 hn hm hb2 hs hc2 hr2=>
    rename_i b2 off2 cap2 arr2 elem2
    have hnk:n*k≤cap2*k:=Nat.mul_le_mul_right _ hn
    exact ⟨some (b2,off2,arr2.size),fun tr ht=>.ofCells ⟨arr2,elem2,u2,bss2,hb2,rfl,by omega,hc2,fun m hm=>(hr2 m hm).mono (fun _ h=>h) (fun _ _=>rfl) (fun x d h=>.inl (ht x d h)) (fun _ _=>rfl),rfl⟩,⟨cap2,hn,hm,by omega,.inl (by simp)⟩,rfl,by omega⟩
   | osl0=>
    rename_i a0
    exact ⟨none,fun _ _=>ObjR.nil,⟨rfl,a0,rfl⟩,rfl,by omega⟩
  obtain ⟨l2,hO2,hS2,hv2,hnk⟩:=hnew
  let bss' : Nat→List Nat:=fun m=>if m=j then [] else bss m
  let nb:=b :: (List.range cs.length).flatMap bss'
  let H' : Heap:=H.set o (some (cs.set j (.sl H.length k 0 n)))++[some cs2]
  let g' : Gh:=⟨fun x=>if x=H.length then l2 else g.ρ x,fun x=>if x=H.length then bsj else if x=o then nb else g.ob x,g.G⟩
  have hperm:List.Perm (g.ob o) (bsj++nb):=by
   have e:bss=fun m=>if m=j then bsj else bss' m:=by
    funext m
    by_cases e:m=j
    ·subst e;simp [hbj]
    ·simp [bss', e]
   rw [hob]
   refine List.Perm.trans (List.Perm.cons b ?_) List.perm_middle.symm
   conv=>lhs;rw [e]
   exact Lq hjl (by simp [bss']) bsj
  have hnd:=hp.nodup o cs ho
  rw [hperm.nodup_iff,List.nodup_append] at hnd
  have hmem:∀ y,(y∈bsj∨y∈nb)→y∈g.ob o:=fun y hy=>hperm.mem_iff.2 (List.mem_append.2 hy)
  have htr:∀ x d,g.tr H x=some d→g'.tr H' x=some d:=fun x d hd=>by
   have hxl:=Cq hd
   unfold Gh.tr at *
   rw [List.getElem?_append_left (by simpa using hxl)]
   simp only [g', if_neg (Nat.ne_of_lt hxl)]
   by_cases e:o=x
   ·subst e
    rw [List.getElem?_set_self hol]
    rw [ho] at hd
    simpa using hd
   ·rw [List.getElem?_set_ne e];exact hd
  have lift:∀ x v bs,Rd w (g.tr H) g.G x v bs→Rd w (g'.tr H') g'.G x v bs:=fun x v bs h=>h.mono (fun _ h=>h) (fun _ _=>rfl) (fun x d h=>.inl (htr x d h)) (fun _ _=>rfl)
  have hrj:Rd w (g'.tr H') g'.G (.sl H.length k 0 n) (u j) []:=by
   have e:g'.tr H' H.length=some (some (l2,cs2.length)):=by
    have e1:H'[H.length]? = some (some cs2):=by simp [H']
    rw [Gh.tr_some e1]
    simp [g']
   refine .sl (by rw [e];rfl) hv2 fun l hl=>?_
   rw [e] at hl
   obtain rfl:=Option.some.inj (Option.some.inj hl)
   exact ⟨by dsimp only;omega,hS2⟩
  have hp' : HeapR g' H' w:=by
   refine ⟨?_,?_,?_,?_,hp.low⟩
   ·intro x c hx
    rcases Dd hx hol with ⟨rfl,rfl⟩ | ⟨rfl,h3,rfl⟩ | ⟨h3,h4,h5⟩
    ·have e1:g'.ρ H.length=l2:=by simp [g']
     have e2:g'.ob H.length=bsj:=by simp [g']
     rw [e1,e2]
     exact hO2 _ htr
    ·have e1:g'.ρ x=some (b,base,sz):=by simp [g', Nat.ne_of_lt h3,hl]
     have e2:g'.ob x=nb:=by simp [g', Nat.ne_of_lt h3]
     rw [e1,e2]
     refine ⟨u,bss', by simpa using hblk,fun m hm=>?_,by simp [nb]⟩
     simp only [List.length_set] at hm
     by_cases e:m=j
     ·subst e
      simp only [List.getElem_set_self,bss', if_true]
      exact hrj
     ·rw [List.getElem_set_ne (Ne.symm e)]
      simp only [bss', if_neg e]
      exact lift _ _ _ (hr m hm)
    ·have e1:g'.ρ x=g.ρ x:=by simp [g', Nat.ne_of_lt h4]
     have e2:g'.ob x=g.ob x:=by simp [g', Nat.ne_of_lt h4,h3]
     rw [e1,e2]
     exact (hp.obj x c h5).mono (fun _ h=>h) (fun _ _=>rfl) (fun x d h=>.inl (htr x d h)) (fun _ _=>rfl)
   ·intro x c hx
    rcases Dd hx hol with ⟨rfl,rfl⟩ | ⟨rfl,h3,rfl⟩ | ⟨h3,h4,h5⟩
    ·simp only [g', if_true];exact hnd.1
    ·simp only [g', if_neg (Nat.ne_of_lt h3),if_true];exact hnd.2.1
    ·simp only [g', if_neg (Nat.ne_of_lt h4),if_neg h3];exact hp.nodup x c h5
   ·intro x y c d hx hy hxy b' hb1 hb2
    rcases Dd hx hol with ⟨rfl,rfl⟩ | ⟨rfl,h3,rfl⟩ | ⟨h3,h4,h5⟩<;>rcases Dd hy hol with ⟨rfl,rfl⟩ | ⟨rfl,k3,rfl⟩ | ⟨k3,k4,k5⟩
    ·exact hxy rfl
    ·simp only [g', if_true] at hb1
     simp only [g', if_neg (Nat.ne_of_lt k3),if_true] at hb2
     exact hnd.2.2 b' hb1 b' hb2 rfl
    ·simp only [g', if_true] at hb1
     simp only [g', if_neg (Nat.ne_of_lt k4),if_neg k3] at hb2
     exact hp.apart o y cs d ho k5 (Ne.symm k3) b' (hmem _ (.inl hb1)) hb2
    ·simp only [g', if_true] at hb2
     simp only [g', if_neg (Nat.ne_of_lt h3),if_true] at hb1
     exact hnd.2.2 b' hb2 b' hb1 rfl
    ·exact hxy rfl
    ·simp only [g', if_neg (Nat.ne_of_lt h3),if_true] at hb1
     simp only [g', if_neg (Nat.ne_of_lt k4),if_neg k3] at hb2
     exact hp.apart x y cs d ho k5 (Ne.symm k3) b' (hmem _ (.inr hb1)) hb2
    ·simp only [g', if_true] at hb2
     simp only [g', if_neg (Nat.ne_of_lt h4),if_neg h3] at hb1
     exact hp.apart x o c cs h5 ho h3 b' hb1 (hmem _ (.inl hb2))
    ·simp only [g', if_neg (Nat.ne_of_lt h4),if_neg h3] at hb1
     simp only [g', if_neg (Nat.ne_of_lt k3),if_true] at hb2
     exact hp.apart x y c cs h5 ho h3 b' hb1 (hmem _ (.inr hb2))
    ·simp only [g', if_neg (Nat.ne_of_lt h4),if_neg h3] at hb1
     simp only [g', if_neg (Nat.ne_of_lt k4),if_neg k3] at hb2
     exact hp.apart x y c d h5 k5 hxy b' hb1 hb2
   ·intro x c hx b' hb1
    rcases Dd hx hol with ⟨rfl,rfl⟩ | ⟨rfl,h3,rfl⟩ | ⟨h3,h4,h5⟩
    ·simp only [g', if_true] at hb1
     exact hp.free o cs ho b' (hmem _ (.inl hb1))
    ·simp only [g', if_neg (Nat.ne_of_lt h3),if_true] at hb1
     exact hp.free x cs ho b' (hmem _ (.inr hb1))
    ·simp only [g', if_neg (Nat.ne_of_lt h4),if_neg h3] at hb1
     exact hp.free x c h5 b' hb1
  refine ⟨g', ⟨fun i=>lift _ _ _ (hR.fr i),hp', hR.size,hR.defers⟩,hp', ⟨rfl,⟨rfl,Nat.le_refl _⟩,rfl,Nat.le_refl _,fun _ _ _=>rfl,fun b' ⟨x,c,hx,hb1⟩=>.inl ?_,fun _ h=>h,fun _ h=>.inl h,fun _ _=>rfl⟩,fun x d _ hd=>.inl (htr x d hd)⟩
  rcases Dd hx hol with ⟨rfl,rfl⟩ | ⟨rfl,h3,rfl⟩ | ⟨h3,h4,h5⟩
  ·simp only [g', if_true] at hb1
   exact ⟨o,cs,ho,hmem _ (.inl hb1)⟩
  ·simp only [g', if_neg (Nat.ne_of_lt h3),if_true] at hb1
   exact ⟨x,cs,ho,hmem _ (.inr hb1)⟩
  ·simp only [g', if_neg (Nat.ne_of_lt h4),if_neg h3] at hb1
   exact ⟨x,c,h5,hb1⟩
theorem Ref.nil (j k:Nat)(h:Ac F j=Ag):Ref n0 F H ((j,.sl H.length k 0 0) :: F) (H++[some []]):=fun N g a w hR=>by
 have hm:=Yn hR.hp
 refine ⟨_,⟨fun i=>?_,hm.hp,hR.size,hR.defers⟩,hm.toN⟩
 simp only [C1]
 by_cases e:j=i
 ·subst e
  rw [if_pos rfl]
  have h1:=hR.fr j
  rw [h] at h1
  have e1:(g.add H.length none []).tr (H++[some []]) H.length=some (some (none,0)):=by
   have e1:(H++[some ([]:List AV)])[H.length]? = some (some []):=by simp
   rw [Gh.tr_some e1]
   simp [Gh.add]
  rw [h1.val_inv.1]
  refine .sl (by rw [e1];rfl) rfl fun l hl=>?_
  rw [e1] at hl
  obtain rfl:=Option.some.inj (Option.some.inj hl)
  exact ⟨by dsimp only;omega,rfl,none,rfl⟩
 ·rw [if_neg e];exact hm.lift _ _ (hR.fr i)
theorem Ref.cut (o m j : Nat) {cs : List AV} {k off len : Nat} (ho : H[o]? = some (some cs)) (hm : m ≤ cs.length) (hj : Ac F j = .sl o k off len) (hlen : off + len * k ≤ m) :
    Ref n0 F H ((j,.sl H.length k off len) :: F) (H.set o none++[some (cs.take m)]):=fun N g a w hR=>by
 have hp:=hR.hp
 have hol:o<H.length:=(List.getElem?_eq_some_iff.1 ho).1
 have h1:=hp.obj o cs ho
 let H' : Heap:=H.set o none++[some (cs.take m)]
 have hal:∀ x c,H'[x]? = some (some c)→(x=H.length∧c=cs.take m)∨(x≠o∧x<H.length∧H[x]? = some (some c)):=fun x c h=>by
  rcases C8 h with ⟨hlt,h2⟩ | ⟨h2,h3⟩
  ·obtain ⟨h3,h4⟩:=Cs h2
   exact .inr ⟨h3,by simpa using hlt,h4⟩
  ·exact .inl ⟨by simpa using h2,(Option.some.inj h3).symm⟩
 have hS0:∃ v,Ju (g.ρ o) k off len v:=by
  have h2:=hR.fr j
  rw [hj] at h2
  generalize a.tmps.getD j undef=v0 at h2
  cases h2 with
  | sl h0 hv h=>exact ⟨v0,(h _ (Gh.tr_some (g:=g) ho)).2⟩
 have hnew:∃ bs', bs'.Sublist (g.ob o)∧∀ (tr:Nat→Option (Option A2)),(∀ x d,g.tr H x=some d→tr x=some d∨tr x=some none)→ObjR w tr g.G (cs.take m) bs' (g.ρ o):=by
  cases hl:g.ρ o with
  | none=>
   rw [hl] at h1
   exact ⟨[],List.nil_sublist _,fun tr ht=>⟨h1.1.take m,rfl⟩⟩
  | some l=>
   obtain ⟨b,base,sz⟩:=l
   rw [hl] at h1
   obtain ⟨v0,hS0⟩:=hS0
   rw [hl] at hS0
   obtain ⟨cap0,_,_,hs0,_⟩:=hS0
   obtain ⟨arr,elem,u,bss,hb,hsz,hbase,hc,hr,hob⟩:=h1.cells (by omega)
   have e:(cs.take m).length=m:=by rw [List.length_take];omega
   refine ⟨b :: (List.range m).flatMap bss,?_,fun tr ht=>.ofCells ⟨arr,elem,u,bss,hb,hsz,by omega,fun i hi=>hc i (by omega),fun i hi=>?_,by rw [e]⟩⟩
   ·rw [hob]
    refine List.Sublist.cons_cons _ ?_
    have:List.range cs.length=List.range m++(List.range (cs.length - m)).map (m + ·):=by rw [← List.range_add];congr 1;omega
    rw [this,List.flatMap_append]
    exact List.sublist_append_left _ _
   ·simp only [List.getElem_take]
    exact (hr i (by omega)).mono (fun _ h=>h) (fun _ _=>rfl) ht (fun _ _=>rfl)
 obtain ⟨bs', hsub,hO⟩:=hnew
 let g' : Gh:=⟨fun x=>if x=H.length then g.ρ o else g.ρ x,fun x=>if x=H.length then bs' else g.ob x,g.G⟩
 have htr:∀ x d,g.tr H x=some d→g'.tr H' x=some d∨g'.tr H' x=some none:=fun x d hd=>by
  have hxl:=Cq hd
  by_cases e:o=x
  ·subst e
   right
   unfold Gh.tr
   rw [List.getElem?_append_left (by simpa using hxl),List.getElem?_set_self hol]
  ·left
   unfold Gh.tr at *
   rw [List.getElem?_append_left (by simpa using hxl),List.getElem?_set_ne e]
   simp only [g', if_neg (Nat.ne_of_lt hxl)]
   exact hd
 have lift:∀ x v bs,Rd w (g.tr H) g.G x v bs→Rd w (g'.tr H') g'.G x v bs:=fun x v bs h=>h.mono (fun _ h=>h) (fun _ _=>rfl) htr (fun _ _=>rfl)
 have hp' : HeapR g' H' w:=by
  refine ⟨?_,?_,?_,?_,hp.low⟩
  ·intro x c hx
   rcases hal x c hx with ⟨rfl,rfl⟩ | ⟨h3,h4,h5⟩
   ·simp only [g', if_true];exact hO _ htr
   ·simp only [g', if_neg (Nat.ne_of_lt h4)]
    exact (hp.obj x c h5).mono (fun _ h=>h) (fun _ _=>rfl) htr (fun _ _=>rfl)
  ·intro x c hx
   rcases hal x c hx with ⟨rfl,rfl⟩ | ⟨h3,h4,h5⟩
   ·simp only [g', if_true];exact hsub.nodup (hp.nodup o cs ho)
   ·simp only [g', if_neg (Nat.ne_of_lt h4)];exact hp.nodup x c h5
  ·intro x y c d hx hy hxy b' hb1 hb2
   rcases hal x c hx with ⟨rfl,rfl⟩ | ⟨h3,h4,h5⟩<;>rcases hal y d hy with ⟨rfl,rfl⟩ | ⟨k3,k4,k5⟩
   ·exact hxy rfl
   ·simp only [g', if_true] at hb1;simp only [g', if_neg (Nat.ne_of_lt k4)] at hb2
    exact hp.apart o y cs d ho k5 (Ne.symm k3) b' (hsub.subset hb1) hb2
   ·simp only [g', if_true] at hb2;simp only [g', if_neg (Nat.ne_of_lt h4)] at hb1
    exact hp.apart x o c cs h5 ho h3 b' hb1 (hsub.subset hb2)
   ·simp only [g', if_neg (Nat.ne_of_lt h4)] at hb1;simp only [g', if_neg (Nat.ne_of_lt k4)] at hb2
    exact hp.apart x y c d h5 k5 hxy b' hb1 hb2
  ·intro x c hx b' hb1
   rcases hal x c hx with ⟨rfl,rfl⟩ | ⟨h3,h4,h5⟩
   ·simp only [g', if_true] at hb1;exact hp.free o cs ho b' (hsub.subset hb1)
   ·simp only [g', if_neg (Nat.ne_of_lt h4)] at hb1;exact hp.free x c h5 b' hb1
 refine ⟨g', ⟨fun i=>?_,hp', hR.size,hR.defers⟩,hp', ⟨rfl,⟨rfl,Nat.le_refl _⟩,rfl,Nat.le_refl _,fun _ _ _=>rfl,fun b' ⟨x,c,hx,hb1⟩=>.inl ?_,fun _ h=>h,fun _ h=>.inl h,fun _ _=>rfl⟩,fun x d _ hd=>htr x d hd⟩
 ·simp only [C1]
  by_cases e:j=i
  ·subst e
   rw [if_pos rfl]
   have h2:=hR.fr j
   rw [hj] at h2
   cases h2 with
   | sl h0 hv h=>
    obtain ⟨_,hS⟩:=h _ (Gh.tr_some (g:=g) ho)
    have e1:g'.tr H' H.length=some (some (g.ρ o,(cs.take m).length)):=by
     have e1:H'[H.length]? = some (some (cs.take m)):=by simp [H']
     rw [Gh.tr_some e1]
     simp [g']
    refine .sl (by rw [e1];rfl) hv fun l hl=>?_
    rw [e1] at hl
    obtain rfl:=Option.some.inj (Option.some.inj hl)
    refine ⟨?_,hS⟩
    dsimp only
    rw [List.length_take];omega
  ·rw [if_neg e];exact lift _ _ _ (hR.fr i)
 ·rcases hal x c hx with ⟨rfl,rfl⟩ | ⟨h3,h4,h5⟩
  ·simp only [g', if_true] at hb1;exact ⟨o,cs,ho,hsub.subset hb1⟩
  ·simp only [g', if_neg (Nat.ne_of_lt h4)] at hb1;exact ⟨x,c,h5,hb1⟩
end
section
variable {P:Program} {N:Nat} {g:Gh} {F:Frame} {H:Heap} {a:Act} {w:World} {M:List Nat} {n0:Nat}
def Cr (P:Program)(f:FuncId)(args:List AV){α:Type}(Q:α→Prop)(x:α→AV)(H0:α→Heap):Prop:=CallsX P true f args [] fun av H' => ∃ o,Q o∧av=x o∧H' = H0 o
theorem sO {f : FuncId} {ac : ACode} {rs : List AOp} {args : List AV} {α : Type} {Q : α → Prop} {x : α → AV} {H0 : α → Heap} (ks : List Nat) (hc : Aj P M f = some (N, ac, rs)) (hl : decide (args.length ≤ N) = true)
    (hW:W P M N 0 ac (Db rs fun av H' => Fp ks H'.length 0=true∧∃ o,Q o∧Al (A3 ks 0) av=x o∧Aq ks H' = H0 o) (Cb 0 args) []):Cr P f args Q x H0:=
 CallsX.gc ks ((G5 hc (of_decide_eq_true hl) hW).ext_nil) fun _ _ ⟨h1,h2⟩=>⟨h1,h2⟩
theorem eL {ext : Bool} {f : FuncId} {args args' : List AV} {α : Type} {Q : α → Prop} {x : α → AV} {H0 : α → Heap} {K : AV → Heap → Prop} (h : Cr P f args Q x H0) (ha : args'.map (Ai H 6) = args) (hx : ∀ o, nf 6 (x o) = true) (hH : ∀ o, Cj 6 (H0 o) = true)
    (hK:∀ o,Q o→K (Az H.length 6 (x o)) (H++Dg H.length 6 (H0 o))):CallsX P ext f args' H K:=
 ((CallsX.lift h 6 6 ha.symm (by rintro av H' ⟨o,_,rfl,rfl⟩;exact ⟨hx o,hH o⟩)).weak).mono (by rintro av H' ⟨av0,H0', ⟨o,hq,rfl,rfl⟩,rfl,rfl⟩;exact hK o hq)
end
section
variable {P:Program} {N:Nat} {g:Gh} {F:Frame} {H:Heap} {a:Act} {w:World} {M:List Nat} {n0:Nat}
def Gi (n:Nat)(o:Nat):Option Nat:=some (o+n)
def Hn (n:Nat)(H:Heap):Heap:=H.map (Option.map (Av (Gi n)))
theorem vD {n:Nat}{H0:Heap}{i:Nat}{cs:List AV}(h:(Hn n H0)[i]? = some (some cs)):∃ c,H0[i]? = some (some c)∧cs=Av (Gi n) c:=by
 unfold Hn at h
 rw [List.getElem?_map,Option.map_eq_some_iff] at h
 obtain ⟨x,hx,he⟩:=h
 rw [Option.map_eq_some_iff] at he
 obtain ⟨c,rfl,rfl⟩:=he
 exact ⟨c,hx,rfl⟩
theorem CallsX.liftG {f : FuncId} {args args' : List AV} {K : AV → Heap → Prop} (h : CallsX P true f args [] K) (ha : args = args'.map (Al fun _ => none)) :
    CallsX P true f args' H fun av H' => ∃ av0 H0,K av0 H0∧av=Al (Gi H.length) av0∧H' = H++Hn H.length H0:=by
 intro g w vals hp hl hr
 let g0:Gh:=⟨fun _=>none,fun _=>[],g.G⟩
 have hp0:HeapR g0 [] w:=⟨fun o cs h=>by simp at h,fun o cs h=>by simp at h,fun o o' cs cs' h=>by simp at h,fun o cs h=>by simp at h,hp.low⟩
 have htr0:g0.tr []=fun _=>none:=by funext o;simp [Gh.tr]
 refine (h g0 w vals hp0 (by rw [ha];simpa using hl) (fun m hm=>?_)).mono ?_
 ·rw [htr0]
  subst ha
  simp only [List.getElem_map]
  exact E9 (fun _ _ _ h _=>by cases h) (hr m (by simpa using hm))
 ·rintro e w' ⟨v,g1,av,H0,he,hm,hx,hext,hk⟩
  have hE:Ext w w' := hext rfl
  have hsz:=hm.stp.size
  let n:=H.length
  let g' : Gh:=⟨fun o=>if o<n then g.ρ o else g1.ρ (o - n),fun o=>if o<n then g.ob o else g1.ob (o - n),g1.G⟩
  let H' := H++Hn n H0
  have hfresh:∀ o cs,H0[o]? = some (some cs)→∀ b∈g1.ob o,w.heap.size≤b:=fun o cs ho b hb=>by
   rcases hm.stp.own b ⟨o,cs,ho,hb⟩ with ⟨o', cs', ho', _⟩ | h
   ·simp at ho'
   ·exact h
  have hget:∀ o cs,H'[o]? = some (some cs)→(o<n∧H[o]? = some (some cs))∨(n≤o∧∃ c,H0[o - n]? = some (some c)∧cs=Av (Gi n) c):=fun o cs ho=>by
   rcases Nat.lt_or_ge o n with h' | h'
   ·left;rw [List.getElem?_append_left h'] at ho;exact ⟨h', ho⟩
   ·right;rw [List.getElem?_append_right h'] at ho;exact ⟨h', vD ho⟩
  have htr1:∀ o dd,g.tr H o=some dd→g'.tr H' o=some dd:=fun o dd ho=>by
   have hlt:=Cq ho
   unfold Gh.tr at *
   rw [List.getElem?_append_left hlt]
   simp only [g', n,if_pos hlt]
   exact ho
  have htr2:∀ o dd,g1.tr H0 o=some dd→g'.tr H' (o+n)=some dd:=fun o dd ho=>by
   have hlt:=Cq ho
   unfold Gh.tr at *
   rw [List.getElem?_append_right (by simp [n])]
   simp only [Hn,List.getElem?_map,n,Nat.add_sub_cancel]
   rw [List.getElem?_eq_getElem hlt] at ho ⊢
   cases hh:H0[o] with
   | none=>rw [hh] at ho;simpa using ho
   | some cs=>rw [hh] at ho;simpa [g', n,A8,show ¬ o+H.length<H.length by omega] using ho
  have hshift:∀ (x:AV) v bs,Rd w' (g1.tr H0) g1.G x v bs→Rd w' (g'.tr H') g'.G (Al (Gi n) x) v bs:=fun x v bs hr=>E9 (fun o o' d ho hd=>by
   simp only [Gi,Option.some.injEq] at ho
   subst ho
   exact .inl (htr2 o d hd)) hr
  have hold:∀ x v bs,Rd w (g.tr H) g.G x v bs→Rd w' (g'.tr H') g'.G x v bs:=fun x v bs h=>h.mono hm.stp.gin (fun b hb=>hE b (hp.low b hb)) (fun o dd h=>.inl (htr1 o dd h)) (fun b hb=>hE b (h.lt b hb))
  have hp' : HeapR g' H' w' := by
   refine ⟨?_,?_,?_,?_,hm.hp.low⟩
   ·intro o cs ho
    rcases hget o cs ho with ⟨hlt,ho'⟩ | ⟨hge,c,ho', rfl⟩
    ·simp only [g', if_pos hlt]
     have h1:=hp.obj o cs ho'
     exact h1.mono hm.stp.gin (fun b hb=>hE b (hp.low b hb)) (fun o dd h=>.inl (htr1 o dd h)) (fun b hb=>hE b (h1.all_lt b hb))
    ·simp only [g', if_neg (Nat.not_lt.2 hge)]
     have h1:=hm.hp.obj (o - n) c ho'
     rw [A8]
     exact h1.tell (Al _) (fun _ _=>rfl) (fun x _ v bs' _ hr=>hshift _ _ _ hr) (fun hn _=>⟨H6 (hn ▸ h1).1,fun _ h=>h,fun _ _=>rfl⟩)
   ·intro o cs ho
    rcases hget o cs ho with ⟨hlt,ho'⟩ | ⟨hge,c,ho', rfl⟩
    ·simp only [g', if_pos hlt];exact hp.nodup o cs ho'
    ·simp only [g', if_neg (Nat.not_lt.2 hge)];exact hm.hp.nodup _ c ho'
   ·intro o o2 cs cs2 ho ho2 hne b h1 h2
    rcases hget o cs ho with ⟨hlt,ho'⟩ | ⟨hge,c,ho', rfl⟩<;>rcases hget o2 cs2 ho2 with ⟨hlt2,ho2'⟩ | ⟨hge2,c2,ho2', rfl⟩
    ·simp only [g', if_pos hlt] at h1;simp only [g', if_pos hlt2] at h2;exact hp.apart o o2 cs cs2 ho' ho2' hne b h1 h2
    ·simp only [g', if_pos hlt] at h1;simp only [g', if_neg (Nat.not_lt.2 hge2)] at h2
     have:=(hp.obj o cs ho').all_lt b h1;have:=hfresh _ _ ho2' b h2;omega
    ·simp only [g', if_neg (Nat.not_lt.2 hge)] at h1;simp only [g', if_pos hlt2] at h2
     have:=(hp.obj o2 cs2 ho2').all_lt b h2;have:=hfresh _ _ ho' b h1;omega
    ·simp only [g', if_neg (Nat.not_lt.2 hge)] at h1;simp only [g', if_neg (Nat.not_lt.2 hge2)] at h2
     exact hm.hp.apart _ _ c c2 ho' ho2' (by omega) b h1 h2
   ·intro o cs ho b h1 hG
    rcases hget o cs ho with ⟨hlt,ho'⟩ | ⟨hge,c,ho', rfl⟩
    ·simp only [g', if_pos hlt] at h1
     rcases hm.stp.gout b hG with h | ⟨_,_,h,_⟩ | h
     ·exact hp.free o cs ho' b h1 h
     ·simp at h
     ·have:=(hp.obj o cs ho').all_lt b h1;omega
    ·simp only [g', if_neg (Nat.not_lt.2 hge)] at h1
     exact hm.hp.free _ c ho' b h1 hG
  refine ⟨v,g', Al (Gi n) av,H', he,⟨hp', ⟨hm.stp.os,hm.stp.tape,hm.stp.output,hsz,fun b hb _=>hE b hb,fun b ⟨o,cs,ho,h1⟩=>?_,hm.stp.gin,fun b hb=>(hm.stp.gout b hb).imp id (fun h=>h.elim (fun ⟨_,_,h,_⟩=>by simp at h) .inr),hm.stp.fz⟩,fun x v h=>hold x v [] h,fun o dd h=>.inl (htr1 o dd h)⟩,hshift _ _ _ hx,fun _=>hE,av,H0,hk,rfl,rfl⟩
  rcases hget o cs ho with ⟨hlt,ho'⟩ | ⟨hge,c,ho', rfl⟩
  ·left;simp only [g', if_pos hlt] at h1;exact ⟨o,cs,ho', h1⟩
  ·right;simp only [g', if_neg (Nat.not_lt.2 hge)] at h1;exact hfresh _ _ ho' b h1
theorem J0 {ext:Bool}{f:FuncId}{args args' : List AV}{x:AV}{H0:Heap}{K:AV→Heap→Prop}(h:Ao P f args x H0)(ha:args'.map (Al fun _=>none)=args)(hK:K (Al (Gi H.length) x) (H++Hn H.length H0)):CallsX P ext f args' H K:=
 ((CallsX.liftG h ha.symm).weak).mono (by rintro av H' ⟨av0,H0', ⟨rfl,rfl⟩,rfl,rfl⟩;exact hK)
end
section
variable {P:Program} {N:Nat} {g:Gh} {F:Frame} {H:Heap} {a:Act} {w:World} {M:List Nat} {n0:Nat}
theorem CallsX.freeze {ext:Bool}{f:FuncId}{args' : List AV}{K:AV→Heap→Prop}(h:CallsX P ext f (args'.map (Ai H 6)) (Dj H) K):CallsX P ext f args' H K:=by
 intro g w vals hp hl hr
 refine (h ⟨g.ρ,g.ob,fun b=>g.G b∨g.owns H b⟩ w vals (Qi hp).hp (by simpa using hl) fun m hm=>?_).mono ?_
 ·simp only [List.getElem_map]
  refine Rd.mono ?_ (fun _ _=>rfl) (fun o d h=>by cases h) (Np hp 6 _ _ [] (hr m (by simpa using hm)) (by simp)) (by simp)
  exact fun _ h=>h
 ·rintro e w' ⟨v,g', av,H', he,hm,hx,hE,hk⟩
  exact ⟨v,g', av,H', he,(Qi hp).trans hm,hx,hE,hk⟩
theorem eM {ext:Bool}{f:FuncId}{args args' : List AV}{x:AV}{H0:Heap}{K:AV→Heap→Prop}(h:Ao P f args x H0)(ha:(args'.map (Ai H 6)).map (Al fun _=>none)=args)(hK:K (Al (Gi H.length) x) (Dj H++Hn H.length H0)):CallsX P ext f args' H K:=by
 refine CallsX.freeze (J0 h ha ?_)
 rwa [show (Dj H).length=H.length by simp [Dj]]
end
end Go.Gov
