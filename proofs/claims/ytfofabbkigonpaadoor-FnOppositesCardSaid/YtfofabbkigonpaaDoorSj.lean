/- Texts that belong together. -/
import Derived.Test.YtfofabbkigonpaaDoorZe
set_option linter.unusedSimpArgs false
set_option linter.unusedVariables false
namespace Go.Gov
open Classical
theorem Ref.closeL {n0 : Nat} {F : Frame} {H : Heap} (o j o2 : Nat) {cs cs2 : List AV} {k n : Nat} (ho : H[o]? = some (some cs)) (hj : cs[j]? = some (.sl o2 k 0 n)) (h2 : H[o2]? = some (some cs2)) (hne : o ≠ o2) (hlen : n * k ≤ cs2.length) :
    Ref n0 F H F (Ch [o2] (H.set o (some (cs.set j (.osl k n (cs2.take (n*k))))))):=S3 o [o2] ho (by simp) (by simp [hne]) (by simpa using ⟨cs2,h2⟩) (by simp) fun g w hp=>by
 obtain ⟨hjl,hje⟩:=List.getElem?_eq_some_iff.1 hj
 have h1:=hp.obj o cs ho
 cases hl:g.ρ o with
 | none=>
  rw [hl] at h1
  have h3:=h1.1.gh _ (List.getElem_mem hjl)
  rw [hje] at h3
  cases h3
 | some l=>
  obtain ⟨b,base,sz⟩:=l
  rw [hl] at h1
  obtain ⟨u,bss,hblk,hr,hob⟩:=h1
  have hrj:=hr j hjl
  rw [hje] at hrj
  have hbj:bss j=[]:=by
   generalize bss j=x at hrj
   cases hrj;rfl
  obtain ⟨bs', hsub,hrd⟩:∃ bs', bs'.Sublist (g.ob o2)∧Rd w (g.tr H) g.G (.osl k n (cs2.take (n*k))) (u j) bs' := by
   generalize u j=x,bss j=y at hrj
   cases hrj with
   | sl h0 hv h=>
    obtain ⟨_,hS⟩:=h _ (Gh.tr_some (g:=g) h2)
    have h3:=hp.obj o2 cs2 h2
    dsimp only at hS
    cases hl2:g.ρ o2 with
    | none=>
     rw [hl2] at hS h3
     obtain ⟨rfl,a0,rfl⟩:=hS
     rw [Nat.zero_mul,List.take_zero]
     exact ⟨[],List.nil_sublist _,.osl0⟩
    | some l2=>
     obtain ⟨b2,base2,sz2⟩:=l2
     rw [hl2] at hS h3
     obtain ⟨cap,hn,hm,hs,hv⟩:=hS
     obtain ⟨arr2,elem2,u2,bss2,hb2,hsz2,hbase2,hc2,hr2,hob2⟩:=h3.cells (by omega)
     subst hsz2
     have e:(cs2.take (n*k)).length=n*k:=by rw [List.length_take];omega
     rcases hv with rfl | ⟨rfl,a0,rfl⟩
     ·refine ⟨b2 :: (List.range (n*k)).flatMap bss2,?_,?_⟩
      ·rw [hob2]
       refine List.Sublist.cons_cons _ ?_
       have:List.range cs2.length=List.range (n*k)++(List.range (cs2.length - n*k)).map (n*k + ·):=by rw [← List.range_add];congr 1;omega
       rw [this,List.flatMap_append]
       exact List.sublist_append_left _ _
      ·have := Rd.osl (w := w) (tr := g.tr H) (G := g.G) (k := k) (n := n) (cs := cs2.take (n * k)) (elem := elem2) u2 bss2 e hn hm hb2 (by omega) (fun m hm => hc2 m (by omega)) (fun m hm => by
         simp only [List.getElem_take]
         exact hr2 m (by omega))
       rwa [e] at this
     ·obtain rfl:n=0:=by omega
      rw [Nat.zero_mul,List.take_zero]
      exact ⟨[],List.nil_sublist _,.osl0⟩
  let bss' : Nat→List Nat:=fun m=>if m=j then bs' else bss m
  refine ⟨b :: (List.range cs.length).flatMap bss', bs', ⟨u,bss', by simpa using hblk,fun m hm=>?_,by simp⟩,?_,by simpa using hsub⟩
  ·simp only [List.length_set] at hm
   by_cases e:m=j
   ·subst e
    simp only [List.getElem_set_self,bss', if_true]
    exact hrd
   ·rw [List.getElem_set_ne (Ne.symm e)]
    simp only [bss', if_neg e]
    exact hr m hm
  ·rw [hob]
   exact ((Lq hjl hbj bs').cons b).trans List.perm_middle.symm
end Go.Gov
