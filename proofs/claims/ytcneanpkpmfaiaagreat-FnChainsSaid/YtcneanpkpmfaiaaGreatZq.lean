/- Texts that belong together. -/
import Derived.Test.YtcneanpkpmfaiaaGreatZh
import Derived.Test.YtcneanpkpmfaiaaGreatZj
set_option linter.unusedSimpArgs false
set_option linter.unusedVariables false
set_option maxRecDepth 100000
namespace Go.Proofs.YtcneanpkpmfaiaaGreat
section
open Classical
def Ea:List Int→List Int→Bool
 | [],[]=>false
 | [],_ :: _=>true
 | _ :: _,[]=>false
 | x :: xs,y :: ys=>if x<y then true else if y<x then false else Ea xs ys
theorem aR:∀ a,Ea a a=false
 | []=>rfl
 | x :: xs=>by simp [Ea,aR xs]
theorem aS:∀ {a b c:List Int},Ea a b=true→Ea b c=true→Ea a c=true
 | _,[],[],_,h=>by cases h
 | [],[],_ :: _,h,_=>by cases h
 | [],_ :: _,[],_,h=>by cases h
 | [],_ :: _,_ :: _,_,_=>rfl
 | _ :: _,[],_,h,_=>by cases h
 | _ :: _,_ :: _,[],_,h=>by cases h
 | x :: xs,y :: ys,z :: zs,h,k=>by
  unfold Ea at *
  have ih:=@aS xs ys zs
  split at h<;>split at k<;>(try split at h)<;>(try split at k)<;>(try (cases h;done))<;>(try (cases k;done))<;>grind
theorem aT:∀ {a b:List Int},Ea a b=false→Ea b a=false→a=b
 | [],[],_,_=>rfl
 | [],_ :: _,h,_=>by cases h
 | _ :: _,[],_,h=>by cases h
 | x :: xs,y :: ys,h,k=>by
  unfold Ea at *
  have ih:=@aT xs ys
  split at h<;>split at k<;>(try split at h)<;>(try split at k)<;>(try (cases h;done))<;>(try (cases k;done))<;>grind
def Lst (S:List Int→Prop)(b:List Int):Prop:=S b∧∀ x,S x→Ea x b=false
theorem Lst.uniq {S:List Int→Prop}{a b:List Int}(h:Lst S a)(k:Lst S b):a=b:=aT (k.2 a h.1) (h.2 b k.1)
theorem sL {x b c:List Int}(h:Ea x b=false)(hc:Ea c b=true):Ea x c=false:=by
 cases h2:Ea x c with
 | false=>rfl
 | true=>rw [aS h2 hc] at h;cases h
theorem Lst.add {S:List Int→Prop}{b c:List Int}(h:Lst S b):Lst (fun x=>S x∨x=c) (if Ea c b=true then c else b):=by
 by_cases hc:Ea c b=true
 ·rw [if_pos hc]
  refine ⟨.inr rfl,fun x hx=>?_⟩
  rcases hx with hx | rfl
  ·exact sL (h.2 x hx) hc
  ·exact aR _
 ·rw [if_neg hc]
  refine ⟨.inl h.1,fun x hx=>?_⟩
  rcases hx with hx | rfl
  ·exact h.2 x hx
  ·simpa using hc
theorem Lst.same {S T:List Int→Prop}{b:List Int}(h:Lst S b)(hs:∀ x,S x ↔ T x):Lst T b:=⟨(hs b).1 h.1,fun x hx=>h.2 x ((hs x).2 hx)⟩
end
section
open Go.Gov
theorem nJ (n:Nat)(hn:n≤1099511627776):Pure Tryz.prog 49 [Af,i64 n] (.sl 0 1 0 0) [some []]:=by
 intro g w vals hp hl1 hr
 have h0:=hr 0 (by simp)
 have h1:=hr 1 (by simp)
 simp only [List.getElem_cons_zero,List.getElem_cons_succ] at h0 h1
 have hv:vals = #[.slice none 0 0,.int .i64 n]:=by
  refine Array.ext (by simpa using hl1) fun i h2 h3=>?_
  have e0:=h0.val_inv.1
  have e1:=h1.val_inv.1
  simp only [List.length_cons,List.length_nil] at hl1
  match i,h3 with
  | 0,_=>simpa [h2] using e0
  | 1,_=>simpa [h2] using e1
 subst hv
 have hsl:∀ (g' : Gh) (w' : World) (l:Go.Gov.Loc) (v:Value),g'.ρ 0=l→Kr l 1 0 0 v→v.oneCell' = true→Rd w' (g'.tr [some []]) g'.G (.sl 0 1 0 0) v []:=fun g' w' l v hl hS h1=>by
  have e1:g'.tr [some ([]:List AV)] 0=some (some (l,0)):=by rw [Gh.tr_some (cs:=[]) rfl,hl];rfl
  refine .sl (by rw [e1];rfl) h1 fun l' hl' => ?_
  rw [e1] at hl'
  obtain rfl:=Option.some.inj (Option.some.inj hl')
  exact ⟨by dsimp only;omega,hS⟩
 rcases Nat.eq_zero_or_pos n with rfl | hpos
 ·refine (Any8.slices_Grow_room Tryz.growL none 0 0 0 w (by omega) (by omega) (by omega) (by omega)).mono ?_
  rintro e w' ⟨rfl,rfl⟩
  have hm2:=P5 hp
  exact ⟨_,_,_,_,rfl,hm2,hsl _ _ none _ (by simp [Gh.add]) ⟨rfl,none,rfl⟩ rfl,fun _ _ _=>rfl,rfl,rfl⟩
 ·have hinfo:(Tryz.prog.info? (Tryz.growL_ren.t 25)).bind (fun i=>i.zero.map fun z=>(i.size,i.bytes,z.cells.toList))=some (1,8,[.int .i64 0]):=by kernel_rfl
  simp only [Option.bind_eq_some_iff,Option.map_eq_some_iff,Prod.mk.injEq] at hinfo
  obtain ⟨i0,hi,z,hz,hsz,hby,hzc⟩:=hinfo
  have hzs:z.cells.size=1:=by rw [← Array.length_toList,hzc];rfl
  refine (Any8.slices_Grow_grow Tryz.growL i0 z hi hz (by omega) none 0 0 n [] w (by omega) (by omega) (by rw [hby];omega) (by omega) (by simp) (fun _=>rfl) (by simp)).mono ?_
  rintro e w' ⟨rfl,rfl⟩
  obtain ⟨ha1,ha2,ha3⟩:=Rl w (.cells (([]:List Value).toArray++Builtin.zeroCells z.cells (0+n - 0)++Builtin.zeroCells z.cells (grownCap w (0+n) 0 (Tryz.growL_ren.t 25) - (0+n))) (Tryz.growL_ren.t 25))
  obtain ⟨g', hm', hρ⟩:=bR hp ha3 (by omega) rfl ⟨rfl,by first | exact Nat.le_refl _ | exact Nat.le_succ _⟩ rfl (fun a=>Pa w.drew _ _ a) (Nat.le_refl _) (cs:=[]) (fun _=>undef) ha2 (by simp) (fun m hm=>by simp at hm) (fun m hm=>by simp at hm)
  refine ⟨_,g', _,_,rfl,hm', hsl g' _ _ _ hρ ⟨grownCap w (0+n) 0 (Tryz.growL_ren.t 25),by omega,grownCap_le_maxLen w (0+n) 0 _ (by unfold maxLen;omega),?_,.inl (by simp)⟩ rfl,fun _ k hk=>ha3 k hk,rfl,rfl⟩
  have hge:=grownCap_ge w (0+n) 0 (Tryz.growL_ren.t 25)
  simp only [Array.size_append,List.size_toArray,List.length_nil,size_zeroCells,hzs]
  omega
theorem Jc (xs:List Int):(Aa xs).take xs.length=Aa xs:=List.take_of_length_le (by simp [Aa])
theorem Is (xss:List (List Int))(hl:xss.length≤1048576)(ht:Ck xss≤1099511627776):Pure Tryz.prog 25 [Ae xss] (.sl 0 1 0 xss.flatten.length) [some (Aa xss.flatten)]:=by
 refine Gc [0] wC rfl ?_;unfold Ws
 refine RN ?_
 refine Aj (α:=Nat) (S:=fun k=>([(0,Ae xss),(9,Ae xss),(10,i64 xss.length),(11,i64 k),(3,i64 (Ck (xss.take k)))],[])) (C:=fun k=>k≤xss.length) (μ:=fun k=>xss.length - k) 0 (by omega) (Ref.frame (by simp [sub,Ab,Ck])) ?_
 intro k hk
 have h1:=Qt xss k
 refine RN ?_
 refine ⟨fun hc=>?_,fun hc=>?_⟩
 ·have h2:=fB xss k (by omega)
  have h3:=Qt xss (k+1)
  refine RN ?_
  refine fun hc2=>?_
  refine RN ?_
  exact ⟨k+1,by omega,by omega,Ref.frame (by simp [sub,Ab,h2])⟩
 ·obtain rfl:k=xss.length:=by omega
  rw [List.take_length]
  refine RN ?_
  refine Am (nJ (Ck xss) ht) ?_
  refine RN ?_
  refine Aj (α:=Nat) (S:=fun k=>([(25,Ae xss),(26,i64 xss.length),(27,i64 k),(6,.sl 0 1 0 (xss.take k).flatten.length)],[some (Aa (xss.take k).flatten)])) (C:=fun k=>k≤xss.length) (μ:=fun k=>xss.length - k) 0 (by omega) (Ref.to (by simp [Aa]) (by simp [sub,Ab])) ?_
  intro k hk
  have hf:(xss.take k).flatten.length=Ck (xss.take k):=by simp [Ck,List.length_flatten]
  have h1:=Qt xss k
  refine RN ?_
  refine ⟨fun hc=>?_,fun hc=>?_⟩
  ·have h2:=fB xss k (by omega)
   have h3:=Qt xss (k+1)
   have he:(xss.take (k+1)).flatten=(xss.take k).flatten++xss.getD k []:=by
    rw [List.take_succ_eq_append_getElem (by omega),List.flatten_append]
    simp [show k<xss.length by omega]
   refine RN ?_
   refine ⟨k+1,by omega,by omega,?_⟩
   rw [he]
   refine Ref.gc [1] rfl ?_ (by simp [sub,Ab,go_sem,↓reduceIte,Nat.reduceEqDiff,Nat.reduceAdd,reduceCtorEq])
   (try simp only [go_sem,↓reduceIte,Nat.reduceEqDiff,Nat.reduceAdd,reduceCtorEq,Jc,Gg])
  ·obtain rfl:k=xss.length:=by omega
   (refine RN ?_;try with_reducible exact trivial)
   (try simp only [go_sem,↓reduceIte,Nat.reduceEqDiff,Nat.reduceAdd,reduceCtorEq,List.take_length,and_self])
end
end Go.Proofs.YtcneanpkpmfaiaaGreat
