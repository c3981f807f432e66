/- Texts that belong together. -/
import Derived.Test.YtcneanpkpmfaiaaGreatZh
import Derived.Test.YtcneanpkpmfaiaaGreatZj
set_option linter.unusedSimpArgs false
set_option linter.unusedVariables false
set_option maxRecDepth 100000
namespace Go.Proofs.YtcneanpkpmfaiaaGreat
section
open Classical
def Bl:List Int→List Int→Bool
 | [],[]=>false
 | [],_ :: _=>true
 | _ :: _,[]=>false
 | x :: xs,y :: ys=>if x<y then true else if y<x then false else Bl xs ys
theorem cO:∀ a,Bl a a=false
 | []=>rfl
 | x :: xs=>by simp [Bl,cO xs]
theorem cP:∀ {a b c:List Int},Bl a b=true→Bl b c=true→Bl a c=true
 | _,[],[],_,h=>by cases h
 | [],[],_ :: _,h,_=>by cases h
 | [],_ :: _,[],_,h=>by cases h
 | [],_ :: _,_ :: _,_,_=>rfl
 | _ :: _,[],_,h,_=>by cases h
 | _ :: _,_ :: _,[],_,h=>by cases h
 | x :: xs,y :: ys,z :: zs,h,k=>by
  unfold Bl at *
  have ih:=@cP xs ys zs
  split at h<;>split at k<;>(try split at h)<;>(try split at k)<;>(try (cases h;done))<;>(try (cases k;done))<;>grind
theorem cQ:∀ {a b:List Int},Bl a b=false→Bl b a=false→a=b
 | [],[],_,_=>rfl
 | [],_ :: _,h,_=>by cases h
 | _ :: _,[],_,h=>by cases h
 | x :: xs,y :: ys,h,k=>by
  unfold Bl at *
  have ih:=@cQ xs ys
  split at h<;>split at k<;>(try split at h)<;>(try split at k)<;>(try (cases h;done))<;>(try (cases k;done))<;>grind
def Lst (S:List Int→Prop)(b:List Int):Prop:=S b∧∀ x,S x→Bl x b=false
theorem Lst.uniq {S:List Int→Prop}{a b:List Int}(h:Lst S a)(k:Lst S b):a=b:=cQ (k.2 a h.1) (h.2 b k.1)
theorem uZ {x b c:List Int}(h:Bl x b=false)(hc:Bl c b=true):Bl x c=false:=by
 cases h2:Bl x c with
 | false=>rfl
 | true=>rw [cP h2 hc] at h;cases h
theorem Lst.add {S:List Int→Prop}{b c:List Int}(h:Lst S b):Lst (fun x=>S x∨x=c) (if Bl c b=true then c else b):=by
 by_cases hc:Bl c b=true
 ·rw [if_pos hc]
  refine ⟨.inr rfl,fun x hx=>?_⟩
  rcases hx with hx | rfl
  ·exact uZ (h.2 x hx) hc
  ·exact cO _
 ·rw [if_neg hc]
  refine ⟨.inl h.1,fun x hx=>?_⟩
  rcases hx with hx | rfl
  ·exact h.2 x hx
  ·simpa using hc
theorem Lst.same {S T:List Int→Prop}{b:List Int}(h:Lst S b)(hs:∀ x,S x ↔ T x):Lst T b:=⟨(hs b).1 h.1,fun x hx=>h.2 x ((hs x).2 hx)⟩
end
section
open Go.Gov
open Classical
theorem Uo {a b:List Int}{i:Nat}(ha:i<a.length)(hb:i<b.length)(he:a.getD i 0=b.getD i 0):Bl (a.drop i) (b.drop i)=Bl (a.drop (i+1)) (b.drop (i+1)):=by
 rw [List.drop_eq_getElem_cons ha,List.drop_eq_getElem_cons hb]
 have:a[i]=b[i]:=by simpa [ha,hb] using he
 rw [Bl,if_neg (by omega),if_neg (by omega)]
theorem Up {a b:List Int}{i:Nat}(ha:i<a.length)(hb:i<b.length)(he:a.getD i 0≠b.getD i 0):Bl (a.drop i) (b.drop i)=decide (a.getD i 0<b.getD i 0):=by
 rw [List.drop_eq_getElem_cons ha,List.drop_eq_getElem_cons hb]
 have e1:a.getD i 0=a[i]:=by simp [ha]
 have e2:b.getD i 0=b[i]:=by simp [hb]
 have he' : a[i]≠b[i]:=by rw [← e1,← e2];exact he
 rw [e1,e2,Bl]
 by_cases h:a[i]<b[i]
 ·rw [if_pos h,decide_eq_true h]
 ·rw [if_neg h,if_pos (by omega),decide_eq_false h]
theorem N1 {a b:List Int}{i:Nat}(h:a.length≤i∨b.length≤i)(hi:i≤a.length)(hj:i≤b.length):Bl (a.drop i) (b.drop i)=decide ((a.length:Int)<b.length):=by
 rcases h with h | h
 ·have:i=a.length:=by omega
  subst this
  rw [List.drop_length]
  by_cases h2:a.length<b.length
  ·rw [List.drop_eq_getElem_cons h2,decide_eq_true (by omega)];rfl
  ·rw [show b.drop a.length=[] from List.drop_eq_nil_of_le (by omega),decide_eq_false (by omega)];rfl
 ·have:i=b.length:=by omega
  subst this
  rw [List.drop_length,decide_eq_false (by omega)]
  cases a.drop b.length<;>rfl
theorem uY (a b:List Int)(ha:a.length≤1099511627776)(hb:b.length≤1099511627776):Pure Tryz.prog 39 [Ac a,Ac b] (bl (Bl a b)) []:=by
 refine D7 yT rfl ?_;unfold X2
 refine RN ?_
 refine Aj (α:=Nat) (S:=fun i=>([(0,Ac a),(1,Ac b),(5,i64 i)],[])) (C:=fun i=>i≤a.length∧i≤b.length∧Bl (a.drop i) (b.drop i)=Bl a b) (μ:=fun i=>a.length - i) 0 ⟨by omega,by omega,rfl⟩ (by exact Ref.frame (by simp [sub,Ab])) ?_
 rintro i ⟨h1,h2,h3⟩
 refine RN ?_
 refine ⟨fun hc=>?_,fun hc=>?_⟩
 ·(refine RN ?_;try with_reducible exact trivial)
  refine ⟨fun hc2=>?_,fun hc2=>?_⟩
  ·rw [← h3,Up (by omega) (by omega) hc2]
   (refine RN ?_;try with_reducible exact trivial)
  ·rw [Uo (by omega) (by omega) (by omega)] at h3
   refine RN ?_
   exact ⟨i+1,⟨by omega,by omega,h3⟩,by omega,by exact Ref.frame (by simp [sub,Ab])⟩
 ·rw [← h3,N1 (by omega) h1 h2]
  (refine RN ?_;try with_reducible exact trivial)
theorem mS (x y:Int):Pure Tryz.prog 93 [i64 x,i64 y] (i64 (if x<y then -1 else if y<x then 1 else 0)) []:=by
 refine D7 Aae rfl ?_;unfold Y1
 refine RN ?_
 refine Ak (T8 x) ?_
 refine RN ?_
 refine Ak (T8 y) ?_
 refine RN ?_
 refine ⟨fun hc=>?_,fun hc=>?_⟩
 ·rw [if_pos hc]
  (refine RN ?_;try with_reducible exact trivial)
 ·rw [if_neg (by omega)]
  refine RN ?_
  refine ⟨fun hc2=>?_,fun hc2=>?_⟩
  ·rw [if_pos hc2]
   (refine RN ?_;try with_reducible exact trivial)
  ·rw [if_neg (by omega)]
   (refine RN ?_;try with_reducible exact trivial)
def Jb (a b:List Int):Int:=if Bl a b then -1 else if Bl b a then 1 else 0
theorem Pz (a b:List Int):(Jb a b<0) ↔ Bl a b=true:=by
 unfold Jb
 split
 ·simp [*]
 ·split<;>simp [*]
theorem Y6 (a b:List Int)(ha:a.length≤1099511627776)(hb:b.length≤1099511627776):Pure Tryz.prog 61 [Ac a,Ac b] (i64 (Jb a b)) []:=by
 refine D7 zL rfl ?_;unfold Yi
 refine RN ?_
 refine Aj (α:=Nat) (S:=fun i=>([(0,Ac a),(1,Ac b),(9,Ac a),(10,i64 a.length),(11,i64 i)],[])) (C:=fun i=>i≤a.length∧i≤b.length∧Bl (a.drop i) (b.drop i)=Bl a b∧Bl (b.drop i) (a.drop i)=Bl b a) (μ:=fun i=>a.length - i) 0 ⟨by omega,by omega,rfl,rfl⟩ (by exact Ref.frame (by simp [sub,Ab])) ?_
 rintro i ⟨h1,h2,h3,h4⟩
 refine RN ?_
 refine ⟨fun hc=>?_,fun hc=>?_⟩
 ·(refine RN ?_;try with_reducible exact trivial)
  refine ⟨fun hc2=>?_,fun hc2=>?_⟩
  ·rw [N1 (by omega) h1 h2] at h3
   rw [N1 (by omega) h2 h1] at h4
   unfold Jb
   rw [← h3,← h4,decide_eq_false (by omega),decide_eq_true (show (b.length:Int)<a.length by omega)]
   (refine RN ?_;try with_reducible exact trivial)
   try rfl
  ·(refine RN ?_;try with_reducible exact trivial)
   refine Ak (mS (a.getD i 0) (b.getD i 0)) ?_
   refine RN ?_
   refine ⟨fun hc3=>?_,fun hc3=>?_⟩
   ·have hne:a.getD i 0≠b.getD i 0:=fun e=>hc3 (by rw [e,if_neg (by omega),if_neg (by omega)])
    rw [Up (by omega) (by omega) hne] at h3
    rw [Up (by omega) (by omega) hne.symm] at h4
    unfold Jb
    rw [← h3,← h4]
    simp only [decide_eq_true_eq]
    (refine RN ?_;try with_reducible exact trivial)
   ·have he : a.getD i 0 = b.getD i 0 := by
      rcases Int.lt_trichotomy (a.getD i 0) (b.getD i 0) with h | h | h
      ·rw [if_pos h] at hc3;omega
      ·exact h
      ·rw [if_neg (by omega),if_pos h] at hc3;omega
    rw [Uo (by omega) (by omega) he] at h3
    rw [Uo (by omega) (by omega) he.symm] at h4
    refine RN ?_
    exact ⟨i+1,⟨by omega,by omega,h3,h4⟩,by omega,by exact Ref.frame (by simp [sub,Ab])⟩
 ·rw [N1 (by omega) h1 h2] at h3
  rw [N1 (by omega) h2 h1] at h4
  unfold Jb
  rw [← h3,← h4]
  simp only [decide_eq_true_eq]
  refine RN ?_
  refine ⟨fun hc2=>?_,fun hc2=>?_⟩
  ·rw [if_pos (by omega)]
   (refine RN ?_;try with_reducible exact trivial)
  ·rw [if_neg (by omega),if_neg (by omega)]
   (refine RN ?_;try with_reducible exact trivial)
end
section
open Go.Gov
theorem pT (n:Nat)(hn:n≤1099511627776):Pure Tryz.prog 49 [Ae,i64 n] (.sl 0 1 0 0) [some []]:=by
 intro g w vals hp hl1 hr
 have h0:=hr 0 (by simp)
 have h1:=hr 1 (by simp)
 simp only [List.getElem_cons_zero,List.getElem_cons_succ] at h0 h1
 have hv:vals = #[.slice none 0 0,.int .i64 n]:=by
  refine Array.ext (by simpa using hl1) fun i h2 h3=>?_
  have e0:=h0.val_inv.1
  have e1:=h1.val_inv.1
  simp only [List.length_cons,List.length_nil] at hl1
  match i,h3 with
  | 0,_=>simpa [h2] using e0
  | 1,_=>simpa [h2] using e1
 subst hv
 have hsl:∀ (g' : Gh) (w' : World) (l:Go.Gov.Loc) (v:Value),g'.ρ 0=l→K5 l 1 0 0 v→v.oneCell' = true→Rd w' (g'.tr [some []]) g'.G (.sl 0 1 0 0) v []:=fun g' w' l v hl hS h1=>by
  have e1:g'.tr [some ([]:List AV)] 0=some (some (l,0)):=by rw [Gh.tr_some (cs:=[]) rfl,hl];rfl
  refine .sl (by rw [e1];rfl) h1 fun l' hl' => ?_
  rw [e1] at hl'
  obtain rfl:=Option.some.inj (Option.some.inj hl')
  exact ⟨by dsimp only;omega,hS⟩
 rcases Nat.eq_zero_or_pos n with rfl | hpos
 ·refine (Any8.slices_Grow_room Tryz.growL none 0 0 0 w (by omega) (by omega) (by omega) (by omega)).mono ?_
  rintro e w' ⟨rfl,rfl⟩
  have hm2:=Q7 hp
  exact ⟨_,_,_,_,rfl,hm2,hsl _ _ none _ (by simp [Gh.add]) ⟨rfl,none,rfl⟩ rfl,fun _ _ _=>rfl,rfl,rfl⟩
 ·have hinfo:(Tryz.prog.info? (Tryz.growL_ren.t 25)).bind (fun i=>i.zero.map fun z=>(i.size,i.bytes,z.cells.toList))=some (1,8,[.int .i64 0]):=by kernel_rfl
  simp only [Option.bind_eq_some_iff,Option.map_eq_some_iff,Prod.mk.injEq] at hinfo
  obtain ⟨i0,hi,z,hz,hsz,hby,hzc⟩:=hinfo
  have hzs:z.cells.size=1:=by rw [← Array.length_toList,hzc];rfl
  refine (Any8.slices_Grow_grow Tryz.growL i0 z hi hz (by omega) none 0 0 n [] w (by omega) (by omega) (by rw [hby];omega) (by omega) (by simp) (fun _=>rfl) (by simp)).mono ?_
  rintro e w' ⟨rfl,rfl⟩
  obtain ⟨ha1,ha2,ha3⟩:=Sv w (.cells (([]:List Value).toArray++Builtin.zeroCells z.cells (0+n - 0)++Builtin.zeroCells z.cells (grownCap w (0+n) 0 (Tryz.growL_ren.t 25) - (0+n))) (Tryz.growL_ren.t 25))
  obtain ⟨g', hm', hρ⟩:=dP hp ha3 (by omega) rfl ⟨rfl,by first | exact Nat.le_refl _ | exact Nat.le_succ _⟩ rfl (fun a=>Qe w.drew _ _ a) (Nat.le_refl _) (cs:=[]) (fun _=>undef) ha2 (by simp) (fun m hm=>by simp at hm) (fun m hm=>by simp at hm)
  refine ⟨_,g', _,_,rfl,hm', hsl g' _ _ _ hρ ⟨grownCap w (0+n) 0 (Tryz.growL_ren.t 25),by omega,grownCap_le_maxLen w (0+n) 0 _ (by unfold maxLen;omega),?_,.inl (by simp)⟩ rfl,fun _ k hk=>ha3 k hk,rfl,rfl⟩
  have hge:=grownCap_ge w (0+n) 0 (Tryz.growL_ren.t 25)
  simp only [Array.size_append,List.size_toArray,List.length_nil,size_zeroCells,hzs]
  omega
theorem Fo (xs:List Int):(Aa xs).take xs.length=Aa xs:=List.take_of_length_le (by simp [Aa])
theorem Hl (xss:List (List Int))(hl:xss.length≤1048576)(ht:Ct xss≤1099511627776):Pure Tryz.prog 25 [Af xss] (.sl 0 1 0 xss.flatten.length) [some (Aa xss.flatten)]:=by
 refine Fi [0] yJ rfl ?_;unfold Xr
 refine RN ?_
 refine Aj (α:=Nat) (S:=fun k=>([(0,Af xss),(9,Af xss),(10,i64 xss.length),(11,i64 k),(3,i64 (Ct (xss.take k)))],[])) (C:=fun k=>k≤xss.length) (μ:=fun k=>xss.length - k) 0 (by omega) (Ref.frame (by simp [sub,Ab,Ct])) ?_
 intro k hk
 have h1:=R3 xss k
 refine RN ?_
 refine ⟨fun hc=>?_,fun hc=>?_⟩
 ·have h2:=iK xss k (by omega)
  have h3:=R3 xss (k+1)
  refine RN ?_
  refine fun hc2=>?_
  refine RN ?_
  exact ⟨k+1,by omega,by omega,Ref.frame (by simp [sub,Ab,h2])⟩
 ·obtain rfl:k=xss.length:=by omega
  rw [List.take_length]
  refine RN ?_
  refine Ak (pT (Ct xss) ht) ?_
  refine RN ?_
  refine Aj (α:=Nat) (S:=fun k=>([(25,Af xss),(26,i64 xss.length),(27,i64 k),(6,.sl 0 1 0 (xss.take k).flatten.length)],[some (Aa (xss.take k).flatten)])) (C:=fun k=>k≤xss.length) (μ:=fun k=>xss.length - k) 0 (by omega) (Ref.to (by simp [Aa]) (by simp [sub,Ab])) ?_
  intro k hk
  have hf:(xss.take k).flatten.length=Ct (xss.take k):=by simp [Ct,List.length_flatten]
  have h1:=R3 xss k
  refine RN ?_
  refine ⟨fun hc=>?_,fun hc=>?_⟩
  ·have h2:=iK xss k (by omega)
   have h3:=R3 xss (k+1)
   have he:(xss.take (k+1)).flatten=(xss.take k).flatten++xss.getD k []:=by
    rw [List.take_succ_eq_append_getElem (by omega),List.flatten_append]
    simp [show k<xss.length by omega]
   refine RN ?_
   refine ⟨k+1,by omega,by omega,?_⟩
   rw [he]
   refine Ref.gc [1] rfl ?_ (by simp [sub,Ab,go_sem,↓reduceIte,Nat.reduceEqDiff,Nat.reduceAdd,reduceCtorEq])
   (try simp only [go_sem,↓reduceIte,Nat.reduceEqDiff,Nat.reduceAdd,reduceCtorEq,Fo,El])
  ·obtain rfl:k=xss.length:=by omega
   (refine RN ?_;try with_reducible exact trivial)
   (try simp only [go_sem,↓reduceIte,Nat.reduceEqDiff,Nat.reduceAdd,reduceCtorEq,List.take_length,and_self])
end
end Go.Proofs.YtcneanpkpmfaiaaGreat
