/- Texts that belong together. -/
import Derived.Test.YtfofabbkigonpaaDoorY8
import Derived.Test.YtfofabbkigonpaaDoorW1
set_option linter.unusedSimpArgs false
set_option linter.unusedVariables false
set_option maxRecDepth 100000
namespace Go.Proofs.YtfofabbkigonpaaDoor
section
open Go.Gov
open Classical
variable {r:Int} {R:List Int} {B:List (List Int)}
def D4 (t:List Nat):List Int:=t.map fun e:Nat=>(e:Int)
theorem O8 (t:List Nat):(D4 t).length=t.length:=by simp [D4]
def Mq (r:Int)(R:List Int)(B:List (List Int)):List Int→List Nat→Prop
 | _,[]=>True
 | s,e :: t=>e<R.length∧Rl r R B s e∧Mq r R B (s++[(e:Int)]) t
theorem L4:∀ (k:Nat) (s f:List Int),f∈Cv r R B k s ↔ ∃ t:List Nat,f=s++D4 t∧t.length=k∧Mq r R B s t
 | 0,s,f=>by
  simp only [Cv,List.mem_singleton]
  constructor
  ·rintro rfl
   exact ⟨[],by simp [D4],rfl,trivial⟩
  ·rintro ⟨t,rfl,ht,_⟩
   obtain rfl:=List.length_eq_zero_iff.1 ht
   simp [D4]
 | k+1,s,f=>by
  rw [Qo]
  unfold Nn
  rw [List.mem_flatMap]
  constructor
  ·rintro ⟨e,he,hf⟩
   obtain ⟨h1,h2⟩:=List.mem_filter.1 he
   obtain ⟨t,rfl,h3,h4⟩:=(L4 k _ f).1 hf
   exact ⟨e :: t,by simp [D4],by simp [h3],List.mem_range.1 h1,by simpa using h2,h4⟩
  ·rintro ⟨t,rfl,ht,hg⟩
   cases t with
   | nil=>cases ht
   | cons e t=>
    obtain ⟨h1,h2,h3⟩:=hg
    exact ⟨e,List.mem_filter.2 ⟨List.mem_range.2 h1,by simpa using h2⟩,(L4 k _ _).2 ⟨t,by simp [D4],by simpa using ht,h3⟩⟩
structure Pt (r:Int) (R:List Int) (B:List (List Int)) (t:List Nat):Prop where
 len:t.length=r.toNat
 rk:∀ k,k<t.length→t.getD k 0<R.length∧R.getD (t.getD k 0) 0=k
 up:∀ k,k+1<t.length→((t.getD k 0:Nat):Int)∈B.getD (t.getD (k+1) 0) []
theorem Xq (t:List Nat)(e:Nat):(D4 (t++[e])).getLastD 0=(e:Int):=by simp [D4]
theorem Qv:∀ (t s:List Nat),Mq r R B (D4 s) t ↔ (∀ k,k<t.length→t.getD k 0<R.length∧R.getD (t.getD k 0) 0=(s.length+k:Nat)∧C5 r R B (t.getD k 0))∧(∀ k,k+1<(s++t).length→s.length≤k+1→(((s++t).getD k 0:Nat):Int)∈B.getD ((s++t).getD (k+1) 0) [])
 | [],s=>by
  constructor
  ·intro _
   exact ⟨fun k hk=>absurd hk (by simp),fun k h1 h2=>by simp at h1;omega⟩
  ·exact fun _=>trivial
 | e :: t,s=>by
  have e1:D4 s++[(e:Int)]=D4 (s++[e]):=by simp [D4]
  have e2:s++[e]++t=s++e :: t:=by simp
  unfold Mq
  rw [e1,Qv t (s++[e]),e2]
  have hat:(s++e :: t).getD s.length 0=e:=by simp
  constructor
  ·rintro ⟨h1,⟨h2,h3,h4⟩,h5,h6⟩
   refine ⟨fun k hk=>?_,fun k hk hs=>?_⟩
   ·cases k with
    | zero=>exact ⟨h1,by rw [O8] at h2;simpa using h2,h3⟩
    | succ k=>
     have:=h5 k (by simpa using hk)
     simp only [List.getD_cons_succ,List.length_append,List.length_cons,List.length_nil] at this ⊢
     exact ⟨this.1,by rw [this.2.1];congr 1;omega,this.2.2⟩
   ·by_cases hk2:(s++[e]).length≤k+1
    ·exact h6 k hk hk2
    ·simp only [List.length_append,List.length_cons,List.length_nil] at hk2
     have e3:k+1=s.length:=by omega
     rw [e3,hat]
     rcases h4 with h4 | h4
     ·have:=congrArg List.length h4
      rw [O8] at this
      simp only [List.length_nil] at this
      omega
     ·rcases List.eq_nil_or_concat s with rfl | ⟨s', z,rfl⟩
      ·simp at e3
      ·rw [List.concat_eq_append,Xq] at h4
       have:k=s'.length:=by simp at e3;omega
       subst this
       simpa using h4
  ·rintro ⟨h5,h6⟩
   have h0:=h5 0 (by simp)
   simp only [List.getD_cons_zero,Nat.add_zero] at h0
   refine ⟨h0.1,⟨by rw [O8];exact h0.2.1,h0.2.2,?_⟩,fun k hk=>?_,fun k hk hs=>h6 k hk (by simp at hs;omega)⟩
   ·rcases List.eq_nil_or_concat s with rfl | ⟨s', z,rfl⟩
    ·exact .inl rfl
    ·right
     rw [List.concat_eq_append,Xq]
     have:=h6 s'.length (by simp) (by simp)
     simpa using this
   ·have:=h5 (k+1) (by simp;omega)
    simp only [List.getD_cons_succ,List.length_append,List.length_cons,List.length_nil] at this ⊢
    exact ⟨this.1,by rw [this.2.1];congr 1;omega,this.2.2⟩
theorem N7 (hr:1≤r){f:List Int}:f∈Ax r R B ↔ ∃ t:List Nat,f=D4 t∧Pt r R B t:=by
 unfold Ax
 rw [L4]
 constructor
 ·rintro ⟨t,rfl,hl,hg⟩
  obtain ⟨h1,h2⟩:=(Qv t []).1 hg
  simp only [List.nil_append,List.length_nil,Nat.zero_add] at h1 h2
  exact ⟨t,by simp,hl,fun k hk=>⟨(h1 k hk).1,(h1 k hk).2.1⟩,fun k hk=>h2 k hk (by omega)⟩
 ·rintro ⟨t,rfl,h⟩
  refine ⟨t,by simp,h.len,(Qv t []).2 ?_⟩
  simp only [List.nil_append,List.length_nil,Nat.zero_add]
  refine ⟨fun k hk=>⟨(h.rk k hk).1,(h.rk k hk).2,?_⟩,fun k hk _=>h.up k hk⟩
  have hlen:=h.len
  have key:∀ (m k:Nat),k<t.length→t.length≤k+m+1→C5 r R B (t.getD k 0):=by
   intro m
   induction m with
   | zero=>
    intro k hk hm
    exact .top (h.rk k hk).1 (by rw [(h.rk k hk).2];omega)
   | succ m ih=>
    intro k hk hm
    by_cases e:k+1=t.length
    ·exact .top (h.rk k hk).1 (by rw [(h.rk k hk).2];omega)
    ·have hk1:k+1<t.length:=by omega
     exact .up (h.rk (k+1) hk1).1 (ih (k+1) hk1 (by omega)) (by rw [(h.rk k hk).2,(h.rk (k+1) hk1).2];omega) (h.up k hk1)
  exact key t.length k hk (by omega)
theorem V8:∀ (k:Nat) (s:List Int),(Cv r R B k s).Nodup
 | 0,s=>by simp [Cv]
 | k+1,s=>by
  rw [Qo]
  unfold Nn
  have hr:((List.range R.length).filter fun e=>decide (Rl r R B s e)).Nodup:=List.nodup_range.filter _
  refine List.pairwise_flatMap.2 ⟨fun e _=>V8 k _,hr.imp fun {a b} hab=>?_⟩
  intro x hx y hy e
  subst e
  obtain ⟨t,h1,_,_⟩:=(L4 k _ x).1 hx
  obtain ⟨u,h2,_,_⟩:=(L4 k _ x).1 hy
  rw [h1,List.append_assoc,List.append_assoc] at h2
  have:=List.append_cancel_left h2
  simp at this
  exact hab (by omega)
theorem allF_nodup:(Ax r R B).Nodup:=V8 _ _
theorem Pz (hr:1≤r):Go.Fl.Fs r.toNat (Ax r R B):=by
 refine ⟨fun x hx=>?_,allF_nodup,fun x hx e he=>?_⟩
 ·obtain ⟨t,rfl,h⟩:=(N7 hr).1 hx
  rw [O8,h.len]
 ·obtain ⟨t,rfl,h⟩:=(N7 hr).1 hx
  obtain ⟨n,_,rfl⟩:=List.mem_map.1 he
  omega
end
section
open Go.Gov
open Classical
def Ab (B:List (List Int))(x y:Nat):Prop:=(x:Int)∈B.getD y []
structure cB (n:Nat) (B:List (List Int)):Prop where
 lt:∀ {x y:Nat},y<n→Ab B x y→x<y
 trn:∀ {x y z:Nat},z<n→Ab B x y→Ab B y z→Ab B x z
theorem IsPos.ord {r:Int}{R:List Int}{B:List (List Int)}(hp:IsPos r R B):cB R.length B:=by
 have hlt:∀ {x y:Nat},y<R.length→Ab B x y→x<y:=fun {x y} hy h=>by
  obtain ⟨j,hj,he⟩:=List.mem_iff_getElem.1 h
  have:=((hp.2 y hy).2 j hj).1
  unfold Ep at this
  rw [B6 _ j hj,he] at this
  omega
 refine ⟨hlt,fun {x y z} hz h1 h2=>?_⟩
 obtain ⟨k,hk,he⟩:=List.mem_iff_getElem.1 h2
 obtain ⟨j,hj,he2⟩:=List.mem_iff_getElem.1 h1
 have hk2:(B.getD z []).getD k 0=y:=by rw [B6 _ k hk,he]
 have:=((hp.2 z hz).2 k hk).2
 unfold K6 at this
 rw [hk2] at this
 simp only [Int.toNat_natCast] at this
 have h3:=this j hj
 rwa [B6 _ j hj,he2] at h3
theorem IsPos.few {r:Int}{R:List Int}{B:List (List Int)}(hp:IsPos r R B){y:Nat}(hy:y<R.length):(B.getD y []).length≤500:=by
 have hR:=hp.1.2.2.1
 have h1:=(hp.2 y hy).2
 have key:∀ k:Nat,k<(B.getD y []).length→(k:Int)≤(B.getD y []).getD k 0:=by
  intro k
  induction k with
  | zero=>
   intro hk
   have:=(h1 0 hk).1.1
   omega
  | succ k ih=>
   intro hk
   have h2:=(h1 (k+1) hk).1.2.2.2 (by omega)
   rw [Nat.add_sub_cancel] at h2
   have:=ih (by omega)
   omega
 rcases Nat.lt_or_ge 500 (B.getD y []).length with h | h
 ·have h3:=key 500 h
  have h4:=(h1 500 h).1.2.1
  omega
 ·exact h
end
section
open Go.Gov Go.Fl
open Classical
variable {r:Int} {R:List Int} {B:List (List Int)}
def Mn (R:List Int)(B:List (List Int))(i e f:Int)(x:Nat):Prop:=R.getD x 0=i∧(e<0∨e∈B.getD x [])∧(f<0∨(x:Int)∈B.getD f.toNat [])
noncomputable def Fj (R:List Int)(B:List (List Int))(i e f:Int)(k:Nat):List Nat:=(List.range k).filter fun x=>decide (Mn R B i e f x)
def Jq (R:List Int)(i e:Int):Prop:=if i=0 then e = -1 else 0≤e∧e<R.length∧R.getD e.toNat 0=i - 1
def Jr (r:Int)(R:List Int)(i f:Int):Prop:=if i=r - 1 then f = -1 else 0≤f∧f<R.length∧R.getD f.toNat 0=i+1
def Dm (r:Int)(R:List Int)(B:List (List Int))(i e f:Int):Prop:=Jq R i e→Jr r R i f→(e<0∨f<0∨e∈B.getD f.toNat [])→(Fj R B i e f R.length).length=2
def Fc (r:Int)(R:List Int)(B:List (List Int)):Prop:=∀ i,0≤i→i<r→∀ e f,Dm r R B i e f
theorem vX {t:List Nat}{i:Nat}:t.set i (t.getD i 0)=t:=by
 refine List.ext_getElem (by simp) fun k h1 h2=>?_
 rw [List.getElem_set]
 split
 ·rename_i e;subst e;simp [h2]
 ·rfl
end
section
open Go.Gov Go.Fl
open Classical
theorem Qq {L:List Int}{a:Nat}(h:a<L.length):L.getD a 0∈L:=by
 rw [List.getD_eq_getElem?_getD,List.getElem?_eq_getElem h]
 exact List.getElem_mem h
theorem Sf (L:List Int):(Aa L).take L.length=Aa L:=List.take_of_length_le (by simp [Aa])
theorem Q4 (r:Int)(R:List Int)(B:List (List Int))(e f:Int)(hp:IsPos r R B)(he:0≤e)(hf:0≤f)(hn:f<R.length):Ao Tryd.prog 52 [.pto [i64 r,Ad R,Ae B] 0,i64 e,i64 f] (bl (decide (e∈B.getD f.toNat []))) []:=by
 obtain ⟨x,rfl⟩:∃ x:Nat,e=x:=⟨e.toNat,by omega⟩
 obtain ⟨y,rfl⟩:∃ y:Nat,f=y:=⟨f.toNat,by omega⟩
 rw [Int.toNat_natCast]
 exact W3 r R B x y hp (by omega)
def Dq (r:Int)(R:List Int)(i:Int):List Int:=if 0≤i∧i≤r - 1 then Ge R i else [-1]
theorem Rv (r:Int)(R:List Int)(i:Int):(Dq r R i).length≤R.length+1:=by
 unfold Dq
 split
 ·have:=Zi R i R.length
  unfold Ge
  omega
 ·simp
theorem Rx {r:Int}{R:List Int}{i e:Int}(h:e∈Dq r R i):(e = -1∧¬ (0≤i∧i≤r - 1))∨(0≤e∧e<R.length∧R.getD e.toNat 0=i∧0≤i∧i≤r - 1):=by
 unfold Dq at h
 split at h
 ·rename_i hi
  have:=mem_plcN.1 h
  exact .inr ⟨this.1,this.2.1,this.2.2,hi⟩
 ·rename_i hi
  exact .inl ⟨by simpa using h,hi⟩
theorem Rm (r:Int)(R:List Int)(B:List (List Int))(i:Int)(h1:R.length≤1048576)(hr:0≤r∧r≤5):Ao Tryd.prog 57 [.pto [i64 r,Ad R,Ae B] 0,i64 i] (.sl 0 1 0 (Dq r R i).length) [some (Aa (Dq r R i))]:=by
 have hw:=Ph i 0 (r - 1)
 have hpl:=rW R i h1
 unfold Dq
 by_cases hi:0≤i∧i≤r - 1
 ·rw [if_pos hi]
  refine De Yy rfl ?_;unfold Qe
  refine RN ?_
  refine An (hw) ?_
  (refine RN ?_;try with_reducible exact trivial)
  (try with_reducible refine fun _=>?_)
  refine RN ?_
  refine An (hpl) ?_
  refine RN ?_
  exact Ref.to1
 ·rw [if_neg hi]
  refine De Yy rfl ?_;unfold Qe
  refine RN ?_
  refine An (hw) ?_
  refine RN ?_
  refine ⟨fun _=>⟨rfl,?_⟩,fun hc=>absurd hc hi⟩
  refine RN ?_
  exact Ref.to rfl (by simp [sub,Ac,Aa])
theorem Y2 {r:Int}{R:List Int}{i e:Int}(h0:0≤i)(hi:i<r):Jq R i e ↔ e∈Dq r R (i - 1):=by
 unfold Jq Dq
 by_cases h:i=0
 ·subst h
  rw [if_pos rfl,if_neg (by omega)]
  simp
 ·rw [if_neg h,if_pos (by omega)]
  unfold Ge
  rw [mem_plcN]
theorem Y3 {r:Int}{R:List Int}{i f:Int}(h0:0≤i)(hi:i<r):Jr r R i f ↔ f∈Dq r R (i+1):=by
 unfold Jr Dq
 by_cases h:i=r - 1
 ·rw [if_pos h,if_neg (by omega)]
  simp
 ·rw [if_neg h,if_pos (by omega)]
  unfold Ge
  rw [mem_plcN]
def Dn (R:List Int)(B:List (List Int))(i e f:Int):Prop:=(e<0∨f<0∨e∈B.getD f.toNat [])→(Fj R B i e f R.length).length=2
def Dk (r:Int)(R:List Int)(B:List (List Int))(k:Nat):Prop:=∀ i:Nat,i<k→∀ e f,Dm r R B i e f
theorem gO {r:Int}{R:List Int}{B:List (List Int)}{k:Nat}(hk:(k:Int)<r):Dk r R B (k+1) ↔ Dk r R B k∧∀ e∈Dq r R ((k:Int) - 1),∀ f∈Dq r R ((k:Int)+1),Dn R B k e f:=by
 constructor
 ·intro h
  refine ⟨fun i hi=>h i (by omega),fun e he f hf=>h k (by omega) e f ((Y2 (by omega) hk).2 he) ((Y3 (by omega) hk).2 hf)⟩
 ·rintro ⟨h1,h2⟩ i hi e f
  by_cases e1:i=k
  ·subst e1
   exact fun ho1 ho2=>h2 e ((Y2 (by omega) hk).1 ho1) f ((Y3 (by omega) hk).1 ho2)
  ·exact h1 i (by omega) e f
theorem dk_dia {r:Int}{R:List Int}{B:List (List Int)}:Dk r R B r.toNat ↔ Fc r R B:=by
 constructor
 ·intro h i h0 hi e f
  obtain ⟨n,rfl⟩:∃ n:Nat,i=n:=⟨i.toNat,by omega⟩
  exact h n (by omega) e f
 ·exact fun h i hi e f=>h i (by omega) (by omega) e f
noncomputable def G6 (B:List (List Int))(M:List Int)(e f:Int)(c:Nat):Nat:=((M.take c).filter fun x=>decide ((e<0∨e∈B.getD x.toNat [])∧(f<0∨x∈B.getD f.toNat []))).length
theorem fO {B:List (List Int)}{M:List Int}{e f:Int}{c:Nat}(h:c<M.length):G6 B M e f (c+1)=G6 B M e f c+if (e<0∨e∈B.getD (M.getD c 0).toNat [])∧(f<0∨M.getD c 0∈B.getD f.toNat []) then 1 else 0:=by
 unfold G6
 rw [List.take_add_one,List.getElem?_eq_getElem h,show M.getD c 0=M[c] by simp [h],List.filter_append,List.length_append]
 congr 1
 by_cases hp:(e<0∨e∈B.getD (M[c]).toNat [])∧(f<0∨M[c]∈B.getD f.toNat [])
 ·rw [if_pos hp];simp only [Option.toList_some];rw [List.filter_cons_of_pos (by simpa using hp)];rfl
 ·rw [if_neg hp];simp only [Option.toList_some];rw [List.filter_cons_of_neg (by simpa using hp)];rfl
theorem fM (B:List (List Int))(M:List Int)(e f:Int)(c:Nat):G6 B M e f c≤c:=by
 unfold G6
 have:=List.length_filter_le (fun x=>decide ((e<0∨e∈B.getD x.toNat [])∧(f<0∨x∈B.getD f.toNat []))) (M.take c)
 rw [List.length_take] at this
 omega
theorem fL {R:List Int}{B:List (List Int)}{i e f:Int}:G6 B (Ge R i) e f (Ge R i).length=(Fj R B i e f R.length).length:=by
 unfold G6 Fj Ge D3
 rw [List.take_length,List.filter_map,List.length_map,List.filter_filter]
 congr 1
 refine List.filter_congr fun x _=>?_
 refine Bool.eq_iff_iff.2 ?_
 simp only [Bool.and_eq_true,decide_eq_true_eq,Function.comp,Int.toNat_natCast]
 exact And.comm
set_option maxHeartbeats 4000000 in
theorem Qk (r:Int)(R:List Int)(B:List (List Int))(hp:IsPos r R B):Cr Tryd.prog 29 [A6 r R B] (fun L:List Int=>L.length≤3∧(L=[] ↔ Fc r R B)) (fun L=>if L=[] then Ag else .sl 0 1 0 L.length) (fun L=>if L=[] then [] else [some (Aa L)]):=by
 obtain ⟨hr1,hr5,hR,hBl⟩:=hp.1
 refine Fy oZ rfl ?_;unfold Uf
 refine RN ?_
 refine Ak (α:=Nat) (S:=fun k=>([(1,.ref 0 0),(14,i64 r),(15,i64 (k:Int))],[some [i64 r,Ad R,Ae B]])) (C:=fun k=>(k:Int)≤r∧Dk r R B k) (μ:=fun k=>r.toNat - k) 0 ⟨by omega,fun i hi=>by omega⟩ (Ref.to1) ?_
 rintro k ⟨k1,k2⟩
 have ho0:=Rm r R B k (by omega) (by omega)
 have ho1:=Rm r R B (k+1) (by omega) (by omega)
 have ho2:=Rm r R B (k - 1) (by omega) (by omega)
 have hl0:=Rv r R k
 have hl1:=Rv r R (k+1)
 have hl2:=Rv r R (k - 1)
 have hm0:=fun x=>Rx (r:=r) (R:=R) (i:=k) (e:=x)
 have hm1:=fun x=>Rx (r:=r) (R:=R) (i:=(k:Int)+1) (e:=x)
 have hm2:=fun x=>Rx (r:=r) (R:=R) (i:=(k:Int) - 1) (e:=x)
 have hca:=fun e f=>fL (R:=R) (B:=B) (i:=k) (e:=e) (f:=f)
 refine RN ?_
 refine ⟨fun hc=>?_,fun hc=>?_⟩
 ·have hds:=gO (R:=R) (B:=B) (show (k:Int)<r by omega)
  have hpk:Dq r R k=Ge R k:=if_pos (by omega)
  have hno:¬ Dk r R B (k+1)→¬ Fc r R B:=fun h h2=>h ((fun i hi=>dk_dia.2 h2 i (by omega)):Dk r R B (k+1))
  rw [← hpk] at hca
  obtain ⟨M,hM⟩:∃ M,M=Dq r R k:=⟨_,rfl⟩
  obtain ⟨U,hU⟩:∃ U,U=Dq r R (k+1):=⟨_,rfl⟩
  obtain ⟨E,hE⟩:∃ E,E=Dq r R (k - 1):=⟨_,rfl⟩
  rw [← hM] at ho0 hl0 hm0 hca
  rw [← hU] at ho1 hl1 hm1 hds
  rw [← hE] at ho2 hl2 hm2 hds
  refine RN ?_
  refine An (ho0) ?_
  refine RN ?_
  refine An (ho1) ?_
  refine RN ?_
  refine An (ho2) ?_
  refine RN ?_
  have t0:=Sf M
  have t1:=Sf U
  have t2:=Sf E
  refine Ak (α:=Nat) (S:=fun a=>([(1,.ref 0 0),(3,i64 (k:Int)),(4,.sl 1 1 0 M.length),(5,.sl 2 1 0 U.length),(14,i64 r),(15,i64 (k:Int)),(25,.sl 3 1 0 E.length),(26,i64 (E.length:Int)),(27,i64 (a:Int))],[some [i64 r,Ad R,Ae B],some (Aa M),some (Aa U),some (Aa E)])) (C:=fun a=>a≤E.length∧∀ e∈E.take a,∀ f∈U,Dn R B k e f) (μ:=fun a=>E.length - a) 0 ⟨Nat.zero_le _,by simp⟩ (Ref.to1) ?_
  rintro a ⟨a1,a2⟩
  refine RN ?_
  refine ⟨fun hc1=>?_,fun hc1=>?_⟩
  ·have haE:a<E.length:=by omega
   have hte:E.take (a+1)=E.take a++[E.getD a 0]:=by rw [List.take_add_one,List.getElem?_eq_getElem haE];simp [haE]
   have hme:=Qq haE
   obtain ⟨e,he⟩:∃ e,e=E.getD a 0:=⟨_,rfl⟩
   rw [← he] at hte hme
   have hmE:=hm2 e hme
   refine RN ?_
   simp only [← he,go_sem,↓reduceIte,Nat.reduceEqDiff,Nat.reduceAdd,reduceCtorEq]
   refine Ak (α:=Nat) (S:=fun b=>([(1,.ref 0 0),(3,i64 (k:Int)),(4,.sl 1 1 0 M.length),(5,.sl 2 1 0 U.length),(7,i64 e),(14,i64 r),(15,i64 (k:Int)),(25,.sl 3 1 0 E.length),(26,i64 (E.length:Int)),(27,i64 (a:Int)),(31,.sl 2 1 0 U.length),(32,i64 (U.length:Int)),(33,i64 (b:Int))],[some [i64 r,Ad R,Ae B],some (Aa M),some (Aa U),some (Aa E)])) (C:=fun b=>b≤U.length∧∀ f∈U.take b,Dn R B k e f) (μ:=fun b=>U.length - b) 0 ⟨Nat.zero_le _,by simp⟩ (Ref.to1) ?_
   rintro b ⟨b1,b2⟩
   refine RN ?_
   refine ⟨fun hc2=>?_,fun hc2=>?_⟩
   ·have hbU:b<U.length:=by omega
    have htf:U.take (b+1)=U.take b++[U.getD b 0]:=by rw [List.take_add_one,List.getElem?_eq_getElem hbU];simp [hbU]
    have hmf:=Qq hbU
    obtain ⟨f,hf⟩:∃ f,f=U.getD b 0:=⟨_,rfl⟩
    rw [← hf] at htf hmf
    have hmF:=hm1 f hmf
    have hnx:Dn R B k e f→∀ f' ∈ U.take (b+1),Dn R B k e f' := fun hd f' hf' => by
     rw [htf] at hf'
     rcases List.mem_append.1 hf' with h | h
     ·exact b2 f' h
     ·rw [List.mem_singleton.1 h];exact hd
    refine RN ?_
    simp only [← hf,go_sem,↓reduceIte,Nat.reduceEqDiff,Nat.reduceAdd,reduceCtorEq]
    refine G2 (bl (decide (e∈B.getD f.toNat [])) ) (fun hg =>  Q4 r R B e f hp (by grind) (by grind) (by grind)) ?_
    refine RN ?_
    refine ⟨fun hc3=>?_,fun hc3=>?_⟩
    ·(refine RN ?_;try with_reducible exact trivial)
     refine ⟨b+1,⟨by omega,hnx fun h=>?_⟩,by omega,Ref.to1⟩
     exfalso
     grind
    ·have hlook:e<0∨f<0∨e∈B.getD f.toNat []:=by grind
     have hcl:=fM B M e f
     have hcs:=fun c=>fO (B:=B) (M:=M) (e:=e) (f:=f) (c:=c)
     have hca2:=hca e f
     obtain ⟨q,hq⟩:∃ q,q=G6 B M e f:=⟨_,rfl⟩
     rw [← hq] at hcl hca2
     simp only [← hq] at hcs
     have hq0:q 0=0:=by rw [hq];simp [G6]
     refine RN ?_
     refine Ak (α:=Nat) (S:=fun c=>([(1,.ref 0 0),(3,i64 (k:Int)),(4,.sl 1 1 0 M.length),(5,.sl 2 1 0 U.length),(7,i64 e),(9,i64 f),(10,i64 (q c:Int)),(14,i64 r),(15,i64 (k:Int)),(25,.sl 3 1 0 E.length),(26,i64 (E.length:Int)),(27,i64 (a:Int)),(31,.sl 2 1 0 U.length),(32,i64 (U.length:Int)),(33,i64 (b:Int)),(49,.sl 1 1 0 M.length),(50,i64 (M.length:Int)),(51,i64 (c:Int))],[some [i64 r,Ad R,Ae B],some (Aa M),some (Aa U),some (Aa E)])) (C:=fun c=>c≤M.length) (μ:=fun c=>M.length - c) 0 (Nat.zero_le _) (Ref.to rfl (by simp [sub,Ac,hq0])) ?_
     intro c hcM
     have hqb:=hcl c
     refine RN ?_
     refine ⟨fun hc4=>?_,fun hc4=>?_⟩
     ·have hcM2:c<M.length:=by omega
      have hst:=hcs c hcM2
      have hmx:=Qq hcM2
      obtain ⟨x,hx⟩:∃ x,x=M.getD c 0:=⟨_,rfl⟩
      rw [← hx] at hst hmx
      have hmX:=hm0 x hmx
      refine RN ?_
      simp only [← hx,go_sem,↓reduceIte,Nat.reduceEqDiff,Nat.reduceAdd,reduceCtorEq]
      refine G2 (bl (decide (e∈B.getD x.toNat [])) ) (fun hg =>  Q4 r R B e x hp (by grind) (by grind) (by grind)) ?_
      refine RN ?_
      refine G2 (bl (decide (x∈B.getD f.toNat [])) ) (fun hg =>  Q4 r R B x f hp (by grind) (by grind) (by grind)) ?_
      refine RN ?_
      refine ⟨fun hc5=>?_,fun hc5=>?_⟩
      ·rw [if_pos (by grind)] at hst
       refine RN ?_
       exact ⟨c+1,by omega,by omega,Ref.to rfl (by simp [sub,Ac,hst])⟩
      ·rw [if_neg (by grind)] at hst
       refine RN ?_
       exact ⟨c+1,by omega,by omega,Ref.to rfl (by simp [sub,Ac,hst])⟩
     ·obtain rfl:c=M.length:=by omega
      refine RN ?_
      refine ⟨fun hc5=>?_,fun hc5=>?_⟩
      ·(refine RN ?_;try with_reducible exact trivial)
       refine ⟨[k,e,f],⟨by simp,fun h=>(by cases h),fun h=>?_⟩,?_⟩
       ·refine absurd h (hno fun h2=>?_)
        have:=(hds.1 h2).2 e hme f hmf hlook
        omega
       ·rw [if_neg (by simp),if_neg (by simp)]
        exact Ref.gc2 [4]
      ·(refine RN ?_;try with_reducible exact trivial)
       refine ⟨b+1,⟨by omega,hnx fun _=>by omega⟩,by omega,Ref.to1⟩
   ·obtain rfl:b=U.length:=by omega
    rw [List.take_length] at b2
    refine RN ?_
    refine ⟨a+1,⟨by omega,fun e' he' => ?_⟩,by omega,Ref.to1⟩
    rw [hte] at he'
    rcases List.mem_append.1 he' with h | h
    ·exact a2 e' h
    ·rw [List.mem_singleton.1 h];exact b2
  ·obtain rfl:a=E.length:=by omega
   rw [List.take_length] at a2
   refine RN ?_
   exact ⟨k+1,⟨by omega,hds.2 ⟨k2,a2⟩⟩,by omega,Ref.gc1 [0]⟩
 ·have hk:k=r.toNat:=by omega
  rw [hk] at k2
  refine RN ?_
  refine ⟨[],⟨by simp,fun _=>dk_dia.1 k2,fun _=>rfl⟩,?_⟩
  rw [if_pos rfl,if_pos rfl]
  exact Ref.gc [] rfl rfl (by simp [sub,Ac,go_sem,↓reduceIte,Nat.reduceEqDiff,Nat.reduceAdd,reduceCtorEq])
end
end Go.Proofs.YtfofabbkigonpaaDoor
