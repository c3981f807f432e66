/- Texts that belong together. -/
import Derived.Test.YtaekhhaaphgndaaGreatDoorY8
import Derived.Test.YtaekhhaaphgndaaGreatDoorW1
set_option maxHeartbeats 16000000
set_option linter.unusedSimpArgs false
set_option linter.unusedVariables false
set_option maxRecDepth 100000
namespace Go.Proofs.YtaekhhaaphgndaaGreatDoor
section
open Go.Gov
open Classical
variable {r:Int} {R:List Int} {B:List (List Int)}
def toZ (t:List Nat):List Int:=t.map fun e:Nat=>(e:Int)
theorem toZ_len (t:List Nat):(toZ t).length=t.length:=by simp [toZ]
def Gon (r:Int)(R:List Int)(B:List (List Int)):List Int→List Nat→Prop
 | _,[]=>True
 | s,e :: t=>e<R.length∧nxP r R B s e∧Gon r R B (s++[(e:Int)]) t
theorem mem_exts:∀ (k:Nat) (s f:List Int),f∈exts r R B k s ↔ ∃ t:List Nat,f=s++toZ t∧t.length=k∧Gon r R B s t
 | 0,s,f=>by
  simp only [exts,List.mem_singleton]
  constructor
  ·rintro rfl
   exact ⟨[],by simp [toZ],rfl,trivial⟩
  ·rintro ⟨t,rfl,ht,_⟩
   obtain rfl:=List.length_eq_zero_iff.1 ht
   simp [toZ]
 | k+1,s,f=>by
  rw [exts_succ]
  unfold exto
  rw [List.mem_flatMap]
  constructor
  ·rintro ⟨e,he,hf⟩
   obtain ⟨h1,h2⟩:=List.mem_filter.1 he
   obtain ⟨t,rfl,h3,h4⟩:=(mem_exts k _ f).1 hf
   exact ⟨e :: t,by simp [toZ],by simp [h3],List.mem_range.1 h1,by simpa using h2,h4⟩
  ·rintro ⟨t,rfl,ht,hg⟩
   cases t with
   | nil=>cases ht
   | cons e t=>
    obtain ⟨h1,h2,h3⟩:=hg
    exact ⟨e,List.mem_filter.2 ⟨List.mem_range.2 h1,by simpa using h2⟩,(mem_exts k _ _).2 ⟨t,by simp [toZ],by simpa using ht,h3⟩⟩
structure Chn (r:Int) (R:List Int) (B:List (List Int)) (t:List Nat):Prop where
 len:t.length=r.toNat
 rk:∀ k,k<t.length→t.getD k 0<R.length∧R.getD (t.getD k 0) 0=k
 up:∀ k,k+1<t.length→((t.getD k 0:Nat):Int)∈B.getD (t.getD (k+1) 0) []
theorem lastZ (t:List Nat)(e:Nat):(toZ (t++[e])).getLastD 0=(e:Int):=by simp [toZ]
theorem gon_iff:∀ (t s:List Nat),Gon r R B (toZ s) t ↔ (∀ k,k<t.length→t.getD k 0<R.length∧R.getD (t.getD k 0) 0=(s.length+k:Nat)∧Alv r R B (t.getD k 0))∧(∀ k,k+1<(s++t).length→s.length≤k+1→(((s++t).getD k 0:Nat):Int)∈B.getD ((s++t).getD (k+1) 0) [])
 | [],s=>by
  constructor
  ·intro _
   exact ⟨fun k hk=>absurd hk (by simp),fun k h1 h2=>by simp at h1;omega⟩
  ·exact fun _=>trivial
 | e :: t,s=>by
  have e1:toZ s++[(e:Int)]=toZ (s++[e]):=by simp [toZ]
  have e2:s++[e]++t=s++e :: t:=by simp
  unfold Gon
  rw [e1,gon_iff t (s++[e]),e2]
  have hat:(s++e :: t).getD s.length 0=e:=by simp
  constructor
  ·rintro ⟨h1,⟨h2,h3,h4⟩,h5,h6⟩
   refine ⟨fun k hk=>?_,fun k hk hs=>?_⟩
   ·cases k with
    | zero=>exact ⟨h1,by rw [toZ_len] at h2;simpa using h2,h3⟩
    | succ k=>
     have:=h5 k (by simpa using hk)
     simp only [List.getD_cons_succ,List.length_append,List.length_cons,List.length_nil] at this ⊢
     exact ⟨this.1,by rw [this.2.1];congr 1;omega,this.2.2⟩
   ·by_cases hk2:(s++[e]).length≤k+1
    ·exact h6 k hk hk2
    ·simp only [List.length_append,List.length_cons,List.length_nil] at hk2
     have e3:k+1=s.length:=by omega
     rw [e3,hat]
     rcases h4 with h4 | h4
     ·have:=congrArg List.length h4
      rw [toZ_len] at this
      simp only [List.length_nil] at this
      omega
     ·rcases List.eq_nil_or_concat s with rfl | ⟨s', z,rfl⟩
      ·simp at e3
      ·rw [List.concat_eq_append,lastZ] at h4
       have:k=s'.length:=by simp at e3;omega
       subst this
       simpa using h4
  ·rintro ⟨h5,h6⟩
   have h0:=h5 0 (by simp)
   simp only [List.getD_cons_zero,Nat.add_zero] at h0
   refine ⟨h0.1,⟨by rw [toZ_len];exact h0.2.1,h0.2.2,?_⟩,fun k hk=>?_,fun k hk hs=>h6 k hk (by simp at hs;omega)⟩
   ·rcases List.eq_nil_or_concat s with rfl | ⟨s', z,rfl⟩
    ·exact .inl rfl
    ·right
     rw [List.concat_eq_append,lastZ]
     have:=h6 s'.length (by simp) (by simp)
     simpa using this
   ·have:=h5 (k+1) (by simp;omega)
    simp only [List.getD_cons_succ,List.length_append,List.length_cons,List.length_nil] at this ⊢
    exact ⟨this.1,by rw [this.2.1];congr 1;omega,this.2.2⟩
theorem mem_allF (hr:1≤r){f:List Int}:f∈allF r R B ↔ ∃ t:List Nat,f=toZ t∧Chn r R B t:=by
 unfold allF
 rw [mem_exts]
 constructor
 ·rintro ⟨t,rfl,hl,hg⟩
  obtain ⟨h1,h2⟩:=(gon_iff t []).1 hg
  simp only [List.nil_append,List.length_nil,Nat.zero_add] at h1 h2
  exact ⟨t,by simp,hl,fun k hk=>⟨(h1 k hk).1,(h1 k hk).2.1⟩,fun k hk=>h2 k hk (by omega)⟩
 ·rintro ⟨t,rfl,h⟩
  refine ⟨t,by simp,h.len,(gon_iff t []).2 ?_⟩
  simp only [List.nil_append,List.length_nil,Nat.zero_add]
  refine ⟨fun k hk=>⟨(h.rk k hk).1,(h.rk k hk).2,?_⟩,fun k hk _=>h.up k hk⟩
  have hlen:=h.len
  have key:∀ (m k:Nat),k<t.length→t.length≤k+m+1→Alv r R B (t.getD k 0):=by
   intro m
   induction m with
   | zero=>
    intro k hk hm
    exact .top (h.rk k hk).1 (by rw [(h.rk k hk).2];omega)
   | succ m ih=>
    intro k hk hm
    by_cases e:k+1=t.length
    ·exact .top (h.rk k hk).1 (by rw [(h.rk k hk).2];omega)
    ·have hk1:k+1<t.length:=by omega
     exact .up (h.rk (k+1) hk1).1 (ih (k+1) hk1 (by omega)) (by rw [(h.rk k hk).2,(h.rk (k+1) hk1).2];omega) (h.up k hk1)
  exact key t.length k hk (by omega)
theorem exts_nodup:∀ (k:Nat) (s:List Int),(exts r R B k s).Nodup
 | 0,s=>by simp [exts]
 | k+1,s=>by
  rw [exts_succ]
  unfold exto
  have hr:((List.range R.length).filter fun e=>decide (nxP r R B s e)).Nodup:=List.nodup_range.filter _
  refine List.pairwise_flatMap.2 ⟨fun e _=>exts_nodup k _,hr.imp fun {a b} hab=>?_⟩
  intro x hx y hy e
  subst e
  obtain ⟨t,h1,_,_⟩:=(mem_exts k _ x).1 hx
  obtain ⟨u,h2,_,_⟩:=(mem_exts k _ x).1 hy
  rw [h1,List.append_assoc,List.append_assoc] at h2
  have:=List.append_cancel_left h2
  simp at this
  exact hab (by omega)
theorem allF_nodup:(allF r R B).Nodup:=exts_nodup _ _
theorem allF_fs (hr:1≤r):Go.Fl.Fs r.toNat (allF r R B):=by
 refine ⟨fun x hx=>?_,allF_nodup,fun x hx e he=>?_⟩
 ·obtain ⟨t,rfl,h⟩:=(mem_allF hr).1 hx
  rw [toZ_len,h.len]
 ·obtain ⟨t,rfl,h⟩:=(mem_allF hr).1 hx
  obtain ⟨n,_,rfl⟩:=List.mem_map.1 he
  omega
end
section
open Go.Gov
open Classical
def Ab (B:List (List Int))(x y:Nat):Prop:=(x:Int)∈B.getD y []
structure Ord (n:Nat) (B:List (List Int)):Prop where
 lt:∀ {x y:Nat},y<n→Ab B x y→x<y
 trn:∀ {x y z:Nat},z<n→Ab B x y→Ab B y z→Ab B x z
theorem IsPos.few {r:Int}{R:List Int}{B:List (List Int)}(hp:IsPos r R B){y:Nat}(hy:y<R.length):(B.getD y []).length≤500:=by
 have hR:=hp.1.2.2.1
 have h1:=(hp.2 y hy).2
 have key:∀ k:Nat,k<(B.getD y []).length→(k:Int)≤(B.getD y []).getD k 0:=by
  intro k
  induction k with
  | zero=>
   intro hk
   have:=(h1 0 hk).1.1
   omega
  | succ k ih=>
   intro hk
   have h2:=(h1 (k+1) hk).1.2.2.2 (by omega)
   rw [Nat.add_sub_cancel] at h2
   have:=ih (by omega)
   omega
 rcases Nat.lt_or_ge 500 (B.getD y []).length with h | h
 ·have h3:=key 500 h
  have h4:=(h1 500 h).1.2.1
  omega
 ·exact h
end
section
open Go.Gov Go.Fl
open Classical
variable {r:Int} {R:List Int} {B:List (List Int)}
def Btw (R:List Int)(B:List (List Int))(i e f:Int)(x:Nat):Prop:=R.getD x 0=i∧(e<0∨e∈B.getD x [])∧(f<0∨(x:Int)∈B.getD f.toNat [])
noncomputable def btw (R:List Int)(B:List (List Int))(i e f:Int)(k:Nat):List Nat:=(List.range k).filter fun x=>decide (Btw R B i e f x)
theorem btw_succ (i e f:Int)(k:Nat):btw R B i e f (k+1)=btw R B i e f k++if Btw R B i e f k then [k] else []:=by
 unfold btw
 rw [List.range_succ,List.filter_append]
 congr 1
 by_cases h:Btw R B i e f k
 ·rw [if_pos h,List.filter_cons_of_pos (by simpa using h)];rfl
 ·rw [if_neg h,List.filter_cons_of_neg (by simpa using h)];rfl
theorem btw_le (i e f:Int)(k:Nat):(btw R B i e f k).length≤k:=by
 have:=List.length_filter_le (fun x=>decide (Btw R B i e f x)) (List.range k)
 rw [List.length_range] at this
 exact this
def OkE (R:List Int)(i e:Int):Prop:=if i=0 then e = -1 else 0≤e∧e<R.length∧R.getD e.toNat 0=i - 1
def OkF (r:Int)(R:List Int)(i f:Int):Prop:=if i=r - 1 then f = -1 else 0≤f∧f<R.length∧R.getD f.toNat 0=i+1
def Dm (r:Int)(R:List Int)(B:List (List Int))(i e f:Int):Prop:=OkE R i e→OkF r R i f→(e<0∨f<0∨e∈B.getD f.toNat [])→(btw R B i e f R.length).length=2
def Dia (r:Int)(R:List Int)(B:List (List Int)):Prop:=∀ i,0≤i→i<r→∀ e f,Dm r R B i e f
theorem set_self {t:List Nat}{i:Nat}:t.set i (t.getD i 0)=t:=by
 refine List.ext_getElem (by simp) fun k h1 h2=>?_
 rw [List.getElem_set]
 split
 ·rename_i e;subst e;simp [h2]
 ·rfl
end
section
open Go.Gov Go.Fl
open Classical
theorem getDI_mem {L:List Int}{a:Nat}(h:a<L.length):L.getD a 0∈L:=by
 rw [List.getD_eq_getElem?_getD,List.getElem?_eq_getElem h]
 exact List.getElem_mem h
theorem take_all (L:List Int):(intsC L).take L.length=intsC L:=List.take_of_length_le (by simp [intsC])
theorem isBelowZ_c (r:Int)(R:List Int)(B:List (List Int))(e f:Int)(hp:IsPos r R B)(he:0≤e)(hf:0≤f)(hn:f<R.length):Pure Tryz.prog 70 [.pto [i64 r,ints R,mat B] 0,i64 e,i64 f] (bl (decide (e∈B.getD f.toNat []))) []:=by
 obtain ⟨x,rfl⟩:∃ x:Nat,e=x:=⟨e.toNat,by omega⟩
 obtain ⟨y,rfl⟩:∃ y:Nat,f=y:=⟨f.toNat,by omega⟩
 rw [Int.toNat_natCast]
 exact isBelow_c r R B x y hp (by omega)
def plcX (r:Int)(R:List Int)(i:Int):List Int:=if 0≤i∧i≤r - 1 then plc R i else [-1]
theorem plcX_len (r:Int)(R:List Int)(i:Int):(plcX r R i).length≤R.length+1:=by
 unfold plcX
 split
 ·have:=plcN_len R i R.length
  unfold plc
  omega
 ·simp
theorem plcX_mem {r:Int}{R:List Int}{i e:Int}(h:e∈plcX r R i):(e = -1∧¬ (0≤i∧i≤r - 1))∨(0≤e∧e<R.length∧R.getD e.toNat 0=i∧0≤i∧i≤r - 1):=by
 unfold plcX at h
 split at h
 ·rename_i hi
  have:=mem_plcN.1 h
  exact .inr ⟨this.1,this.2.1,this.2.2,hi⟩
 ·rename_i hi
  exact .inl ⟨by simpa using h,hi⟩
theorem ofRank_p (r:Int)(R:List Int)(B:List (List Int))(i:Int)(h1:R.length≤1048576)(hr:0≤r∧r≤5):Pure Tryz.prog 90 [.pto [i64 r,ints R,mat B] 0,i64 i] (.sl 0 1 0 (plcX r R i).length) [some (intsC (plcX r R i))]:=by
 have hw:=within_c i 0 (r - 1)
 have hpl:=placesOf_p R i h1
 unfold plcX
 by_cases hi:0≤i∧i≤r - 1
 ·rw [if_pos hi]
  refine pureRV ok90 rfl ?_;unfold c90
  refine RN ?_
  refine pureC1 (hw) ?_
  (refine RN ?_;try with_reducible exact trivial)
  (try with_reducible refine fun _=>?_)
  refine RN ?_
  refine pureC1 (hpl) ?_
  refine RN ?_
  exact Ref.to1
 ·rw [if_neg hi]
  refine pureRV ok90 rfl ?_;unfold c90
  refine RN ?_
  refine pureC1 (hw) ?_
  refine RN ?_
  refine ⟨fun _=>⟨rfl,?_⟩,fun hc=>absurd hc hi⟩
  refine RN ?_
  exact Ref.to rfl (by simp [sub,fget,intsC])
theorem okE_iff {r:Int}{R:List Int}{i e:Int}(h0:0≤i)(hi:i<r):OkE R i e ↔ e∈plcX r R (i - 1):=by
 unfold OkE plcX
 by_cases h:i=0
 ·subst h
  rw [if_pos rfl,if_neg (by omega)]
  simp
 ·rw [if_neg h,if_pos (by omega)]
  unfold plc
  rw [mem_plcN]
theorem okF_iff {r:Int}{R:List Int}{i f:Int}(h0:0≤i)(hi:i<r):OkF r R i f ↔ f∈plcX r R (i+1):=by
 unfold OkF plcX
 by_cases h:i=r - 1
 ·rw [if_pos h,if_neg (by omega)]
  simp
 ·rw [if_neg h,if_pos (by omega)]
  unfold plc
  rw [mem_plcN]
def Dn (R:List Int)(B:List (List Int))(i e f:Int):Prop:=(e<0∨f<0∨e∈B.getD f.toNat [])→(btw R B i e f R.length).length=2
def Dk (r:Int)(R:List Int)(B:List (List Int))(k:Nat):Prop:=∀ i:Nat,i<k→∀ e f,Dm r R B i e f
theorem dk_succ {r:Int}{R:List Int}{B:List (List Int)}{k:Nat}(hk:(k:Int)<r):Dk r R B (k+1) ↔ Dk r R B k∧∀ e∈plcX r R ((k:Int) - 1),∀ f∈plcX r R ((k:Int)+1),Dn R B k e f:=by
 constructor
 ·intro h
  refine ⟨fun i hi=>h i (by omega),fun e he f hf=>h k (by omega) e f ((okE_iff (by omega) hk).2 he) ((okF_iff (by omega) hk).2 hf)⟩
 ·rintro ⟨h1,h2⟩ i hi e f
  by_cases e1:i=k
  ·subst e1
   exact fun ho1 ho2=>h2 e ((okE_iff (by omega) hk).1 ho1) f ((okF_iff (by omega) hk).1 ho2)
  ·exact h1 i (by omega) e f
theorem dk_dia {r:Int}{R:List Int}{B:List (List Int)}:Dk r R B r.toNat ↔ Dia r R B:=by
 constructor
 ·intro h i h0 hi e f
  obtain ⟨n,rfl⟩:∃ n:Nat,i=n:=⟨i.toNat,by omega⟩
  exact h n (by omega) e f
 ·exact fun h i hi e f=>h i (by omega) (by omega) e f
noncomputable def cntQ (B:List (List Int))(M:List Int)(e f:Int)(c:Nat):Nat:=((M.take c).filter fun x=>decide ((e<0∨e∈B.getD x.toNat [])∧(f<0∨x∈B.getD f.toNat []))).length
theorem cntQ_succ {B:List (List Int)}{M:List Int}{e f:Int}{c:Nat}(h:c<M.length):cntQ B M e f (c+1)=cntQ B M e f c+if (e<0∨e∈B.getD (M.getD c 0).toNat [])∧(f<0∨M.getD c 0∈B.getD f.toNat []) then 1 else 0:=by
 unfold cntQ
 rw [List.take_add_one,List.getElem?_eq_getElem h,show M.getD c 0=M[c] by simp [h],List.filter_append,List.length_append]
 congr 1
 by_cases hp:(e<0∨e∈B.getD (M[c]).toNat [])∧(f<0∨M[c]∈B.getD f.toNat [])
 ·rw [if_pos hp];simp only [Option.toList_some];rw [List.filter_cons_of_pos (by simpa using hp)];rfl
 ·rw [if_neg hp];simp only [Option.toList_some];rw [List.filter_cons_of_neg (by simpa using hp)];rfl
theorem cntQ_le (B:List (List Int))(M:List Int)(e f:Int)(c:Nat):cntQ B M e f c≤c:=by
 unfold cntQ
 have:=List.length_filter_le (fun x=>decide ((e<0∨e∈B.getD x.toNat [])∧(f<0∨x∈B.getD f.toNat []))) (M.take c)
 rw [List.length_take] at this
 omega
theorem cntQ_all {R:List Int}{B:List (List Int)}{i e f:Int}:cntQ B (plc R i) e f (plc R i).length=(btw R B i e f R.length).length:=by
 unfold cntQ btw plc plcN
 rw [List.take_length,List.filter_map,List.length_map,List.filter_filter]
 congr 1
 refine List.filter_congr fun x _=>?_
 refine Bool.eq_iff_iff.2 ?_
 simp only [Bool.and_eq_true,decide_eq_true_eq,Function.comp,Int.toNat_natCast]
 exact And.comm
theorem diamondFault_e (r:Int)(R:List Int)(B:List (List Int))(hp:IsPos r R B):PureE Tryz.prog 74 [posetA r R B] (fun L:List Int=>L.length≤3∧(L=[] ↔ Dia r R B)) (fun L=>if L=[] then nilS else .sl 0 1 0 L.length) (fun L=>if L=[] then [] else [some (intsC L)]):=by
 obtain ⟨hr1,hr5,hR,hBl⟩:=hp.1
 refine pureREV ok74 rfl ?_;unfold c74
 refine RN ?_
 refine V_loop (α:=Nat) (S:=fun k=>([(1,.ref 0 0),(14,i64 r),(15,i64 (k:Int))],[some [i64 r,ints R,mat B]])) (C:=fun k=>(k:Int)≤r∧Dk r R B k) (μ:=fun k=>r.toNat - k) 0 ⟨by omega,fun i hi=>by omega⟩ (Ref.to1) ?_
 rintro k ⟨k1,k2⟩
 have ho0:=ofRank_p r R B k (by omega) (by omega)
 have ho1:=ofRank_p r R B (k+1) (by omega) (by omega)
 have ho2:=ofRank_p r R B (k - 1) (by omega) (by omega)
 have hl0:=plcX_len r R k
 have hl1:=plcX_len r R (k+1)
 have hl2:=plcX_len r R (k - 1)
 have hm0:=fun x=>plcX_mem (r:=r) (R:=R) (i:=k) (e:=x)
 have hm1:=fun x=>plcX_mem (r:=r) (R:=R) (i:=(k:Int)+1) (e:=x)
 have hm2:=fun x=>plcX_mem (r:=r) (R:=R) (i:=(k:Int) - 1) (e:=x)
 have hca:=fun e f=>cntQ_all (R:=R) (B:=B) (i:=k) (e:=e) (f:=f)
 refine RN ?_
 refine ⟨fun hc=>?_,fun hc=>?_⟩
 ·have hds:=dk_succ (R:=R) (B:=B) (show (k:Int)<r by omega)
  have hpk:plcX r R k=plc R k:=if_pos (by omega)
  have hno:¬ Dk r R B (k+1)→¬ Dia r R B:=fun h h2=>h ((fun i hi=>dk_dia.2 h2 i (by omega)):Dk r R B (k+1))
  rw [← hpk] at hca
  obtain ⟨M,hM⟩:∃ M,M=plcX r R k:=⟨_,rfl⟩
  obtain ⟨U,hU⟩:∃ U,U=plcX r R (k+1):=⟨_,rfl⟩
  obtain ⟨E,hE⟩:∃ E,E=plcX r R (k - 1):=⟨_,rfl⟩
  rw [← hM] at ho0 hl0 hm0 hca
  rw [← hU] at ho1 hl1 hm1 hds
  rw [← hE] at ho2 hl2 hm2 hds
  refine RN ?_
  refine pureC1 (ho0) ?_
  refine RN ?_
  refine pureC1 (ho1) ?_
  refine RN ?_
  refine pureC1 (ho2) ?_
  refine RN ?_
  have t0:=take_all M
  have t1:=take_all U
  have t2:=take_all E
  refine V_loop (α:=Nat) (S:=fun a=>([(1,.ref 0 0),(3,i64 (k:Int)),(4,.sl 1 1 0 M.length),(5,.sl 2 1 0 U.length),(14,i64 r),(15,i64 (k:Int)),(25,.sl 3 1 0 E.length),(26,i64 (E.length:Int)),(27,i64 (a:Int))],[some [i64 r,ints R,mat B],some (intsC M),some (intsC U),some (intsC E)])) (C:=fun a=>a≤E.length∧∀ e∈E.take a,∀ f∈U,Dn R B k e f) (μ:=fun a=>E.length - a) 0 ⟨Nat.zero_le _,by simp⟩ (Ref.to1) ?_
  rintro a ⟨a1,a2⟩
  refine RN ?_
  refine ⟨fun hc1=>?_,fun hc1=>?_⟩
  ·have haE:a<E.length:=by omega
   have hte:E.take (a+1)=E.take a++[E.getD a 0]:=by rw [List.take_add_one,List.getElem?_eq_getElem haE];simp [haE]
   have hme:=getDI_mem haE
   obtain ⟨e,he⟩:∃ e,e=E.getD a 0:=⟨_,rfl⟩
   rw [← he] at hte hme
   have hmE:=hm2 e hme
   refine RN ?_
   simp only [← he,go_sem,↓reduceIte,Nat.reduceEqDiff,Nat.reduceAdd,reduceCtorEq]
   refine V_loop (α:=Nat) (S:=fun b=>([(1,.ref 0 0),(3,i64 (k:Int)),(4,.sl 1 1 0 M.length),(5,.sl 2 1 0 U.length),(7,i64 e),(14,i64 r),(15,i64 (k:Int)),(25,.sl 3 1 0 E.length),(26,i64 (E.length:Int)),(27,i64 (a:Int)),(31,.sl 2 1 0 U.length),(32,i64 (U.length:Int)),(33,i64 (b:Int))],[some [i64 r,ints R,mat B],some (intsC M),some (intsC U),some (intsC E)])) (C:=fun b=>b≤U.length∧∀ f∈U.take b,Dn R B k e f) (μ:=fun b=>U.length - b) 0 ⟨Nat.zero_le _,by simp⟩ (Ref.to1) ?_
   rintro b ⟨b1,b2⟩
   refine RN ?_
   refine ⟨fun hc2=>?_,fun hc2=>?_⟩
   ·have hbU:b<U.length:=by omega
    have htf:U.take (b+1)=U.take b++[U.getD b 0]:=by rw [List.take_add_one,List.getElem?_eq_getElem hbU];simp [hbU]
    have hmf:=getDI_mem hbU
    obtain ⟨f,hf⟩:∃ f,f=U.getD b 0:=⟨_,rfl⟩
    rw [← hf] at htf hmf
    have hmF:=hm1 f hmf
    have hnx:Dn R B k e f→∀ f' ∈ U.take (b+1),Dn R B k e f' := fun hd f' hf' => by
     rw [htf] at hf'
     rcases List.mem_append.1 hf' with h | h
     ·exact b2 f' h
     ·rw [List.mem_singleton.1 h];exact hd
    refine RN ?_
    simp only [← hf,go_sem,↓reduceIte,Nat.reduceEqDiff,Nat.reduceAdd,reduceCtorEq]
    refine GC1 (bl (decide (e∈B.getD f.toNat [])) ) (fun hg =>  isBelowZ_c r R B e f hp (by grind) (by grind) (by grind)) ?_
    refine RN ?_
    refine ⟨fun hc3=>?_,fun hc3=>?_⟩
    ·(refine RN ?_;try with_reducible exact trivial)
     refine ⟨b+1,⟨by omega,hnx fun h=>?_⟩,by omega,Ref.to1⟩
     exfalso
     grind
    ·have hlook:e<0∨f<0∨e∈B.getD f.toNat []:=by grind
     have hcl:=cntQ_le B M e f
     have hcs:=fun c=>cntQ_succ (B:=B) (M:=M) (e:=e) (f:=f) (c:=c)
     have hca2:=hca e f
     obtain ⟨q,hq⟩:∃ q,q=cntQ B M e f:=⟨_,rfl⟩
     rw [← hq] at hcl hca2
     simp only [← hq] at hcs
     have hq0:q 0=0:=by rw [hq];simp [cntQ]
     refine RN ?_
     refine V_loop (α:=Nat) (S:=fun c=>([(1,.ref 0 0),(3,i64 (k:Int)),(4,.sl 1 1 0 M.length),(5,.sl 2 1 0 U.length),(7,i64 e),(9,i64 f),(10,i64 (q c:Int)),(14,i64 r),(15,i64 (k:Int)),(25,.sl 3 1 0 E.length),(26,i64 (E.length:Int)),(27,i64 (a:Int)),(31,.sl 2 1 0 U.length),(32,i64 (U.length:Int)),(33,i64 (b:Int)),(49,.sl 1 1 0 M.length),(50,i64 (M.length:Int)),(51,i64 (c:Int))],[some [i64 r,ints R,mat B],some (intsC M),some (intsC U),some (intsC E)])) (C:=fun c=>c≤M.length) (μ:=fun c=>M.length - c) 0 (Nat.zero_le _) (Ref.to rfl (by simp [sub,fget,hq0])) ?_
     intro c hcM
     have hqb:=hcl c
     refine RN ?_
     refine ⟨fun hc4=>?_,fun hc4=>?_⟩
     ·have hcM2:c<M.length:=by omega
      have hst:=hcs c hcM2
      have hmx:=getDI_mem hcM2
      obtain ⟨x,hx⟩:∃ x,x=M.getD c 0:=⟨_,rfl⟩
      rw [← hx] at hst hmx
      have hmX:=hm0 x hmx
      refine RN ?_
      simp only [← hx,go_sem,↓reduceIte,Nat.reduceEqDiff,Nat.reduceAdd,reduceCtorEq]
      refine GC1 (bl (decide (e∈B.getD x.toNat [])) ) (fun hg =>  isBelowZ_c r R B e x hp (by grind) (by grind) (by grind)) ?_
      refine RN ?_
      refine GC1 (bl (decide (x∈B.getD f.toNat [])) ) (fun hg =>  isBelowZ_c r R B x f hp (by grind) (by grind) (by grind)) ?_
      refine RN ?_
      refine ⟨fun hc5=>?_,fun hc5=>?_⟩
      ·rw [if_pos (by grind)] at hst
       refine RN ?_
       exact ⟨c+1,by omega,by omega,Ref.to rfl (by simp [sub,fget,hst])⟩
      ·rw [if_neg (by grind)] at hst
       refine RN ?_
       exact ⟨c+1,by omega,by omega,Ref.to rfl (by simp [sub,fget,hst])⟩
     ·obtain rfl:c=M.length:=by omega
      refine RN ?_
      refine ⟨fun hc5=>?_,fun hc5=>?_⟩
      ·(refine RN ?_;try with_reducible exact trivial)
       refine ⟨[k,e,f],⟨by simp,fun h=>(by cases h),fun h=>?_⟩,?_⟩
       ·refine absurd h (hno fun h2=>?_)
        have:=(hds.1 h2).2 e hme f hmf hlook
        omega
       ·rw [if_neg (by simp),if_neg (by simp)]
        exact Ref.gc2 [4]
      ·(refine RN ?_;try with_reducible exact trivial)
       refine ⟨b+1,⟨by omega,hnx fun _=>by omega⟩,by omega,Ref.to1⟩
   ·obtain rfl:b=U.length:=by omega
    rw [List.take_length] at b2
    refine RN ?_
    refine ⟨a+1,⟨by omega,fun e' he' => ?_⟩,by omega,Ref.to1⟩
    rw [hte] at he'
    rcases List.mem_append.1 he' with h | h
    ·exact a2 e' h
    ·rw [List.mem_singleton.1 h];exact b2
  ·obtain rfl:a=E.length:=by omega
   rw [List.take_length] at a2
   refine RN ?_
   exact ⟨k+1,⟨by omega,hds.2 ⟨k2,a2⟩⟩,by omega,Ref.gc1 [0]⟩
 ·have hk:k=r.toNat:=by omega
  rw [hk] at k2
  refine RN ?_
  refine ⟨[],⟨by simp,fun _=>dk_dia.1 k2,fun _=>rfl⟩,?_⟩
  rw [if_pos rfl,if_pos rfl]
  exact Ref.gc [] rfl rfl (by simp [sub,fget,go_sem,↓reduceIte,Nat.reduceEqDiff,Nat.reduceAdd,reduceCtorEq])
def Fk (r:Int)(R:List Int)(B:List (List Int))(k:Nat)(e:Int)(f:Int):Prop:=∀ f', -1≤f' → f' < f→Dm r R B k e f'
def Ek (r:Int)(R:List Int)(B:List (List Int))(k:Nat)(e:Int):Prop:=∀ e', -1≤e' → e' < e→∀ f,Dm r R B k e' f
theorem fk_all {r:Int}{R:List Int}{B:List (List Int)}{k:Nat}{e:Int}(h:Fk r R B k e R.length):∀ f,Dm r R B k e f:=fun f h1 h2 h3=>by
 refine h f ?_ ?_ h1 h2 h3 <;>
 ·unfold OkF at h2
  split at h2<;>omega
theorem ek_all {r:Int}{R:List Int}{B:List (List Int)}{k:Nat}(h:Ek r R B k R.length):∀ e f,Dm r R B k e f:=fun e f h1=>by
 refine h e ?_ ?_ f h1 <;>
 ·unfold OkE at h1
  split at h1<;>omega
theorem btw_step {R:List Int}{B:List (List Int)}{i e f:Int}{c:Nat}:(btw R B i e f (c+1)).length=(btw R B i e f c).length+if R.getD c 0=i∧(e<0∨e∈B.getD c [])∧(f<0∨(c:Int)∈B.getD f.toNat []) then 1 else 0:=by
 rw [btw_succ,List.length_append]
 congr 1
 unfold Btw
 split<;>simp
theorem l03Fault_e (r:Int)(R:List Int)(B:List (List Int))(hp:IsPos r R B):PureE Tryz.prog 61 [posetA r R B] (fun L:List Int=>L.length≤3∧(L=[] ↔ Dia r R B)) (fun L=>.sl 0 1 0 L.length) (fun L=>[some (intsC L)]):=by
 obtain ⟨hr1,hr5,hR,hBl⟩:=hp.1
 have hrow:∀ x:Nat,x<R.length→(B.getD x []).length≤500:=fun x hx=>by
  have:=hp.few hx
  omega
 refine pureREV ok61 rfl ?_;unfold c61
 refine RN ?_
 refine V_loop (α:=Nat) (S:=fun k=>([(1,.ref 0 0),(3,i64 (R.length:Int)),(4,i64 (k:Int))],[some [i64 r,ints R,mat B]])) (C:=fun k=>(k:Int)≤r∧Dk r R B k) (μ:=fun k=>r.toNat - k) 0 ⟨by omega,fun i hi=>by omega⟩ (Ref.to1) ?_
 rintro k ⟨k1,k2⟩
 refine RN ?_
 refine ⟨fun hc=>?_,fun hc=>?_⟩
 ·have hds : (∀ e f, Dm r R B k e f) → Dk r R B (k + 1) := fun h i hi e f => by
    by_cases e1:i=k
    ·subst e1;exact h e f
    ·exact k2 i (by omega) e f
  have hno:∀ {e f},¬ Dm r R B k e f→¬ Dia r R B:=fun h h2=>h (dk_dia.2 h2 k (by omega) _ _)
  refine RN ?_
  refine V_loop (α:=Nat) (S:=fun a=>([(1,.ref 0 0),(3,i64 (R.length:Int)),(4,i64 (k:Int)),(5,i64 ((a:Int) - 1))],[some [i64 r,ints R,mat B]])) (C:=fun a=>a≤R.length+1∧Ek r R B k ((a:Int) - 1)) (μ:=fun a=>R.length+1 - a) 0 ⟨Nat.zero_le _,fun e' h1 h2=>by omega⟩ (Ref.to1) ?_
  rintro a ⟨a1,a2⟩
  obtain ⟨e,he⟩:∃ e:Int,e=(a:Int) - 1:=⟨_,rfl⟩
  rw [← he] at a2 ⊢
  refine RN ?_
  refine ⟨fun hc1=>?_,fun hc1=>?_⟩
  ·have hnx : (∀ f, Dm r R B k e f) → Ek r R B k (((a + 1 : Nat) : Int) - 1) := fun h e' h1 h2 f => by
     by_cases e1:e' = e
     ·subst e1;exact h f
     ·exact a2 e' h1 (by omega) f
   have hnat:((a+1:Nat):Int) - 1=e+1:=by omega
   rw [hnat] at hnx
   have hek:OkE R k e→((k:Int)=0∧e = -1)∨(0<(k:Int)∧0≤e∧R.getD e.toNat 0=(k:Int) - 1):=fun h=>by
    unfold OkE at h
    by_cases h0:(k:Int)=0
    ·rw [if_pos h0] at h;exact .inl ⟨h0,h⟩
    ·rw [if_neg h0] at h;exact .inr ⟨by omega,h.1,h.2.2⟩
   refine RN ?_
   refine ⟨fun hc2=>?_,fun hc2=>?_⟩
   ·have hall : ∀ f, Dm r R B k e f := fun f ho _ _ => by
      exfalso
      have:=hek ho
      grind
    refine RN ?_
    exact ⟨a+1,⟨by omega,by rw [hnat];exact hnx hall⟩,by omega,Ref.to rfl (by rw [hnat];simp [sub,fget])⟩
   ·have hoE : OkE R k e := by
      unfold OkE
      split<;>grind
    refine RN ?_
    refine V_loop (α:=Nat) (S:=fun b=>([(1,.ref 0 0),(3,i64 (R.length:Int)),(4,i64 (k:Int)),(5,i64 e),(6,i64 ((b:Int) - 1))],[some [i64 r,ints R,mat B]])) (C:=fun b=>b≤R.length+1∧Fk r R B k e ((b:Int) - 1)) (μ:=fun b=>R.length+1 - b) 0 ⟨Nat.zero_le _,fun e' h1 h2=>by omega⟩ (Ref.to1) ?_
    rintro b ⟨b1,b2⟩
    obtain ⟨f,hf⟩:∃ f:Int,f=(b:Int) - 1:=⟨_,rfl⟩
    rw [← hf] at b2 ⊢
    refine RN ?_
    refine ⟨fun hc3=>?_,fun hc3=>?_⟩
    ·have hnxf : Dm r R B k e f → Fk r R B k e (f + 1) := fun h f' h1 h2 => by
       by_cases e1:f' = f
       ·subst e1;exact h
       ·exact b2 f' h1 (by omega)
     have hnatf:((b+1:Nat):Int) - 1=f+1:=by omega
     have hfk:OkF r R k f→((k:Int)=r - 1∧f = -1)∨((k:Int)≠r - 1∧0≤f∧R.getD f.toNat 0=(k:Int)+1):=fun h=>by
      unfold OkF at h
      by_cases h0:(k:Int)=r - 1
      ·rw [if_pos h0] at h;exact .inl ⟨h0,h⟩
      ·rw [if_neg h0] at h;exact .inr ⟨h0,h.1,h.2.2⟩
     have hrf:(B.getD f.toNat []).length≤1099511627776:=by
      by_cases h:f.toNat<R.length
      ·have:=hrow _ h;omega
      ·rw [List.getD_eq_getElem?_getD,List.getElem?_eq_none (by omega)];simp
     refine RN ?_
     refine GC1 (bl (decide (e∈B.getD f.toNat [])) ) (fun hg =>  l01Has_c (B.getD f.toNat []) e hrf) ?_
     refine RN ?_
     refine ⟨fun hc4=>?_,fun hc4=>?_⟩
     ·have hall : Dm r R B k e f := fun ho hof hlk => by
        exfalso
        have:=hek ho
        have:=hfk hof
        grind
      refine RN ?_
      exact ⟨b+1,⟨by omega,by rw [hnatf];exact hnxf hall⟩,by omega,Ref.to rfl (by rw [hnatf];simp [sub,fget])⟩
     ·have hoF : OkF r R k f := by
        unfold OkF
        split<;>grind
      have hlk:e<0∨f<0∨e∈B.getD f.toNat []:=by grind
      have hcl:=btw_le (R:=R) (B:=B) (k:Int) e f
      have hcs:=fun c=>btw_step (R:=R) (B:=B) (i:=k) (e:=e) (f:=f) (c:=c)
      have hdm:(btw R B k e f R.length).length=2→Dm r R B k e f:=fun h _ _ _=>h
      have hbad:(btw R B k e f R.length).length≠2→¬ Dia r R B:=fun h=>hno fun hd=>h (hd hoE hoF hlk)
      obtain ⟨q,hq⟩:∃ q:Nat→Nat,q=fun c=>(btw R B k e f c).length:=⟨_,rfl⟩
      have hqat:∀ c,(btw R B k e f c).length=q c:=fun c=>by rw [hq]
      simp only [hqat] at hcl hcs hdm hbad
      have hq0:q 0=0:=by rw [hq];simp [btw]
      refine RN ?_
      refine V_loop (α:=Nat) (S:=fun c=>([(1,.ref 0 0),(3,i64 (R.length:Int)),(4,i64 (k:Int)),(5,i64 e),(6,i64 f),(7,i64 (q c:Int)),(8,i64 (c:Int))],[some [i64 r,ints R,mat B]])) (C:=fun c=>c≤R.length) (μ:=fun c=>R.length - c) 0 (Nat.zero_le _) (Ref.to rfl (by simp [sub,fget,hq0])) ?_
      intro c hcR
      have hqb:=hcl c
      refine RN ?_
      refine ⟨fun hc5=>?_,fun hc5=>?_⟩
      ·have hst:=hcs c
       have hrc:(B.getD c []).length≤1099511627776:=by have:=hrow c (by omega);omega
       refine RN ?_
       refine GC1 (bl (decide (e∈B.getD c [])) ) (fun hg =>  l01Has_c (B.getD c []) e hrc) ?_
       refine RN ?_
       refine GC1 (bl (decide ((c:Int)∈B.getD f.toNat [])) ) (fun hg =>  l01Has_c (B.getD f.toNat []) c hrf) ?_
       refine RN ?_
       refine ⟨fun hc6=>?_,fun hc6=>?_⟩
       ·rw [if_pos (by grind)] at hst
        refine RN ?_
        exact ⟨c+1,by omega,by omega,Ref.to rfl (by simp [sub,fget,hst])⟩
       ·rw [if_neg (by grind)] at hst
        refine RN ?_
        exact ⟨c+1,by omega,by omega,Ref.to rfl (by simp [sub,fget,hst])⟩
      ·obtain rfl:c=R.length:=by omega
       refine RN ?_
       refine ⟨fun hc6=>?_,fun hc6=>?_⟩
       ·(refine RN ?_;try with_reducible exact trivial)
        refine ⟨[k,e,f],⟨by simp,fun h=>(by cases h),fun h=>absurd h (hbad (by omega))⟩,?_⟩
        exact Ref.gc2 [1]
       ·(refine RN ?_;try with_reducible exact trivial)
        exact ⟨b+1,⟨by omega,by rw [hnatf];exact hnxf (hdm (by omega))⟩,by omega,Ref.to rfl (by rw [hnatf];simp [sub,fget])⟩
    ·have hfn:f=R.length:=by omega
     rw [hfn] at b2
     refine RN ?_
     exact ⟨a+1,⟨by omega,by rw [hnat];exact hnx (fk_all b2)⟩,by omega,Ref.to rfl (by rw [hnat];simp [sub,fget])⟩
  ·have hen:e=R.length:=by omega
   rw [hen] at a2
   refine RN ?_
   exact ⟨k+1,⟨by omega,hds (ek_all a2)⟩,by omega,Ref.to1⟩
 ·have hk:k=r.toNat:=by omega
  rw [hk] at k2
  refine RN ?_
  refine ⟨[],⟨by simp,fun _=>dk_dia.1 k2,fun _=>rfl⟩,?_⟩
  exact Ref.gc2 [1]
end
end Go.Proofs.YtaekhhaaphgndaaGreatDoor
