/- Texts that belong together. -/
import Derived.Test.YtcneanpkpmfaiaaGreatY6
set_option linter.unusedSimpArgs false
set_option linter.unusedVariables false
set_option maxRecDepth 100000
namespace Go.Proofs.YtcneanpkpmfaiaaGreat
section
open Classical
section
variable {f:Int→List Int} {es:List Int}
theorem Aeb (hf:∀ e,sst (f e)){v:List Int}(h:Sp (fun g=>∃ e∈es,g=f e) v):∃ d,sst d∧(∀ e∈d,e∈es)∧bd f d=v:=by
 induction h with
 | zero=>exact ⟨[],D9,by simp,La⟩
 | add hg _ ih=>
  obtain ⟨e,he,rfl⟩:=hg
  obtain ⟨d,d1,d2,d3⟩:=ih
  refine ⟨Ag [e] d,Bn (G8 e) d1,fun x hx=>?_,by rw [I5 hf,M3,d3]⟩
  have h1:=(Df (G8 e) d1 x).1 hx
  by_cases h2:x∈d
  ·exact d2 x h2
  ·have h3:x∈[e]:=Classical.byContradiction fun h3=>h1 (iff_of_false h3 h2)
   rw [List.mem_singleton.1 h3];exact he
theorem Um (hf:∀ e,sst (f e)):∀ (es:List Int),es.Pairwise (· > ·)→∀ c,sst c→(∀ e∈c,e∈es)→bd f c=[]→∀ m,c.getLast? = some m→m∉NR f es
 | [],_,c,hc,h,_,m,hm,_=>by
  have:=((F5 hc).1 hm).1
  exact absurd (h m this) (by simp)
 | x :: es,hp,c,hc,h,hb,m,hm,hmem=>by
  obtain ⟨p1,p2⟩:=List.pairwise_cons.1 hp
  obtain ⟨l1,l2⟩:=(F5 hc).1 hm
  have hxe:x∉es:=fun hx=>absurd (p1 x hx) (Int.lt_irrefl _)
  by_cases e:m=x
  ·subst e
   have hsub:∀ y∈Ag c [m],y∈es:=fun y hy=>by
    have h1:=(Df hc (G8 m) y).1 hy
    by_cases hym:y=m
    ·subst hym;exact absurd (iff_of_true l1 (by simp)) h1
    ·have h2:y∈c:=Classical.byContradiction fun h3=>h1 (iff_of_false h3 (by simpa using hym))
     rcases List.mem_cons.1 (h y h2) with h4 | h4
     ·exact absurd h4 hym
     ·exact h4
   have hsp:Sp (fun g=>∃ x∈es,g=f x) (f m):=by
    have hb' : bd f (Ag c [m])=f m:=by rw [I5 hf,hb,M3,Hu]
    rw [← hb']
    exact (Wh hf _).le (fun g ⟨e,_,h⟩=>h ▸ hf e) fun g ⟨e,he,hg⟩=>.one ⟨e,hsub e he,hg⟩
   unfold NR at hmem
   rw [if_pos hsp] at hmem
   exact hxe (O4 hmem)
  ·have hxc : x ∉ c := fun hx => by
     have h1:=l2 x hx
     rcases List.mem_cons.1 (h m l1) with h2 | h2
     ·exact e h2
     ·have:=p1 m h2;omega
   have hsub:∀ y∈c,y∈es:=fun y hy=>by
    rcases List.mem_cons.1 (h y hy) with h1 | h1
    ·exact absurd (h1 ▸ hy) hxc
    ·exact h1
   refine Um hf es p2 c hc hsub hb m hm ?_
   unfold NR at hmem
   split at hmem
   ·exact hmem
   ·rcases List.mem_cons.1 hmem with h1 | h1
    ·exact absurd h1 e
    ·exact h1
theorem fH (hf:∀ e,sst (f e)):∀ (es:List Int),es.Pairwise (· > ·)→∀ m∈es,m∉NR f es→∃ c,sst c∧(∀ e∈c,e∈es)∧bd f c=[]∧c.getLast? = some m
 | [],_,m,h,_=>absurd h (by simp)
 | x :: es,hp,m,h,hn=>by
  obtain ⟨p1,p2⟩:=List.pairwise_cons.1 hp
  by_cases e:m=x
  ·subst e
   have hsp:Sp (fun g=>∃ x∈es,g=f x) (f m):=Classical.byContradiction fun hs=>hn (by unfold NR;rw [if_neg hs];simp)
   obtain ⟨d,d1,d2,d3⟩:=Aeb hf hsp
   have hc:=Bn (G8 m) d1
   have hmd:m∉d:=fun h1=>absurd (p1 m (d2 m h1)) (Int.lt_irrefl _)
   have hmem:∀ y,y∈Ag [m] d ↔ y=m∨y∈d:=fun y=>by
    rw [Df (G8 m) d1]
    constructor
    ·intro h1
     by_cases h2:y∈d
     ·exact .inr h2
     ·exact .inl (List.mem_singleton.1 (Classical.byContradiction fun h3=>h1 (iff_of_false h3 h2)))
    ·rintro (rfl | h1) h2
     ·exact hmd (h2.1 (by simp))
     ·have:=h2.2 h1
      rw [List.mem_singleton.1 this] at h1
      exact hmd h1
   refine ⟨Ag [m] d,hc,fun y hy=>?_,by rw [I5 hf,M3,d3,Iv (hf m)],?_⟩
   ·rcases (hmem y).1 hy with rfl | h1
    ·simp
    ·exact List.mem_cons_of_mem _ (d2 y h1)
   ·rw [F5 hc]
    refine ⟨(hmem m).2 (.inl rfl),fun y hy=>?_⟩
    rcases (hmem y).1 hy with rfl | h1
    ·exact Int.le_refl _
    ·have:=p1 y (d2 y h1);omega
  ·have hme : m ∈ es := by
     rcases List.mem_cons.1 h with h1 | h1
     ·exact absurd h1 e
     ·exact h1
   have hn2:m∉NR f es:=fun h1=>hn (by
    unfold NR
    split
    ·exact h1
    ·exact List.mem_cons_of_mem _ h1)
   obtain ⟨c,c1,c2,c3,c4⟩:=fH hf es p2 m hme hn2
   exact ⟨c,c1,fun y hy=>List.mem_cons_of_mem _ (c2 y hy),c3,c4⟩
theorem Sl (f:Int→List Int):∀ es:List Int,(NR f es).Sublist es
 | []=>by unfold NR;exact .slnil
 | x :: es=>by
  unfold NR
  split
  ·exact .cons _ (Sl f es)
  ·exact .cons_cons _ (Sl f es)
theorem Vs:∀ {l es:List Int},l.Sublist es→es.Nodup→l.length+(es.filter fun e=>decide (e∉l)).length=es.length
 | _,_,.slnil,_=>rfl
 | l,a :: es,.cons _ h,hn=>by
  obtain ⟨n1,n2⟩:=List.nodup_cons.1 hn
  have:=Vs h n2
  have ha:a∉l:=fun h1=>n1 (h.subset h1)
  rw [List.filter_cons,if_pos (by simpa using ha)]
  simp only [List.length_cons]
  omega
 | a :: l,_ :: es,.cons_cons _ h,hn=>by
  obtain ⟨n1,n2⟩:=List.nodup_cons.1 hn
  have:=Vs h n2
  rw [List.filter_cons,if_neg (by simp)]
  have hc:(es.filter fun e=>decide (e∉a :: l))=es.filter fun e=>decide (e∉l):=List.filter_congr fun x hx=>by
   have:x≠a:=fun e=>n1 (e ▸ hx)
   simp [this]
  rw [hc]
  simp only [List.length_cons]
  omega
theorem Q8:∀ {A B:List Int},A.Nodup→(∀ x∈A,x∈B)→A.length≤B.length
 | [],_,_,_=>Nat.zero_le _
 | a :: A,B,hn,h=>by
  obtain ⟨n1,n2⟩:=List.nodup_cons.1 hn
  have hb:=h a (by simp)
  have:=Q8 (A:=A) (B:=B.erase a) n2 fun x hx=>by
   have hxa:x≠a:=fun e=>n1 (e ▸ hx)
   exact (List.mem_erase_of_ne hxa).2 (h x (by simp [hx]))
  rw [List.length_erase_of_mem hb] at this
  have:=List.length_pos_of_mem hb
  simp only [List.length_cons]
  omega
theorem Ae0 {A B:List Int}(hn:A.Nodup)(h:∀ x∈A,x∈B)(hl:B.length≤A.length):∀ x∈B,x∈A:=fun x hx=>Classical.byContradiction fun hxa=>by
 have:=Q8 (A:=x :: A) (B:=B) (List.nodup_cons.2 ⟨hxa,hn⟩) fun y hy=>by
  rcases List.mem_cons.1 hy with rfl | h1
  ·exact hx
  ·exact h y h1
 simp only [List.length_cons] at this
 omega
theorem gY {E2:List Int}(hf:∀ e,sst (f e))(hcyc:∀ g∈E2,bd f (f g)=[]∧∀ e∈f g,e∈es){v:List Int}(h:Sp (fun g=>∃ e∈E2,g=f e) v):sst v∧bd f v=[]∧∀ e∈v,e∈es:=by
 induction h with
 | zero=>exact ⟨D9,La,by simp⟩
 | add hg _ ih=>
  obtain ⟨e,he,rfl⟩:=hg
  obtain ⟨i1,i2,i3⟩:=ih
  obtain ⟨h1,h2⟩:=hcyc e he
  refine ⟨Bn (hf e) i1,by rw [I5 hf,h1,i2,Hu],fun x hx=>?_⟩
  have h3:=(Df (hf e) i1 x).1 hx
  by_cases h4:x∈f e
  ·exact h2 x h4
  ·exact i3 x (Classical.byContradiction fun h5=>h3 (iff_of_false h4 h5))
theorem lG {E2 : List Int} (hf : ∀ e, sst (f e)) (hes : es.Pairwise (· > ·)) (hcyc : ∀ g ∈ E2, bd f (f g) = [] ∧ ∀ e ∈ f g, e ∈ es) {P : List (List Int × List Int)} (hP : Piv List.getLast? f E2 P)
    (hred:∀ c,sst c→(∀ e∈c,e∈es)→∃ y,Adds P ([],c) y∧Fp List.getLast? P y):
    (∃ c,sst c∧(∀ e∈c,e∈es)∧bd f c=[]∧¬ Sp (fun g=>∃ e∈E2,g=f e) c) ↔ (NR f es).length+(NR f E2).length<es.length:=by
 have hnd:es.Nodup:=hes.imp fun h e=>by omega
 have hcnt:=Vs (Sl f es) hnd
 have hlen:=hP.len
 have hlst:∀ c:List Int,c≠[]→∃ m,c.getLast? = some m:=fun c hc=>by
  cases h:c.getLast? with
  | none=>exact absurd ((lead_last.1 c).1 h) hc
  | some m=>exact ⟨m,rfl⟩
 have hpc:∀ p∈P,sst p.2∧bd f p.2=[]∧∀ e∈p.2,e∈es:=fun p hp=>gY hf hcyc ((hP.sp _).1 (.one (List.mem_map.2 ⟨p,hp,rfl⟩)))
 have hLs:∀ p∈P,p.2.getLast? = some (p.2.getLast?.getD 0):=fun p hp=>by
  obtain ⟨m,hm⟩:=hlst _ (hP.ok p hp).2.2.1
  rw [hm];rfl
 have hLn:(P.map fun p=>p.2.getLast?.getD 0).Nodup:=by
  have hd:=List.pairwise_map.1 hP.dis
  have:=hd.imp_of_mem (S:=fun p q=>p.2.getLast?.getD 0≠q.2.getLast?.getD 0) fun {p q} hp hq h e=>h (by rw [hLs p hp,hLs q hq,e])
  exact List.pairwise_map.2 this
 have hLK:∀ x∈P.map (fun p=>p.2.getLast?.getD 0),x∈es.filter fun e=>decide (e∉NR f es):=fun x hx=>by
  obtain ⟨p,hp,rfl⟩:=List.mem_map.1 hx
  obtain ⟨p1,p2,p3⟩:=hpc p hp
  have hm:=hLs p hp
  exact List.mem_filter.2 ⟨p3 _ ((F5 p1).1 hm).1,decide_eq_true (Um hf es hes _ p1 p3 p2 _ hm)⟩
 have hle:=Q8 hLn hLK
 rw [List.length_map] at hle
 constructor
 ·rintro ⟨c,c1,c2,c3,c4⟩
  refine Classical.byContradiction fun hlt=>?_
  have hfull:=Ae0 hLn hLK (by rw [List.length_map];omega)
  obtain ⟨y,hy,hd⟩:=hred c c1 c2
  have h3:bd f []=Ag c c:=by rw [La,Iv c1]
  have hz:=hy.zero lead_last hP hf D9 c1 c1 h3 hd
  have hyn:y.2≠[]:=fun h=>c4 (hz.1 h)
  obtain ⟨i1,i2,i3,i4,s,i5,i6⟩:=hy.keep hP hf D9 c1 c1 h3
  obtain ⟨s1,s2,s3⟩:=gY hf hcyc i5
  have hyc:y.2=Ag c s:=by
   have:c=Ag y.2 s:=i6
   rw [this,Ha i2 s1 s1,Iv s1,G9]
  obtain ⟨m,hm⟩:=hlst _ hyn
  have hmem:∀ e∈y.2,e∈es:=fun e he=>by
   rw [hyc] at he
   have h5:=(Df c1 s1 e).1 he
   by_cases h6:e∈c
   ·exact c2 e h6
   ·exact s3 e (Classical.byContradiction fun h7=>h5 (iff_of_false h6 h7))
  have hmk:=Um hf es hes _ i2 hmem (by rw [hyc,I5 hf,c3,s2,Hu]) m hm
  have:=hfull m (List.mem_filter.2 ⟨hmem m ((F5 i2).1 hm).1,decide_eq_true hmk⟩)
  obtain ⟨p,hp,hpm⟩:=List.mem_map.1 this
  rcases hd with hd | hd
  ·exact hyn hd
  ·exact hd p hp (by rw [hLs p hp,hpm,hm])
 ·intro hlt
  refine Classical.byContradiction fun hno=>?_
  have hall:∀ m∈es.filter (fun e=>decide (e∉NR f es)),m∈P.map fun p=>p.2.getLast?.getD 0:=fun m hm=>by
   obtain ⟨m1,m2⟩:=List.mem_filter.1 hm
   obtain ⟨c,c1,c2,c3,c4⟩:=fH hf es hes m m1 (of_decide_eq_true m2)
   have hcn:c≠[]:=fun e=>by rw [e] at c4;cases c4
   have hsp:Sp (fun g=>∃ e∈E2,g=f e) c:=Classical.byContradiction fun hs=>hno ⟨c,c1,c2,c3,hs⟩
   obtain ⟨q,hq,he⟩:=Un lead_last (P.map (·.2)) (fun p hp=>by
    obtain ⟨q,hq,rfl⟩:=List.mem_map.1 hp
    exact ⟨(hP.ok q hq).2.1,(hP.ok q hq).2.2.1⟩) hP.dis c ((hP.sp _).2 hsp) hcn
   obtain ⟨p,hp,rfl⟩:=List.mem_map.1 hq
   refine List.mem_map.2 ⟨p,hp,?_⟩
   rw [he,c4]
   rfl
  have hKn:(es.filter fun e=>decide (e∉NR f es)).Nodup:=hnd.sublist List.filter_sublist
  have:=Q8 hKn hall
  rw [List.length_map] at this
  omega
end
end
section
open Go.Gov
open Classical
theorem fG {P:List Pr}(hok:∀ p∈P,sst p.2∧p.2≠[]∧inB p.2):∀ (n:Nat) (x:Pr),Hs x.2≤n→sst x.2→inB x.2→∃ y,Adds P x y∧Fp List.getLast? P y∧sst y.2∧inB y.2:=by
 have tr:∀ {a b c:Pr},Adds P a b→Adds P b c→Adds P a c:=fun {a b c} h1 h2=>by
  induction h2 with
  | refl=>exact h1
  | step _ hp ih=>exact .step ih hp
 intro n
 induction n with
 | zero=>
  intro x hn hs hb
  refine ⟨x,.refl x,.inl (Classical.byContradiction fun hx=>?_),hs,hb⟩
  have hl:0<x.2.length:=List.length_pos_iff.2 hx
  have h1:=En hl
  have h2:=hb _ ((F5 hs).1 h1).1
  unfold Hs at hn
  rw [h1] at hn
  dsimp only at hn
  omega
 | succ n ih=>
  intro x hn hs hb
  by_cases hd:Fp List.getLast? P x
  ·exact ⟨x,.refl x,hd,hs,hb⟩
  ·have hx:x.2≠[]:=fun e=>hd (.inl e)
   obtain ⟨p,hp,he⟩:∃ p∈P,p.2.getLast? = x.2.getLast?:=Classical.byContradiction fun hno=>hd (.inr fun p hp e=>hno ⟨p,hp,e⟩)
   obtain ⟨p1,p2,p3⟩:=hok p hp
   have hxl:0<x.2.length:=List.length_pos_iff.2 hx
   have hpl:0<p.2.length:=List.length_pos_iff.2 p2
   rw [En hxl,En hpl] at he
   have hlt:=Lv hs p1 hb hxl hpl (Option.some.inj he)
   obtain ⟨y,y1,y2,y3,y4⟩:=ih (Ag x.1 p.1,Ag x.2 p.2) (by dsimp only;omega) (Bn hs p1) (Em hs p1 hb p3)
   exact ⟨y,tr (.step (.refl x) hp) y1,y2,y3,y4⟩
theorem eS {f:Int→List Int}(hf:∀ e,sst (f e))(hb:∀ e,inB (f e)):∀ es:List Int,∃ P,Piv List.getLast? f es P∧∀ p∈P,inB p.2
 | []=>⟨[],Piv.nil,by simp⟩
 | e :: es=>by
  obtain ⟨P,hP,hPb⟩:=eS hf hb es
  have hok:∀ p∈P,sst p.2∧p.2≠[]∧inB p.2:=fun p hp=>⟨(hP.ok p hp).2.1,(hP.ok p hp).2.2.1,hPb p hp⟩
  obtain ⟨y,y1,y2,y3,y4⟩:=fG hok _ ([e],f e) (Nat.le_refl _) (hf e) (hb e)
  obtain ⟨n1,n2⟩:=hP.next lead_last y1 hf y2
  by_cases hy:y.2=[]
  ·exact ⟨P,n1 hy,hPb⟩
  ·refine ⟨P++[y],n2 hy,fun p hp=>?_⟩
   rcases List.mem_append.1 hp with h | h
   ·exact hPb p h
   ·rw [List.mem_singleton.1 h];exact y4
theorem mem_plc {R:List Int}{i e:Int}:e∈Am R i ↔ 0≤e∧e<R.length∧R.getD e.toNat 0=i:=mem_plcN
theorem oO {r:Int}{R:List Int}{B:List (List Int)}(hp:IsPos r R B)(he:Cd R B){i:Int}(hi:1<i):∀ g∈Am R i,bd (Av R B) (Av R B g)=[]∧∀ e∈Av R B g,e∈Am R (i - 1):=fun g hg=>by
 obtain ⟨g1,g2,g3⟩:=mem_plc.1 hg
 have hg4:((g.toNat:Nat):Int)=g:=by omega
 refine ⟨?_,fun e hm=>?_⟩
 ·have:=(he g.toNat (by omega)).2 (by omega)
  rw [hg4] at this
  exact this
 ·have hm2:=List.mem_filter.1 hm
  have hbl:=Pd hp g e hm
  obtain ⟨k,hk,hke⟩:=List.mem_iff_getElem.1 hm2.1
  have h1:=hp.rows.1 g.toNat (by have:=hp.1.2.2.2;omega) k hk
  rw [B8 _ k hk,hke] at h1
  have h2:R.getD e.toNat 0=R.getD g.toNat 0 - 1:=by
   have:=hm2.2
   unfold Cg at this
   simpa using this
  exact mem_plc.2 ⟨h1.1,by omega,by omega⟩
theorem lJ {m k:Nat}(hm:m<32768)(hk:k<15):Er m k=decide (m / 2^k%2=1):=by
 have h1:Da .shr .i64 (m:Int) (k:Int)=((m / 2^k:Nat):Int):=by
  show (m:Int).fdiv (2^(min (k:Int).toNat 64))=_
  rw [Int.toNat_natCast,Nat.min_eq_left (by omega),Int.fdiv_eq_ediv_of_nonneg _ (by exact_mod_cast Nat.zero_le _)]
  push_cast
  rfl
 have hle:m / 2^k≤m:=Nat.div_le_self _ _
 unfold Er
 rw [h1]
 generalize m / 2^k=y at *
 have h2:(BitVec.ofInt 64 (y:Int) &&& BitVec.ofInt 64 1).toNat=y%2:=by
  rw [BitVec.toNat_and,← Nat.and_one_is_mod]
  congr 1
  simp [BitVec.toNat_ofInt]
  omega
 have h3:Co .and .i64 (y:Int) 1=((y%2:Nat):Int):=by
  show IntKind.i64.wrap _=_
  rw [show IntKind.i64.bits=64 from rfl,h2]
  generalize hz:y%2=z
  have:z<2:=by omega
  show (if (true&&decide ((z:Int)%2^64 ≥ 2^63))=true then (z:Int)%2^64 - 2^64 else (z:Int)%2^64)=(z:Int)
  rw [if_neg (by simp;omega)]
  omega
 rw [h3]
 by_cases h:y%2=1
 ·simp [h]
 ·have:y%2=0:=by omega
  simp [this]
theorem dD:∀ (n:Nat) (p:Nat→Bool),∃ m,m<2^n∧∀ k,k<n→(m / 2^k%2=1 ↔ p k=true)
 | 0,_=>⟨0,by decide,fun k hk=>absurd hk (Nat.not_lt_zero _)⟩
 | n+1,p=>by
  obtain ⟨m,h1,h2⟩:=dD n fun k=>p (k+1)
  refine ⟨(if p 0 then 1 else 0)+2*m,?_,fun k hk=>?_⟩
  ·rw [Nat.pow_succ]
   split<;>omega
  ·cases k with
   | zero=>
    rw [Nat.pow_zero,Nat.div_one]
    cases p 0<;>simp<;>omega
   | succ k=>
    rw [Nat.pow_succ,Nat.mul_comm (2^k) 2,← Nat.div_div_eq_div_mul]
    have:((if p 0=true then 1 else 0)+2*m) / 2=m:=by split<;>omega
    rw [this]
    exact h2 k (by omega)
theorem lO {R:List Int}{B:List (List Int)}{es:List Int}{m:Nat}(h:(Ch R B es m).isSome=true):(Ch R B es (m+1)).isSome=true:=by
 unfold Ch Cn
 split
 ·rfl
 ·exact h
theorem Wn {R:List Int}{B:List (List Int)}{es:List Int}{m:Nat}(h:(Ch R B es m).isSome=true):∀ k,(Ch R B es (m+k)).isSome=true
 | 0=>h
 | k+1=>lO (Wn h k)
theorem Wo (R:List Int)(B:List (List Int))(es:List Int):∀ m b,Ch R B es m=some b→∃ k,k<m∧b=Bz es k es.length∧Bc R B b=[]∧Mr R B b
 | 0,b,hb=>by simp [Ch] at hb
 | m+1,b,hb=>by
  unfold Ch Cn at hb
  split at hb
  ·rename_i hu
   obtain rfl:=Option.some.inj hb
   exact ⟨m,by omega,rfl,hu.2.1,hu.2.2⟩
  ·obtain ⟨k,k1,k2⟩:=Wo R B es m b hb
   exact ⟨k,by omega,k2⟩
theorem mM {es c:List Int}(he:sst es)(h14:es.length≤14)(hc:sst c)(hs:∀ e∈c,e∈es):∃ m,m<2^es.length∧Bz es m es.length=c:=by
 obtain ⟨m,m1,m2⟩:=dD es.length fun k=>decide (es.getD k 0∈c)
 have hpw:2^es.length≤16384:=Vf (by omega)
 refine ⟨m,m1,Ju (J1 he m es.length (Nat.le_refl _)) hc fun e=>?_⟩
 have hbit:∀ k,k<es.length→(Er m k=true ↔ es.getD k 0∈c):=fun k hk=>by
  rw [lJ (by omega) (by omega),decide_eq_true_iff,m2 k hk,decide_eq_true_iff]
 unfold Bz
 constructor
 ·intro h
  obtain ⟨k,hk,rfl⟩:=List.mem_map.1 h
  obtain ⟨k1,k2⟩:=List.mem_filter.1 hk
  exact (hbit k (List.mem_range.1 k1)).1 k2
 ·intro h
  obtain ⟨k,hk,hke⟩:=List.mem_iff_getElem.1 (hs e h)
  refine List.mem_map.2 ⟨k,List.mem_filter.2 ⟨List.mem_range.2 hk,(hbit k hk).2 ?_⟩,?_⟩
  ·rw [B8 es k hk,hke];exact h
  ·rw [B8 es k hk,hke]
theorem cG {r:Int}{R:List Int}{B:List (List Int)}(hp:IsPos r R B)(h14:(Am R 1).length≤14){c:List Int}(h:B3 R B=some c):sst c∧(∀ e∈c,e∈Am R 1)∧Bc R B c=[]∧Mr R B c∧c≠[]:=by
 obtain ⟨k,k1,k2,k3,k4⟩:=Wo R B (Am R 1) _ c h
 refine ⟨k2 ▸ J1 (Jn R 1 R.length) k _ (Nat.le_refl _),fun e he=>?_,k3,k4,(Pg R B _ h14 _ c h).1⟩
 rw [k2] at he
 obtain ⟨j,hj,rfl⟩:=N3 he (Nat.le_refl _)
 rw [B8 _ j hj]
 exact List.getElem_mem hj
theorem uO {r:Int}{R:List Int}{B:List (List Int)}(hp:IsPos r R B)(h14:(Am R 1).length≤14)(h:B3 R B=none){c:List Int}(hc:sst c)(hs:∀ e∈c,e∈Am R 1)(hb:Bc R B c=[])(hn:Mr R B c):False:=by
 obtain ⟨m,m1,m2⟩:=mM (Jn R 1 R.length) h14 hc hs
 have h1:(Ch R B (Am R 1) (m+1)).isSome=true:=by
  unfold Ch Cn
  split
  ·rfl
  ·rename_i hu
   have m2' : Bz (Am R 1) m (Am R 1).length=c:=m2
   rw [m2'] at hu
   cases hbm:Ch R B (Am R 1) m with
   | some b=>rfl
   | none=>
    exfalso
    refine hu ⟨fun b hb=>?_,hb,hn⟩
    rw [hbm] at hb
    cases hb
 have h2:=Wn h1 (2^(Am R 1).length - (m+1))
 have e:m+1+(2^(Am R 1).length - (m+1))=2^(Am R 1).length:=by
  have:m<2^(Am R 1).length:=m1
  omega
 rw [e] at h2
 unfold B3 at h
 rw [h] at h2
 cases h2
theorem Abc (R:List Int)(i:Int):(Am R i).reverse.Pairwise (· > ·):=List.pairwise_reverse.2 (Jn R i R.length)
theorem uS {r:Int}{R:List Int}{B:List (List Int)}(hp:IsPos r R B)(he:Cd R B)(h14:(Am R 1).length≤14):(B3 R B).isSome=true ↔ Fj R B 1+Fj R B 2<(Am R 1).length:=by
 have hf:∀ e,sst (Av R B e):=E9 hp.rows.2
 obtain ⟨P,hP,hPb⟩:=eS hf (Pd hp) (Am R 2).reverse
 have hok:∀ p∈P,sst p.2∧p.2≠[]∧inB p.2:=fun p hp=>⟨(hP.ok p hp).2.1,(hP.ok p hp).2.2.1,hPb p hp⟩
 have hcyc:∀ g∈(Am R 2).reverse,bd (Av R B) (Av R B g)=[]∧∀ e∈Av R B g,e∈(Am R 1).reverse:=fun g hg=>by
  obtain ⟨h1,h2⟩:=oO hp he (i:=2) (by decide) g (List.mem_reverse.1 hg)
  exact ⟨h1,fun e hm=>List.mem_reverse.2 (h2 e hm)⟩
 have hin:∀ c:List Int,(∀ e∈c,e∈(Am R 1).reverse)→inB c:=fun c hc e hm=>by
  obtain ⟨a1,a2,_⟩:=mem_plc.1 (List.mem_reverse.1 (hc e hm))
  have:=hp.1.2.2.1
  omega
 have hb:=lG hf (Abc R 1) hcyc hP fun c c1 c2=>by
  obtain ⟨y,y1,y2,_⟩:=fG hok _ ([],c) (Nat.le_refl _) c1 (hin c c2)
  exact ⟨y,y1,y2⟩
 rw [List.length_reverse] at hb
 refine Iff.trans ?_ hb
 constructor
 ·intro h
  obtain ⟨c,hc⟩:=Option.isSome_iff_exists.1 h
  obtain ⟨c1,c2,c3,c4,c5⟩:=cG hp h14 hc
  exact ⟨c,c1,fun e hm=>List.mem_reverse.2 (c2 e hm),c3,c4⟩
 ·rintro ⟨c,c1,c2,c3,c4⟩
  cases hl:B3 R B with
  | some c=>rfl
  | none=>exact (uO hp h14 hl c1 (fun e hm=>List.mem_reverse.1 (c2 e hm)) c3 c4).elim
end
end Go.Proofs.YtcneanpkpmfaiaaGreat
