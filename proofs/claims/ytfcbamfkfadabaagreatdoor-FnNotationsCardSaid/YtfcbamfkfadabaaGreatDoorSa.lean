/- Texts that belong together. -/
import Derived.Lib.ReplaceLaws
import Derived.Test.YtfcbamfkfadabaaGreatDoorT9
set_option linter.unusedSimpArgs false
set_option linter.unusedVariables false
set_option maxRecDepth 100000
namespace Go.Nt
section
open Go.Lib
def rls:List (List UInt8×List UInt8):=
 [([100,100],[]),([97,100],[97]),([100,84],[84]),([100,67],[79]),([100,79],[67]),([100,68],[73]),([100,73],[68]),([100,72],[90]),([100,90],[72]),
  ([97,84],[79]),([97,79],[97,67]),([97,73],[97,68]),([97,90],[97,72])]
def rep (p q s:List UInt8):List UInt8:=if index s p = -1 then s else s.take (index s p).toNat++q++s.drop ((index s p).toNat+p.length)
def stpR:List (List UInt8×List UInt8)→List UInt8→Option (List UInt8)
 | [],_=>none
 | x :: r,s=>if index s x.1 = -1 then stpR r s else some (rep x.1 x.2 s)
def z2 (s:List UInt8):Bool:=hasSuffix s [90,50]
def stp (s:List UInt8):Option (List UInt8):=match stpR rls s with
 | some t=>some t
 | none=>if z2 s=true then some (s.take (s.length - 2)++[72,50]) else none
def wt (b:UInt8):Nat:=if b=79∨b=73∨b=90 then 3 else 2
def mes (s:List UInt8):Nat:=(s.map wt).sum
theorem mes_app (a b:List UInt8):mes (a++b)=mes a+mes b:=by simp [mes]
def ruleOk (x:List UInt8×List UInt8):Prop:=mes x.2<mes x.1∧x.2.length≤x.1.length∧x.1.length=2
theorem rls_ok:∀ x∈rls,ruleOk x:=by unfold ruleOk;decide
theorem occ_split {s p:List UInt8}{i:Nat}(h:occAt s p i=true):s=s.take i++p++s.drop (i+p.length):=by
 unfold occAt at h
 obtain ⟨r,hr⟩:=List.isPrefixOf_iff_prefix.1 h
 have h1:s.drop (i+p.length)=r:=by
  rw [← List.drop_drop,← hr,List.drop_left]
 rw [h1,List.append_assoc,hr,List.take_append_drop]
theorem rep_hit {s p q:List UInt8}(h:index s p ≠ -1):∃ i:Nat,index s p=i∧s=s.take i++p++s.drop (i+p.length)∧rep p q s=s.take i++q++s.drop (i+p.length):=by
 rcases index_spec s p with ⟨h1,_⟩ | ⟨i,h1,h2,h3,_⟩
 ·exact absurd h1 h
 ·refine ⟨i,h1,occ_split h3,?_⟩
  unfold rep
  rw [if_neg h,h1,Int.toNat_natCast]
theorem rep_less {x:List UInt8×List UInt8}{s:List UInt8}(hx:ruleOk x)(h:index s x.1 ≠ -1):mes (rep x.1 x.2 s)<mes s∧(rep x.1 x.2 s).length≤s.length:=by
 obtain ⟨i,_,h2,h3⟩:=rep_hit (q:=x.2) h
 obtain ⟨h4,h5,_⟩:=hx
 rw [h3]
 have e1:mes s=mes (s.take i)+mes x.1+mes (s.drop (i+x.1.length)):=by rw [← mes_app,← mes_app,← h2]
 have e2:s.length=(s.take i).length+x.1.length+(s.drop (i+x.1.length)).length:=by rw [← List.length_append,← List.length_append,← h2]
 rw [mes_app,mes_app,List.length_append,List.length_append]
 omega
theorem rep_miss {p q s:List UInt8}(h:index s p = -1):rep p q s=s:=by unfold rep;rw [if_pos h]
theorem rep_ne {x:List UInt8×List UInt8}{s:List UInt8}(hx:ruleOk x)(h:index s x.1 ≠ -1):rep x.1 x.2 s≠s:=fun e=>by
 have:=(rep_less hx h).1
 rw [e] at this
 omega
theorem stpR_some:∀ {l:List (List UInt8×List UInt8)} {s t:List UInt8},(∀ x∈l,ruleOk x)→stpR l s=some t→mes t<mes s∧t.length≤s.length
 | [],_,_,_,h=>by cases h
 | x :: r,s,t,hl,h=>by
  unfold stpR at h
  split at h
  ·exact stpR_some (fun y hy=>hl y (by simp [hy])) h
  ·rename_i hn
   cases h
   exact rep_less (hl x (by simp)) hn
theorem z2_split {s:List UInt8}(h:z2 s=true):2≤s.length∧s=s.take (s.length - 2)++[90,50]:=by
 unfold z2 hasSuffix at h
 obtain ⟨r,hr⟩:=List.isSuffixOf_iff_suffix.1 h
 subst hr
 simp
theorem stp_some {s t:List UInt8}(h:stp s=some t):mes t<mes s∧t.length≤s.length:=by
 unfold stp at h
 split at h
 ·rename_i u hu
  cases h
  exact stpR_some rls_ok hu
 ·split at h
  ·rename_i hz
   cases h
   obtain ⟨h1,h2⟩:=z2_split hz
   have e1:mes s=mes (s.take (s.length - 2))+mes [90,50]:=by rw [← mes_app,← h2]
   have e3:mes [90,50]=5:=rfl
   have e4:mes [72,50]=4:=rfl
   rw [mes_app]
   simp only [List.length_append,List.length_take,List.length_cons,List.length_nil]
   omega
  ·cases h
def smp (s:List UInt8):List UInt8:=match h:stp s with
 | none=>s
 | some t=>smp t
termination_by mes s
decreasing_by exact (stp_some h).1
theorem smp_none {s:List UInt8}(h:stp s=none):smp s=s:=by
 rw [smp]
 split
 ·rfl
 ·rename_i t ht
  rw [h] at ht
  cases ht
theorem smp_some {s t:List UInt8}(h:stp s=some t):smp s=smp t:=by
 rw [smp]
 split
 ·rename_i ht
  rw [h] at ht
  cases ht
 ·rename_i u ht
  rw [h] at ht
  cases ht
  rfl
theorem stpR_drop {l:List (List UInt8×List UInt8)}{i:Nat}(h:i<l.length)(s:List UInt8):stpR (l.drop i) s=if index s (l[i]).1 = -1 then stpR (l.drop (i+1)) s else some (rep (l[i]).1 (l[i]).2 s):=by
 rw [List.drop_eq_getElem_cons h,stpR]
theorem stpR_end {l:List (List UInt8×List UInt8)}{i:Nat}(h:l.length≤i)(s:List UInt8):stpR (l.drop i) s=none:=by
 rw [List.drop_eq_nil_of_le h,stpR]
theorem stp_rule {s t:List UInt8}(h:stpR rls s=some t):stp s=some t:=by unfold stp;rw [h]
theorem stp_z2 {s:List UInt8}(h:stpR rls s=none)(hz:z2 s=true):stp s=some (s.take (s.length - 2)++[72,50]):=by unfold stp;rw [h];exact if_pos hz
theorem stp_end {s:List UInt8}(h:stpR rls s=none)(hz:z2 s≠true):stp s=none:=by unfold stp;rw [h];exact if_neg hz
theorem smp_len (s:List UInt8):(smp s).length≤s.length:=by
 rw [smp]
 split
 ·exact Nat.le_refl _
 ·rename_i t ht
  exact Nat.le_trans (smp_len t) (stp_some ht).2
termination_by mes s
decreasing_by exact (stp_some (by assumption)).1
theorem replace_one {s p q:List UInt8}(hp:p≠[])(hne:p≠q):replace s p q 1=rep p q s:=by
 have hb:(p == q)=false:=by simpa using hne
 unfold replace
 rw [if_neg (by rw [hb];exact Bool.false_ne_true)]
 unfold replaceNum
 by_cases hm:index s p = -1
 ·have h0:count s p=0:=count_miss hm
  rw [h0,if_pos (by omega),replaceK,rep_miss hm]
 ·obtain ⟨i,hi,_,h3⟩:=rep_hit (q:=q) hm
  have h2:=count_hit hp hi
  rw [if_neg (by omega),show (1:Int).toNat=1 from rfl,replaceK_hit p q 0 s i hi,replaceK,h3]
theorem rule_ne {x:List UInt8×List UInt8}(hx:ruleOk x):x.1≠[]∧x.1≠x.2:=⟨fun e=>(by have:=hx.2.2;rw [e] at this;cases this),fun e=>(by have:=hx.1;rw [e] at this;omega)⟩
theorem replace_rule {x:List UInt8×List UInt8}(hx:ruleOk x)(s:List UInt8):replace s x.1 x.2 1=rep x.1 x.2 s:=replace_one (rule_ne hx).1 (rule_ne hx).2
theorem trim_z2 {s:List UInt8}(h:z2 s=true):trimSuffix s [90,50]=s.take (s.length - 2):=by
 unfold trimSuffix
 unfold z2 at h
 rw [if_pos h]
 rfl
end
section
open Go.Lib
def Bsc (s:List UInt8):Prop:=∀ b∈s,opB b=true→b=100∨b=97∨b=116∨b=99
theorem Bsc.app {a b:List UInt8}(h:Bsc a)(k:Bsc b):Bsc (a++b):=fun x hx=>(List.mem_append.1 hx).elim (h x) (k x)
theorem Bsc.take {a:List UInt8}(h:Bsc a)(n:Nat):Bsc (a.take n):=fun x hx=>h x (List.mem_of_mem_take hx)
theorem Bsc.drop {a:List UInt8}(h:Bsc a)(n:Nat):Bsc (a.drop n):=fun x hx=>h x (List.mem_of_mem_drop hx)
theorem word_basic {b:UInt8}(h:b=100∨b=97∨b=116∨b=99):wordOf b=[b]:=by
 unfold wordOf
 rw [if_pos h]
theorem flat_basic:∀ (l:List UInt8),(∀ b∈l,b=100∨b=97∨b=116∨b=99)→(l.flatMap fun b=>(wordOf b).reverse)=l
 | [],_=>rfl
 | b :: l,h=>by
  rw [List.flatMap_cons,flat_basic l fun c hc=>h c (by simp [hc]),word_basic (h b (by simp))]
  rfl
theorem takeWhile_op:∀ {l:List UInt8} {b:UInt8},b∈l.takeWhile opB→b∈l∧opB b=true
 | [],_,h=>by cases h
 | c :: l,b,h=>by
  by_cases hc:opB c=true
  ·rw [List.takeWhile_cons_of_pos hc] at h
   rcases List.mem_cons.1 h with rfl | h
   ·exact ⟨by simp,hc⟩
   ·have:=takeWhile_op h
    exact ⟨by simp [this.1],this.2⟩
  ·rw [List.takeWhile_cons_of_neg hc] at h
   cases h
theorem dig_op:∀ b:UInt8,(dig b→opB b=false):=by
 intro b h
 unfold dig at h
 cases ho:opB b with
 | false=>rfl
 | true=>
  unfold opB at ho
  have:=List.contains_iff_mem.1 ho
  simp only [List.mem_cons,List.not_mem_nil,or_false] at this
  rcases this with rfl | rfl | rfl | rfl | rfl | rfl | rfl | rfl | rfl | rfl | rfl | rfl<;>exact absurd h (by decide)
theorem seed_no {s:List UInt8}(h:SeedOk s):∀ b∈s,opB b=false:=by
 rcases h with ⟨b,rfl,hb⟩ | ⟨b,r,rfl,hb,hv⟩
 ·intro x hx
  rw [List.mem_singleton.1 hx]
  unfold seedL at hb
  have:=List.contains_iff_mem.1 hb
  simp only [List.mem_cons,List.not_mem_nil,or_false] at this
  rcases this with rfl | rfl | rfl | rfl | rfl<;>rfl
 ·intro x hx
  rcases List.mem_cons.1 hx with rfl | hx
  ·rcases hb with rfl | rfl<;>rfl
  ·obtain ⟨v,h1,h2,rfl,_⟩:=valS_some hv
   refine dig_op x ?_
   revert hx
   have:∀ v,v<31→∀ x∈tx v,dig x:=by decide
   exact this v (by omega) x
theorem bas_bsc {o s:List UInt8}(h:SeedOk s):Bsc ((o.flatMap fun b=>(wordOf b).reverse)++s):=by
 refine Bsc.app (fun x hx _=>?_) fun x hx ho=>?_
 ·obtain ⟨b,_,h1⟩:=List.mem_flatMap.1 hx
  exact word_mem (List.mem_reverse.1 h1)
 ·rw [seed_no h x hx] at ho
  cases ho
theorem seed_parts {s:List UInt8}(h:SeedOk s):ntO s=[]∧ntS s=s:=by
 have h1:ntO s=[]:=List.eq_nil_iff_forall_not_mem.2 fun b hb=>by
  obtain ⟨h2,h3⟩:=takeWhile_op hb
  rw [seed_no h b h2] at h3
  cases h3
 have h2:=nt_app s
 rw [h1] at h2
 exact ⟨h1,h2⟩
end
end Go.Nt
