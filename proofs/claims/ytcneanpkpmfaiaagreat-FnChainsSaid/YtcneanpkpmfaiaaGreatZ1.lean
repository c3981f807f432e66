/- Texts that belong together. -/
import Derived.Laws.BytesString
import Derived.Lib.ConvBytes
import Derived.Test.YtcneanpkpmfaiaaGreatZb
set_option linter.unusedSimpArgs false
set_option linter.unusedVariables false
namespace Go.Gov
section
variable {P:Program} {N:Nat} {g:Gh} {F:Frame} {H:Heap} {a:Act} {w:World}
theorem Ac1:∀ {l:List AV} {bs:List UInt8},Qm l=some bs→∃ ns:List Int,l=(ns.map fun n=>.val (.int .u8 n))∧bs=ns.map fun n=>UInt8.ofNat n.toNat
 | [],bs,h=>⟨[],rfl,(Option.some.inj h).symm⟩
 | x :: l,bs,h=>by
  unfold Qm at h
  split at h
  ·rename_i he
   cases he
  ·rename_i n l' he
   obtain ⟨rfl,rfl⟩:=List.cons.inj he
   rw [Option.map_eq_some_iff] at h
   obtain ⟨bs', h1,rfl⟩:=h
   obtain ⟨ns,rfl,rfl⟩:=Ac1 h1
   exact ⟨n :: ns,rfl,rfl⟩
  ·cases h
theorem Aet (ns:List Int):∀ s:ByteArray,ns.foldl (fun r n=>r.push (UInt8.ofNat n.toNat)) s=⟨s.data++(ns.map fun n=>UInt8.ofNat n.toNat).toArray⟩:=by
 induction ns with
 | nil=>intro s;simp
 | cons n ns ih=>
  intro s
  rw [List.foldl_cons,ih]
  congr 1
  apply Array.ext'
  simp [ByteArray.push]
theorem sH {o : Oper} {x : Operand} {s t e : TypeId} {K : AV → Heap → Prop} {ext : Bool} (hR : R N g F H a w) (hop : o.op = .convert s t x) (hs : P.underlying s = some (.slice e)) (ht : P.underlying t = some .string) (he : P.underlying e = some (.int .u8))
    (hE:Bz (.str (cX x)) F H K):Cn P a w g H o ext K:=False.elim hE
theorem Aew (hp : HeapR g H w) {w' : World} (hw : ∀ k, k < w.heap.size → w'.heap[k]? = w.heap[k]?) (hs : w.heap.size ≤ w'.heap.size) (ho : w'.os = w.os) (ht : Hk w w') (hout : w'.output = w.output) {b : Nat} (hbb : w.heap.size ≤ b) {arr : Array Value} {elem : EZ arr.size} {cs : List AV} (u : Nat → Value)
    (hb:w'.heap[b]? = some (.cells arr elem.1.1 elem.1.2)) (hbase:cs.length≤arr.size)
    (hc:∀ m,m<cs.length→arr[m]? = some (u m)) (hr:∀ m (h:m<cs.length),Rd w (g.tr H) g.G cs[m] (u m) []):
    ∃ g', Mv g H w g' (H++[some cs]) w' ∧ g'.ρ H.length=some (b,0,arr.size):=by
 have hnew:=P4 hp hs (base:=0) (elem:=elem) (cs:=cs) u (fun _=>[]) (fun k hk _=>hw k hk) hb rfl (by omega) (fun m hm=>by rw [Nat.zero_add];exact hc m hm) hr
  (fun hG=>absurd (hp.low _ hG) (by omega)) (fun o c h hm=>absurd ((hp.obj o c h).all_lt _ hm) (by omega)) (by rw [flatMap_nil];simp) (by rw [flatMap_nil];simp)
 refine ⟨_,⟨hnew.1,⟨ho,ht,hout,hs,fun k hk _=>hw k hk,fun k hk=>?_,fun _ h=>h,fun _ h=>.inl h,fun a ha=>by unfold World.frozen?;rw [hw _ ha]⟩,fun x v h=>hnew.2 x v [] (by simp) h,fun o d h=>.inl (Gx g H _ _ _ o d h)⟩,by simp [Gh.add]⟩
 rcases Kv hk with h | h
 ·exact .inl h
 ·simp only [flatMap_nil,List.mem_cons,List.not_mem_nil,or_false] at h
  exact .inr (by omega)
theorem rU {o : Oper} {x : Operand} {s t e : TypeId} {K : AV → Heap → Prop} {ext : Bool} (hR : R N g F H a w) (hop : o.op = .convert s t x) (hs : P.underlying s = some .string) (ht : P.underlying t = some (.slice e)) (he : P.underlying e = some (.int .u8))
    (hE:Bz (.byt (cX x)) F H K):Cn P a w g H o ext K:=False.elim hE
end
section
variable {P:Program} {N:Nat} {g:Gh} {F:Frame} {H:Heap} {a:Act} {w:World}
theorem Mh {o:Oper}{x:AOp}(hc:Ev P o=some x):Hn P o=some x∨x = .bad:=by
 unfold Ev at hc
 cases h:Hn P o with
 | none=>rw [h] at hc;right;exact (Option.some.inj hc).symm
 | some y=>rw [h] at hc;left;simpa using hc
theorem Vn (pr:Bool)(Bp:Nat)(op:BinOp)(x y:AX):(∃ n,Lc Bp op y=some n∧Kx pr Bp op x y = .nif n x)∨(pr=true∧∃ n:Bool,op=(if n then .neq else .eql)∧Kx pr Bp op x y = .eqp n x y)∨Kx pr Bp op x y = .bin Bp op x y:=by
 unfold Kx
 cases h:Lc Bp op y with
 | some n=>exact .inl ⟨n,rfl,rfl⟩
 | none=>
  right
  cases pr with
  | false=>exact .inr rfl
  | true=>cases op<;>first | exact .inr rfl | exact .inl ⟨rfl,false,rfl,rfl⟩ | exact .inl ⟨rfl,true,rfl,rfl⟩
theorem Rr (pr:Bool)(Bp:Nat)(op:BinOp)(x y:AX):Cs (Kx pr Bp op x y)=true:=by
 rcases Vn pr Bp op x y with ⟨n,_,he⟩ | ⟨_,n,_,he⟩ | he<;>rw [he]<;>rfl
theorem Nh {o:Oper}{x:AOp}(hc:Ev P o=some x)(hq:Cs x=true)(hok:A8 x F H)(hR:R N g F H a w):Bu P a w g H o (Ao x F H):=by
 rcases Mh hc with hc | rfl
 rotate_left
 ·exact hok.elim
 unfold Hn at hc
 split at hc<;>rename_i hop
 ·obtain rfl:=Option.some.inj hc;exact dP hR (.inl hop)
 ·obtain rfl:=Option.some.inj hc;exact dP hR (.inr hop)
 ·obtain rfl:=Option.some.inj hc;exact Aar hR hop hok
 ·split at hc
  ·obtain rfl:=Option.some.inj hc;cases hq
  ·cases hc
 ·obtain rfl:=Option.some.inj hc;cases hq
 ·split at hc
  ·rename_i d i hd hi
   by_cases hg:Cr (some d)=true
   ·rw [if_pos hg] at hc;obtain rfl:=Option.some.inj hc;exact Uk hR hop hd hi hg hok
   ·rw [if_neg hg] at hc;obtain rfl:=Option.some.inj hc;exact dO hR hop hd (by simpa using hg) hok
  ·cases hc
 ·split at hc
  ·obtain rfl:=Option.some.inj hc;cases hq
  ·cases hc
 ·obtain rfl:=Option.some.inj hc
  rcases Vn (Le P _) _ _ _ _ with ⟨n,hn,he⟩ | ⟨hp,n,hn,he⟩ | he
  ·rw [he] at hok ⊢;exact Aap hR hop hn hok
  ·rw [he] at hok ⊢;exact Aac hR hop hp hn hok
  ·rw [he] at hok ⊢;exact zY hR hop hok
 ·obtain rfl:=Option.some.inj hc;exact Aaq hR hop hok
 ·obtain rfl:=Option.some.inj hc;exact Aao hR hop hok
 ·split at hc
  ·rename_i hs ht
   obtain rfl:=Option.some.inj hc;exact Aab hR hop hs ht hok
  ·split at hc
   ·obtain rfl:=Option.some.inj hc;cases hq
   ·cases hc
  ·split at hc
   ·obtain rfl:=Option.some.inj hc;cases hq
   ·cases hc
  ·cases hc
 ·split at hc
  ·rename_i hf
   split at hc
   ·rename_i i hi
    by_cases h0:i.size=0
    ·rw [if_pos h0] at hc;cases hc
    ·rw [if_neg h0] at hc;obtain rfl:=Option.some.inj hc;exact Aae hR hop hf hi h0 hok
   ·cases hc
  ·cases hc
 ·split at hc
  ·rename_i hk
   obtain rfl:=Option.some.inj hc;exact Aai hR hop hk hok
  ·split at hc
   ·rename_i ht
    split at hc
    ·rename_i inf hi
     split at hc
     ·rename_i h0
      obtain rfl:=Option.some.inj hc;exact zX hR hop ht hi h0 hok
     ·cases hc
    ·cases hc
   ·cases hc
 ·split at hc
  ·rename_i ht
   obtain rfl:=Option.some.inj hc;exact Aas hR hop ht hok
  ·rename_i ht
   split at hc
   ·rename_i d inf hd hi
    split at hc
    ·rename_i hg
     obtain rfl:=Option.some.inj hc;exact zW hR hop ht hd hi hg hok
    ·cases hc
   ·cases hc
  ·cases hc
 ·split at hc
  ·split at hc
   ·split at hc
    ·obtain rfl:=Option.some.inj hc;cases hq
    ·cases hc
   ·cases hc
  ·cases hc
 ·split at hc
  ·split at hc
   ·split at hc
    ·obtain rfl:=Option.some.inj hc;cases hq
    ·cases hc
   ·cases hc
  ·cases hc
 ·split at hc
  ·rename_i ht
   obtain rfl:=Option.some.inj hc;exact Aaw hR hop ht hok
  ·split at hc
   ·rename_i hk
    obtain rfl:=Option.some.inj hc;exact Aav hR hop hk hok
   ·split at hc
    ·rename_i ht2
     obtain ⟨inf,hinf,rfl⟩:=Option.map_eq_some_iff.1 hc
     exact Aat hR hop ht2 hinf hok
    ·cases hc
 ·obtain rfl:=Option.some.inj hc;exact Aad hR hop hok
 ·obtain rfl:=Option.some.inj hc;exact Aah hR hop
 ·split at hc
  ·obtain rfl:=Option.some.inj hc;cases hq
  ·split at hc
   ·obtain rfl:=Option.some.inj hc;cases hq
   ·cases hc
  ·cases hc
 ·split at hc
  ·rename_i ha hts
   split at hc
   ·rename_i ht
    obtain rfl:=Option.some.inj hc;exact Aau hR hop ha hts ht hok
   ·rename_i ht
    obtain rfl:=Option.some.inj hc;exact Aaj hR hop ha hts ht hok
   ·obtain rfl:=Option.some.inj hc;cases hq
   ·cases hc
  ·cases hc
 ·split at hc
  ·split at hc
   ·split at hc
    ·split at hc
     ·obtain rfl:=Option.some.inj hc;cases hq
     ·cases hc
    ·cases hc
   ·split at hc
    ·split at hc
     ·obtain rfl:=Option.some.inj hc;cases hq
     ·cases hc
    ·cases hc
  ·cases hc
 ·split at hc
  ·split at hc
   ·cases hc
   ·obtain rfl:=Option.some.inj hc;cases hq
  ·cases hc
 ·obtain rfl:=Option.some.inj hc;cases hq
 ·split at hc
  ·rename_i ha
   obtain rfl:=Option.some.inj hc;exact Aal hR hop ha hok
  ·cases hc
 ·split at hc
  ·rename_i ha
   obtain rfl:=Option.some.inj hc;exact Aam hR hop ha hok
  ·cases hc
 ·split at hc
  ·split at hc
   ·obtain rfl:=Option.some.inj hc;cases hq
   ·cases hc
  ·cases hc
 ·obtain rfl:=Option.some.inj hc;exact Aan hR hop hok
 ·split at hc
  ·rename_i fs z ht hz
   split at hc
   ·rename_i hall
    rw [Option.map_eq_some_iff] at hc
    obtain ⟨pl,hpl,rfl⟩:=hc
    exact zZ hR hop ht hz hall hpl hok
   ·cases hc
  ·rename_i ht hz
   split at hc
   ·rename_i i hi
    obtain rfl:=Option.some.inj hc
    exact Aaa hR hop ht hz hi hok
   ·cases hc
  ·cases hc
 ·split at hc
  ·rename_i hf
   split at hc
   ·rename_i d i hd hi
    by_cases hg:Cr (some d)=true
    ·rw [if_pos hg] at hc;obtain rfl:=Option.some.inj hc;exact Aag hR hop hf hd hi hg hok
    ·rw [if_neg hg] at hc;obtain rfl:=Option.some.inj hc;exact Aaf hR hop hf hd (by simpa using hg) hok
   ·cases hc
  ·cases hc
 ·split at hc
  ·obtain rfl:=Option.some.inj hc;cases hq
  ·cases hc
 ·split at hc
  ·obtain rfl:=Option.some.inj hc;cases hq
  ·cases hc
 ·obtain ⟨kk,k,e,i,z,h1,h2,h3,h4,rfl⟩:=Fj hc
  exact Aak hR hop h1 h2 h3 h4 hok
 ·obtain ⟨kk,k,e,i,z,h1,h2,h3,h4,rfl⟩:=Fj hc;cases hq
 ·obtain ⟨kk,k,e,i,z,h1,h2,h3,h4,rfl⟩:=Fj hc;cases hq
 ·obtain ⟨kk,k,e,i,z,h1,h2,h3,h4,rfl⟩:=Fj hc;cases hq
 ·split at hc
  ·obtain rfl:=Option.some.inj hc;cases hq
  ·cases hc
 ·split at hc
  ·obtain ⟨kk,k,e,i,z,h1,h2,h3,h4,rfl⟩:=Fj hc;cases hq
  ·cases hc
 ·split at hc
  ·obtain rfl:=Option.some.inj hc;cases hq
  ·cases hc
 ·obtain rfl:=Option.some.inj hc;cases hq
 ·obtain rfl:=Option.some.inj hc;cases hq
 ·split at hc
  ·split at hc
   ·rename_i z _ _
    by_cases hz:z.length=1
    ·rw [if_pos hz] at hc;obtain rfl:=Option.some.inj hc;cases hq
    ·rw [if_neg hz] at hc;cases hc
   ·cases hc
  ·cases hc
 ·cases hc
def Zj:AOp→Bool
 | .call .. | .callv ..=>true
 | _=>false
theorem sN {o:Oper}{x:AOp}{K:AV→Heap→Prop}(hc:Ev P o=some x)(hq:Cs x=false)(hcall:Zj x=false)(hE:Bz x F H K)(hR:R N g F H a w):Cn P a w g H o (Pj x) K:=by
 rcases Mh hc with hc | rfl
 rotate_left
 ·cases hq
 unfold Hn at hc
 split at hc<;>rename_i hop
 ·obtain rfl:=Option.some.inj hc;cases hq
 ·obtain rfl:=Option.some.inj hc;cases hq
 ·obtain rfl:=Option.some.inj hc;cases hq
 ·split at hc
  ·rename_i z hz
   obtain rfl:=Option.some.inj hc;exact rQ hR hop hz hE
  ·cases hc
 ·obtain rfl:=Option.some.inj hc;exact rR hR hop hE
 ·split at hc
  ·rename_i d i hd hi
   by_cases hg:Cr (some d)=true
   ·rw [if_pos hg] at hc;obtain rfl:=Option.some.inj hc;cases hq
   ·rw [if_neg hg] at hc;obtain rfl:=Option.some.inj hc;cases hq
  ·cases hc
 ·split at hc
  ·rename_i i hi
   obtain rfl:=Option.some.inj hc;exact sG hR hop hi hE
  ·cases hc
 ·obtain rfl:=Option.some.inj hc;rw [Rr] at hq;cases hq
 ·obtain rfl:=Option.some.inj hc;cases hq
 ·obtain rfl:=Option.some.inj hc;cases hq
 ·split at hc
  ·obtain rfl:=Option.some.inj hc;cases hq
  ·rename_i hs ht
   split at hc
   ·rename_i he
    obtain rfl:=Option.some.inj hc;exact sH hR hop hs ht he hE
   ·cases hc
  ·rename_i hs ht
   split at hc
   ·rename_i he
    obtain rfl:=Option.some.inj hc;exact rU hR hop hs ht he hE
   ·cases hc
  ·cases hc
 ·split at hc
  ·split at hc
   ·split at hc
    ·cases hc
    ·obtain rfl:=Option.some.inj hc;cases hq
   ·cases hc
  ·cases hc
 ·split at hc
  ·obtain rfl:=Option.some.inj hc;cases hq
  ·split at hc
   ·split at hc
    ·split at hc
     ·obtain rfl:=Option.some.inj hc;cases hq
     ·cases hc
    ·cases hc
   ·cases hc
 ·split at hc
  ·obtain rfl:=Option.some.inj hc;cases hq
  ·split at hc
   ·split at hc
    ·obtain rfl:=Option.some.inj hc;cases hq
    ·cases hc
   ·cases hc
  ·cases hc
 ·rename_i t l c
  by_cases hlc:l=c
  ·rw [if_pos hlc] at hc
   split at hc
   ·rename_i k z hk hz
    by_cases hzk:z.length=k
    ·rw [if_pos hzk] at hc;obtain rfl:=Option.some.inj hc;exact aK hR hop (by rw [hlc]) hk hz hzk hE
    ·rw [if_neg hzk] at hc;cases hc
   ·cases hc
  ·rw [if_neg hlc] at hc;cases hc
 ·rename_i t k1 n1 k2 n2
  by_cases hlc:k1=k2∧n1=n2
  ·rw [if_pos hlc] at hc
   split at hc
   ·rename_i k z hk hz
    by_cases hzk:z.length=k
    ·rw [if_pos hzk] at hc;obtain rfl:=Option.some.inj hc;exact aK (l:=.const (.int k1 n1)) hR hop (by rw [hlc.1,hlc.2]) hk hz hzk hE
    ·rw [if_neg hzk] at hc;cases hc
   ·cases hc
  ·rw [if_neg hlc] at hc;cases hc
 ·split at hc
  ·obtain rfl:=Option.some.inj hc;cases hq
  ·split at hc
   ·obtain rfl:=Option.some.inj hc;cases hq
   ·split at hc
    ·obtain ⟨inf,_,rfl⟩:=Option.map_eq_some_iff.1 hc
     cases hq
    ·cases hc
 ·obtain rfl:=Option.some.inj hc;cases hq
 ·obtain rfl:=Option.some.inj hc;cases hq
 ·split at hc
  ·rename_i hk hz
   obtain rfl:=Option.some.inj hc;exact rT hR hop hk (by rw [hz];rfl) hE
  ·rename_i k z _ hk hz
   by_cases hzk:z.length=k∧0<k
   ·rw [if_pos hzk] at hc;obtain rfl:=Option.some.inj hc;exact rS hR hop hk hz hzk.1 hzk.2 hE
   ·rw [if_neg hzk] at hc;cases hc
  ·cases hc
 ·split at hc
  ·rename_i ha hts
   split at hc
   ·obtain rfl:=Option.some.inj hc;cases hq
   ·obtain rfl:=Option.some.inj hc;cases hq
   ·rename_i ht
    obtain rfl:=Option.some.inj hc;exact rZ hR hop ha hts ht hE
   ·cases hc
  ·cases hc
 ·split at hc
  ·rename_i s x t u ha hts
   by_cases htu:t=u
   ·rw [if_pos htu] at hc
    subst htu
    split at hc
    ·rename_i k z hk hz
     by_cases hzk:z.length=k∧0<k
     ·rw [if_pos hzk] at hc;obtain rfl:=Option.some.inj hc;exact aI hR hop ha hts (by obtain ⟨e,i,zv,he,_⟩:=Mp hz;exact .inr ⟨e,he⟩) hk hz hzk.1 hE
     ·rw [if_neg hzk] at hc;cases hc
    ·cases hc
   ·rw [if_neg htu] at hc
    split at hc
    ·rename_i k z hu hk hz
     by_cases hzk:z.length=k∧0<k
     ·rw [if_pos hzk] at hc;obtain rfl:=Option.some.inj hc;exact aI hR hop ha hts (.inl hu) hk hz hzk.1 hE
     ·rw [if_neg hzk] at hc;cases hc
    ·cases hc
  ·cases hc
 ·split at hc
  ·split at hc
   ·cases hc
   ·obtain rfl:=Option.some.inj hc;cases hcall
  ·cases hc
 ·obtain rfl:=Option.some.inj hc;cases hcall
 ·split at hc
  ·obtain rfl:=Option.some.inj hc;cases hq
  ·cases hc
 ·split at hc
  ·obtain rfl:=Option.some.inj hc;cases hq
  ·cases hc
 ·split at hc
  ·rename_i ha hts
   split at hc
   ·rename_i hk
    obtain rfl:=Option.some.inj hc;exact rW hR hop ha hts hk hE
   ·cases hc
  ·cases hc
 ·obtain rfl:=Option.some.inj hc;cases hq
 ·split at hc
  ·split at hc
   ·rw [Option.map_eq_some_iff] at hc
    obtain ⟨pl,hpl,rfl⟩:=hc
    cases hq
   ·cases hc
  ·split at hc
   ·obtain rfl:=Option.some.inj hc;cases hq
   ·cases hc
  ·cases hc
 ·split at hc
  ·split at hc
   ·rename_i d i hd hi
    by_cases hg:Cr (some d)=true
    ·rw [if_pos hg] at hc;obtain rfl:=Option.some.inj hc;cases hq
    ·rw [if_neg hg] at hc;obtain rfl:=Option.some.inj hc;cases hq
   ·cases hc
  ·cases hc
 ·split at hc
  ·rename_i hm
   obtain ⟨k,h1,h2⟩:=Py hm
   obtain rfl:=Option.some.inj hc;exact aL hR hop (.inl rfl) h1 hE
  ·cases hc
 ·split at hc
  ·rename_i hm
   obtain ⟨k,h1,h2⟩:=Py hm
   obtain rfl:=Option.some.inj hc;exact aL hR hop (.inr ⟨_,_,rfl⟩) h1 hE
  ·cases hc
 ·obtain ⟨kk,k,e,i,z,h1,h2,h3,h4,rfl⟩:=Fj hc;cases hq
 ·obtain ⟨kk,k,e,i,z,h1,h2,h3,h4,rfl⟩:=Fj hc
  exact aM hR (.inl hop) h1 h2 hE
 ·obtain ⟨kk,k,e,i,z,h1,h2,h3,h4,rfl⟩:=Fj hc
  exact aM hR (.inr hop) h1 h2 hE
 ·obtain ⟨kk,k,e,i,z,h1,h2,h3,h4,rfl⟩:=Fj hc
  exact sB hR hop h1 h2 h3 h4 hE
 ·split at hc
  ·obtain rfl:=Option.some.inj hc;exact rY (k:=0) (e:=0) hR hop hE
  ·cases hc
 ·split at hc
  ·rename_i ha hts
   obtain ⟨kk,k,e,i,z,h1,h2,h3,h4,rfl⟩:=Fj hc
   exact sA hR hop ha hts h1 h2 hE
  ·cases hc
 ·split at hc
  ·rename_i hm
   obtain ⟨k,h1,h2⟩:=Py hm
   obtain rfl:=Option.some.inj hc;exact sF hR hop h1 hE
  ·cases hc
 ·obtain rfl:=Option.some.inj hc;exact sE hR hop hE
 ·obtain rfl:=Option.some.inj hc;exact rX hR hop hE
 ·split at hc
  ·rename_i ha hts
   split at hc
   ·rename_i z hk hzz
    by_cases hz:z.length=1
    ·rw [if_pos hz] at hc;obtain rfl:=Option.some.inj hc;exact rV hR hop ha hts hzz hz hE
    ·rw [if_neg hz] at hc;cases hc
   ·cases hc
  ·cases hc
 ·cases hc
end
end Go.Gov
