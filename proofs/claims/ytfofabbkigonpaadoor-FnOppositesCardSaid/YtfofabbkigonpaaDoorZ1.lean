/- Texts that belong together. -/
import Derived.Laws.BytesString
import Derived.Lib.ConvBytes
import Derived.Test.YtfofabbkigonpaaDoorZb
set_option linter.unusedSimpArgs false
set_option linter.unusedVariables false
namespace Go.Gov
section
variable {P:Program} {N:Nat} {g:Gh} {F:Frame} {H:Heap} {a:Act} {w:World}
theorem aG:∀ {l:List AV} {bs:List UInt8},Jc l=some bs→∃ ns:List Int,l=(ns.map fun n=>.val (.int .u8 n))∧bs=ns.map fun n=>UInt8.ofNat n.toNat
 | [],bs,h=>⟨[],rfl,(Option.some.inj h).symm⟩
 | x :: l,bs,h=>by
  unfold Jc at h
  split at h
  ·rename_i he
   cases he
  ·rename_i n l' he
   obtain ⟨rfl,rfl⟩:=List.cons.inj he
   rw [Option.map_eq_some_iff] at h
   obtain ⟨bs', h1,rfl⟩:=h
   obtain ⟨ns,rfl,rfl⟩:=aG h1
   exact ⟨n :: ns,rfl,rfl⟩
  ·cases h
theorem iH (ns:List Int):∀ s:ByteArray,ns.foldl (fun r n=>r.push (UInt8.ofNat n.toNat)) s=⟨s.data++(ns.map fun n=>UInt8.ofNat n.toNat).toArray⟩:=by
 induction ns with
 | nil=>intro s;simp
 | cons n ns ih=>
  intro s
  rw [List.foldl_cons,ih]
  congr 1
  apply Array.ext'
  simp [ByteArray.push]
theorem lM {o : Oper} {x : Operand} {s t e : TypeId} {K : AV → Heap → Prop} {ext : Bool} (hR : R N g F H a w) (hop : o.op = .convert s t x) (hs : P.underlying s = some (.slice e)) (ht : P.underlying t = some .string) (he : P.underlying e = some (.int .u8))
    (hE:Bp (.str (cX x)) F H K):By P a w g H o ext K:=by
 obtain ⟨h1,hE⟩:=hE
 split at hE
 ·rename_i m new hsrc
  obtain ⟨hpl,hE⟩:=hE
  split at hE
  ·rename_i bs hbs
   obtain ⟨ns,rfl,rfl⟩:=aG hbs
   obtain ⟨xa,mc,news,hvx,hnl,hnk,hfc,hrn⟩:=Sd (P:=P) hR h1 hsrc hpl
   have hnews:news=ns.map (Value.int .u8):=by
    refine List.ext_getElem (by rw [hnl];simp) fun j h2 h3=>?_
    have h4:=hrn j (by simpa using h3)
    simp only [List.getElem_map] at h4 ⊢
    have h5:=h4.val_inv.1
    rw [show news.getD j undef=news[j] by simp [h2]] at h5
    exact h5
   have hlen:ns.length=m:=by simpa using hnk
   have hf0:=hfc w (fun _ _=>rfl) m (Nat.le_refl _)
   rw [List.take_of_length_le (by rw [hnl,hnk];exact Nat.le_refl _)] at hf0
   have hc:(convert s t (.slice xa m mc)).run P w = .ok (.string ⟨(ns.map fun n=>UInt8.ofNat n.toNat).toArray⟩) w:=by
    rw [run_convert_bytes_string w s t e _ m mc hs he ht]
    cases xa with
    | none=>
     rw [run_firstCells_none] at hf0
     have h6:news=[]:=by
      have:=Array.toList_inj.2 (Result.ok.inj hf0).1
      simpa using this.symm
     rw [h6] at hnews
     have h7:ns=[]:=by simpa using hnews.symm
     subst h7
     simp [Conv.bytesToString]
     rfl
    | some b=>
     simp only [Builtin.firstCells,Nat.mul_one] at hf0
     rw [hnews] at hf0
     rw [run_bytesToString w b m mc ns hf0,iH]
     simp [ByteArray.empty,ByteArray.emptyWithCapacity]
     rfl
   exact ⟨.string ⟨(ns.map fun n=>UInt8.ofNat n.toNat).toArray⟩,w,g,_,H,.inl (by simp [execOp,hop,hvx,hc]),Mv.refl hR.hp,.val,fun _ _ _=>rfl,hE⟩
  ·exact hE.elim
 ·exact hE.elim
theorem Aas (hp : HeapR g H w) {w' : World} (hw : ∀ k, k < w.heap.size → w'.heap[k]? = w.heap[k]?) (hs : w.heap.size ≤ w'.heap.size) (ho : w'.os = w.os) (ht : F5 w w') (hout : w'.output = w.output) {b : Nat} (hbb : w.heap.size ≤ b) {arr : Array Value} {elem : EZ arr.size} {cs : List AV} (u : Nat → Value)
    (hb:w'.heap[b]? = some (.cells arr elem.1.1 elem.1.2)) (hbase:cs.length≤arr.size)
    (hc:∀ m,m<cs.length→arr[m]? = some (u m)) (hr:∀ m (h:m<cs.length),Rd w (g.tr H) g.G cs[m] (u m) []):
    ∃ g', Mv g H w g' (H++[some cs]) w' ∧ g'.ρ H.length=some (b,0,arr.size):=by
 have hnew:=Of hp hs (base:=0) (elem:=elem) (cs:=cs) u (fun _=>[]) (fun k hk _=>hw k hk) hb rfl (by omega) (fun m hm=>by rw [Nat.zero_add];exact hc m hm) hr
  (fun hG=>absurd (hp.low _ hG) (by omega)) (fun o c h hm=>absurd ((hp.obj o c h).all_lt _ hm) (by omega)) (by rw [flatMap_nil];simp) (by rw [flatMap_nil];simp)
 refine ⟨_,⟨hnew.1,⟨ho,ht,hout,hs,fun k hk _=>hw k hk,fun k hk=>?_,fun _ h=>h,fun _ h=>.inl h,fun a ha=>by unfold World.frozen?;rw [hw _ ha]⟩,fun x v h=>hnew.2 x v [] (by simp) h,fun o d h=>.inl (F0 g H _ _ _ o d h)⟩,by simp [Gh.add]⟩
 rcases Jw hk with h | h
 ·exact .inl h
 ·simp only [flatMap_nil,List.mem_cons,List.not_mem_nil,or_false] at h
  exact .inr (by omega)
theorem lB {o : Oper} {x : Operand} {s t e : TypeId} {K : AV → Heap → Prop} {ext : Bool} (hR : R N g F H a w) (hop : o.op = .convert s t x) (hs : P.underlying s = some .string) (ht : P.underlying t = some (.slice e)) (he : P.underlying e = some (.int .u8))
    (hE:Bp (.byt (cX x)) F H K):By P a w g H o ext K:=False.elim hE
end
section
variable {P:Program} {N:Nat} {g:Gh} {F:Frame} {H:Heap} {a:Act} {w:World}
theorem Le {o:Oper}{x:AOp}(hc:Ea P o=some x):G8 P o=some x∨x = .bad:=by
 unfold Ea at hc
 cases h:G8 P o with
 | none=>rw [h] at hc;right;exact (Option.some.inj hc).symm
 | some y=>rw [h] at hc;left;simpa using hc
theorem Tk (pr:Bool)(cls:Nat)(op:BinOp)(x y:AX):(∃ n,Kh cls op y=some n∧Jy pr cls op x y = .nif n x)∨(pr=true∧∃ n:Bool,op=(if n then .neq else .eql)∧Jy pr cls op x y = .eqp n x y)∨Jy pr cls op x y = .bin cls op x y:=by
 unfold Jy
 cases h:Kh cls op y with
 | some n=>exact .inl ⟨n,rfl,rfl⟩
 | none=>
  right
  cases pr with
  | false=>exact .inr rfl
  | true=>cases op<;>first | exact .inr rfl | exact .inl ⟨rfl,false,rfl,rfl⟩ | exact .inl ⟨rfl,true,rfl,rfl⟩
theorem P1 (pr:Bool)(cls:Nat)(op:BinOp)(x y:AX):B8 (Jy pr cls op x y)=true:=by
 rcases Tk pr cls op x y with ⟨n,_,he⟩ | ⟨_,n,_,he⟩ | he<;>rw [he]<;>rfl
theorem L8 {o:Oper}{x:AOp}(hc:Ea P o=some x)(hq:B8 x=true)(hok:A5 x F H)(hR:R N g F H a w):Bj P a w g H o (Am x F H):=by
 rcases Le hc with hc | rfl
 rotate_left
 ·exact hok.elim
 unfold G8 at hc
 split at hc<;>rename_i hop
 ·obtain rfl:=Option.some.inj hc;exact Zp hR (.inl hop)
 ·obtain rfl:=Option.some.inj hc;exact Zp hR (.inr hop)
 ·obtain rfl:=Option.some.inj hc;exact uC hR hop hok
 ·split at hc
  ·obtain rfl:=Option.some.inj hc;cases hq
  ·cases hc
 ·obtain rfl:=Option.some.inj hc;cases hq
 ·split at hc
  ·rename_i d i hd hi
   by_cases hg:B7 (some d)=true
   ·rw [if_pos hg] at hc;obtain rfl:=Option.some.inj hc;exact R0 hR hop hd hi hg hok
   ·rw [if_neg hg] at hc;obtain rfl:=Option.some.inj hc;exact Zo hR hop hd (by simpa using hg) hok
  ·cases hc
 ·split at hc
  ·obtain rfl:=Option.some.inj hc;cases hq
  ·cases hc
 ·obtain rfl:=Option.some.inj hc
  rcases Tk (Km P _) _ _ _ _ with ⟨n,hn,he⟩ | ⟨hp,n,hn,he⟩ | he
  ·rw [he] at hok ⊢;exact uA hR hop hn hok
  ·rw [he] at hok ⊢;exact tL hR hop hp hn hok
  ·rw [he] at hok ⊢;exact tH hR hop hok
 ·obtain rfl:=Option.some.inj hc;exact uB hR hop hok
 ·obtain rfl:=Option.some.inj hc;exact tZ hR hop hok
 ·split at hc
  ·rename_i hs ht
   obtain rfl:=Option.some.inj hc;exact tK hR hop hs ht hok
  ·split at hc
   ·obtain rfl:=Option.some.inj hc;cases hq
   ·cases hc
  ·split at hc
   ·obtain rfl:=Option.some.inj hc;cases hq
   ·cases hc
  ·cases hc
 ·split at hc
  ·rename_i hf
   split at hc
   ·rename_i i hi
    by_cases h0:i.size=0
    ·rw [if_pos h0] at hc;cases hc
    ·rw [if_neg h0] at hc;obtain rfl:=Option.some.inj hc;exact tN hR hop hf hi h0 hok
   ·cases hc
  ·cases hc
 ·split at hc
  ·rename_i hk
   obtain rfl:=Option.some.inj hc;exact tS hR hop hk hok
  ·split at hc
   ·rename_i ht
    split at hc
    ·rename_i inf hi
     split at hc
     ·rename_i h0
      obtain rfl:=Option.some.inj hc;exact tG hR hop ht hi h0 hok
     ·cases hc
    ·cases hc
   ·rename_i ht _
    split at hc
    ·rename_i inf hi
     split at hc
     ·obtain rfl:=Option.some.inj hc;exact tE hR hop ht hi hok
     ·cases hc
    ·cases hc
   ·cases hc
 ·split at hc
  ·rename_i ht
   obtain rfl:=Option.some.inj hc;exact uD hR hop ht hok
  ·rename_i ht
   split at hc
   ·rename_i d inf hd hi
    split at hc
    ·rename_i hg
     obtain rfl:=Option.some.inj hc;exact tF hR hop ht hd hi hg hok
    ·cases hc
   ·cases hc
  ·cases hc
 ·split at hc
  ·split at hc
   ·split at hc
    ·obtain rfl:=Option.some.inj hc;cases hq
    ·cases hc
   ·cases hc
  ·cases hc
 ·split at hc
  ·split at hc
   ·split at hc
    ·obtain rfl:=Option.some.inj hc;cases hq
    ·cases hc
   ·cases hc
  ·cases hc
 ·split at hc
  ·rename_i ht
   obtain rfl:=Option.some.inj hc;exact uH hR hop ht hok
  ·split at hc
   ·rename_i hk
    obtain rfl:=Option.some.inj hc;exact uG hR hop hk hok
   ·split at hc
    ·rename_i ht2
     obtain ⟨inf,hinf,rfl⟩:=Option.map_eq_some_iff.1 hc
     exact uE hR hop ht2 hinf hok
    ·cases hc
 ·obtain rfl:=Option.some.inj hc;exact tM hR hop hok
 ·obtain rfl:=Option.some.inj hc;exact tQ hR hop
 ·split at hc
  ·obtain rfl:=Option.some.inj hc;cases hq
  ·split at hc
   ·obtain rfl:=Option.some.inj hc;cases hq
   ·cases hc
  ·cases hc
 ·split at hc
  ·rename_i ha hts
   split at hc
   ·rename_i ht
    obtain rfl:=Option.some.inj hc;exact uF hR hop ha hts ht hok
   ·rename_i ht
    obtain rfl:=Option.some.inj hc;exact tU hR hop ha hts ht hok
   ·obtain rfl:=Option.some.inj hc;cases hq
   ·cases hc
  ·cases hc
 ·split at hc
  ·split at hc
   ·split at hc
    ·split at hc
     ·obtain rfl:=Option.some.inj hc;cases hq
     ·cases hc
    ·cases hc
   ·split at hc
    ·split at hc
     ·obtain rfl:=Option.some.inj hc;cases hq
     ·cases hc
    ·cases hc
  ·cases hc
 ·split at hc
  ·split at hc
   ·cases hc
   ·obtain rfl:=Option.some.inj hc;cases hq
  ·cases hc
 ·obtain rfl:=Option.some.inj hc;cases hq
 ·split at hc
  ·rename_i ha
   obtain rfl:=Option.some.inj hc;exact tW hR hop ha hok
  ·cases hc
 ·split at hc
  ·rename_i ha
   obtain rfl:=Option.some.inj hc;exact tX hR hop ha hok
  ·cases hc
 ·split at hc
  ·split at hc
   ·obtain rfl:=Option.some.inj hc;cases hq
   ·cases hc
  ·cases hc
 ·obtain rfl:=Option.some.inj hc;exact tY hR hop hok
 ·split at hc
  ·rename_i fs z ht hz
   split at hc
   ·rename_i hall
    rw [Option.map_eq_some_iff] at hc
    obtain ⟨pl,hpl,rfl⟩:=hc
    exact tI hR hop ht hz hall hpl hok
   ·cases hc
  ·rename_i ht hz
   split at hc
   ·rename_i i hi
    obtain rfl:=Option.some.inj hc
    exact tJ hR hop ht hz hi hok
   ·cases hc
  ·cases hc
 ·split at hc
  ·rename_i hf
   split at hc
   ·rename_i d i hd hi
    by_cases hg:B7 (some d)=true
    ·rw [if_pos hg] at hc;obtain rfl:=Option.some.inj hc;exact tP hR hop hf hd hi hg hok
    ·rw [if_neg hg] at hc;obtain rfl:=Option.some.inj hc;exact tO hR hop hf hd (by simpa using hg) hok
   ·cases hc
  ·cases hc
 ·split at hc
  ·obtain rfl:=Option.some.inj hc;cases hq
  ·cases hc
 ·split at hc
  ·obtain rfl:=Option.some.inj hc;cases hq
  ·cases hc
 ·obtain ⟨kk,k,e,i,z,h1,h2,h3,h4,rfl⟩:=E4 hc
  exact tV hR hop h1 h2 h3 h4 hok
 ·obtain ⟨kk,k,e,i,z,h1,h2,h3,h4,rfl⟩:=E4 hc;cases hq
 ·obtain ⟨kk,k,e,i,z,h1,h2,h3,h4,rfl⟩:=E4 hc;cases hq
 ·obtain ⟨kk,k,e,i,z,h1,h2,h3,h4,rfl⟩:=E4 hc;cases hq
 ·split at hc
  ·obtain rfl:=Option.some.inj hc;cases hq
  ·cases hc
 ·split at hc
  ·obtain ⟨kk,k,e,i,z,h1,h2,h3,h4,rfl⟩:=E4 hc;cases hq
  ·cases hc
 ·split at hc
  ·obtain rfl:=Option.some.inj hc;cases hq
  ·cases hc
 ·obtain rfl:=Option.some.inj hc;cases hq
 ·obtain rfl:=Option.some.inj hc;cases hq
 ·split at hc
  ·split at hc
   ·rename_i z _ _
    by_cases hz:z.length=1
    ·rw [if_pos hz] at hc;obtain rfl:=Option.some.inj hc;cases hq
    ·rw [if_neg hz] at hc;cases hc
   ·cases hc
  ·cases hc
 ·cases hc
def W4:AOp→Bool
 | .call .. | .callv ..=>true
 | _=>false
theorem mD {o:Oper}{x:AOp}{K:AV→Heap→Prop}(hc:Ea P o=some x)(hq:B8 x=false)(hcall:W4 x=false)(hE:Bp x F H K)(hR:R N g F H a w):By P a w g H o (Ny x) K:=by
 rcases Le hc with hc | rfl
 rotate_left
 ·cases hq
 unfold G8 at hc
 split at hc<;>rename_i hop
 ·obtain rfl:=Option.some.inj hc;cases hq
 ·obtain rfl:=Option.some.inj hc;cases hq
 ·obtain rfl:=Option.some.inj hc;cases hq
 ·split at hc
  ·rename_i z hz
   obtain rfl:=Option.some.inj hc;exact kW hR hop hz hE
  ·cases hc
 ·obtain rfl:=Option.some.inj hc;exact kX hR hop hE
 ·split at hc
  ·rename_i d i hd hi
   by_cases hg:B7 (some d)=true
   ·rw [if_pos hg] at hc;obtain rfl:=Option.some.inj hc;cases hq
   ·rw [if_neg hg] at hc;obtain rfl:=Option.some.inj hc;cases hq
  ·cases hc
 ·split at hc
  ·rename_i i hi
   obtain rfl:=Option.some.inj hc;exact lL hR hop hi hE
  ·cases hc
 ·obtain rfl:=Option.some.inj hc;rw [P1] at hq;cases hq
 ·obtain rfl:=Option.some.inj hc;cases hq
 ·obtain rfl:=Option.some.inj hc;cases hq
 ·split at hc
  ·obtain rfl:=Option.some.inj hc;cases hq
  ·rename_i hs ht
   split at hc
   ·rename_i he
    obtain rfl:=Option.some.inj hc;exact lM hR hop hs ht he hE
   ·cases hc
  ·rename_i hs ht
   split at hc
   ·rename_i he
    obtain rfl:=Option.some.inj hc;exact lB hR hop hs ht he hE
   ·cases hc
  ·cases hc
 ·split at hc
  ·split at hc
   ·split at hc
    ·cases hc
    ·obtain rfl:=Option.some.inj hc;cases hq
   ·cases hc
  ·cases hc
 ·split at hc
  ·obtain rfl:=Option.some.inj hc;cases hq
  ·split at hc
   ·split at hc
    ·split at hc
     ·obtain rfl:=Option.some.inj hc;cases hq
     ·cases hc
    ·cases hc
   ·split at hc
    ·split at hc
     ·obtain rfl:=Option.some.inj hc;cases hq
     ·cases hc
    ·cases hc
   ·cases hc
 ·split at hc
  ·obtain rfl:=Option.some.inj hc;cases hq
  ·split at hc
   ·split at hc
    ·obtain rfl:=Option.some.inj hc;cases hq
    ·cases hc
   ·cases hc
  ·cases hc
 ·rename_i t l c
  by_cases hlc:l=c
  ·rw [if_pos hlc] at hc
   split at hc
   ·rename_i k z hk hz
    by_cases hzk:z.length=k
    ·rw [if_pos hzk] at hc;obtain rfl:=Option.some.inj hc;exact Xn hR hop (by rw [hlc]) hk hz hzk hE
    ·rw [if_neg hzk] at hc;cases hc
   ·cases hc
  ·rw [if_neg hlc] at hc;cases hc
 ·rename_i t k1 n1 k2 n2
  by_cases hlc:k1=k2∧n1=n2
  ·rw [if_pos hlc] at hc
   split at hc
   ·rename_i k z hk hz
    by_cases hzk:z.length=k
    ·rw [if_pos hzk] at hc;obtain rfl:=Option.some.inj hc;exact Xn (l:=.const (.int k1 n1)) hR hop (by rw [hlc.1,hlc.2]) hk hz hzk hE
    ·rw [if_neg hzk] at hc;cases hc
   ·cases hc
  ·rw [if_neg hlc] at hc;cases hc
 ·split at hc
  ·obtain rfl:=Option.some.inj hc;cases hq
  ·split at hc
   ·obtain rfl:=Option.some.inj hc;cases hq
   ·split at hc
    ·obtain ⟨inf,_,rfl⟩:=Option.map_eq_some_iff.1 hc
     cases hq
    ·cases hc
 ·obtain rfl:=Option.some.inj hc;cases hq
 ·obtain rfl:=Option.some.inj hc;cases hq
 ·split at hc
  ·rename_i hk hz
   obtain rfl:=Option.some.inj hc;exact lA hR hop hk (by rw [hz];rfl) hE
  ·rename_i k z _ hk hz
   by_cases hzk:z.length=k∧0<k
   ·rw [if_pos hzk] at hc;obtain rfl:=Option.some.inj hc;exact kY hR hop hk hz hzk.1 hzk.2 hE
   ·rw [if_neg hzk] at hc;cases hc
  ·cases hc
 ·split at hc
  ·rename_i ha hts
   split at hc
   ·obtain rfl:=Option.some.inj hc;cases hq
   ·obtain rfl:=Option.some.inj hc;cases hq
   ·rename_i ht
    obtain rfl:=Option.some.inj hc;exact lG hR hop ha hts ht hE
   ·cases hc
  ·cases hc
 ·split at hc
  ·rename_i s x t u ha hts
   by_cases htu:t=u
   ·rw [if_pos htu] at hc
    subst htu
    split at hc
    ·rename_i k z hk hz
     by_cases hzk:z.length=k∧0<k
     ·rw [if_pos hzk] at hc;obtain rfl:=Option.some.inj hc;exact Xl hR hop ha hts (by obtain ⟨e,i,zv,he,_⟩:=Nf hz;exact .inr ⟨e,he⟩) hk hz hzk.1 hE
     ·rw [if_neg hzk] at hc;cases hc
    ·cases hc
   ·rw [if_neg htu] at hc
    split at hc
    ·rename_i k z hu hk hz
     by_cases hzk:z.length=k∧0<k
     ·rw [if_pos hzk] at hc;obtain rfl:=Option.some.inj hc;exact Xl hR hop ha hts (.inl hu) hk hz hzk.1 hE
     ·rw [if_neg hzk] at hc;cases hc
    ·cases hc
  ·cases hc
 ·split at hc
  ·split at hc
   ·cases hc
   ·obtain rfl:=Option.some.inj hc;cases hcall
  ·cases hc
 ·obtain rfl:=Option.some.inj hc;cases hcall
 ·split at hc
  ·obtain rfl:=Option.some.inj hc;cases hq
  ·cases hc
 ·split at hc
  ·obtain rfl:=Option.some.inj hc;cases hq
  ·cases hc
 ·split at hc
  ·rename_i ha hts
   split at hc
   ·rename_i hk
    obtain rfl:=Option.some.inj hc;exact lD hR hop ha hts hk hE
   ·cases hc
  ·cases hc
 ·obtain rfl:=Option.some.inj hc;cases hq
 ·split at hc
  ·split at hc
   ·rw [Option.map_eq_some_iff] at hc
    obtain ⟨pl,hpl,rfl⟩:=hc
    cases hq
   ·cases hc
  ·split at hc
   ·obtain rfl:=Option.some.inj hc;cases hq
   ·cases hc
  ·cases hc
 ·split at hc
  ·split at hc
   ·rename_i d i hd hi
    by_cases hg:B7 (some d)=true
    ·rw [if_pos hg] at hc;obtain rfl:=Option.some.inj hc;cases hq
    ·rw [if_neg hg] at hc;obtain rfl:=Option.some.inj hc;cases hq
   ·cases hc
  ·cases hc
 ·split at hc
  ·rename_i hm
   obtain ⟨k,h1,h2⟩:=N5 hm
   obtain rfl:=Option.some.inj hc;exact Xo hR hop (.inl rfl) h1 hE
  ·cases hc
 ·split at hc
  ·rename_i hm
   obtain ⟨k,h1,h2⟩:=N5 hm
   obtain rfl:=Option.some.inj hc;exact Xo hR hop (.inr ⟨_,_,rfl⟩) h1 hE
  ·cases hc
 ·obtain ⟨kk,k,e,i,z,h1,h2,h3,h4,rfl⟩:=E4 hc;cases hq
 ·obtain ⟨kk,k,e,i,z,h1,h2,h3,h4,rfl⟩:=E4 hc
  exact Xp hR (.inl hop) h1 h2 hE
 ·obtain ⟨kk,k,e,i,z,h1,h2,h3,h4,rfl⟩:=E4 hc
  exact Xp hR (.inr hop) h1 h2 hE
 ·obtain ⟨kk,k,e,i,z,h1,h2,h3,h4,rfl⟩:=E4 hc
  exact lI hR hop h1 h2 h3 h4 hE
 ·split at hc
  ·obtain rfl:=Option.some.inj hc;exact lF (k:=0) (e:=0) hR hop hE
  ·cases hc
 ·split at hc
  ·rename_i ha hts
   obtain ⟨kk,k,e,i,z,h1,h2,h3,h4,rfl⟩:=E4 hc
   exact lH hR hop ha hts h1 h2 hE
  ·cases hc
 ·split at hc
  ·rename_i hm
   obtain ⟨k,h1,h2⟩:=N5 hm
   obtain rfl:=Option.some.inj hc;exact lK hR hop h1 hE
  ·cases hc
 ·obtain rfl:=Option.some.inj hc;exact lJ hR hop hE
 ·obtain rfl:=Option.some.inj hc;exact lE hR hop hE
 ·split at hc
  ·rename_i ha hts
   split at hc
   ·rename_i z hk hzz
    by_cases hz:z.length=1
    ·rw [if_pos hz] at hc;obtain rfl:=Option.some.inj hc;exact lC hR hop ha hts hzz hz hE
    ·rw [if_neg hz] at hc;cases hc
   ·cases hc
  ·cases hc
 ·cases hc
end
end Go.Gov
