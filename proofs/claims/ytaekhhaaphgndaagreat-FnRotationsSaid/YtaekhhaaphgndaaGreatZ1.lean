/- Texts that belong together. -/
import Derived.Laws.BytesString
import Derived.Lib.ConvBytes
import Derived.Test.YtaekhhaaphgndaaGreatZb
set_option linter.unusedSimpArgs false
set_option linter.unusedVariables false
namespace Go.Gov
section
variable {P:Program} {N:Nat} {g:Gh} {F:Frame} {H:Heap} {a:Act} {w:World}
theorem strA_inv:∀ {l:List AV} {bs:List UInt8},strA l=some bs→∃ ns:List Int,l=(ns.map fun n=>.val (.int .u8 n))∧bs=ns.map fun n=>UInt8.ofNat n.toNat
 | [],bs,h=>⟨[],rfl,(Option.some.inj h).symm⟩
 | x :: l,bs,h=>by
  unfold strA at h
  split at h
  ·rename_i he
   cases he
  ·rename_i n l' he
   obtain ⟨rfl,rfl⟩:=List.cons.inj he
   rw [Option.map_eq_some_iff] at h
   obtain ⟨bs', h1,rfl⟩:=h
   obtain ⟨ns,rfl,rfl⟩:=strA_inv h1
   exact ⟨n :: ns,rfl,rfl⟩
  ·cases h
theorem foldl_push (ns:List Int):∀ s:ByteArray,ns.foldl (fun r n=>r.push (UInt8.ofNat n.toNat)) s=⟨s.data++(ns.map fun n=>UInt8.ofNat n.toNat).toArray⟩:=by
 induction ns with
 | nil=>intro s;simp
 | cons n ns ih=>
  intro s
  rw [List.foldl_cons,ih]
  congr 1
  apply Array.ext'
  simp [ByteArray.push]
theorem l_str {o : Oper} {x : Operand} {s t e : TypeId} {K : AV → Heap → Prop} {ext : Bool} (hR : R N g F H a w) (hop : o.op = .convert s t x) (hs : P.underlying s = some (.slice e)) (ht : P.underlying t = some .string) (he : P.underlying e = some (.int .u8))
    (hE:evLoud (.str (cX x)) F H K):Loud P a w g H o ext K:=by
 obtain ⟨h1,hE⟩:=hE
 split at hE
 ·rename_i m new hsrc
  obtain ⟨hpl,hE⟩:=hE
  split at hE
  ·rename_i bs hbs
   obtain ⟨ns,rfl,rfl⟩:=strA_inv hbs
   obtain ⟨xa,mc,news,hvx,hnl,hnk,hfc,hrn⟩:=src_ok (P:=P) hR h1 hsrc hpl
   have hnews:news=ns.map (Value.int .u8):=by
    refine List.ext_getElem (by rw [hnl];simp) fun j h2 h3=>?_
    have h4:=hrn j (by simpa using h3)
    simp only [List.getElem_map] at h4 ⊢
    have h5:=h4.val_inv.1
    rw [show news.getD j undef=news[j] by simp [h2]] at h5
    exact h5
   have hlen:ns.length=m:=by simpa using hnk
   have hf0:=hfc w (fun _ _=>rfl) m (Nat.le_refl _)
   rw [List.take_of_length_le (by rw [hnl,hnk];exact Nat.le_refl _)] at hf0
   have hc:(convert s t (.slice xa m mc)).run P w = .ok (.string ⟨(ns.map fun n=>UInt8.ofNat n.toNat).toArray⟩) w:=by
    rw [run_convert_bytes_string w s t e _ m mc hs he ht]
    cases xa with
    | none=>
     rw [run_firstCells_none] at hf0
     have h6:news=[]:=by
      have:=Array.toList_inj.2 (Result.ok.inj hf0).1
      simpa using this.symm
     rw [h6] at hnews
     have h7:ns=[]:=by simpa using hnews.symm
     subst h7
     simp [Conv.bytesToString]
     rfl
    | some b=>
     simp only [Builtin.firstCells,Nat.mul_one] at hf0
     rw [hnews] at hf0
     rw [run_bytesToString w b m mc ns hf0,foldl_push]
     simp [ByteArray.empty,ByteArray.emptyWithCapacity]
     rfl
   exact ⟨.string ⟨(ns.map fun n=>UInt8.ofNat n.toNat).toArray⟩,w,g,_,H,.inl (by simp [execOp,hop,hvx,hc]),Mv.refl hR.hp,.val,fun _ _ _=>rfl,hE⟩
  ·exact hE.elim
 ·exact hE.elim
theorem new_plainZ (hp : HeapR g H w) {w' : World} (hw : ∀ k, k < w.heap.size → w'.heap[k]? = w.heap[k]?) (hs : w.heap.size ≤ w'.heap.size) (ho : w'.os = w.os) (ht : TapeOk w w') (hout : w'.output = w.output) {b : Nat} (hbb : w.heap.size ≤ b) {arr : Array Value} {elem : EZ arr.size} {cs : List AV} (u : Nat → Value)
    (hb:w'.heap[b]? = some (.cells arr elem.1.1 elem.1.2)) (hbase:cs.length≤arr.size)
    (hc:∀ m,m<cs.length→arr[m]? = some (u m)) (hr:∀ m (h:m<cs.length),Rd w (g.tr H) g.G cs[m] (u m) []):
    ∃ g', Mv g H w g' (H++[some cs]) w' ∧ g'.ρ H.length=some (b,0,arr.size):=by
 have hnew:=new_obj hp hs (base:=0) (elem:=elem) (cs:=cs) u (fun _=>[]) (fun k hk _=>hw k hk) hb rfl (by omega) (fun m hm=>by rw [Nat.zero_add];exact hc m hm) hr
  (fun hG=>absurd (hp.low _ hG) (by omega)) (fun o c h hm=>absurd ((hp.obj o c h).all_lt _ hm) (by omega)) (by rw [flatMap_nil];simp) (by rw [flatMap_nil];simp)
 refine ⟨_,⟨hnew.1,⟨ho,ht,hout,hs,fun k hk _=>hw k hk,fun k hk=>?_,fun _ h=>h,fun _ h=>.inl h,fun a ha=>by unfold World.frozen?;rw [hw _ ha]⟩,fun x v h=>hnew.2 x v [] (by simp) h,fun o d h=>.inl (tr_add g H _ _ _ o d h)⟩,by simp [Gh.add]⟩
 rcases add_owns hk with h | h
 ·exact .inl h
 ·simp only [flatMap_nil,List.mem_cons,List.not_mem_nil,or_false] at h
  exact .inr (by omega)
theorem l_byt {o : Oper} {x : Operand} {s t e : TypeId} {K : AV → Heap → Prop} {ext : Bool} (hR : R N g F H a w) (hop : o.op = .convert s t x) (hs : P.underlying s = some .string) (ht : P.underlying t = some (.slice e)) (he : P.underlying e = some (.int .u8))
    (hE:evLoud (.byt (cX x)) F H K):Loud P a w g H o ext K:=by
 obtain ⟨h1,hE⟩:=hE
 have hx:=sx_rd hR x h1
 split at hE
 ·rename_i str hst
  rw [hst] at hx
  have hv:=hx.val_inv.1
  obtain ⟨hm,hK⟩:=hE
  have hcs:(Go.Lib.bytesCells w e str).size=grownCap w str.size 0 e:=by
   have:=grownCap_ge w str.size 0 e
   simp only [Go.Lib.bytesCells,Array.size_append,Array.size_map,Array.size_replicate]
   rw [show str.data.size=str.size from rfl]
   omega
  have hge:=grownCap_ge w str.size 0 e
  have hlen:(bytA str).length=str.size:=by unfold bytA;rw [List.length_map,Array.length_toList];rfl
  obtain ⟨g', hmv,hρ⟩:=new_plainZ hR.hp (w' := Go.Lib.bytesWorld w e str) (b:=w.heap.size) (arr:=Go.Lib.bytesCells w e str) (elem:=⟨(e,((Go.Lib.bytesCells w e str).size,(Go.Lib.bytesCells w e str).size+1)),.inr (Nat.le_refl _)⟩) (cs:=bytA str)
   (fun k hk=>Go.Lib.bytesWorld_at_old w e str k hk) (by rw [Go.Lib.bytesWorld_size];omega) rfl ⟨rfl,by first | exact Nat.le_refl _ | exact Nat.le_succ _⟩ rfl (Nat.le_refl _) (fun m=>.int .u8 (str.data.toList.getD m 0).toNat)
   (Go.Lib.bytesWorld_at_new w e str) (by omega) (fun m hm' => by
    rw [hlen] at hm'
    have h3:=Go.Lib.bytesWorld_cell w e str m hm'
    simpa [World.cell?,Go.Lib.bytesWorld_at_new w e str] using h3) (fun m hm' => by
    rw [hlen] at hm'
    have h4:m<str.data.toList.length:=by rw [Array.length_toList];exact hm'
    have h5:str.data.toList.getD m 0=str.data.toList[m]:=by rw [List.getD_eq_getElem?_getD,List.getElem?_eq_getElem h4,Option.getD_some]
    rw [h5]
    simp only [bytA,List.getElem_map]
    exact .val)
  refine ⟨_,_,g', _,_,.inl (by simp [execOp,hop,hv,Go.Lib.run_convert_string_bytes w s t e str hs ht he];rfl),hmv,?_,fun _ k hk=>Go.Lib.bytesWorld_at_old w e str k hk,hK⟩
  refine sl_new hρ (by rw [hlen];omega) ⟨grownCap w str.size 0 e,hge,grownCap_le_maxLen w str.size 0 e hm,by rw [hcs];omega,.inl (by simp)⟩
 ·exact hE.elim
end
section
variable {P:Program} {N:Nat} {g:Gh} {F:Frame} {H:Heap} {a:Act} {w:World}
theorem compileOp_inv {o:Oper}{x:AOp}(hc:compileOp P o=some x):compileOp0 P o=some x∨x = .bad:=by
 unfold compileOp at hc
 cases h:compileOp0 P o with
 | none=>rw [h] at hc;right;exact (Option.some.inj hc).symm
 | some y=>rw [h] at hc;left;simpa using hc
theorem binA_cases (pr:Bool)(cls:Nat)(op:BinOp)(x y:AX):(∃ n,nifC cls op y=some n∧binA pr cls op x y = .nif n x)∨(pr=true∧∃ n:Bool,op=(if n then .neq else .eql)∧binA pr cls op x y = .eqp n x y)∨binA pr cls op x y = .bin cls op x y:=by
 unfold binA
 cases h:nifC cls op y with
 | some n=>exact .inl ⟨n,rfl,rfl⟩
 | none=>
  right
  cases pr with
  | false=>exact .inr rfl
  | true=>cases op<;>first | exact .inr rfl | exact .inl ⟨rfl,false,rfl,rfl⟩ | exact .inl ⟨rfl,true,rfl,rfl⟩
theorem binA_quiet (pr:Bool)(cls:Nat)(op:BinOp)(x y:AX):isQuiet (binA pr cls op x y)=true:=by
 rcases binA_cases pr cls op x y with ⟨n,_,he⟩ | ⟨_,n,_,he⟩ | he<;>rw [he]<;>rfl
theorem quiet_all {o:Oper}{x:AOp}(hc:compileOp P o=some x)(hq:isQuiet x=true)(hok:qOk x F H)(hR:R N g F H a w):Quiet P a w g H o (qVal x F H):=by
 rcases compileOp_inv hc with hc | rfl
 rotate_left
 ·exact hok.elim
 unfold compileOp0 at hc
 split at hc<;>rename_i hop
 ·obtain rfl:=Option.some.inj hc;exact q_mov hR (.inl hop)
 ·obtain rfl:=Option.some.inj hc;exact q_mov hR (.inr hop)
 ·obtain rfl:=Option.some.inj hc;exact q_pick hR hop hok
 ·split at hc
  ·obtain rfl:=Option.some.inj hc;cases hq
  ·cases hc
 ·obtain rfl:=Option.some.inj hc;cases hq
 ·split at hc
  ·rename_i d i hd hi
   by_cases hg:isAggT (some d)=true
   ·rw [if_pos hg] at hc;obtain rfl:=Option.some.inj hc;exact q_loads hR hop hd hi hg hok
   ·rw [if_neg hg] at hc;obtain rfl:=Option.some.inj hc;exact q_load hR hop hd (by simpa using hg) hok
  ·cases hc
 ·split at hc
  ·obtain rfl:=Option.some.inj hc;cases hq
  ·cases hc
 ·obtain rfl:=Option.some.inj hc
  rcases binA_cases (pairT P _) _ _ _ _ with ⟨n,hn,he⟩ | ⟨hp,n,hn,he⟩ | he
  ·rw [he] at hok ⊢;exact q_nif hR hop hn hok
  ·rw [he] at hok ⊢;exact q_eqp hR hop hp hn hok
  ·rw [he] at hok ⊢;exact q_bin hR hop hok
 ·obtain rfl:=Option.some.inj hc;exact q_not hR hop hok
 ·obtain rfl:=Option.some.inj hc;exact q_neg hR hop hok
 ·split at hc
  ·rename_i hs ht
   obtain rfl:=Option.some.inj hc;exact q_conv hR hop hs ht hok
  ·split at hc
   ·obtain rfl:=Option.some.inj hc;cases hq
   ·cases hc
  ·split at hc
   ·obtain rfl:=Option.some.inj hc;cases hq
   ·cases hc
  ·cases hc
 ·split at hc
  ·rename_i hf
   split at hc
   ·rename_i i hi
    by_cases h0:i.size=0
    ·rw [if_pos h0] at hc;cases hc
    ·rw [if_neg h0] at hc;obtain rfl:=Option.some.inj hc;exact q_fld hR hop hf hi h0 hok
   ·cases hc
  ·cases hc
 ·split at hc
  ·rename_i hk
   obtain rfl:=Option.some.inj hc;exact q_idx hR hop hk hok
  ·split at hc
   ·rename_i ht
    split at hc
    ·rename_i inf hi
     split at hc
     ·rename_i h0
      obtain rfl:=Option.some.inj hc;exact q_aref hR hop ht hi h0 hok
     ·cases hc
    ·cases hc
   ·cases hc
 ·split at hc
  ·rename_i ht
   obtain rfl:=Option.some.inj hc;exact q_sidx hR hop ht hok
  ·rename_i ht
   split at hc
   ·rename_i d inf hd hi
    split at hc
    ·rename_i hg
     obtain rfl:=Option.some.inj hc;exact q_aidx hR hop ht hd hi hg hok
    ·cases hc
   ·cases hc
  ·cases hc
 ·split at hc
  ·split at hc
   ·split at hc
    ·obtain rfl:=Option.some.inj hc;cases hq
    ·cases hc
   ·cases hc
  ·cases hc
 ·split at hc
  ·split at hc
   ·split at hc
    ·obtain rfl:=Option.some.inj hc;cases hq
    ·cases hc
   ·cases hc
  ·cases hc
 ·split at hc
  ·rename_i ht
   obtain rfl:=Option.some.inj hc;exact q_sslice hR hop ht hok
  ·split at hc
   ·rename_i hk
    obtain rfl:=Option.some.inj hc;exact q_slice hR hop hk hok
   ·split at hc
    ·rename_i ht2
     obtain ⟨inf,hinf,rfl⟩:=Option.map_eq_some_iff.1 hc
     exact q_sla hR hop ht2 hinf hok
    ·cases hc
 ·obtain rfl:=Option.some.inj hc;exact q_ext hR hop hok
 ·obtain rfl:=Option.some.inj hc;exact q_fn hR hop
 ·split at hc
  ·obtain rfl:=Option.some.inj hc;cases hq
  ·split at hc
   ·obtain rfl:=Option.some.inj hc;cases hq
   ·cases hc
  ·cases hc
 ·split at hc
  ·rename_i ha hts
   split at hc
   ·rename_i ht
    obtain rfl:=Option.some.inj hc;exact q_slen hR hop ha hts ht hok
   ·rename_i ht
    obtain rfl:=Option.some.inj hc;exact q_len hR hop ha hts ht hok
   ·obtain rfl:=Option.some.inj hc;cases hq
   ·cases hc
  ·cases hc
 ·split at hc
  ·split at hc
   ·split at hc
    ·split at hc
     ·obtain rfl:=Option.some.inj hc;cases hq
     ·cases hc
    ·cases hc
   ·split at hc
    ·split at hc
     ·obtain rfl:=Option.some.inj hc;cases hq
     ·cases hc
    ·cases hc
  ·cases hc
 ·split at hc
  ·split at hc
   ·cases hc
   ·obtain rfl:=Option.some.inj hc;cases hq
  ·cases hc
 ·obtain rfl:=Option.some.inj hc;cases hq
 ·split at hc
  ·rename_i ha
   obtain rfl:=Option.some.inj hc;exact q_mnb hR hop ha hok
  ·cases hc
 ·split at hc
  ·rename_i ha
   obtain rfl:=Option.some.inj hc;exact q_mxb hR hop ha hok
  ·cases hc
 ·split at hc
  ·split at hc
   ·obtain rfl:=Option.some.inj hc;cases hq
   ·cases hc
  ·cases hc
 ·obtain rfl:=Option.some.inj hc;exact q_nck hR hop hok
 ·split at hc
  ·rename_i fs z ht hz
   split at hc
   ·rename_i hall
    rw [Option.map_eq_some_iff] at hc
    obtain ⟨pl,hpl,rfl⟩:=hc
    exact q_bld hR hop ht hz hall hpl hok
   ·cases hc
  ·rename_i ht hz
   split at hc
   ·rename_i i hi
    obtain rfl:=Option.some.inj hc
    exact q_bldA hR hop ht hz hi hok
   ·cases hc
  ·cases hc
 ·split at hc
  ·rename_i hf
   split at hc
   ·rename_i d i hd hi
    by_cases hg:isAggT (some d)=true
    ·rw [if_pos hg] at hc;obtain rfl:=Option.some.inj hc;exact q_fldvs hR hop hf hd hi hg hok
    ·rw [if_neg hg] at hc;obtain rfl:=Option.some.inj hc;exact q_fldv hR hop hf hd (by simpa using hg) hok
   ·cases hc
  ·cases hc
 ·split at hc
  ·obtain rfl:=Option.some.inj hc;cases hq
  ·cases hc
 ·split at hc
  ·obtain rfl:=Option.some.inj hc;cases hq
  ·cases hc
 ·obtain ⟨kk,k,e,i,z,h1,h2,h3,h4,rfl⟩:=mapOp_inv hc
  exact q_lku hR hop h1 h2 h3 h4 hok
 ·obtain ⟨kk,k,e,i,z,h1,h2,h3,h4,rfl⟩:=mapOp_inv hc;cases hq
 ·obtain ⟨kk,k,e,i,z,h1,h2,h3,h4,rfl⟩:=mapOp_inv hc;cases hq
 ·obtain ⟨kk,k,e,i,z,h1,h2,h3,h4,rfl⟩:=mapOp_inv hc;cases hq
 ·split at hc
  ·obtain rfl:=Option.some.inj hc;cases hq
  ·cases hc
 ·split at hc
  ·obtain ⟨kk,k,e,i,z,h1,h2,h3,h4,rfl⟩:=mapOp_inv hc;cases hq
  ·cases hc
 ·split at hc
  ·obtain rfl:=Option.some.inj hc;cases hq
  ·cases hc
 ·obtain rfl:=Option.some.inj hc;cases hq
 ·obtain rfl:=Option.some.inj hc;cases hq
 ·split at hc
  ·split at hc
   ·rename_i z _ _
    by_cases hz:z.length=1
    ·rw [if_pos hz] at hc;obtain rfl:=Option.some.inj hc;cases hq
    ·rw [if_neg hz] at hc;cases hc
   ·cases hc
  ·cases hc
 ·cases hc
def isCall:AOp→Bool
 | .call .. | .callv ..=>true
 | _=>false
theorem loud_all {o:Oper}{x:AOp}{K:AV→Heap→Prop}(hc:compileOp P o=some x)(hq:isQuiet x=false)(hcall:isCall x=false)(hE:evLoud x F H K)(hR:R N g F H a w):Loud P a w g H o (isExt x) K:=by
 rcases compileOp_inv hc with hc | rfl
 rotate_left
 ·cases hq
 unfold compileOp0 at hc
 split at hc<;>rename_i hop
 ·obtain rfl:=Option.some.inj hc;cases hq
 ·obtain rfl:=Option.some.inj hc;cases hq
 ·obtain rfl:=Option.some.inj hc;cases hq
 ·split at hc
  ·rename_i z hz
   obtain rfl:=Option.some.inj hc;exact l_alloc hR hop hz hE
  ·cases hc
 ·obtain rfl:=Option.some.inj hc;exact l_box hR hop hE
 ·split at hc
  ·rename_i d i hd hi
   by_cases hg:isAggT (some d)=true
   ·rw [if_pos hg] at hc;obtain rfl:=Option.some.inj hc;cases hq
   ·rw [if_neg hg] at hc;obtain rfl:=Option.some.inj hc;cases hq
  ·cases hc
 ·split at hc
  ·rename_i i hi
   obtain rfl:=Option.some.inj hc;exact l_store hR hop hi hE
  ·cases hc
 ·obtain rfl:=Option.some.inj hc;rw [binA_quiet] at hq;cases hq
 ·obtain rfl:=Option.some.inj hc;cases hq
 ·obtain rfl:=Option.some.inj hc;cases hq
 ·split at hc
  ·obtain rfl:=Option.some.inj hc;cases hq
  ·rename_i hs ht
   split at hc
   ·rename_i he
    obtain rfl:=Option.some.inj hc;exact l_str hR hop hs ht he hE
   ·cases hc
  ·rename_i hs ht
   split at hc
   ·rename_i he
    obtain rfl:=Option.some.inj hc;exact l_byt hR hop hs ht he hE
   ·cases hc
  ·cases hc
 ·split at hc
  ·split at hc
   ·split at hc
    ·cases hc
    ·obtain rfl:=Option.some.inj hc;cases hq
   ·cases hc
  ·cases hc
 ·split at hc
  ·obtain rfl:=Option.some.inj hc;cases hq
  ·split at hc
   ·split at hc
    ·split at hc
     ·obtain rfl:=Option.some.inj hc;cases hq
     ·cases hc
    ·cases hc
   ·cases hc
 ·split at hc
  ·obtain rfl:=Option.some.inj hc;cases hq
  ·split at hc
   ·split at hc
    ·obtain rfl:=Option.some.inj hc;cases hq
    ·cases hc
   ·cases hc
  ·cases hc
 ·rename_i t l c
  by_cases hlc:l=c
  ·rw [if_pos hlc] at hc
   split at hc
   ·rename_i k z hk hz
    by_cases hzk:z.length=k
    ·rw [if_pos hzk] at hc;obtain rfl:=Option.some.inj hc;exact l_mk hR hop (by rw [hlc]) hk hz hzk hE
    ·rw [if_neg hzk] at hc;cases hc
   ·cases hc
  ·rw [if_neg hlc] at hc;cases hc
 ·rename_i t k1 n1 k2 n2
  by_cases hlc:k1=k2∧n1=n2
  ·rw [if_pos hlc] at hc
   split at hc
   ·rename_i k z hk hz
    by_cases hzk:z.length=k
    ·rw [if_pos hzk] at hc;obtain rfl:=Option.some.inj hc;exact l_mk (l:=.const (.int k1 n1)) hR hop (by rw [hlc.1,hlc.2]) hk hz hzk hE
    ·rw [if_neg hzk] at hc;cases hc
   ·cases hc
  ·rw [if_neg hlc] at hc;cases hc
 ·split at hc
  ·obtain rfl:=Option.some.inj hc;cases hq
  ·split at hc
   ·obtain rfl:=Option.some.inj hc;cases hq
   ·split at hc
    ·obtain ⟨inf,_,rfl⟩:=Option.map_eq_some_iff.1 hc
     cases hq
    ·cases hc
 ·obtain rfl:=Option.some.inj hc;cases hq
 ·obtain rfl:=Option.some.inj hc;cases hq
 ·split at hc
  ·rename_i hk hz
   obtain rfl:=Option.some.inj hc;exact l_bsl hR hop hk (by rw [hz];rfl) hE
  ·rename_i k z _ hk hz
   by_cases hzk:z.length=k∧0<k
   ·rw [if_pos hzk] at hc;obtain rfl:=Option.some.inj hc;exact l_bsk hR hop hk hz hzk.1 hzk.2 hE
   ·rw [if_neg hzk] at hc;cases hc
  ·cases hc
 ·split at hc
  ·rename_i ha hts
   split at hc
   ·obtain rfl:=Option.some.inj hc;cases hq
   ·obtain rfl:=Option.some.inj hc;cases hq
   ·rename_i ht
    obtain rfl:=Option.some.inj hc;exact l_lenm hR hop ha hts ht hE
   ·cases hc
  ·cases hc
 ·split at hc
  ·rename_i s x t u ha hts
   by_cases htu:t=u
   ·rw [if_pos htu] at hc
    subst htu
    split at hc
    ·rename_i k z hk hz
     by_cases hzk:z.length=k∧0<k
     ·rw [if_pos hzk] at hc;obtain rfl:=Option.some.inj hc;exact l_app hR hop ha hts (by obtain ⟨e,i,zv,he,_⟩:=elemZero_inv hz;exact .inr ⟨e,he⟩) hk hz hzk.1 hE
     ·rw [if_neg hzk] at hc;cases hc
    ·cases hc
   ·rw [if_neg htu] at hc
    split at hc
    ·rename_i k z hu hk hz
     by_cases hzk:z.length=k∧0<k
     ·rw [if_pos hzk] at hc;obtain rfl:=Option.some.inj hc;exact l_app hR hop ha hts (.inl hu) hk hz hzk.1 hE
     ·rw [if_neg hzk] at hc;cases hc
    ·cases hc
  ·cases hc
 ·split at hc
  ·split at hc
   ·cases hc
   ·obtain rfl:=Option.some.inj hc;cases hcall
  ·cases hc
 ·obtain rfl:=Option.some.inj hc;cases hcall
 ·split at hc
  ·obtain rfl:=Option.some.inj hc;cases hq
  ·cases hc
 ·split at hc
  ·obtain rfl:=Option.some.inj hc;cases hq
  ·cases hc
 ·split at hc
  ·rename_i ha hts
   split at hc
   ·rename_i hk
    obtain rfl:=Option.some.inj hc;exact l_cpy hR hop ha hts hk hE
   ·cases hc
  ·cases hc
 ·obtain rfl:=Option.some.inj hc;cases hq
 ·split at hc
  ·split at hc
   ·rw [Option.map_eq_some_iff] at hc
    obtain ⟨pl,hpl,rfl⟩:=hc
    cases hq
   ·cases hc
  ·split at hc
   ·obtain rfl:=Option.some.inj hc;cases hq
   ·cases hc
  ·cases hc
 ·split at hc
  ·split at hc
   ·rename_i d i hd hi
    by_cases hg:isAggT (some d)=true
    ·rw [if_pos hg] at hc;obtain rfl:=Option.some.inj hc;cases hq
    ·rw [if_neg hg] at hc;obtain rfl:=Option.some.inj hc;cases hq
   ·cases hc
  ·cases hc
 ·split at hc
  ·rename_i hm
   obtain ⟨k,h1,h2⟩:=mapOf_inv hm
   obtain rfl:=Option.some.inj hc;exact l_mkm hR hop (.inl rfl) h1 hE
  ·cases hc
 ·split at hc
  ·rename_i hm
   obtain ⟨k,h1,h2⟩:=mapOf_inv hm
   obtain rfl:=Option.some.inj hc;exact l_mkm hR hop (.inr ⟨_,_,rfl⟩) h1 hE
  ·cases hc
 ·obtain ⟨kk,k,e,i,z,h1,h2,h3,h4,rfl⟩:=mapOp_inv hc;cases hq
 ·obtain ⟨kk,k,e,i,z,h1,h2,h3,h4,rfl⟩:=mapOp_inv hc
  exact l_mpu hR (.inl hop) h1 h2 hE
 ·obtain ⟨kk,k,e,i,z,h1,h2,h3,h4,rfl⟩:=mapOp_inv hc
  exact l_mpu hR (.inr hop) h1 h2 hE
 ·obtain ⟨kk,k,e,i,z,h1,h2,h3,h4,rfl⟩:=mapOp_inv hc
  exact l_mpe hR hop h1 h2 h3 h4 hE
 ·split at hc
  ·obtain rfl:=Option.some.inj hc;exact l_est (k:=0) (e:=0) hR hop hE
  ·cases hc
 ·split at hc
  ·rename_i ha hts
   obtain ⟨kk,k,e,i,z,h1,h2,h3,h4,rfl⟩:=mapOp_inv hc
   exact l_mpd hR hop ha hts h1 h2 hE
  ·cases hc
 ·split at hc
  ·rename_i hm
   obtain ⟨k,h1,h2⟩:=mapOf_inv hm
   obtain rfl:=Option.some.inj hc;exact l_rng hR hop h1 hE
  ·cases hc
 ·obtain rfl:=Option.some.inj hc;exact l_nxt hR hop hE
 ·obtain rfl:=Option.some.inj hc;exact l_enr hR hop hE
 ·split at hc
  ·rename_i ha hts
   split at hc
   ·rename_i z hk hzz
    by_cases hz:z.length=1
    ·rw [if_pos hz] at hc;obtain rfl:=Option.some.inj hc;exact l_clr hR hop ha hts hzz hz hE
    ·rw [if_neg hz] at hc;cases hc
   ·cases hc
  ·cases hc
 ·cases hc
end
end Go.Gov
