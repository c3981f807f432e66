/- Texts that belong together. -/
import Derived.Test.YtaekhhaaphgndaaGreatZk
set_option linter.unusedSimpArgs false
set_option linter.unusedVariables false
set_option maxRecDepth 100000
namespace Go.Proofs.YtaekhhaaphgndaaGreat
section
open Go.Gov
abbrev maniA (M:List (List Int)):AV:=.agg [mat M]
abbrev maniP (M:List (List Int)):AV:=.pto [mat M] 0
end
section
open Go.Gov Go.Sort
theorem putRow_setRow {α : Type} [Inhabited α] (enc : α → Value) (w : World) (q b off : Nat) (d : Array α) {arr : Array Value} {elem : TypeId} {fr : Nat × Nat} (hb : w.heap[b]? = some (.cells arr elem fr)) (A : Array Value) (hA : putCells enc off d arr = A) :
    putRow enc (Sort.ahead w q) b off d=(Sort.ahead w q).setRow b A:=by
 subst hA
 unfold putRow mapBlock World.setRow
 congr 1
 have hlt:b<w.heap.size:=(Array.getElem?_eq_some_iff.1 hb).1
 have hbe:w.heap[b] = .cells arr elem fr:=(Array.getElem?_eq_some_iff.1 hb).2
 refine Array.ext (by simp) fun j h1 h2=>?_
 simp only [Array.getElem_modify]
 by_cases e:b=j
 ·subst e
  simp only [if_pos rfl]
  show onCells _ (w.heap[b])=_
  rw [show (Sort.ahead w q).heap[b]'(by simpa using h1)=w.heap[b] from rfl,hbe]
  rfl
 ·simp only [if_neg e]
def encV (v:Value):Value:=if v.oneCell' = true then v else .slice none 0 0
theorem encV_one:OneCell encV:=fun v=>by unfold encV;split;assumption;rfl
theorem encV_eq {v:Value}(h:v.oneCell' = true):encV v=v:=by unfold encV;rw [if_pos h]
theorem slc_nob {w:World}{tr:Nat→Option (Option LocN)}{G:Nat→Prop}{k n:Nat}{cs:List AV}{v:Value}{bs:List Nat}(h:Rd w tr G (.slc k n cs) v bs):bs=[]:=by cases h<;>rfl
theorem delete_c {ext : Bool} (he : ext = false) (rows : List (List Int)) (i : Nat) (hi : i < rows.length) (hl : rows.length ≤ 1099511627776) {H : Heap} {o : Nat} {K : AV → Heap → Prop} (ho : H[o]? = some (some (rows.map ints)))
    (hK:K (.sl o 1 0 (rows.length - 1)) (H.set o (some ((rows.take i++rows.drop (i+1)++[[]]).map ints)))):CallsX Tryz.prog ext 68 [.sl o 1 0 rows.length,i64 i,i64 ((i:Int)+1)] H K:=by
 subst he
 intro g w vals hp hl1 hr
 have h0:=hr 0 (by simp)
 have h1:=hr 1 (by simp)
 have h2:=hr 2 (by simp)
 simp only [List.getElem_cons_zero,List.getElem_cons_succ] at h0 h1 h2
 have hv:vals = #[vals.getD 0 undef,.int .i64 i,.int .i64 ((i+1:Nat):Int)]:=by
  refine Array.ext (by simpa using hl1) fun j h3 h4=>?_
  have e1:=h1.val_inv.1
  have e2:=h2.val_inv.1
  simp only [List.length_cons,List.length_nil] at hl1
  match j,h4 with
  | 0,_=>simp [h3]
  | 1,_=>simpa [h3] using e1
  | 2,_=>simpa [h3] using e2
 generalize vals.getD 0 undef=v at h0 hv
 subst hv
 have hob:=hp.obj o _ ho
 cases h0 with
 | sl h00 hv0 h=>
  obtain ⟨hle,hS⟩:=h _ (Gh.tr_some (g:=g) ho)
  dsimp only at hS hle
  cases hρ:g.ρ o with
  | none=>
   rw [hρ] at hS
   obtain ⟨hn,_⟩:=hS
   omega
  | some l=>
   obtain ⟨b,base,sz⟩:=l
   rw [hρ] at hS hob
   obtain ⟨cap,c1,c2,c3,h4⟩:=hS
   rcases h4 with rfl | ⟨rfl,a,rfl⟩
   ·obtain ⟨arr,elem,u,bss,hb,hsz,hbase,hc,hr2,hobs⟩:=hob.cells (by omega)
    simp only [List.length_map] at hbase hc hr2
    have hu1:∀ m,m<rows.length→(u m).oneCell' = true:=fun m hm=>oneA_ok (hr2 m hm) (by simp [oneA])
    have hd:∃ d:Array Value,d=((List.range rows.length).map u).toArray:=⟨_,rfl⟩
    obtain ⟨d,hd⟩:=hd
    have hds:d.size=rows.length:=by simp [hd]
    have hdg:∀ m,m<rows.length→d[m]! = u m:=fun m hm=>by simp [hd,hm]
    have hH:Holds encV w b (base+0) d:=fun j hj=>by
     rw [hds] at hj
     have hcj:=hc j hj
     refine ⟨?_,by have h9:elem.1.2.2≤elem.1.2.1∨sz≤elem.1.2.1:=elem.2;have h11:base+j<sz:=(by omega);simp [World.frozen?,hb];intro h10;rcases h9 with h9 | h9;exact Nat.le_trans h9 h10;exact absurd (Nat.le_trans h9 h10) (by omega)⟩
     rw [hdg j hj,encV_eq (hu1 j hj)]
     simp only [World.cell?,hb,Nat.add_zero]
     simpa using hcj
    have hinfo:(Tryz.prog.info? (Tryz.delL_ren.t 23)).bind (fun i=>i.zero.map fun z=>(i.size,z))=some (1,.slice none 0 0):=by kernel_rfl
    simp only [Option.bind_eq_some_iff,Option.map_eq_some_iff,Prod.mk.injEq] at hinfo
    obtain ⟨i0,hi0,z,hz,hsz0,rfl⟩:=hinfo
    have hz0:∀ w,(zeroValue (Tryz.delL_ren.t 23)).run Tryz.prog w = .ok (encV (.slice none 0 0)) w:=fun w' => by
     rw [encV_eq rfl];simp [zeroValue,typeInfo,hi0,hz]
    have hdel:=AnyE.slices_Delete Tryz.delL encV encV_one (.slice none 0 0) hz0 i0 hi0 hsz0 b (base+0) cap i (i+1) d w hH (by omega) (by unfold maxLen at c2;omega) (by omega) (by omega)
    rw [hds] at hdel
    refine hdel.mono ?_
    rintro e w' ⟨rfl,q,rfl⟩
    have hdl:d.toList=(List.range rows.length).map u:=by simp [hd]
    rw [hdl]
    have hlen:(((List.range rows.length).map u).take i++((List.range rows.length).map u).drop (i+1)++List.replicate (i+1 - i) (Value.slice none 0 0)).length=rows.length:=by simp;omega
    generalize hus:(((List.range rows.length).map u).take i++((List.range rows.length).map u).drop (i+1)++List.replicate (i+1 - i) (Value.slice none 0 0))=us at hlen
    have hpA:HeapR g H (Sort.ahead w q):=hp.keep (Nat.le_refl _) fun _ _=>rfl
    have hmA:Mv g H w g H (Sort.ahead w q):=⟨hpA,⟨rfl,⟨rfl,by first | exact Nat.le_add_right _ _ | exact Nat.le_refl _⟩,rfl,Nat.le_refl _,fun _ _ _=>rfl,fun _ h=>.inl h,fun _ h=>h,fun _ h=>.inl h,fun _ _=>rfl⟩,fun _ _ h=>Rd.mono (w:=w) (w' := Sort.ahead w q) (fun _ h=>h) (fun _ _=>rfl) (fun _ _ h=>.inl h) h (by simp),fun _ _ h=>.inl h⟩
    have hrow:∀ m (hm:m<((rows.take i++rows.drop (i+1)++[[]]).map ints).length),Rd (Sort.ahead w q) (g.tr H) g.G (((rows.take i++rows.drop (i+1)++[[]]).map ints)[m]) (us.getD m undef) []:=fun m hm=>by
     have hnil:∀ m,m<rows.length→bss m=[]:=fun m hm=>by
      have h5:=hr2 m hm
      simp only [List.getElem_map] at h5
      generalize u m=v at h5
      generalize bss m=bs at h5
      generalize rows[m]=r at h5
      exact slc_nob h5
     have hold:∀ k (hk:k<rows.length),Rd (Sort.ahead w q) (g.tr H) g.G (ints rows[k]) (u k) []:=fun k hk=>by
      have h5:=hr2 k hk
      rw [hnil k hk] at h5
      simp only [List.getElem_map] at h5
      exact hmA.lift _ _ h5
     have hm' : m<rows.length:=by simp at hm;omega
     subst hus
     simp only [List.map_append,List.map_cons,List.map_nil,show i+1 - i=1 by omega,List.replicate_one]
     rcases Nat.lt_or_ge m i with h6 | h6
     ·have e1 : (List.map ints (rows.take i) ++ List.map ints (rows.drop (i + 1)) ++ [ints []])[m]'(by simp; omega) = ints rows[m] := by
        rw [List.getElem_append_left (by simp;omega),List.getElem_append_left (by simp;omega)];simp
      have e2:(((List.range rows.length).map u).take i++((List.range rows.length).map u).drop (i+1)++[Value.slice none 0 0]).getD m undef=u m:=by
       rw [List.getD_eq_getElem?_getD,List.getElem?_append_left (by simp;omega),List.getElem?_append_left (by simp;omega)];simp [h6,hm']
      rw [e1,e2]
      exact hold m hm'
     ·rcases Nat.lt_or_ge m (rows.length - 1) with h7 | h7
      ·have e1 : (List.map ints (rows.take i) ++ List.map ints (rows.drop (i + 1)) ++ [ints []])[m]'(by simp; omega) = ints (rows[m + 1]'(by omega)) := by
         rw [List.getElem_append_left (by simp;omega),List.getElem_append_right (by simp;omega)]
         have e3:i+1+(m - min i rows.length)=m+1:=by omega
         simp only [List.getElem_map,List.getElem_drop,List.length_map,List.length_take,e3]
       have e2:(((List.range rows.length).map u).take i++((List.range rows.length).map u).drop (i+1)++[Value.slice none 0 0]).getD m undef=u (m+1):=by
        rw [List.getD_eq_getElem?_getD,List.getElem?_append_left (by simp;omega),List.getElem?_append_right (by simp;omega)]
        simp only [List.length_take,List.length_map,List.length_range,List.getElem?_drop,List.getElem?_map]
        rw [show i+1+(m - min i rows.length)=m+1 by omega,List.getElem?_range (by omega)]
        rfl
       rw [e1,e2]
       exact hold (m+1) (by omega)
      ·have e1 : (List.map ints (rows.take i) ++ List.map ints (rows.drop (i + 1)) ++ [ints []])[m]'(by simp; omega) = ints [] := by
         rw [List.getElem_append_right (by simp;omega)];simp
       have e2:(((List.range rows.length).map u).take i++((List.range rows.length).map u).drop (i+1)++[Value.slice none 0 0]).getD m undef = .slice none 0 0:=by
        rw [List.getD_eq_getElem?_getD,List.getElem?_append_right (by simp;omega)]
        simp only [List.length_append,List.length_take,List.length_drop,List.length_map,List.length_range]
        rw [show m - (min i rows.length+(rows.length - (i+1)))=0 by omega]
        rfl
       rw [e1,e2]
       exact .slc0 (by unfold maxLen;omega)
    have hvl:((rows.take i++rows.drop (i+1)++[[]]).map ints).length=rows.length:=by simp;omega
    obtain ⟨g', hm2⟩:=set_obj hpA (j:=0) (vs:=(rows.take i++rows.drop (i+1)++[[]]).map ints) ho hρ (by rw [hvl];simp) (us:=us) (by rw [hvl,hlen]) hrow hb
    have hcs:(rows.map ints).take 0++(rows.take i++rows.drop (i+1)++[[]]).map ints++(rows.map ints).drop (0+((rows.take i++rows.drop (i+1)++[[]]).map ints).length)=(rows.take i++rows.drop (i+1)++[[]]).map ints:=by
     rw [hvl];simp
    rw [hcs] at hm2
    have hus1:∀ x∈us,x.oneCell' = true:=fun x hx=>by
     subst hus
     rcases List.mem_append.1 hx with hx | hx
     ·have : x ∈ (List.range rows.length).map u := by
        rcases List.mem_append.1 hx with hx | hx
        ·exact List.mem_of_mem_take hx
        ·exact List.mem_of_mem_drop hx
      obtain ⟨k,hk,rfl⟩:=List.mem_map.1 this
      exact hu1 k (List.mem_range.1 hk)
     ·rw [(List.mem_replicate.1 hx).2];rfl
    rw [putRow_setRow encV w q b (base+0) us.toArray hb (arr.toList.take (base+0)++us++arr.toList.drop (base+0+us.length)).toArray ?_]
    ·have hne : g'.tr (H.set o (some ((rows.take i ++ rows.drop (i + 1) ++ [[]]).map ints))) o = some (some (g'.ρ o, rows.length)) := by
       have hlt:o<H.length:=(List.getElem?_eq_some_iff.1 ho).1
       have h9:(H.set o (some ((rows.take i++rows.drop (i+1)++[[]]).map ints)))[o]? = some (some ((rows.take i++rows.drop (i+1)++[[]]).map ints)):=List.getElem?_set_self hlt
       rw [Gh.tr_some (g:=g') h9,hvl]
     have hback:g'.ρ o=some (b,base,sz):=by
      have h8:=hm2.trk o _ (Gh.tr_some ho)
      rw [hne] at h8
      simp only [List.length_map,Option.some.injEq,Prod.mk.injEq,reduceCtorEq,or_false] at h8
      rw [h8.1,hρ]
     refine ⟨_,g', _,_,rfl,hmA.trans hm2,.sl (by rw [hne];rfl) rfl fun l hl=>?_,by simp,hK⟩
     rw [hne,hback] at hl
     obtain rfl:=Option.some.inj (Option.some.inj hl)
     exact ⟨by dsimp only;omega,cap,by omega,c2,c3,.inl (by rw [show rows.length - (i+1 - i)=rows.length - 1 by omega])⟩
    ·refine Array.ext (by simp [putCells];omega) fun j h5 h6=>?_
     simp only [putCells,Array.size_mapIdx] at h5
     simp only [putCells,Array.getElem_mapIdx,List.getElem_toArray,List.size_toArray,hlen]
     by_cases e:base+0≤j∧j<base+0+rows.length
     ·rw [if_pos e,List.getElem_append_left (by simp;omega),List.getElem_append_right (by simp;omega)]
      have hj:j - (base+0)<us.length:=by omega
      rw [getElem!_pos us.toArray (j - (base+0)) (by simpa using hj)]
      simp only [List.getElem_toArray]
      rw [encV_eq (hus1 _ (List.getElem_mem hj))]
      have e3:j - (List.take (base+0) arr.toList).length=j - (base+0):=by simp;omega
      simp only [e3]
     ·rw [if_neg e]
      rcases Nat.lt_or_ge j base with h7 | h7
      ·rw [List.getElem_append_left (by simp;omega),List.getElem_append_left (by simp;omega)]
       simp
      ·rw [List.getElem_append_right (by simp;omega)]
       have e3:base+0+rows.length+(j - (min (base+0) arr.size+us.length))=j:=by omega
       simp only [List.getElem_drop,Array.getElem_toList,List.length_append,List.length_take,Array.length_toList,e3]
   ·omega
end
section
open Go.Gov
def oth (M:List (List Int))(i k:Nat):List (List Int):=(M.take k).take i++(M.take k).drop (i+1)
theorem oth_len {M:List (List Int)}{i k:Nat}(hk:k≤M.length):(oth M i k).length=if i<k then k - 1 else k:=by
 unfold oth
 simp only [List.length_append,List.length_take,List.length_drop]
 split<;>omega
theorem oth_step {M:List (List Int)}{i k:Nat}(hk:k<M.length):oth M i (k+1)=oth M i k++if k=i then [] else [M.getD k []]:=by
 have e:M.take (k+1)=M.take k++[M.getD k []]:=by rw [List.take_succ_eq_append_getElem hk];simp [hk]
 have hl:(M.take k).length=k:=by simp;omega
 unfold oth
 rw [e]
 rcases Nat.lt_trichotomy k i with h | h | h
 ·rw [if_neg (by omega),List.take_of_length_le (by simp;omega),List.drop_of_length_le (by simp;omega),List.take_of_length_le (l:=M.take k) (by simp;omega),List.drop_of_length_le (l:=M.take k) (by simp;omega)]
  simp
 ·subst h
  rw [if_pos rfl,List.take_append_of_le_length (by omega),List.drop_of_length_le (by simp;omega),List.drop_of_length_le (l:=M.take k) (by omega)]
  simp
 ·rw [if_neg (by omega),List.take_append_of_le_length (by omega),List.drop_append_of_le_length (by omega),List.append_assoc]
theorem oth_mem {M:List (List Int)}{i k:Nat}{p:List Int}(h:p∈oth M i k):p∈M:=by
 unfold oth at h
 rcases List.mem_append.1 h with h | h
 ·exact List.mem_of_mem_take (List.mem_of_mem_take h)
 ·exact List.mem_of_mem_take (List.mem_of_mem_drop h)
theorem MvOk.oth {n:Nat}{M:List (List Int)}(h:MvOk n M)(i k:Nat):MvOk n (oth M i k):=fun p hp=>h p (oth_mem hp)
theorem one_row (r:List Int)(M:List (List Int)):M.map ints++[ints r]=(M++[r]).map ints:=by simp
set_option maxHeartbeats 2000000 in
theorem l02Others_c (M:List (List Int))(i:Int)(hl:M.length≤1048576)(hi:0≤i):Pure Tryz.prog 56 [maniA M,ints [i]] (.sl 0 1 0 (oth M i.toNat M.length).length) [some ((oth M i.toNat M.length).map ints)]:=by
 refine pureVg [1] ok56 rfl ?_;unfold c56
 refine RN ?_
 refine V_loop (α:=Nat) (S:=fun k=>([(1,ints [i]),(2,.ref 0 0),(5,.sl 1 1 0 (oth M i.toNat k).length),(6,i64 k)],[some [mat M],some ((oth M i.toNat k).map ints)])) (C:=fun k=>k≤M.length) (μ:=fun k=>M.length - k) 0 (by omega) (Ref.to (by simp [oth]) (by simp [sub,fget,oth])) ?_
 intro k hk
 have hol:=oth_len (i:=i.toNat) hk
 have hol2:(oth M i.toNat k).length≤k:=by rw [hol];split<;>omega
 refine RN ?_
 refine ⟨fun hc=>?_,fun hc=>?_⟩
 ·have hk' : k<M.length:=by omega
  have hst:=oth_step (i:=i.toNat) hk'
  refine RN ?_
  refine pureC1 (l01Has_c [i] k (by simp)) ?_
  refine RN ?_
  refine ⟨fun hc1=>?_,fun hc1=>?_⟩
  ·have hne:¬ k=i.toNat:=by (try simp at hc1);omega
   rw [if_neg hne] at hst
   refine RN ?_
   refine ⟨k+1,by omega,by omega,?_⟩
   rw [hst]
   refine Ref.gc [0,3] rfl ?_ (by simp [sub,fget,go_sem,↓reduceIte,Nat.reduceEqDiff,Nat.reduceAdd,reduceCtorEq])
   have e1:((oth M i.toNat k).map ints).take (oth M i.toNat k).length=(oth M i.toNat k).map ints:=List.take_of_length_le (by simp)
   (try simp only [go_sem,↓reduceIte,Nat.reduceEqDiff,Nat.reduceAdd,reduceCtorEq,e1,one_row])
  ·have he:k=i.toNat:=by (try simp at hc1);omega
   rw [if_pos he,List.append_nil] at hst
   refine RN ?_
   refine ⟨k+1,by omega,by omega,?_⟩
   rw [hst]
   exact Ref.frame (by simp [sub,fget])
 ·obtain rfl:k=M.length:=by omega
  (refine RN ?_;try with_reducible exact trivial)
  (try simp only [go_sem,↓reduceIte,Nat.reduceEqDiff,Nat.reduceAdd,reduceCtorEq,and_self])
end
section
open Go.Gov
theorem cloneRows_c (M:List (List Int))(h0:0<M.length)(hl:M.length≤1048576):Pure Tryz.prog 69 [mat M] (.sl 0 1 0 M.length) [some (M.map ints)]:=by
 obtain ⟨r,R,rfl⟩:∃ r R,M=r :: R:=by cases M with | nil=>simp at h0 | cons r R=>exact ⟨r,R,rfl⟩
 generalize hM:r :: R=M at *
 have hlen:M.length=R.length+1:=by rw [← hM];rfl
 refine pureVg [1] ok69 rfl ?_;unfold c69
 rw [show mat M = .slc 1 (R.length+1) (M.map ints) by rw [mat,hlen]]
 have hn:∀ H,nilOf H (.slc 1 (R.length+1) (M.map ints))=some false:=fun _=>rfl
 refine RN ?_
 simp only [hn,Option.isSome_some,Option.getD_some,true_and]
 refine RN ?_
 have hpl:(M.map ints).all plainC=true:=by simp [plainC]
 have hon:(M.map ints).all oneA=true:=List.all_eq_true.2 fun x hx=>by
  obtain ⟨y,_,rfl⟩:=List.mem_map.1 hx
  rfl
 refine ⟨hon,AppK_pl hpl ?_⟩
 (refine RN ?_;try with_reducible exact trivial)
 (try simp only [go_sem,↓reduceIte,Nat.reduceEqDiff,Nat.reduceAdd,reduceCtorEq,and_self,and_true])
 rw [hlen]
theorem sizeRows_c (M:List (List Int))(hl:M.length≤1048576):Pure Tryz.prog 58 [mat M] (i64 M.length) []:=by
 refine pureV ok58 rfl ?_;unfold c58
 (refine RN ?_;try with_reducible exact trivial)
theorem rank_c (M:List (List Int))(hl:M.length≤1048576):Pure Tryz.prog 43 [maniP M] (i64 M.length) []:=by
 refine pureV ok43 rfl ?_;unfold c43
 refine RN ?_
 refine pureC1 (sizeRows_c M hl) ?_
 (refine RN ?_;try with_reducible exact trivial)
theorem flags_c (M:List (List Int))(h0:0<M.length)(hl:M.length≤1048576)(hr:(M.getD 0 []).length≤1048576):Pure Tryz.prog 44 [maniP M] (i64 (M.getD 0 []).length) []:=by
 refine pureV ok44 rfl ?_;unfold c44
 (refine RN ?_;try with_reducible exact trivial)
 (try simp only [show Int.toNat 0=0 from rfl])
 refine pureC1 (size_c (M.getD 0 []) (by omega)) ?_
 (refine RN ?_;try with_reducible exact trivial)
theorem l02Flags_c (M:List (List Int))(h0:0<M.length)(hl:M.length≤1048576)(hr:(M.getD 0 []).length≤1048576):Pure Tryz.prog 55 [maniA M] (i64 (M.getD 0 []).length) []:=by
 refine pureV0 ok55 rfl rfl ?_;unfold c55
 (refine RN ?_;try with_reducible exact trivial)
 try rfl
theorem without_c (M:List (List Int))(i:Nat)(hi:i<M.length)(hl:M.length≤1048576):Pure Tryz.prog 62 [maniP M,i64 i] (.sl 0 1 0 (oth M i M.length).length) [some ((oth M i M.length++[[]]).map ints)]:=by
 have hol:=oth_len (M:=M) (i:=i) (k:=M.length) (Nat.le_refl _)
 rw [if_pos hi] at hol
 have hoe:M.take i++M.drop (i+1)=oth M i M.length:=by unfold oth;rw [List.take_length]
 refine pureVg [0] ok62 rfl ?_;unfold c62
 refine RN ?_
 refine call_pureG (cloneRows_c M (by omega) hl) (by simp only [go_sem,↓reduceIte,Nat.reduceEqDiff,Nat.reduceAdd,reduceCtorEq]<;>rfl) ?_
 refine RN ?_
 refine delete_c rfl M i hi (by omega) rfl ?_
 rw [hoe,← hol]
 (try simp only [go_sem,↓reduceIte,Nat.reduceEqDiff,Nat.reduceAdd,reduceCtorEq])
 (refine RN ?_;try with_reducible exact trivial)
 (try simp only [go_sem,↓reduceIte,Nat.reduceEqDiff,Nat.reduceAdd,reduceCtorEq,and_self])
end
section
open Go.Gov
theorem labs_len (n:Nat)(L:List (List Int)):(labs n L).length=n:=by simp [labs]
theorem labs_at {n:Nat}{L:List (List Int)}{x:Nat}(h:x<n):(labs n L).getD x 0=((lab L x:Nat):Int):=by simp [labs,h]
end
section
open Go.Gov
theorem take_rows (L:List (List Int)):(L.map ints).take (L.length*1)=L.map ints:=List.take_of_length_le (by simp)
theorem take_rows1 (L:List (List Int))(r:List Int):((L++[r]).map ints).take (L.length*1)=L.map ints:=by
 rw [← List.map_take,Nat.mul_one,List.take_left']
 rfl
theorem l02Faces_c (n : Nat) (M : List (List Int)) (i : Nat) (hM : MvOk n M) (hi : i < M.length) (hr : (M.getD 0 []).length = n) (hn : n ≤ 1048576) (hl : M.length ≤ 1048576) :
    Pure Tryz.prog 35 [maniA M,i64 i] (.sl 0 1 0 n) [some (intsC (labs n (oth M i M.length)))]:=by
 have hol:=oth_len (M:=M) (i:=i) (k:=M.length) (Nat.le_refl _)
 rw [if_pos hi] at hol
 have hmo:=hM.oth i M.length
 have hot:=l02Others_c M i hl (by omega)
 rw [show ((i:Nat):Int).toNat=i by omega] at hot
 refine pureVg [3] ok35 rfl ?_;unfold c35
 refine RN ?_
 refine V_alts ?_
 refine RN ?_
 refine ⟨?_,rfl,?_⟩
 ·refine pureC1 (l02Flags_c M (by omega) hl (by omega)) ?_
  refine ⟨rfl,?_⟩
  refine call_pureZ (hot) (by (try simp only [go_sem,↓reduceIte,Nat.reduceEqDiff,Nat.reduceAdd,reduceCtorEq,Nat.reduceMul,List.take_succ_cons,List.take_zero]);try rfl) ?_
  generalize oth M i M.length=L at *
  simp only [hr,go_sem,↓reduceIte,Nat.reduceEqDiff,Nat.reduceAdd,reduceCtorEq]
  refine pureC2 (l01Orbits_c n L hmo hn (by omega)) (by simp only [take_rows,take_rows1,map_frz_rows,go_sem,↓reduceIte,Nat.reduceEqDiff,Nat.reduceAdd,reduceCtorEq]) ?_
  (refine RN ?_;try with_reducible exact trivial)
  (try simp only [go_sem,↓reduceIte,Nat.reduceEqDiff,Nat.reduceAdd,reduceCtorEq,and_self])
 ·refine pureC1 (l02Flags_c M (by omega) hl (by omega)) ?_
  refine call_pureZ (hot) (by (try simp only [go_sem,↓reduceIte,Nat.reduceEqDiff,Nat.reduceAdd,reduceCtorEq,Nat.reduceMul,List.take_succ_cons,List.take_zero]);try rfl) ?_
  generalize oth M i M.length=L at *
  simp only [hr,go_sem,↓reduceIte,Nat.reduceEqDiff,Nat.reduceAdd,reduceCtorEq]
  refine pureC2 (l01Orbits_c n L hmo hn (by omega)) (by simp only [take_rows,take_rows1,map_frz_rows,go_sem,↓reduceIte,Nat.reduceEqDiff,Nat.reduceAdd,reduceCtorEq]) ?_
  (refine RN ?_;try with_reducible exact trivial)
  (try simp only [go_sem,↓reduceIte,Nat.reduceEqDiff,Nat.reduceAdd,reduceCtorEq,and_self])
theorem faces_c (n : Nat) (M : List (List Int)) (i : Nat) (hM : MvOk n M) (hi : i < M.length) (hr : (M.getD 0 []).length = n) (hn : n ≤ 1048576) (hl : M.length ≤ 1048576) :
    Pure Tryz.prog 49 [maniP M,i64 i] (.tup [.sl 0 1 0 n,i64 (ncnt (oth M i M.length) n)]) [some (intsC (labs n (oth M i M.length)))]:=by
 have hol:=oth_len (M:=M) (i:=i) (k:=M.length) (Nat.le_refl _)
 rw [if_pos hi] at hol
 have hmo:=hM.oth i M.length
 refine pureVg [1] ok49 rfl ?_;unfold c49
 refine RN ?_
 refine pureC1 (flags_c M (by omega) hl (by omega)) ?_
 refine RN ?_
 refine call_pureG (without_c M i hi hl) (by simp only [go_sem,↓reduceIte,Nat.reduceEqDiff,Nat.reduceAdd,reduceCtorEq]<;>rfl) ?_
 refine RN ?_
 generalize oth M i M.length=L at *
 rw [hr]
 refine pureC2 (orbitLabels_c n L hmo hn (by omega)) (by simp only [take_rows,take_rows1,map_frz_rows,go_sem,↓reduceIte,Nat.reduceEqDiff,Nat.reduceAdd,reduceCtorEq]) ?_
 (refine RN ?_;try with_reducible exact trivial)
 (try simp only [go_sem,↓reduceIte,Nat.reduceEqDiff,Nat.reduceAdd,reduceCtorEq,and_self])
end
end Go.Proofs.YtaekhhaaphgndaaGreat
