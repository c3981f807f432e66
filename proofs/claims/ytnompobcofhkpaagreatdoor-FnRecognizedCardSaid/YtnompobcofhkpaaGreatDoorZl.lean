/- Texts that belong together. -/
import Derived.Test.YtnompobcofhkpaaGreatDoorZk
set_option linter.unusedSimpArgs false
set_option linter.unusedVariables false
set_option maxRecDepth 100000
namespace Go.Proofs.YtnompobcofhkpaaGreatDoor
section
open Go.Gov
abbrev Ak (M:List (List Int)):AV:=.agg [Ae M]
abbrev Mk (M:List (List Int)):AV:=.pto [Ae M] 0
end
section
open Go.Gov Go.Sort
theorem Aha {α : Type} [Inhabited α] (enc : α → Value) (w : World) (q b off : Nat) (d : Array α) {arr : Array Value} {elem : TypeId} {fr : Nat × Nat} (hb : w.heap[b]? = some (.cells arr elem fr)) (A : Array Value) (hA : putCells enc off d arr = A) :
    putRow enc (Sort.ahead w q) b off d=(Sort.ahead w q).setRow b A:=by
 subst hA
 unfold putRow mapBlock World.setRow
 congr 1
 have hlt:b<w.heap.size:=(Array.getElem?_eq_some_iff.1 hb).1
 have hbe:w.heap[b] = .cells arr elem fr:=(Array.getElem?_eq_some_iff.1 hb).2
 refine Array.ext (by simp) fun j h1 h2=>?_
 simp only [Array.getElem_modify]
 by_cases e:b=j
 ·subst e
  simp only [if_pos rfl]
  show onCells _ (w.heap[b])=_
  rw [show (Sort.ahead w q).heap[b]'(by simpa using h1)=w.heap[b] from rfl,hbe]
  rfl
 ·simp only [if_neg e]
def Jz (v:Value):Value:=if v.oneCell' = true then v else .slice none 0 0
theorem uE:OneCell Jz:=fun v=>by unfold Jz;split;assumption;rfl
theorem U4 {v:Value}(h:v.oneCell' = true):Jz v=v:=by unfold Jz;rw [if_pos h]
theorem Aj1 {w:World}{tr:Nat→Option (Option Bn)}{G:Nat→Prop}{k n:Nat}{cs:List AV}{v:Value}{bs:List Nat}(h:Rd w tr G (.slc k n cs) v bs):bs=[]:=by cases h<;>rfl
theorem tY {ext : Bool} (he : ext = false) (rows : List (List Int)) (i : Nat) (hi : i < rows.length) (hl : rows.length ≤ 1099511627776) {H : Heap} {o : Nat} {K : AV → Heap → Prop} (ho : H[o]? = some (some (rows.map Ad)))
    (hK:K (.sl o 1 0 (rows.length - 1)) (H.set o (some ((rows.take i++rows.drop (i+1)++[[]]).map Ad)))):CallsX Tryz.prog ext 156 [.sl o 1 0 rows.length,i64 i,i64 ((i:Int)+1)] H K:=by
 subst he
 intro g w vals hp hl1 hr
 have h0:=hr 0 (by simp)
 have h1:=hr 1 (by simp)
 have h2:=hr 2 (by simp)
 simp only [List.getElem_cons_zero,List.getElem_cons_succ] at h0 h1 h2
 have hv:vals = #[vals.getD 0 undef,.int .i64 i,.int .i64 ((i+1:Nat):Int)]:=by
  refine Array.ext (by simpa using hl1) fun j h3 h4=>?_
  have e1:=h1.val_inv.1
  have e2:=h2.val_inv.1
  simp only [List.length_cons,List.length_nil] at hl1
  match j,h4 with
  | 0,_=>simp [h3]
  | 1,_=>simpa [h3] using e1
  | 2,_=>simpa [h3] using e2
 generalize vals.getD 0 undef=v at h0 hv
 subst hv
 have hob:=hp.obj o _ ho
 cases h0 with
 | sl h00 hv0 h=>
  obtain ⟨hle,hS⟩:=h _ (Gh.tr_some (g:=g) ho)
  dsimp only at hS hle
  cases hρ:g.ρ o with
  | none=>
   rw [hρ] at hS
   obtain ⟨hn,_⟩:=hS
   omega
  | some l=>
   obtain ⟨b,base,sz⟩:=l
   rw [hρ] at hS hob
   obtain ⟨cap,c1,c2,c3,h4⟩:=hS
   rcases h4 with rfl | ⟨rfl,a,rfl⟩
   ·obtain ⟨arr,elem,u,bss,hb,hsz,hbase,hc,hr2,hobs⟩:=hob.cells (by omega)
    simp only [List.length_map] at hbase hc hr2
    have hu1:∀ m,m<rows.length→(u m).oneCell' = true:=fun m hm=>K9 (hr2 m hm) (by simp [Cq])
    have hd:∃ d:Array Value,d=((List.range rows.length).map u).toArray:=⟨_,rfl⟩
    obtain ⟨d,hd⟩:=hd
    have hds:d.size=rows.length:=by simp [hd]
    have hdg:∀ m,m<rows.length→d[m]! = u m:=fun m hm=>by simp [hd,hm]
    have hH:Holds Jz w b (base+0) d:=fun j hj=>by
     rw [hds] at hj
     have hcj:=hc j hj
     refine ⟨?_,by have h9:elem.1.2.2≤elem.1.2.1∨sz≤elem.1.2.1:=elem.2;have h11:base+j<sz:=(by omega);simp [World.frozen?,hb];intro h10;rcases h9 with h9 | h9;exact Nat.le_trans h9 h10;exact absurd (Nat.le_trans h9 h10) (by omega)⟩
     rw [hdg j hj,U4 (hu1 j hj)]
     simp only [World.cell?,hb,Nat.add_zero]
     simpa using hcj
    have hinfo:(Tryz.prog.info? (Tryz.delL_ren.t 23)).bind (fun i=>i.zero.map fun z=>(i.size,z))=some (1,.slice none 0 0):=by kernel_rfl
    simp only [Option.bind_eq_some_iff,Option.map_eq_some_iff,Prod.mk.injEq] at hinfo
    obtain ⟨i0,hi0,z,hz,hsz0,rfl⟩:=hinfo
    have hz0:∀ w,(zeroValue (Tryz.delL_ren.t 23)).run Tryz.prog w = .ok (Jz (.slice none 0 0)) w:=fun w' => by
     rw [U4 rfl];simp [zeroValue,typeInfo,hi0,hz]
    have hdel:=AnyE.slices_Delete Tryz.delL Jz uE (.slice none 0 0) hz0 i0 hi0 hsz0 b (base+0) cap i (i+1) d w hH (by omega) (by unfold maxLen at c2;omega) (by omega) (by omega)
    rw [hds] at hdel
    refine hdel.mono ?_
    rintro e w' ⟨rfl,q,rfl⟩
    have hdl:d.toList=(List.range rows.length).map u:=by simp [hd]
    rw [hdl]
    have hlen:(((List.range rows.length).map u).take i++((List.range rows.length).map u).drop (i+1)++List.replicate (i+1 - i) (Value.slice none 0 0)).length=rows.length:=by simp;omega
    generalize hus:(((List.range rows.length).map u).take i++((List.range rows.length).map u).drop (i+1)++List.replicate (i+1 - i) (Value.slice none 0 0))=us at hlen
    have hpA:HeapR g H (Sort.ahead w q):=hp.keep (Nat.le_refl _) fun _ _=>rfl
    have hmA:Mv g H w g H (Sort.ahead w q):=⟨hpA,⟨rfl,⟨rfl,by first | exact Nat.le_add_right _ _ | exact Nat.le_refl _⟩,rfl,Nat.le_refl _,fun _ _ _=>rfl,fun _ h=>.inl h,fun _ h=>h,fun _ h=>.inl h,fun _ _=>rfl⟩,fun _ _ h=>Rd.mono (w:=w) (w' := Sort.ahead w q) (fun _ h=>h) (fun _ _=>rfl) (fun _ _ h=>.inl h) h (by simp),fun _ _ h=>.inl h⟩
    have hrow:∀ m (hm:m<((rows.take i++rows.drop (i+1)++[[]]).map Ad).length),Rd (Sort.ahead w q) (g.tr H) g.G (((rows.take i++rows.drop (i+1)++[[]]).map Ad)[m]) (us.getD m undef) []:=fun m hm=>by
     have hnil:∀ m,m<rows.length→bss m=[]:=fun m hm=>by
      have h5:=hr2 m hm
      simp only [List.getElem_map] at h5
      generalize u m=v at h5
      generalize bss m=bs at h5
      generalize rows[m]=r at h5
      exact Aj1 h5
     have hold:∀ k (hk:k<rows.length),Rd (Sort.ahead w q) (g.tr H) g.G (Ad rows[k]) (u k) []:=fun k hk=>by
      have h5:=hr2 k hk
      rw [hnil k hk] at h5
      simp only [List.getElem_map] at h5
      exact hmA.lift _ _ h5
     have hm' : m<rows.length:=by simp at hm;omega
     subst hus
     simp only [List.map_append,List.map_cons,List.map_nil,show i+1 - i=1 by omega,List.replicate_one]
     rcases Nat.lt_or_ge m i with h6 | h6
     ·have e1 : (List.map Ad (rows.take i) ++ List.map Ad (rows.drop (i + 1)) ++ [Ad []])[m]'(by simp; omega) = Ad rows[m] := by
        rw [List.getElem_append_left (by simp;omega),List.getElem_append_left (by simp;omega)];simp
      have e2:(((List.range rows.length).map u).take i++((List.range rows.length).map u).drop (i+1)++[Value.slice none 0 0]).getD m undef=u m:=by
       rw [List.getD_eq_getElem?_getD,List.getElem?_append_left (by simp;omega),List.getElem?_append_left (by simp;omega)];simp [h6,hm']
      rw [e1,e2]
      exact hold m hm'
     ·rcases Nat.lt_or_ge m (rows.length - 1) with h7 | h7
      ·have e1 : (List.map Ad (rows.take i) ++ List.map Ad (rows.drop (i + 1)) ++ [Ad []])[m]'(by simp; omega) = Ad (rows[m + 1]'(by omega)) := by
         rw [List.getElem_append_left (by simp;omega),List.getElem_append_right (by simp;omega)]
         have e3:i+1+(m - min i rows.length)=m+1:=by omega
         simp only [List.getElem_map,List.getElem_drop,List.length_map,List.length_take,e3]
       have e2:(((List.range rows.length).map u).take i++((List.range rows.length).map u).drop (i+1)++[Value.slice none 0 0]).getD m undef=u (m+1):=by
        rw [List.getD_eq_getElem?_getD,List.getElem?_append_left (by simp;omega),List.getElem?_append_right (by simp;omega)]
        simp only [List.length_take,List.length_map,List.length_range,List.getElem?_drop,List.getElem?_map]
        rw [show i+1+(m - min i rows.length)=m+1 by omega,List.getElem?_range (by omega)]
        rfl
       rw [e1,e2]
       exact hold (m+1) (by omega)
      ·have e1 : (List.map Ad (rows.take i) ++ List.map Ad (rows.drop (i + 1)) ++ [Ad []])[m]'(by simp; omega) = Ad [] := by
         rw [List.getElem_append_right (by simp;omega)];simp
       have e2:(((List.range rows.length).map u).take i++((List.range rows.length).map u).drop (i+1)++[Value.slice none 0 0]).getD m undef = .slice none 0 0:=by
        rw [List.getD_eq_getElem?_getD,List.getElem?_append_right (by simp;omega)]
        simp only [List.length_append,List.length_take,List.length_drop,List.length_map,List.length_range]
        rw [show m - (min i rows.length+(rows.length - (i+1)))=0 by omega]
        rfl
       rw [e1,e2]
       exact .slc0 (by unfold maxLen;omega)
    have hvl:((rows.take i++rows.drop (i+1)++[[]]).map Ad).length=rows.length:=by simp;omega
    obtain ⟨g', hm2⟩:=W5 hpA (j:=0) (vs:=(rows.take i++rows.drop (i+1)++[[]]).map Ad) ho hρ (by rw [hvl];simp) (us:=us) (by rw [hvl,hlen]) hrow hb
    have hcs:(rows.map Ad).take 0++(rows.take i++rows.drop (i+1)++[[]]).map Ad++(rows.map Ad).drop (0+((rows.take i++rows.drop (i+1)++[[]]).map Ad).length)=(rows.take i++rows.drop (i+1)++[[]]).map Ad:=by
     rw [hvl];simp
    rw [hcs] at hm2
    have hus1:∀ x∈us,x.oneCell' = true:=fun x hx=>by
     subst hus
     rcases List.mem_append.1 hx with hx | hx
     ·have : x ∈ (List.range rows.length).map u := by
        rcases List.mem_append.1 hx with hx | hx
        ·exact List.mem_of_mem_take hx
        ·exact List.mem_of_mem_drop hx
      obtain ⟨k,hk,rfl⟩:=List.mem_map.1 this
      exact hu1 k (List.mem_range.1 hk)
     ·rw [(List.mem_replicate.1 hx).2];rfl
    rw [Aha Jz w q b (base+0) us.toArray hb (arr.toList.take (base+0)++us++arr.toList.drop (base+0+us.length)).toArray ?_]
    ·have hne : g'.tr (H.set o (some ((rows.take i ++ rows.drop (i + 1) ++ [[]]).map Ad))) o = some (some (g'.ρ o, rows.length)) := by
       have hlt:o<H.length:=(List.getElem?_eq_some_iff.1 ho).1
       have h9:(H.set o (some ((rows.take i++rows.drop (i+1)++[[]]).map Ad)))[o]? = some (some ((rows.take i++rows.drop (i+1)++[[]]).map Ad)):=List.getElem?_set_self hlt
       rw [Gh.tr_some (g:=g') h9,hvl]
     have hback:g'.ρ o=some (b,base,sz):=by
      have h8:=hm2.trk o _ (Gh.tr_some ho)
      rw [hne] at h8
      simp only [List.length_map,Option.some.injEq,Prod.mk.injEq,reduceCtorEq,or_false] at h8
      rw [h8.1,hρ]
     refine ⟨_,g', _,_,rfl,hmA.trans hm2,.sl (by rw [hne];rfl) rfl fun l hl=>?_,by simp,hK⟩
     rw [hne,hback] at hl
     obtain rfl:=Option.some.inj (Option.some.inj hl)
     exact ⟨by dsimp only;omega,cap,by omega,c2,c3,.inl (by rw [show rows.length - (i+1 - i)=rows.length - 1 by omega])⟩
    ·refine Array.ext (by simp [putCells];omega) fun j h5 h6=>?_
     simp only [putCells,Array.size_mapIdx] at h5
     simp only [putCells,Array.getElem_mapIdx,List.getElem_toArray,List.size_toArray,hlen]
     by_cases e:base+0≤j∧j<base+0+rows.length
     ·rw [if_pos e,List.getElem_append_left (by simp;omega),List.getElem_append_right (by simp;omega)]
      have hj:j - (base+0)<us.length:=by omega
      rw [getElem!_pos us.toArray (j - (base+0)) (by simpa using hj)]
      simp only [List.getElem_toArray]
      rw [U4 (hus1 _ (List.getElem_mem hj))]
      have e3:j - (List.take (base+0) arr.toList).length=j - (base+0):=by simp;omega
      simp only [e3]
     ·rw [if_neg e]
      rcases Nat.lt_or_ge j base with h7 | h7
      ·rw [List.getElem_append_left (by simp;omega),List.getElem_append_left (by simp;omega)]
       simp
      ·rw [List.getElem_append_right (by simp;omega)]
       have e3:base+0+rows.length+(j - (min (base+0) arr.size+us.length))=j:=by omega
       simp only [List.getElem_drop,Array.getElem_toList,List.length_append,List.length_take,Array.length_toList,e3]
   ·omega
end
section
open Go.Gov
def oth (M:List (List Int))(i k:Nat):List (List Int):=(M.take k).take i++(M.take k).drop (i+1)
theorem Sr {M:List (List Int)}{i k:Nat}(hk:k≤M.length):(oth M i k).length=if i<k then k - 1 else k:=by
 unfold oth
 simp only [List.length_append,List.length_take,List.length_drop]
 split<;>omega
theorem Agd {M:List (List Int)}{i k:Nat}(hk:k<M.length):oth M i (k+1)=oth M i k++if k=i then [] else [M.getD k []]:=by
 have e:M.take (k+1)=M.take k++[M.getD k []]:=by rw [List.take_succ_eq_append_getElem hk];simp [hk]
 have hl:(M.take k).length=k:=by simp;omega
 unfold oth
 rw [e]
 rcases Nat.lt_trichotomy k i with h | h | h
 ·rw [if_neg (by omega),List.take_of_length_le (by simp;omega),List.drop_of_length_le (by simp;omega),List.take_of_length_le (l:=M.take k) (by simp;omega),List.drop_of_length_le (l:=M.take k) (by simp;omega)]
  simp
 ·subst h
  rw [if_pos rfl,List.take_append_of_le_length (by omega),List.drop_of_length_le (by simp;omega),List.drop_of_length_le (l:=M.take k) (by omega)]
  simp
 ·rw [if_neg (by omega),List.take_append_of_le_length (by omega),List.drop_append_of_le_length (by omega),List.append_assoc]
theorem Agc {M:List (List Int)}{i k:Nat}{p:List Int}(h:p∈oth M i k):p∈M:=by
 unfold oth at h
 rcases List.mem_append.1 h with h | h
 ·exact List.mem_of_mem_take (List.mem_of_mem_take h)
 ·exact List.mem_of_mem_take (List.mem_of_mem_drop h)
theorem MvOk.oth {n:Nat}{M:List (List Int)}(h:MvOk n M)(i k:Nat):MvOk n (oth M i k):=fun p hp=>h p (Agc hp)
theorem Afp (r:List Int)(M:List (List Int)):M.map Ad++[Ad r]=(M++[r]).map Ad:=by simp
set_option maxHeartbeats 2000000 in
theorem xT (M:List (List Int))(i:Int)(hl:M.length≤1048576)(hi:0≤i):Pure Tryz.prog 94 [Ak M,Ad [i]] (.sl 0 1 0 (oth M i.toNat M.length).length) [some ((oth M i.toNat M.length).map Ad)]:=by
 refine Ga [1] Ae6 rfl ?_;unfold bV
 refine RN ?_
 refine Ah (α:=Nat) (S:=fun k=>([(1,Ad [i]),(2,.ref 0 0),(5,.sl 1 1 0 (oth M i.toNat k).length),(6,i64 k)],[some [Ae M],some ((oth M i.toNat k).map Ad)])) (C:=fun k=>k≤M.length) (μ:=fun k=>M.length - k) 0 (by omega) (Ref.to (by simp [oth]) (by simp [sub,Ab,oth])) ?_
 intro k hk
 have hol:=Sr (i:=i.toNat) hk
 have hol2:(oth M i.toNat k).length≤k:=by rw [hol];split<;>omega
 refine RN ?_
 refine ⟨fun hc=>?_,fun hc=>?_⟩
 ·have hk' : k<M.length:=by omega
  have hst:=Agd (i:=i.toNat) hk'
  refine RN ?_
  refine Ag (xG [i] k (by simp)) ?_
  refine RN ?_
  refine ⟨fun hc1=>?_,fun hc1=>?_⟩
  ·have hne:¬ k=i.toNat:=by (try simp at hc1);omega
   rw [if_neg hne] at hst
   refine RN ?_
   refine ⟨k+1,by omega,by omega,?_⟩
   rw [hst]
   refine Ref.gc [0,3] rfl ?_ (by simp [sub,Ab,go_sem,↓reduceIte,Nat.reduceEqDiff,Nat.reduceAdd,reduceCtorEq])
   have e1:((oth M i.toNat k).map Ad).take (oth M i.toNat k).length=(oth M i.toNat k).map Ad:=List.take_of_length_le (by simp)
   (try simp only [go_sem,↓reduceIte,Nat.reduceEqDiff,Nat.reduceAdd,reduceCtorEq,e1,Afp])
  ·have he:k=i.toNat:=by (try simp at hc1);omega
   rw [if_pos he,List.append_nil] at hst
   refine RN ?_
   refine ⟨k+1,by omega,by omega,?_⟩
   rw [hst]
   exact Ref.frame (by simp [sub,Ab])
 ·obtain rfl:k=M.length:=by omega
  (refine RN ?_;try with_reducible exact trivial)
  (try simp only [go_sem,↓reduceIte,Nat.reduceEqDiff,Nat.reduceAdd,reduceCtorEq,and_self])
end
section
open Go.Gov
theorem sQ (M:List (List Int))(h0:0<M.length)(hl:M.length≤1048576):Pure Tryz.prog 157 [Ae M] (.sl 0 1 0 M.length) [some (M.map Ad)]:=by
 obtain ⟨r,R,rfl⟩:∃ r R,M=r :: R:=by cases M with | nil=>simp at h0 | cons r R=>exact ⟨r,R,rfl⟩
 generalize hM:r :: R=M at *
 have hlen:M.length=R.length+1:=by rw [← hM];rfl
 refine Ga [1] Acy rfl ?_;unfold Zi
 rw [show Ae M = .slc 1 (R.length+1) (M.map Ad) by rw [Ae,hlen]]
 have hn:∀ H,Gr H (.slc 1 (R.length+1) (M.map Ad))=some false:=fun _=>rfl
 refine RN ?_
 simp only [hn,Option.isSome_some,Option.getD_some,true_and]
 refine RN ?_
 have hpl:(M.map Ad).all Bp=true:=by simp [Bp]
 have hon:(M.map Ad).all Cq=true:=List.all_eq_true.2 fun x hx=>by
  obtain ⟨y,_,rfl⟩:=List.mem_map.1 hx
  rfl
 refine ⟨hon,Xu hpl ?_⟩
 (refine RN ?_;try with_reducible exact trivial)
 (try simp only [go_sem,↓reduceIte,Nat.reduceEqDiff,Nat.reduceAdd,reduceCtorEq,and_self,and_true])
 rw [hlen]
theorem Aj0 (M:List (List Int))(hl:M.length≤1048576):Pure Tryz.prog 121 [Ae M] (i64 M.length) []:=by
 refine Cu kL rfl ?_;unfold Ue
 (refine RN ?_;try with_reducible exact trivial)
theorem S2 (M:List (List Int))(hl:M.length≤1048576):Pure Tryz.prog 79 [Mk M] (i64 M.length) []:=by
 refine Cu Aes rfl ?_;unfold bI
 refine RN ?_
 refine Ag (Aj0 M hl) ?_
 (refine RN ?_;try with_reducible exact trivial)
theorem Jb (M:List (List Int))(h0:0<M.length)(hl:M.length≤1048576)(hr:(M.getD 0 []).length≤1048576):Pure Tryz.prog 80 [Mk M] (i64 (M.getD 0 []).length) []:=by
 refine Cu Aet rfl ?_;unfold c80
 (refine RN ?_;try with_reducible exact trivial)
 (try simp only [show Int.toNat 0=0 from rfl])
 refine Ag (Pq (M.getD 0 []) (by omega)) ?_
 (refine RN ?_;try with_reducible exact trivial)
theorem Hw (M:List (List Int))(h0:0<M.length)(hl:M.length≤1048576)(hr:(M.getD 0 []).length≤1048576):Pure Tryz.prog 14 [Ak M] (i64 (M.getD 0 []).length) []:=by
 refine Ao Acn rfl rfl ?_;unfold Y8
 (refine RN ?_;try with_reducible exact trivial)
 try rfl
theorem Als (M:List (List Int))(i:Nat)(hi:i<M.length)(hl:M.length≤1048576):Pure Tryz.prog 124 [Mk M,i64 i] (.sl 0 1 0 (oth M i M.length).length) [some ((oth M i M.length++[[]]).map Ad)]:=by
 have hol:=Sr (M:=M) (i:=i) (k:=M.length) (Nat.le_refl _)
 rw [if_pos hi] at hol
 have hoe:M.take i++M.drop (i+1)=oth M i M.length:=by unfold oth;rw [List.take_length]
 refine Ga [0] Aca rfl ?_;unfold Yx
 refine RN ?_
 refine D4 (sQ M (by omega) hl) (by simp only [go_sem,↓reduceIte,Nat.reduceEqDiff,Nat.reduceAdd,reduceCtorEq]<;>rfl) ?_
 refine RN ?_
 refine tY rfl M i hi (by omega) rfl ?_
 rw [hoe,← hol]
 (try simp only [go_sem,↓reduceIte,Nat.reduceEqDiff,Nat.reduceAdd,reduceCtorEq])
 (refine RN ?_;try with_reducible exact trivial)
 (try simp only [go_sem,↓reduceIte,Nat.reduceEqDiff,Nat.reduceAdd,reduceCtorEq,and_self])
end
section
open Go.Gov
theorem iG (n:Nat)(L:List (List Int)):(Fj n L).length=n:=by simp [Fj]
theorem zQ {n:Nat}{L:List (List Int)}{x:Nat}(h:x<n):(Fj n L).getD x 0=((Hx L x:Nat):Int):=by simp [Fj,h]
theorem Aa9 {L:List (List Int)}{x k:Nat}(h:Bk L x<k)(hf:Bk L (Bk L x)=Bk L x):Hx L x<B1 L k:=by
 have h1:=Mp hf
 have h2:=Wb L (a:=Bk L x+1) (b:=k) (by omega)
 unfold Hx
 omega
theorem xR (n:Nat)(L:List (List Int))(hL:MvOk n L)(hn:n≤1048576):Pure Tryz.prog 50 [Ad (Fj n L)] (i64 (B1 L n)) []:=by
 have hll:=iG n L
 refine Cu Ad6 rfl ?_;unfold aL
 refine RN ?_
 refine Ah (α:=Nat) (S:=fun k=>([(0,Ad (Fj n L)),(3,i64 (B1 L k)),(4,i64 k)],[])) (C:=fun k=>k≤n) (μ:=fun k=>n - k) 0 (by omega) (Ref.to (by simp) (by simp [sub,Ab,B1])) ?_
 intro k hk
 refine RN ?_
 refine ⟨fun hc=>?_,fun hc=>?_⟩
 ·have hk' : k<n:=by omega
  have hat:=zQ (L:=L) hk'
  have hle:=(Io L k).1
  have hff:=Ve hL hk'
  have hcl:=O7 L k
  have hlow:=fun h=>Aa9 (L:=L) (x:=k) (k:=k) h hff
  refine RN ?_
  refine ⟨fun hc1=>?_,fun hc1=>?_⟩
  ·have hf : Bk L k = k := by
     rcases Nat.lt_or_ge (Bk L k) k with h | h
     ·have:=hlow h;omega
     ·omega
   have hlk:Hx L k=B1 L k:=by unfold Hx;rw [hf]
   have hnew:=Mp hf
   refine RN ?_
   refine ⟨k+1,by omega,by omega,?_⟩
   rw [show (Fj n L).getD k 0+1=((B1 L (k+1):Nat):Int) by omega]
   exact Ref.frame (by simp [sub,Ab])
  ·have hf : Bk L k ≠ k := fun h => by
     have hlk:Hx L k=B1 L k:=by unfold Hx;rw [h]
     omega
   have hold:=Sd hf
   refine RN ?_
   refine ⟨k+1,by omega,by omega,?_⟩
   rw [hold]
   exact Ref.frame (by simp [sub,Ab])
 ·obtain rfl:k=n:=by omega
  (refine RN ?_;try with_reducible exact trivial)
end
section
open Go.Gov
theorem Xe (L:List (List Int)):(L.map Ad).take (L.length*1)=L.map Ad:=List.take_of_length_le (by simp)
theorem Xf (L:List (List Int))(r:List Int):((L++[r]).map Ad).take (L.length*1)=L.map Ad:=by
 rw [← List.map_take,Nat.mul_one,List.take_left']
 rfl
theorem xQ (n : Nat) (M : List (List Int)) (i : Nat) (hM : MvOk n M) (hi : i < M.length) (hr : (M.getD 0 []).length = n) (hn : n ≤ 1048576) (hl : M.length ≤ 1048576) :
    Pure Tryz.prog 51 [Ak M,i64 i] (.sl 0 1 0 n) [some (Aa (Fj n (oth M i M.length)))]:=by
 have hol:=Sr (M:=M) (i:=i) (k:=M.length) (Nat.le_refl _)
 rw [if_pos hi] at hol
 have hmo:=hM.oth i M.length
 have hot:=xT M i hl (by omega)
 rw [show ((i:Nat):Int).toNat=i by omega] at hot
 refine Ga [3] Ad7 rfl ?_;unfold c51
 refine RN ?_
 refine Nq ?_
 refine RN ?_
 refine ⟨?_,rfl,?_⟩
 ·refine Ag (Hw M (by omega) hl (by omega)) ?_
  refine ⟨rfl,?_⟩
  refine cE (hot) (by (try simp only [go_sem,↓reduceIte,Nat.reduceEqDiff,Nat.reduceAdd,reduceCtorEq,Nat.reduceMul,List.take_succ_cons,List.take_zero]);try rfl) ?_
  generalize oth M i M.length=L at *
  simp only [hr,go_sem,↓reduceIte,Nat.reduceEqDiff,Nat.reduceAdd,reduceCtorEq]
  refine Kh (fX n L hmo hn (by omega)) (by simp only [Xe,Xf,R8,go_sem,↓reduceIte,Nat.reduceEqDiff,Nat.reduceAdd,reduceCtorEq]) ?_
  (refine RN ?_;try with_reducible exact trivial)
  (try simp only [go_sem,↓reduceIte,Nat.reduceEqDiff,Nat.reduceAdd,reduceCtorEq,and_self])
 ·refine Ag (Hw M (by omega) hl (by omega)) ?_
  refine cE (hot) (by (try simp only [go_sem,↓reduceIte,Nat.reduceEqDiff,Nat.reduceAdd,reduceCtorEq,Nat.reduceMul,List.take_succ_cons,List.take_zero]);try rfl) ?_
  generalize oth M i M.length=L at *
  simp only [hr,go_sem,↓reduceIte,Nat.reduceEqDiff,Nat.reduceAdd,reduceCtorEq]
  refine Kh (fX n L hmo hn (by omega)) (by simp only [Xe,Xf,R8,go_sem,↓reduceIte,Nat.reduceEqDiff,Nat.reduceAdd,reduceCtorEq]) ?_
  (refine RN ?_;try with_reducible exact trivial)
  (try simp only [go_sem,↓reduceIte,Nat.reduceEqDiff,Nat.reduceAdd,reduceCtorEq,and_self])
theorem uQ (n : Nat) (M : List (List Int)) (i : Nat) (hM : MvOk n M) (hi : i < M.length) (hr : (M.getD 0 []).length = n) (hn : n ≤ 1048576) (hl : M.length ≤ 1048576) :
    Pure Tryz.prog 84 [Mk M,i64 i] (.tup [.sl 0 1 0 n,i64 (B1 (oth M i M.length) n)]) [some (Aa (Fj n (oth M i M.length)))]:=by
 have hol:=Sr (M:=M) (i:=i) (k:=M.length) (Nat.le_refl _)
 rw [if_pos hi] at hol
 have hmo:=hM.oth i M.length
 refine Ga [1] Aex rfl ?_;unfold bM
 refine RN ?_
 refine Ag (Jb M (by omega) hl (by omega)) ?_
 refine RN ?_
 refine D4 (Als M i hi hl) (by simp only [go_sem,↓reduceIte,Nat.reduceEqDiff,Nat.reduceAdd,reduceCtorEq]<;>rfl) ?_
 refine RN ?_
 generalize oth M i M.length=L at *
 rw [hr]
 refine Kh (lH n L hmo hn (by omega)) (by simp only [Xe,Xf,R8,go_sem,↓reduceIte,Nat.reduceEqDiff,Nat.reduceAdd,reduceCtorEq]) ?_
 (refine RN ?_;try with_reducible exact trivial)
 (try simp only [go_sem,↓reduceIte,Nat.reduceEqDiff,Nat.reduceAdd,reduceCtorEq,and_self])
end
end Go.Proofs.YtnompobcofhkpaaGreatDoor
