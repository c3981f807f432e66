/- Texts that belong together. -/
import Derived.Test.YtfofabbkigonpaaDoorR5
import Derived.Test.YtfofabbkigonpaaDoorQh
set_option maxHeartbeats 16000000
set_option linter.unusedSimpArgs false
set_option linter.unusedVariables false
set_option maxRecDepth 100000
namespace Go.Proofs.YtfofabbkigonpaaDoor
section
open Go.Gov
open Classical
def Dw (r:Int)(R:List Int)(d:Nat):List Int:=(List.range R.length).map fun e=>if e<d then r - 1 - R.getD (R.length - 1 - e) 0 else 0
noncomputable def Bs (B:List (List Int))(n d f:Nat):List Int:=((List.range d).filter fun x=>decide (Ab B (n - 1 - f) (n - 1 - x))).map fun x:Nat=>(x:Int)
noncomputable def Bw (B:List (List Int))(n d k:Nat):List (List Int):=(List.range n).map fun f=>Bs B n d f++if ((n - 1 - f:Nat):Int)∈(B.getD (n - 1 - d) []).take k then [(d:Int)] else []
section
variable {r:Int} {R:List Int} {B:List (List Int)} {n d k:Nat}
theorem Y7:(Dw r R d).length=R.length:=by simp [Dw]
theorem rP:Dw r R 0=List.replicate R.length 0:=by
 refine List.ext_getElem (by simp [Dw]) fun j h1 h2=>?_
 simp [Dw]
theorem rO (hd:d<R.length):(Dw r R d).set d (r - 1 - R.getD (R.length - 1 - d) 0)=Dw r R (d+1):=by
 refine List.ext_getElem (by simp [Dw]) fun j h1 h2=>?_
 rw [List.getElem_set]
 simp only [Dw,List.getElem_map,List.getElem_range]
 by_cases e:d=j
 ·subst e
  rw [if_pos rfl,if_pos (by omega)]
 ·rw [if_neg e]
  by_cases q:j<d
  ·rw [if_pos q,if_pos (by omega)]
  ·rw [if_neg q,if_neg (by omega)]
theorem rN:Dw r R R.length=A0 r R:=List.map_congr_left fun e he=>by rw [if_pos (List.mem_range.1 he)]
theorem Y5:(Bw B n d k).length=n:=by simp [Bw]
theorem rH {f:Nat}(hf:f<n):(Bw B n d k).getD f []=Bs B n d f++if ((n - 1 - f:Nat):Int)∈(B.getD (n - 1 - d) []).take k then [(d:Int)] else []:=by simp [Bw,hf]
theorem rL:Bw B n 0 0=List.replicate n []:=by
 refine List.ext_getElem (by simp [Bw]) fun j h1 h2=>?_
 simp [Bw,Bs]
theorem rJ (hp:IsPos r R B)(hd:d<R.length):Bw B R.length d (B.getD (R.length - 1 - d) []).length=Bw B R.length (d+1) 0:=by
 refine List.map_congr_left fun f hf=>?_
 rw [List.take_length,if_neg (show ¬ ((R.length - 1 - f:Nat):Int)∈(B.getD (R.length - 1 - (d+1)) []).take 0 by simp),List.append_nil]
 unfold Bs
 rw [List.range_succ,List.filter_append,List.map_append]
 congr 1
 by_cases q:Ab B (R.length - 1 - f) (R.length - 1 - d)
 ·rw [if_pos (show ((R.length - 1 - f:Nat):Int)∈B.getD (R.length - 1 - d) [] from q),List.filter_cons_of_pos (by simpa using q)];rfl
 ·rw [if_neg (show ¬ ((R.length - 1 - f:Nat):Int)∈B.getD (R.length - 1 - d) [] from q),List.filter_cons_of_neg (by simpa using q)];rfl
theorem rI:Bw B n n 0=Aw B n:=by
 refine List.map_congr_left fun f hf=>?_
 rw [List.take_zero,if_neg (by simp),List.append_nil]
 rfl
theorem rK (hp:IsPos r R B)(hd:d<R.length)(hk:k<(B.getD (R.length - 1 - d) []).length){y:Nat}(hy:(B.getD (R.length - 1 - d) []).getD k 0=(y:Int))(hyn:y<R.length):(Bw B R.length d k).getD (R.length - 1 - y) []=Bs B R.length d (R.length - 1 - y)∧(Bw B R.length d k).set (R.length - 1 - y) (Bs B R.length d (R.length - 1 - y)++[(d:Int)])=Bw B R.length d (k+1):=by
 have hs:=hp.rows.2 (R.length - 1 - d)
 have hnot:(y:Int)∉(B.getD (R.length - 1 - d) []).take k:=fun h=>by
  obtain ⟨j,hj,he⟩:=List.mem_iff_getElem.1 h
  rw [List.length_take] at hj
  rw [List.getElem_take] at he
  have:=List.pairwise_iff_getElem.1 hs j k (by omega) hk (by omega)
  rw [B6 _ k hk] at hy
  omega
 constructor
 ·rw [rH (by omega),show R.length - 1 - (R.length - 1 - y)=y by omega,if_neg hnot,List.append_nil]
 ·refine List.ext_getElem (by simp [Bw]) fun f h1 h2=>?_
  rw [List.getElem_set]
  simp only [Bw,List.getElem_map,List.getElem_range]
  have hfn:f<R.length:=by simpa [Bw] using h2
  rw [B6 _ k hk] at hy
  have hmem:∀ x:Int,x∈(B.getD (R.length - 1 - d) []).take (k+1) ↔ x∈(B.getD (R.length - 1 - d) []).take k∨x=(y:Int):=fun x=>by
   rw [List.take_succ_eq_append_getElem hk,List.mem_append,List.mem_singleton,hy]
  by_cases e:R.length - 1 - y=f
  ·subst e
   rw [if_pos rfl,show R.length - 1 - (R.length - 1 - y)=y by omega,if_pos ((hmem _).2 (.inr rfl))]
  ·rw [if_neg e]
   by_cases q:((R.length - 1 - f:Nat):Int)∈(B.getD (R.length - 1 - d) []).take k
   ·rw [if_pos q,if_pos ((hmem _).2 (.inl q))]
   ·rw [if_neg q,if_neg]
    intro h
    rcases (hmem _).1 h with h | h
    ·exact q h
    ·omega
end
theorem Zb (r:Int)(R:List Int)(B:List (List Int))(hp:IsPos r R B):Ao Tryd.prog 21 [A6 r R B] (A6 r (A0 r R) (Aw B R.length)) []:=by
 obtain ⟨a1,a2,a3,a4,a5⟩:=hp.rank
 have hsz:=I9 R (by omega)
 refine De oU rfl ?_;unfold Ua
 refine RN ?_
 refine An (hsz) ?_
 refine RN ?_
 refine Mu [(1,.ref 0 0),(2,.ref 1 0),(3,i64 (R.length:Int)),(4,.ref 2 0)] [some [i64 r,Ad R,Ae B],some [i64 0,Ag,Ag],some [i64 r,.sl 3 1 0 R.length,.sl 4 1 0 R.length],some (Aa (List.replicate R.length 0)),some (List.replicate R.length Ag)] ?_ ?_
 ·(repeat' first | simp only [go_sem,↓reduceIte,Nat.reduceEqDiff,Nat.reduceAdd,reduceCtorEq] | with_reducible refine Fg ?_ | with_reducible refine Pu ?_ | with_reducible refine Ff ?_ | with_reducible exact Fh | with_reducible refine Fe ?_ ?_ | (with_reducible refine And.intro ?_ ?_;focus first | assumption | omega | grind))
  all_goals first
   | (refine Ref.gc [0,1,4,2,3] rfl ?_ ?_;(focus (simp only [go_sem,↓reduceIte,Nat.reduceEqDiff,Nat.reduceAdd,reduceCtorEq]<;>rfl));(focus (simp [sub,Ac,go_sem,↓reduceIte,Nat.reduceEqDiff,Nat.reduceAdd,reduceCtorEq];done)))
   | (refine Ref.gc [0,1,4,3,2] rfl ?_ ?_;(focus (simp only [go_sem,↓reduceIte,Nat.reduceEqDiff,Nat.reduceAdd,reduceCtorEq]<;>rfl));(focus (simp [sub,Ac,go_sem,↓reduceIte,Nat.reduceEqDiff,Nat.reduceAdd,reduceCtorEq];done)))
   | (refine Ref.gc [0,1,2,3,4] rfl ?_ ?_;(focus (simp only [go_sem,↓reduceIte,Nat.reduceEqDiff,Nat.reduceAdd,reduceCtorEq]<;>rfl));(focus (simp [sub,Ac,go_sem,↓reduceIte,Nat.reduceEqDiff,Nat.reduceAdd,reduceCtorEq];done)))
   | (refine Ref.gc [0,1,2,4,3] rfl ?_ ?_;(focus (simp only [go_sem,↓reduceIte,Nat.reduceEqDiff,Nat.reduceAdd,reduceCtorEq]<;>rfl));(focus (simp [sub,Ac,go_sem,↓reduceIte,Nat.reduceEqDiff,Nat.reduceAdd,reduceCtorEq];done)))
   | (refine Ref.gc [0,1,3,2,4] rfl ?_ ?_;(focus (simp only [go_sem,↓reduceIte,Nat.reduceEqDiff,Nat.reduceAdd,reduceCtorEq]<;>rfl));(focus (simp [sub,Ac,go_sem,↓reduceIte,Nat.reduceEqDiff,Nat.reduceAdd,reduceCtorEq];done)))
   | (refine Ref.gc [0,1,3,4,2] rfl ?_ ?_;(focus (simp only [go_sem,↓reduceIte,Nat.reduceEqDiff,Nat.reduceAdd,reduceCtorEq]<;>rfl));(focus (simp [sub,Ac,go_sem,↓reduceIte,Nat.reduceEqDiff,Nat.reduceAdd,reduceCtorEq];done)))
   | skip
 ·refine D0 ((Ref.nils 4 1 R.length rfl).trans (Ref.to (F' := [(1,.ref 0 0),(2,.ref 1 0),(3,i64 (R.length:Int)),(4,.ref 2 0)]) (H' := [some [i64 r,Ad R,Ae B],some [i64 0,Ag,Ag],some [i64 r,.sl 3 1 0 R.length,.sl 4 1 0 R.length],some (Aa (Dw r R 0)),some ((Bw B R.length 0 0).map Af)]) (by rw [rP,rL];simp [Aa]) (by simp [sub,Ac]))) ?_
  refine RN ?_
  refine Ak (α:=Nat) (S:=fun d=>([(1,.ref 0 0),(2,.ref 1 0),(3,i64 (R.length:Int)),(4,.ref 2 0),(5,i64 ((R.length:Int) - 1 - d))],[some [i64 r,Ad R,Ae B],some [i64 0,Ag,Ag],some [i64 r,.sl 3 1 0 R.length,.sl 4 1 0 R.length],some (Aa (Dw r R d)),some ((Bw B R.length d 0).map Af)])) (C:=fun d=>d≤R.length) (μ:=fun d=>R.length - d) 0 (Nat.zero_le _) (Ref.to (by rfl) (by simp [sub,Ac])) ?_
  intro d hd
  refine RN ?_
  refine ⟨fun hc=>?_,fun hc=>?_⟩
  ·have hdR:d<R.length:=by omega
   obtain ⟨e,he⟩:∃ e,e=R.length - 1 - d:=⟨_,rfl⟩
   have he1:(R.length:Int) - 1 - (d:Int)=(e:Int):=by omega
   have he2:(R.length:Int) - 1 - (e:Int)=(d:Int):=by omega
   have heR:e<R.length:=by omega
   have hre:=a5 e heR
   have hst:=rO (r:=r) hdR
   rw [← he] at hst
   have hfw:=hp.few heR
   have hlr:=Y7 (r:=r) (R:=R) (d:=d)
   (repeat first | simp only [he1,he2,go_sem,↓reduceIte,Nat.reduceEqDiff,Nat.reduceAdd,reduceCtorEq] | refine RX ?_ | decide)
   refine Ak (α:=Nat) (S:=fun k=>([(1,.ref 0 0),(2,.ref 1 0),(3,i64 (R.length:Int)),(4,.ref 2 0),(5,i64 (e:Int)),(44,Ad (B.getD e [])),(45,i64 ((B.getD e []).length:Int)),(46,i64 (k:Int))],[some [i64 r,Ad R,Ae B],some [i64 0,Ag,Ag],some [i64 r,.sl 3 1 0 R.length,.sl 4 1 0 R.length],some (Aa (Dw r R (d+1))),some ((Bw B R.length d k).map Af)])) (C:=fun k=>k≤(B.getD e []).length) (μ:=fun k=>(B.getD e []).length - k) 0 (Nat.zero_le _) (Ref.to (by rw [← hst]) (by simp [sub,Ac])) ?_
   intro k hk
   refine RN ?_
   refine ⟨fun hc2=>?_,fun hc2=>?_⟩
   ·have hkl:k<(B.getD e []).length:=by omega
    obtain ⟨y,hy,hya⟩:=Ot hp heR (show (B.getD e []).getD k 0∈B.getD e [] by rw [B6 _ k hkl];exact List.getElem_mem hkl)
    have hyR:=(Ko hp heR hya).1
    obtain ⟨w1,w2⟩:=rK hp hdR (by rw [← he];exact hkl) (y:=y) (by rw [← he];exact hy) (by omega)
    obtain ⟨f,hf⟩:∃ f,f=R.length - 1 - y:=⟨_,rfl⟩
    have hf1:(R.length:Int) - 1 - (y:Int)=(f:Int):=by omega
    have hfR:f<R.length:=by omega
    rw [← hf] at w1 w2
    have hbl:=Y5 (B:=B) (n:=R.length) (d:=d) (k:=k)
    have hrow:((Bw B R.length d k).map Af)[f]? = some (Af (Bs B R.length d f)):=by
     rw [List.getElem?_map,List.getElem?_eq_getElem (by rw [hbl];exact hfR),← w1]
     simp [show f<(Bw B R.length d k).length by rw [hbl];exact hfR]
    have hrl:(Bs B R.length d f).length≤R.length:=by
     have:=List.length_filter_le (fun x=>decide (Ab B (R.length - 1 - f) (R.length - 1 - x))) (List.range d)
     unfold Bs
     rw [List.length_map]
     rw [List.length_range] at this
     omega
    generalize Bs B R.length d f=row at *
    generalize Bw B R.length d k=X at *
    (repeat first | simp only [hy,go_sem,↓reduceIte,Nat.reduceEqDiff,Nat.reduceAdd,reduceCtorEq] | refine RX ?_ | decide)
    refine Hs (Ref.open 4 f (cs:=X.map Af) (cs2:=Aa row) (k:=1) (n:=row.length) rfl hrow) ?_
    simp only [List.set_cons_zero,List.set_cons_succ,List.cons_append,List.nil_append,List.length_cons,List.length_nil,Nat.zero_add]
    have hg:=Eb (X.map Af) f (.sl 5 1 0 row.length) (.slc 1 0 []) (by simp;omega)
    have hg2:=Eb (X.map Af) f (.sl 5 1 0 row.length) .any (by simp;omega)
    have hls:((X.map Af).set f (.sl 5 1 0 row.length)).length=R.length:=by rw [List.length_set,List.length_map];exact hbl
    have tkr:(Aa row).take row.length=Aa row:=List.take_of_length_le (by simp [Aa])
    refine Sy [(1,.ref 0 0),(2,.ref 1 0),(3,i64 (R.length:Int)),(4,.ref 2 0),(5,i64 (e:Int)),(44,Ad (B.getD e [])),(45,i64 ((B.getD e []).length:Int)),(46,i64 (k:Int))] [some [i64 r,Ad R,Ae B],some [i64 0,Ag,Ag],some [i64 r,.sl 3 1 0 R.length,.sl 4 1 0 R.length],some (Aa (Dw r R (d+1))),some ((Bw B R.length d (k+1)).map Af)] ?_ ?_
    ·repeat' first
       | simp only [hf1,he2,hg,hg2,hls,Int.toNat_natCast,go_sem,↓reduceIte,Nat.reduceEqDiff,Nat.reduceAdd,reduceCtorEq]
       | with_reducible refine Fg ?_
       | with_reducible refine Ff ?_
       | with_reducible exact Fh
       | with_reducible refine Fe ?_ ?_
       | (with_reducible refine And.intro ?_ ?_;focus first | assumption | omega | grind)
     all_goals
      refine (Ref.close 4 f 7 (k:=1) (n:=row.length+1) (cs:=((X.map Af).set f (.sl 5 1 0 row.length)).set f (.sl 7 1 0 (row.length+1))) (cs2:=Aa row++[i64 (d:Int)]) rfl (List.getElem?_set_self (by simp;omega)) rfl (by decide) (by simp [Aa])).trans (Ref.gc [0,1,2,3,4] rfl ?_ (by simp [sub,Ac,go_sem,↓reduceIte,Nat.reduceEqDiff,Nat.reduceAdd,reduceCtorEq]))
      have e1:(((X.map Af).set f (.sl 5 1 0 row.length)).set f (.sl 7 1 0 (row.length+1))).set f (.osl 1 (row.length+1) (Aa row++[i64 (d:Int)]))=(Bw B R.length d (k+1)).map Af:=by
       rw [List.set_set,List.set_set,← w2,List.map_set]
       simp [Af,Aa]
      simp only [e1,Dx,go_sem,↓reduceIte,Nat.reduceEqDiff,Nat.reduceAdd,reduceCtorEq]
    ·(refine RN ?_;try with_reducible exact trivial)
     exact ⟨k+1,by omega,by omega,Ref.to1⟩
   ·obtain rfl:k=(B.getD e []).length:=by omega
    refine RN ?_
    exact ⟨d+1,by omega,by omega,Ref.to (by rw [he,rJ hp hdR]) (by simp [sub,Ac];omega)⟩
  ·obtain rfl:d=R.length:=by omega
   refine RN ?_
   have hl1:=Y7 (r:=r) (R:=R) (d:=R.length)
   have hl2:=Y5 (B:=B) (n:=R.length) (d:=R.length) (k:=0)
   have tk1:(Aa (Dw r R R.length)).take R.length=Aa (Dw r R R.length):=List.take_of_length_le (by simp [Aa,hl1])
   have tk2:((Bw B R.length R.length 0).map Af).take R.length=(Bw B R.length R.length 0).map Af:=List.take_of_length_le (by simp [hl2])
   rw [← rN,← rI]
   refine Ref.sel [] rfl (by simp only [go_sem,↓reduceIte,Nat.reduceEqDiff,Nat.reduceAdd,reduceCtorEq]) ?_
   simp only [sub,List.all_cons,List.all_nil,tk1,tk2,go_sem,↓reduceIte,Nat.reduceEqDiff,Nat.reduceAdd,reduceCtorEq]
   simp [A6,Ad,Ae,hl1,hl2]
end
section
open Go.Gov
open Classical
theorem uI {d n:Nat}(h:d≤n):List.range n=List.range d++(List.range (n - d)).map (d + ·):=by
 obtain ⟨k,rfl⟩:∃ k,n=d+k:=⟨n - d,by omega⟩
 rw [List.range_add,Nat.add_sub_cancel_left]
theorem rR {r:Int}{R:List Int}{B:List (List Int)}(hp:IsPos r R B){d:Nat}(hd:d<R.length):Bs B R.length d d=Gv B R.length d:=by
 have hz:((List.range (R.length - d)).map (d + ·)).filter (fun x=>decide (Ab B (R.length - 1 - d) (R.length - 1 - x)))=[]:=by
  refine List.filter_eq_nil_iff.2 fun x hx=>?_
  obtain ⟨y,_,rfl⟩:=List.mem_map.1 hx
  intro h
  have:=(Ko hp (show R.length - 1 - (d+y)<R.length by omega) (of_decide_eq_true h)).1
  omega
 unfold Bs Gv
 rw [uI (n:=R.length) (Nat.le_of_lt hd),List.filter_append,hz,List.append_nil]
theorem Y8 {B:List (List Int)}{n m f:Nat}:Bs B n (m+1) f=Bs B n m f++if Ab B (n - 1 - f) (n - 1 - m) then [(m:Int)] else []:=by
 unfold Bs
 rw [List.range_succ,List.filter_append,List.map_append]
 congr 1
 by_cases q:Ab B (n - 1 - f) (n - 1 - m)
 ·rw [if_pos q,List.filter_cons_of_pos (by simpa using q)];rfl
 ·rw [if_neg q,List.filter_cons_of_neg (by simpa using q)];rfl
theorem rQ {B:List (List Int)}{n m f:Nat}:(Bs B n m f).length≤m:=by
 unfold Bs
 have:=List.length_filter_le (fun x=>decide (Ab B (n - 1 - f) (n - 1 - x))) (List.range m)
 rw [List.length_map]
 rwa [List.length_range] at this
theorem zD (ks:List Nat)(H:List (Option (List AV)))(L:List (List Int)):(L.map Ad).map (Cd ks H)=L.map Ad:=by
 have h:=Ic (A3 ks 0) L
 rw [A8] at h
 refine Eq.trans ?_ h
 rw [List.map_map,List.map_map]
 rfl
theorem wS (r:Int)(R:List Int)(B:List (List Int))(h1:R.length≤1048576)(hl:B.length≤1048576)(hr:∀ xs∈B,xs.length≤1048576)(hn:¬ IsPos r R B):Ao Tryd.prog 8 [A6 r R B] (.tup [.agg [i64 0,Ag,Ag],i64 1]) []:=by
 have his:=Xj r R B (by omega) (by omega) (fun xs hx=>Nat.le_trans (hr xs hx) (by omega))
 rw [decide_eq_false hn] at his
 refine De Y0 rfl ?_;unfold c8
 refine RN ?_
 refine An (his) ?_
 refine RN ?_
 exact Ref.sel [] rfl (by first | rfl | (simp only [go_sem,↓reduceIte,Nat.reduceEqDiff,Nat.reduceAdd,reduceCtorEq]<;>rfl)) (by simp [sub,Ac,go_sem,↓reduceIte,Nat.reduceEqDiff,Nat.reduceAdd,reduceCtorEq]<;>rfl)
theorem wU (r:Int)(R:List Int)(B:List (List Int))(hp:IsPos r R B):Ao Tryd.prog 8 [A6 r R B] (.tup [A6 r (A0 r R) (Aw B R.length),i64 0]) []:=by
 obtain ⟨a1,a2,a3,a4,a5⟩:=hp.rank
 have hfw:∀ x,x<R.length→(B.getD x []).length≤500:=fun x hx=>hp.few hx
 have his:=Xj r R B (by omega) (by omega) (fun xs hx=>by
  obtain ⟨k,hk,rfl⟩:=List.mem_iff_getElem.1 hx
  have:=hfw k (by omega)
  rw [show B.getD k []=B[k] by simp [hk]] at this
  omega)
 rw [decide_eq_true hp] at his
 refine De Y0 rfl ?_;unfold c8
 refine RN ?_
 refine An (his) ?_
 refine RN ?_
 refine Ak (α:=Nat) (S:=fun d=>([(1,.ref 0 0),(2,.ref 1 0),(4,i64 (R.length:Int)),(5,.ref 2 0),(6,i64 ((R.length:Int) - 1 - d))],[some [i64 r,Ad R,Ae B],some [i64 0,Ag,Ag],some [i64 r,.sl 3 1 0 d,.sl 4 1 0 d],some (Aa ((A0 r R).take d)),some (((Aw B R.length).take d).map Ad)])) (C:=fun d=>d≤R.length) (μ:=fun d=>R.length - d) 0 (Nat.zero_le _) ?_ ?_
 ·refine (Ref.nilC 2 1 1 (cs:=[i64 r,Ag,Ag]) rfl rfl).trans ((Ref.nilC 2 2 1 (cs:=[i64 r,.sl 3 1 0 0,Ag]) rfl rfl).trans (Ref.to (by simp [Aa]) (by simp [sub,Ac])))
 intro d hd
 have hl1:((A0 r R).take d).length=d:=by rw [List.length_take,Bq];omega
 have hl2:((Aw B R.length).take d).length=d:=by rw [List.length_take,I6];omega
 have tk1:(Aa ((A0 r R).take d)).take d=Aa ((A0 r R).take d):=List.take_of_length_le (by simp [Aa];omega)
 have tk2:(((Aw B R.length).take d).map Ad).take d=((Aw B R.length).take d).map Ad:=List.take_of_length_le (by simp;omega)
 refine RN ?_
 refine ⟨fun hc=>?_,fun hc=>?_⟩
 ·have hdR:d<R.length:=by omega
  obtain ⟨e,he⟩:∃ e,e=R.length - 1 - d:=⟨_,rfl⟩
  have he1:(R.length:Int) - 1 - (d:Int)=(e:Int):=by omega
  have heR:e<R.length:=by omega
  have hre:=a5 e heR
  have hR1:Aa ((A0 r R).take (d+1))=Aa ((A0 r R).take d)++[i64 (r - 1 - R.getD e 0)]:=by
   rw [List.take_succ_eq_append_getElem (by rw [Bq];exact hdR)]
   have:=E7 (r:=r) hdR
   rw [B6 _ d (by rw [Bq];exact hdR),← he] at this
   simp [Aa,this]
  have hB1:((Aw B R.length).take (d+1)).map Ad=((Aw B R.length).take d).map Ad++[Ad (Gv B R.length d)]:=by
   rw [List.take_succ_eq_append_getElem (by rw [I6];exact hdR)]
   simp [Aw]
  (repeat first | simp only [he1,tk1,go_sem,↓reduceIte,Nat.reduceEqDiff,Nat.reduceAdd,reduceCtorEq] | refine RX ?_ | decide)
  refine Ak (α:=Nat) (S:=fun m=>([(1,.ref 0 0),(2,.ref 1 0),(4,i64 (R.length:Int)),(5,.ref 2 0),(6,i64 (e:Int)),(7,.sl 5 1 0 (Bs B R.length m d).length),(8,i64 ((R.length:Int) - 1 - m))],[some [i64 r,Ad R,Ae B],some [i64 0,Ag,Ag],some [i64 r,.sl 3 1 0 (d+1),.sl 4 1 0 d],some (Aa ((A0 r R).take (d+1))),some (((Aw B R.length).take d).map Ad),some (Aa (Bs B R.length m d))])) (C:=fun m=>m≤d) (μ:=fun m=>d - m) 0 (Nat.zero_le _) (Ref.gc [0,1,2,6,4,7] rfl (by rw [hR1];simp only [Ic,R4,go_sem,↓reduceIte,Nat.reduceEqDiff,Nat.reduceAdd,reduceCtorEq];simp [Bs,Aa]) (by simp [sub,Ac,Bs,go_sem,↓reduceIte,Nat.reduceEqDiff,Nat.reduceAdd,reduceCtorEq])) ?_
  intro m hm
  have hwl:=rQ (B:=B) (n:=R.length) (m:=m) (f:=d)
  have tkw:(Aa (Bs B R.length m d)).take (Bs B R.length m d).length=Aa (Bs B R.length m d):=List.take_of_length_le (by simp [Aa])
  refine RN ?_
  refine ⟨fun hc2=>?_,fun hc2=>?_⟩
  ·have hmd:m<d:=by omega
   obtain ⟨g,hg⟩:∃ g,g=R.length - 1 - m:=⟨_,rfl⟩
   have hg1:(R.length:Int) - 1 - (m:Int)=(g:Int):=by omega
   have hg2:(R.length:Int) - 1 - (g:Int)=(m:Int):=by omega
   have hgw:=hfw g (by omega)
   (repeat first | simp only [hg1,go_sem,↓reduceIte,Nat.reduceEqDiff,Nat.reduceAdd,reduceCtorEq] | refine RX ?_ | decide)
   refine An (Q8 (B.getD g []) (e:Int) (by omega)) ?_
   refine RN ?_
   refine ⟨fun hh=>?_,fun hh=>?_⟩
   ·have hs : Bs B R.length (m + 1) d = Bs B R.length m d ++ [(m : Int)] := by
      rw [Y8,if_pos]
      unfold Ab
      rw [← he,← hg]
      exact hh
    (repeat first | simp only [hg2,tkw,go_sem,↓reduceIte,Nat.reduceEqDiff,Nat.reduceAdd,reduceCtorEq] | refine RX ?_ | decide)
    exact ⟨m+1,by omega,by omega,Ref.gc [0,1,2,3,4,7] rfl (by rw [hs];simp only [Ic,R4,go_sem,↓reduceIte,Nat.reduceEqDiff,Nat.reduceAdd,reduceCtorEq];simp [Aa]) (by rw [hs];simp [sub,Ac,go_sem,↓reduceIte,Nat.reduceEqDiff,Nat.reduceAdd,reduceCtorEq];omega)⟩
   ·have hs : Bs B R.length (m + 1) d = Bs B R.length m d := by
      rw [Y8,if_neg,List.append_nil]
      unfold Ab
      rw [← he,← hg]
      exact hh
    refine RN ?_
    exact ⟨m+1,by omega,by omega,Ref.to (by rw [hs]) (by rw [hs];simp [sub,Ac];omega)⟩
  ·obtain rfl:m=d:=by omega
   rw [rR hp hdR] at tkw hwl ⊢
   (repeat first | simp only [tk2,go_sem,↓reduceIte,Nat.reduceEqDiff,Nat.reduceAdd,reduceCtorEq] | refine RX ?_ | decide)
   refine ⟨m+1,by omega,by omega,Ref.sel [0,1,2,3,7] rfl ?_ (by simp [sub,Ac,go_sem,↓reduceIte,Nat.reduceEqDiff,Nat.reduceAdd,reduceCtorEq];omega)⟩
   rw [hB1]
   simp only [List.map_append,List.map_cons,List.map_nil,zD, tkw,go_sem,↓reduceIte,Nat.reduceEqDiff,Nat.reduceAdd,reduceCtorEq]
 ·obtain rfl:d=R.length:=by omega
  have tB:(Aw B R.length).take R.length=Aw B R.length:=List.take_of_length_le (by rw [I6];exact Nat.le_refl _)
  have tR:(A0 r R).take R.length=A0 r R:=List.take_of_length_le (by rw [Bq];exact Nat.le_refl _)
  rw [tB] at tk2
  rw [tR] at tk1
  rw [tB,tR]
  refine RN ?_
  refine Ref.sel [] rfl (by simp only [go_sem,↓reduceIte,Nat.reduceEqDiff,Nat.reduceAdd,reduceCtorEq]) ?_
  simp only [sub,List.all_cons,List.all_nil,tk1,tk2,go_sem,↓reduceIte,Nat.reduceEqDiff,Nat.reduceAdd,reduceCtorEq]
  simp [A6,Ad,Ae,Bq,I6]
end
end Go.Proofs.YtfofabbkigonpaaDoor
