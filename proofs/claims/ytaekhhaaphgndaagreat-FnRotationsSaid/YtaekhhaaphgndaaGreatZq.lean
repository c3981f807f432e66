/- Texts that belong together. -/
import Derived.Test.YtaekhhaaphgndaaGreatZo
set_option linter.unusedSimpArgs false
set_option linter.unusedVariables false
set_option maxRecDepth 100000
namespace Go.Proofs.YtaekhhaaphgndaaGreat
section
open Classical
def lexL:List Int→List Int→Bool
 | [],[]=>false
 | [],_ :: _=>true
 | _ :: _,[]=>false
 | x :: xs,y :: ys=>if x<y then true else if y<x then false else lexL xs ys
theorem lexL_irr:∀ a,lexL a a=false
 | []=>rfl
 | x :: xs=>by simp [lexL,lexL_irr xs]
theorem lexL_trans:∀ {a b c:List Int},lexL a b=true→lexL b c=true→lexL a c=true
 | _,[],[],_,h=>by cases h
 | [],[],_ :: _,h,_=>by cases h
 | [],_ :: _,[],_,h=>by cases h
 | [],_ :: _,_ :: _,_,_=>rfl
 | _ :: _,[],_,h,_=>by cases h
 | _ :: _,_ :: _,[],_,h=>by cases h
 | x :: xs,y :: ys,z :: zs,h,k=>by
  unfold lexL at *
  have ih:=@lexL_trans xs ys zs
  split at h<;>split at k<;>(try split at h)<;>(try split at k)<;>(try (cases h;done))<;>(try (cases k;done))<;>grind
theorem lexL_tri:∀ {a b:List Int},lexL a b=false→lexL b a=false→a=b
 | [],[],_,_=>rfl
 | [],_ :: _,h,_=>by cases h
 | _ :: _,[],_,h=>by cases h
 | x :: xs,y :: ys,h,k=>by
  unfold lexL at *
  have ih:=@lexL_tri xs ys
  split at h<;>split at k<;>(try split at h)<;>(try split at k)<;>(try (cases h;done))<;>(try (cases k;done))<;>grind
def Lst (S:List Int→Prop)(b:List Int):Prop:=S b∧∀ x,S x→lexL x b=false
theorem Lst.uniq {S:List Int→Prop}{a b:List Int}(h:Lst S a)(k:Lst S b):a=b:=lexL_tri (k.2 a h.1) (h.2 b k.1)
theorem lex_low {x b c:List Int}(h:lexL x b=false)(hc:lexL c b=true):lexL x c=false:=by
 cases h2:lexL x c with
 | false=>rfl
 | true=>rw [lexL_trans h2 hc] at h;cases h
theorem Lst.add {S:List Int→Prop}{b c:List Int}(h:Lst S b):Lst (fun x=>S x∨x=c) (if lexL c b=true then c else b):=by
 by_cases hc:lexL c b=true
 ·rw [if_pos hc]
  refine ⟨.inr rfl,fun x hx=>?_⟩
  rcases hx with hx | rfl
  ·exact lex_low (h.2 x hx) hc
  ·exact lexL_irr _
 ·rw [if_neg hc]
  refine ⟨.inl h.1,fun x hx=>?_⟩
  rcases hx with hx | rfl
  ·exact h.2 x hx
  ·simpa using hc
theorem Lst.same {S T:List Int→Prop}{b:List Int}(h:Lst S b)(hs:∀ x,S x ↔ T x):Lst T b:=⟨(hs b).1 h.1,fun x hx=>h.2 x ((hs x).2 hx)⟩
def rotL (L:List Int)(i:Nat):List Int:=L.drop i++L.take i
theorem rotL_len (L:List Int)(i:Nat):(rotL L i).length=L.length:=by simp [rotL];omega
def Rnd (L x:List Int):Prop:=∃ i,i<L.length∧(x=rotL L i∨x=(rotL L i).reverse)
theorem Lst.len {L b:List Int}(h:Lst (Rnd L) b):b.length=L.length:=by
 obtain ⟨i,hi,e | e⟩:=h.1
 ·rw [e,rotL_len]
 ·rw [e,List.length_reverse,rotL_len]
end
section
open Go.Gov
open Classical
def itr (s:Nat→Nat)(x:Nat):Nat→Nat
 | 0=>x
 | k+1=>s (itr s x k)
theorem itr_lt {s:Nat→Nat}{n x:Nat}(hs:∀ y,y<n→s y<n)(hx:x<n):∀ k,itr s x k<n
 | 0=>hx
 | k+1=>hs _ (itr_lt hs hx k)
theorem itr_add (s:Nat→Nat)(x a:Nat):∀ b,itr s x (a+b)=itr s (itr s x a) b
 | 0=>rfl
 | b+1=>by rw [← Nat.add_assoc,itr,itr_add s x a b,itr]
theorem itr_inj {s:Nat→Nat}{n:Nat}(hs:∀ y,y<n→s y<n)(hi:∀ y z,y<n→z<n→s y=s z→y=z):∀ k y z,y<n→z<n→itr s y k=itr s z k→y=z
 | 0,_,_,_,_,h=>h
 | k+1,y,z,hy,hz,h=>itr_inj hs hi k y z hy hz (hi _ _ (itr_lt hs hy k) (itr_lt hs hz k) h)
theorem itr_back {s:Nat→Nat}{n x:Nat}(hs:∀ y,y<n→s y<n)(hi:∀ y z,y<n→z<n→s y=s z→y=z)(hx:x<n):∃ p,0<p∧p≤n∧itr s x p=x:=by
 refine Classical.byContradiction fun hno=>?_
 have hnd:((List.range (n+1)).map (itr s x)).Nodup:=by
  refine nodup_map List.nodup_range fun i hi' j hj' e=>?_
  have hi' := List.mem_range.1 hi'
  have hj' := List.mem_range.1 hj'
  rcases Nat.lt_trichotomy i j with h | h | h
  ·refine absurd ⟨j - i,by omega,by omega,?_⟩ hno
   have e2:itr s x j=itr s (itr s x (j - i)) i:=by rw [← itr_add];congr 1;omega
   exact itr_inj hs hi i _ _ (itr_lt hs hx _) hx (by rw [← e2,e])
  ·exact h
  ·refine absurd ⟨i - j,by omega,by omega,?_⟩ hno
   have e2:itr s x i=itr s (itr s x (i - j)) j:=by rw [← itr_add];congr 1;omega
   exact itr_inj hs hi j _ _ (itr_lt hs hx _) hx (by rw [← e2,← e])
 have:=nodup_len (n:=n) hnd fun y hy=>by
  obtain ⟨k,_,rfl⟩:=List.mem_map.1 hy
  exact itr_lt hs hx k
 simp at this
 omega
noncomputable def per (s:Nat→Nat)(n x:Nat):Nat:=((List.range (n+1)).find? fun k=>decide (0<k∧itr s x k=x)).getD 0
theorem per_spec {s:Nat→Nat}{n x:Nat}(hs:∀ y,y<n→s y<n)(hi:∀ y z,y<n→z<n→s y=s z→y=z)(hx:x<n):0<per s n x∧per s n x≤n∧itr s x (per s n x)=x∧∀ j,0<j→j<per s n x→itr s x j≠x:=by
 obtain ⟨p,h1,h2,h3⟩:=itr_back hs hi hx
 unfold per
 cases hf:(List.range (n+1)).find? fun k=>decide (0<k∧itr s x k=x) with
 | none=>
  have:=List.find?_eq_none.1 hf p (List.mem_range.2 (by omega))
  simp [h1,h3] at this
 | some q=>
  obtain ⟨a1,a2,a3⟩:=(find_least _ _ _).1 hf
  simp only [decide_eq_true_eq] at a2
  refine ⟨by simpa using a2.1,by simp;omega,by simpa using a2.2,fun j hj hlt e=>?_⟩
  have:=a3 j (by simpa using hlt)
  simp [hj,e] at this
abbrev mvM (M:List (List Int))(i:Nat)(x:Nat):Nat:=((M.getD i []).getD x 0).toNat
abbrev sg (M:List (List Int))(x:Nat):Nat:=mvM M 2 (mvM M 1 x)
noncomputable abbrev pr (M:List (List Int))(f:Nat):Nat:=per (sg M) (fl M) f
theorem IsMan.mvM {M:List (List Int)}(h:IsMan M){i x:Nat}(hi:i<M.length)(hx:x<fl M):0≤(M.getD i []).getD x 0∧(M.getD i []).getD x 0<(fl M:Int)∧(M.getD i []).getD x 0=((mvM M i x:Nat):Int)∧mvM M i x<fl M∧mvM M i (mvM M i x)=x:=by
 obtain ⟨h1,h2⟩:=h.mv _ (row_mem (L:=M) (k:=i) hi)
 obtain ⟨a1,a2,a3⟩:=h2 x hx
 unfold Go.Proofs.YtaekhhaaphgndaaGreat.mvM
 refine ⟨a1,a2,by omega,by omega,by rw [a3];omega⟩
end
end Go.Proofs.YtaekhhaaphgndaaGreat
