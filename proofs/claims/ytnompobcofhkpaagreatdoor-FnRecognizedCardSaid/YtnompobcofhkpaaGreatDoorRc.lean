/- Texts that belong together. -/
import Derived.Test.YtnompobcofhkpaaGreatDoorRa
set_option linter.unusedSimpArgs false
set_option linter.unusedVariables false
set_option maxRecDepth 100000
namespace Go.Proofs.YtnompobcofhkpaaGreatDoor
section
open Go.Cl
open Classical
def Nn (b:UInt8):Prop:=b=100∨b=97∨b=116∨b=99
theorem rD {b:UInt8}(h:Nn b):∃ d,Lx (bT b) d:=by
 rcases h with rfl | rfl | rfl | rfl
 ·exact ⟨_,Aku⟩
 ·exact ⟨_,Aks⟩
 ·exact ⟨_,Akv⟩
 ·exact ⟨_,Akt⟩
noncomputable def mm (M:List (List Int))(w:List UInt8):List (List Int):=w.foldl (fun m x=>Bc m (bT x) 3) M
def En (n:Nat)(w:List UInt8):Nat:=w.foldl (fun n x=>n*(bT x).length) n
theorem Ti (n:Nat):∀ w:List UInt8,En n w=n*En 1 w
 | []=>by simp [En]
 | b :: w=>by
  have h1:En n (b :: w)=En (n*(bT b).length) w:=rfl
  have h2:En 1 (b :: w)=En (1*(bT b).length) w:=rfl
  rw [h1,h2,Ti (n*(bT b).length) w,Ti (1*(bT b).length) w,Nat.one_mul,Nat.mul_assoc]
theorem nW:∀ w:List UInt8,(∀ x∈w,Nn x)→1≤En 1 w
 | [],_=>Nat.le_refl _
 | b :: w,h=>by
  have h2:En 1 (b :: w)=En (1*(bT b).length) w:=rfl
  rw [h2,Ti]
  have hb:=(Gi (h b (by simp))).p1
  have:=nW w fun x hx=>h x (by simp [hx])
  exact Nat.mul_pos (by omega) this
theorem jE:∀ (w:List UInt8) (M:List (List Int)),IsMap M→(∀ x∈w,Nn x)→fl M*En 1 w≤400→IsMap (mm M w)∧fl (mm M w)=fl M*En 1 w
 | [],M,hM,_,_=>⟨hM,by simp [mm,En]⟩
 | b :: w,M,hM,hw,h4=>by
  have hb:=hw b (by simp)
  have hr:∀ x∈w,Nn x:=fun x hx=>hw x (by simp [hx])
  have h2:En 1 (b :: w)=En (1*(bT b).length) w:=rfl
  rw [h2,Ti,Nat.one_mul,← Nat.mul_assoc] at h4 ⊢
  have hp:=nW w hr
  obtain ⟨d,hn⟩:=rD hb
  obtain ⟨a1,a2⟩:=qS hM hn (Nat.le_trans (Nat.le_mul_of_pos_right _ hp) h4)
  have ih:=jE w (Bc M (bT b) 3) a1 hr (by rw [a2];exact h4)
  rw [a2] at ih
  exact ih
theorem jF (M:List (List Int)){w:List UInt8}{i:Nat}(hi:i<w.length):mm M (w.take (i+1))=Bc (mm M (w.take i)) (bT (w.getD i 0)) 3:=by
 rw [List.take_succ_eq_append_getElem hi]
 unfold mm
 rw [List.foldl_append]
 simp [hi]
theorem jG {M:List (List Int)}(hM:IsMap M){w:List UInt8}(hw:∀ i,i<w.length→Nn (w.getD i 0))(hok:∀ i,1≤i→i<w.length→Bs (wT (w.take i))):∀ i,1≤i→i≤w.length→mm M (w.take i)=Bc M (wT (w.take i)) 3
 | 0,h,_=>by omega
 | 1,_,h=>by
  rw [Xn h,jF M (i:=0) h]
  simp [mm]
 | i+2,_,h=>by
  rw [jF M (i:=i+1) h,jG hM hw hok (i+1) (by omega) (by omega),Xo (i:=i+1) (by omega) (by omega)]
  exact qR hM.mvi (hok (i+1) (by omega) (by omega)) (Gi (hw (i+1) (by omega)))
theorem Aax {α:Type}{P:α→Prop}{w:List α}{d:α}(h:∀ i,i<w.length→P (w.getD i d)):∀ x∈w,P x:=fun x hx=>by
 obtain ⟨i,hi,rfl⟩:=List.mem_iff_getElem.1 hx
 have:=h i hi
 rwa [show w.getD i d=w[i] by simp [hi]] at this
end
section
open Go.Cl
open Classical
theorem oU:∀ (r:List UInt8) (T:List (List Tg)),(r.foldl (fun T x=>D5 T (bT x)) T).length=En T.length r
 | [],T=>rfl
 | b :: r,T=>by
  rw [List.foldl_cons,oU r,Fg]
  rfl
theorem oT {w:List UInt8}(h:1≤w.length):(wT w).length=En 1 w:=by
 cases w with
 | nil=>simp at h
 | cons c r=>
  rw [wT,oU]
  show _=En (1*(bT c).length) r
  rw [Nat.one_mul]
end
end Go.Proofs.YtnompobcofhkpaaGreatDoor
