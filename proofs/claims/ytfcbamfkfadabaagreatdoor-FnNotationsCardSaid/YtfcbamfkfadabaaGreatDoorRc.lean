/- Texts that belong together. -/
import Derived.Test.YtfcbamfkfadabaaGreatDoorRa
set_option linter.unusedSimpArgs false
set_option linter.unusedVariables false
set_option maxRecDepth 100000
namespace Go.Proofs.YtfcbamfkfadabaaGreatDoor
section
open Go.Cl
open Classical
def Ltr (b:UInt8):Prop:=b=100∨b=97∨b=116∨b=99
theorem bT_nice {b:UInt8}(h:Ltr b):∃ d,Nice (bT b) d:=by
 rcases h with rfl | rfl | rfl | rfl
 ·exact ⟨_,tD_n⟩
 ·exact ⟨_,tA_n⟩
 ·exact ⟨_,tT_n⟩
 ·exact ⟨_,tC_n⟩
noncomputable def mm (M:List (List Int))(w:List UInt8):List (List Int):=w.foldl (fun m x=>apM m (bT x) 3) M
def szW (n:Nat)(w:List UInt8):Nat:=w.foldl (fun n x=>n*(bT x).length) n
theorem szW_mul (n:Nat):∀ w:List UInt8,szW n w=n*szW 1 w
 | []=>by simp [szW]
 | b :: w=>by
  have h1:szW n (b :: w)=szW (n*(bT b).length) w:=rfl
  have h2:szW 1 (b :: w)=szW (1*(bT b).length) w:=rfl
  rw [h1,h2,szW_mul (n*(bT b).length) w,szW_mul (1*(bT b).length) w,Nat.one_mul,Nat.mul_assoc]
theorem szW_pos:∀ w:List UInt8,(∀ x∈w,Ltr x)→1≤szW 1 w
 | [],_=>Nat.le_refl _
 | b :: w,h=>by
  have h2:szW 1 (b :: w)=szW (1*(bT b).length) w:=rfl
  rw [h2,szW_mul]
  have hb:=(bT_ok (h b (by simp))).p1
  have:=szW_pos w fun x hx=>h x (by simp [hx])
  exact Nat.mul_pos (by omega) this
theorem mm_map:∀ (w:List UInt8) (M:List (List Int)),IsMap M→(∀ x∈w,Ltr x)→fl M*szW 1 w≤400→IsMap (mm M w)∧fl (mm M w)=fl M*szW 1 w
 | [],M,hM,_,_=>⟨hM,by simp [mm,szW]⟩
 | b :: w,M,hM,hw,h4=>by
  have hb:=hw b (by simp)
  have hr:∀ x∈w,Ltr x:=fun x hx=>hw x (by simp [hx])
  have h2:szW 1 (b :: w)=szW (1*(bT b).length) w:=rfl
  rw [h2,szW_mul,Nat.one_mul,← Nat.mul_assoc] at h4 ⊢
  have hp:=szW_pos w hr
  obtain ⟨d,hn⟩:=bT_nice hb
  obtain ⟨a1,a2⟩:=ap_map hM hn (Nat.le_trans (Nat.le_mul_of_pos_right _ hp) h4)
  have ih:=mm_map w (apM M (bT b) 3) a1 hr (by rw [a2];exact h4)
  rw [a2] at ih
  exact ih
theorem mm_succ (M:List (List Int)){w:List UInt8}{i:Nat}(hi:i<w.length):mm M (w.take (i+1))=apM (mm M (w.take i)) (bT (w.getD i 0)) 3:=by
 rw [List.take_succ_eq_append_getElem hi]
 unfold mm
 rw [List.foldl_append]
 simp [hi]
theorem mm_wT {M:List (List Int)}(hM:IsMap M){w:List UInt8}(hw:∀ i,i<w.length→Ltr (w.getD i 0))(hok:∀ i,1≤i→i<w.length→IsTpl (wT (w.take i))):∀ i,1≤i→i≤w.length→mm M (w.take i)=apM M (wT (w.take i)) 3
 | 0,h,_=>by omega
 | 1,_,h=>by
  rw [wT_one h,mm_succ M (i:=0) h]
  simp [mm]
 | i+2,_,h=>by
  rw [mm_succ M (i:=i+1) h,mm_wT hM hw hok (i+1) (by omega) (by omega),wT_succ (i:=i+1) (by omega) (by omega)]
  exact ap_comp hM.mvi (hok (i+1) (by omega) (by omega)) (bT_ok (hw (i+1) (by omega)))
theorem mem_getD {α:Type}{P:α→Prop}{w:List α}{d:α}(h:∀ i,i<w.length→P (w.getD i d)):∀ x∈w,P x:=fun x hx=>by
 obtain ⟨i,hi,rfl⟩:=List.mem_iff_getElem.1 hx
 have:=h i hi
 rwa [show w.getD i d=w[i] by simp [hi]] at this
def ltrs:List UInt8:=[100,97,116,99]
noncomputable def dueL (v e f:Int):List (List Int):=[[f,e,v],[e,2*e,v+f],[2*e,3*e,v+f],[v+2*e,4*e,f+e]]
theorem due_ok {M:List (List Int)}(hM:IsMap M):∀ i,i<4→fcV (fl (apM M (bT (ltrs.getD i 0)) 3)) (apM M (bT (ltrs.getD i 0)) 3) (apM M (bT (ltrs.getD i 0)) 3).length=(dueL (vN (fl M) M) (eN (fl M) M) (fN (fl M) M)).getD i []:=by
 have key:∀ T:List (List Tg),IsTpl T→fcV (fl (apM M T 3)) (apM M T 3) (apM M T 3).length=[(vN (fl M*T.length) (apM M T 3):Int),(eN (fl M*T.length) (apM M T 3):Int),(fN (fl M*T.length) (apM M T 3):Int)]:=fun T hT=>by
  have hA:=ap_mvi hM.mvi hT
  have:fl (apM M T 3)=fl M*T.length:=hA.row 0 (by omega)
  rw [this]
  exact fcV_three hA.len
 intro i hi
 match i,hi with
 | 0,_=>
  obtain ⟨c1,c2,c3⟩:=cnt_D hM.mvi
  refine (key tD tD_ok).trans ?_
  rw [show tD.length=1 from rfl,c1,c2,c3];rfl
 | 1,_=>
  obtain ⟨c1,c2,c3⟩:=cnt_A hM.mvi
  refine (key tA tA_ok).trans ?_
  rw [show tA.length=2 from rfl,c1,c2,c3];simp [dueL]
 | 2,_=>
  obtain ⟨c1,c2,c3⟩:=cnt_T hM.mvi
  refine (key tT tT_ok).trans ?_
  rw [show tT.length=3 from rfl,c1,c2,c3];simp [dueL]
 | 3,_=>
  obtain ⟨c1,c2,c3⟩:=cnt_C hM.mvi
  refine (key tC tC_ok).trans ?_
  rw [show tC.length=4 from rfl,c1,c2,c3];simp [dueL]
theorem wT_ltr {b:UInt8}(h:Ltr b):wT (wdI b.toNat)=bT b∧(b.toNat:Int)∈opL:=by
 rcases h with rfl | rfl | rfl | rfl<;>exact ⟨rfl,by decide⟩
end
section
open Go.Cl
open Classical
theorem wT_len0:∀ (r:List UInt8) (T:List (List Tg)),(r.foldl (fun T x=>cmT T (bT x)) T).length=szW T.length r
 | [],T=>rfl
 | b :: r,T=>by
  rw [List.foldl_cons,wT_len0 r,cmT_len]
  rfl
theorem wT_len {w:List UInt8}(h:1≤w.length):(wT w).length=szW 1 w:=by
 cases w with
 | nil=>simp at h
 | cons c r=>
  rw [wT,wT_len0]
  show _=szW (1*(bT c).length) r
  rw [Nat.one_mul]
end
end Go.Proofs.YtfcbamfkfadabaaGreatDoor
