/- Texts that belong together. -/
import Derived.Test.YtfcbamfkfadabaaGreatDoorS7
import Derived.Test.YtfcbamfkfadabaaGreatDoorS8
import Derived.Test.YtfcbamfkfadabaaGreatDoorSa
set_option linter.unusedSimpArgs false
set_option linter.unusedVariables false
set_option maxRecDepth 100000
namespace Go.Proofs.YtfcbamfkfadabaaGreatDoor
section
open Go.Gov Go.Ce Go.Cl Go.Nt
open Classical
theorem iso_ck {M N:List (List Int)}{s t:Nat→Nat→Nat}{m:Nat}(hm:fl M=m)(hn:fl N=m)(hs:∀ g x,g<3→x<m→mv M g x=s g x)(ht:∀ g x,g<3→x<m→mv N g x=t g x)(h:ckI s t m=true):Iso M N:=by
 unfold ckI at h
 generalize oR2 s m=A at h
 generalize oR2 t m=B at h
 unfold ckJ at h
 have key:∀ x,x<m→phN A B x<m∧phN B A (phN A B x)=x∧∀ g,g<3→t g (phN A B x)=phN A B (s g x):=fun x hx=>by
  have h1:=allB_at h hx
  simp only [Bool.and_eq_true,beqN,bleN] at h1
  obtain ⟨h2,h3,h4,h5,h6⟩:=h1
  refine ⟨by omega,h3,fun g hg=>?_⟩
  match g,hg with
  | 0,_=>exact h4
  | 1,_=>exact h5
  | 2,_=>exact h6
 refine ⟨phN A B,by rw [hm,hn],fun x hx=>?_,fun x y hx hy e=>?_,fun g x hg hx=>?_⟩
 ·rw [hm] at hx ⊢
  exact (key x hx).1
 ·rw [hm] at hx hy
  rw [← (key x hx).2.1,← (key y hy).2.1,e]
 ·rw [hm] at hx
  obtain ⟨k1,k2,k3⟩:=key x hx
  rw [ht g _ hg k1,k3 g hg,hs g x hg hx]
theorem dual_ck {a b e:Nat}(ha:a≤32)(hb:b≤32)(h1:1≤e)(h2:e≤100)(ka:ckN a b e=true)(kb:ckN b a e=true)(h:ckD a b e=true):Iso (apM (uniT a b) tD 3) (uniT b a):=by
 obtain ⟨_,m1,n1⟩:=uni_ck ha hb h1 h2 ka
 obtain ⟨_,m2,n2⟩:=uni_ck hb ha h1 h2 kb
 have t1:=uni_t ha hb h1 h2 ka
 have t2:=uni_t hb ha h1 h2 kb
 refine iso_ck (s:=tDu (tS a b)) (t:=tS b a) (m:=4*e) (by rw [dual_fl m1,n1]) n2 (fun g x hg hx=>?_) t2 h
 rw [dual_mv m1 hg (by rw [n1];exact hx),t1 _ _ (by omega) hx]
 rfl
theorem Iso.symm {M N:List (List Int)}(hM:IsMap M)(h:Iso M N):Iso N M:=by
 obtain ⟨_,h⟩:=h
 exact h.inv hM
theorem d_map {M:List (List Int)}(hM:IsMap M):IsMap (apM M tD 3):=(ap_map hM tD_n (by rw [show tD.length=1 from rfl,Nat.mul_one];exact hM.1.f4)).1
theorem dual_rev {M N:List (List Int)}(hM:IsMap M)(hN:IsMap N)(h:Iso (apM M tD 3) N):Iso (apM N tD 3) M:=
 ((h.ap (d_map hM) hN tD_ok).symm (d_map (d_map hM))).trans (d_map hN) (dd_iso hM (d_map hM))
def dS (s:List UInt8):List UInt8:=match s with
 | []=>[]
 | b :: r=>(if b=84 then 84 else if b=67 then 79 else if b=79 then 67 else if b=68 then 73 else if b=73 then 68 else if b=72 then 90 else 72) :: r
theorem seed_dual {s:List UInt8}(h:SeedOk s):SeedOk (dS s)∧Iso (apM (seedM s) tD 3) (seedM (dS s))∧seedC (dS s)=((seedC s).2.2,(seedC s).2.1,(seedC s).1):=by
 have fin:∀ {a b e:Nat},a≤32→b≤32→1≤e→e≤30→ckN a b e=true→IsMap (uniT a b):=fun ha hb h1 h2 hc=>(uni_ck ha hb h1 (by omega) hc).2.1
 rcases h with ⟨b,rfl,hb⟩ | ⟨b,r,rfl,hb,h2,h3⟩
 ·have hb2 : b = 84 ∨ b = 67 ∨ b = 79 ∨ b = 68 ∨ b = 73 := by
    unfold seedL at hb
    rw [List.contains_iff_mem] at hb
    simpa using hb
  rcases hb2 with rfl | rfl | rfl | rfl | rfl
  ·exact ⟨.inl ⟨84,rfl,by decide⟩,dual_ck (a:=3) (b:=3) (e:=6) (by omega) (by omega) (by omega) (by omega) ck33 ck33 cd33,rfl⟩
  ·exact ⟨.inl ⟨79,rfl,by decide⟩,dual_ck (a:=4) (b:=3) (e:=12) (by omega) (by omega) (by omega) (by omega) ck43 ck34 cd43,rfl⟩
  ·exact ⟨.inl ⟨67,rfl,by decide⟩,dual_rev (fin (a:=4) (b:=3) (by omega) (by omega) (by omega) (by omega) ck43) (fin (a:=3) (b:=4) (by omega) (by omega) (by omega) (by omega) ck34) (dual_ck (a:=4) (b:=3) (e:=12) (by omega) (by omega) (by omega) (by omega) ck43 ck34 cd43),rfl⟩
  ·exact ⟨.inl ⟨73,rfl,by decide⟩,dual_ck (a:=5) (b:=3) (e:=30) (by omega) (by omega) (by omega) (by omega) ck53 ck35 cd53,rfl⟩
  ·exact ⟨.inl ⟨68,rfl,by decide⟩,dual_rev (fin (a:=5) (b:=3) (by omega) (by omega) (by omega) (by omega) ck53) (fin (a:=3) (b:=5) (by omega) (by omega) (by omega) (by omega) ck35) (dual_ck (a:=5) (b:=3) (e:=30) (by omega) (by omega) (by omega) (by omega) ck53 ck35 cd53),rfl⟩
 ·obtain ⟨v,hv⟩:∃ v:Nat,valS r=(v+2:Nat):=⟨(valS r - 2).toNat,by omega⟩
  have hv2:v<29:=by omega
  have kH:ckN 2 (v+2) (v+2)=true:=allB_at ckH hv2
  have kZ:ckN (v+2) 2 (v+2)=true:=allB_at ckZ hv2
  have kD:ckD 2 (v+2) (v+2)=true:=cdH hv2
  have hd:=dual_ck (by omega) (by omega) (by omega) (by omega) kH kZ kD
  have eH:seedM (72 :: r)=uniT 2 (v+2):=by
   show uniT (2:Int).toNat (valS r).toNat=_
   rw [hv];rfl
  have eZ:seedM (90 :: r)=uniT (v+2) 2:=by
   show uniT (valS r).toNat (2:Int).toNat=_
   rw [hv];rfl
  rcases hb with rfl | rfl
  ·refine ⟨.inr ⟨90,r,rfl,.inr rfl,h2,h3⟩,?_,rfl⟩
   rw [show dS (72 :: r)=90 :: r from rfl,eH,eZ]
   exact hd
  ·refine ⟨.inr ⟨72,r,rfl,.inl rfl,h2,h3⟩,?_,rfl⟩
   rw [show dS (90 :: r)=72 :: r from rfl,eH,eZ]
   exact dual_rev (fin (by omega) (by omega) (by omega) (by omega) kH) (fin (by omega) (by omega) (by omega) (by omega) kZ) hd
theorem seed_map {s:List UInt8}(h:SeedOk s):IsMap (seedM s)∧(fl (seedM s):Int)=4*(seedC s).2.1∧fl (seedM s)≤120:=by
 obtain ⟨a,b,e,d1,_,_,d4,_,d6,_,d8,d9⟩:=seed_uni h
 have:seedM s=uniT a b:=by unfold seedM;rw [d1];rfl
 rw [this,d9,d4]
 exact ⟨d8,by omega,by omega⟩
theorem seed_aT:Iso (apM (seedM [84]) tA 3) (seedM [79]):=by
 obtain ⟨_,m1,n1⟩:=uni_ck (a:=3) (b:=3) (e:=6) (by omega) (by omega) (by omega) (by omega) ck33
 obtain ⟨_,m2,n2⟩:=uni_ck (a:=3) (b:=4) (e:=12) (by omega) (by omega) (by omega) (by omega) ck34
 have t1:=uni_t (a:=3) (b:=3) (e:=6) (by omega) (by omega) (by omega) (by omega) ck33
 have t2:=uni_t (a:=3) (b:=4) (e:=12) (by omega) (by omega) (by omega) (by omega) ck34
 show Iso (apM (uniT 3 3) tA 3) (uniT 3 4)
 have e2:tA.length=2:=rfl
 refine iso_ck (s:=tAm (tS 3 3)) (t:=tS 3 4) (m:=48) (by rw [fl_ap m1 tA_ok,n1,e2]) n2 (fun g x hg hx=>?_) t2 caT
 obtain ⟨f,j,hf,hj,rfl⟩:=pt_of (n:=24) (p:=2) (by omega) hx
 have q:=ap_mv m1.mvi tA_ok hg (by rw [n1];exact hf) (j:=j) (by rw [e2];exact hj)
 rw [e2] at q
 rw [q]
 have hd:(f*2+j) / 2=f:=by omega
 have hr:(f*2+j)%2=j:=by omega
 have u0:=t1 0 f (by omega) hf
 have u1:=t1 1 f (by omega) hf
 have u2:=t1 2 f (by omega) hf
 match g,hg,j,hj with
 | 0,_,0,_=>show mv (uniT 3 3) 1 f*2+0=tS 3 3 1 ((f*2+0) / 2)*2+(f*2+0)%2;rw [hd,hr,u1];rfl
 | 0,_,1,_=>show mv (uniT 3 3) 1 f*2+1=tS 3 3 1 ((f*2+1) / 2)*2+(f*2+1)%2;rw [hd,hr,u1];rfl
 | 1,_,0,_=>show mv (uniT 3 3) 0 f*2+0=bif Nat.beq ((f*2+0)%2) 0 then tS 3 3 0 ((f*2+0) / 2)*2 else tS 3 3 2 ((f*2+0) / 2)*2+1;rw [hd,hr,u0];rfl
 | 1,_,1,_=>show mv (uniT 3 3) 2 f*2+1=bif Nat.beq ((f*2+1)%2) 0 then tS 3 3 0 ((f*2+1) / 2)*2 else tS 3 3 2 ((f*2+1) / 2)*2+1;rw [hd,hr,u2];rfl
 | 2,_,0,_=>show f*2+1=(f*2+0) / 2*2+(1 - (f*2+0)%2);rw [hd,hr]
 | 2,_,1,_=>show f*2+0=(f*2+1) / 2*2+(1 - (f*2+1)%2);rw [hd,hr]
end
section
open Go.Gov Go.Ce Go.Cl Go.Nt
open Classical
noncomputable def KM (t:List UInt8):List (List Int):=moF (ntO t) (seedM (ntS t))
def KC (t:List UInt8):C3:=cnt (ntO t) (seedC (ntS t))
def Few (t:List UInt8):Prop:=fl (seedM (ntS t))*opZ (ntO t)≤400
theorem moF_app (u w:List UInt8)(M:List (List Int)):moF (u++w) M=moF u (moF w M):=by unfold moF;rw [List.foldr_append]
theorem opZ_app:∀ u w:List UInt8,opZ (u++w)=opZ u*opZ w
 | [],w=>by simp [opZ]
 | b :: u,w=>by
  have e1:opZ (b :: u++w)=(wT (wdI b.toNat)).length*opZ (u++w):=rfl
  have e2:opZ (b :: u)=(wT (wdI b.toNat)).length*opZ u:=rfl
  rw [e1,e2,opZ_app u w,Nat.mul_assoc]
theorem moF_iso:∀ (u:List UInt8) {X Y:List (List Int)},(∀ b∈u,opB b=true)→IsMap X→IsMap Y→Iso X Y→fl X*opZ u≤400→Iso (moF u X) (moF u Y)
 | [],_,_,_,_,_,h,_=>h
 | b :: u,X,Y,hu,hX,hY,h,h4=>by
  have hr:∀ x∈u,opB x=true:=fun x hx=>hu x (by simp [hx])
  have hb:=op_mem (hu b (by simp))
  have e2:opZ (b :: u)=(wT (wdI b.toNat)).length*opZ u:=rfl
  have hp:=(wd_ok _ hb).1.p1
  rw [e2] at h4
  have h5:fl X*opZ u≤400:=Nat.le_trans (Nat.mul_le_mul_left _ (Nat.le_mul_of_pos_left _ (by omega))) h4
  have hn:fl X=fl Y:=h.choose_spec.n
  exact (moF_iso u hr hX hY h h5).ap (moF_ok hX u hr h5).1 (moF_ok hY u hr (by rw [← hn];exact h5)).1 (wd_ok _ hb).1
structure Kept (t t' : List UInt8):Prop where
 bsc:Bsc t'
 seed:SeedOk (ntS t')
 cnt:KC t' = KC t
 map:Few t→Few t' ∧ Iso (KM t) (KM t')
theorem few_e {t:List UInt8}(hb:Bsc t)(hs:SeedOk (ntS t)):((fl (seedM (ntS t))*opZ (ntO t):Nat):Int)=4*(KC t).2.1:=by
 have hg:=seedC_good hs
 obtain ⟨_,c2,_⟩:=cnt_ok (ntO t) (seedC (ntS t)) hg.1 hg.2.1
 have hl:∀ b∈ntO t,b=100∨b=97∨b=116∨b=99:=fun b hb2=>by
  obtain ⟨h1,h2⟩:=takeWhile_op hb2
  exact hb b h1 h2
 have hbs:basL (ntO t)=ntO t:=flat_basic (ntO t) hl
 have hz:=opZ_fac (ntO t) (nt_ops t)
 rw [hbs] at hz
 obtain ⟨_,f1,_⟩:=seed_map hs
 unfold KC
 rw [c2,hz,Int.natCast_mul,f1]
 rw [Int.mul_assoc]
 exact congrArg (4 * ·) (Int.mul_comm _ _)
theorem few_of {t t' : List UInt8}(hb:Bsc t)(hs:SeedOk (ntS t))(hb' : Bsc t')(hs' : SeedOk (ntS t'))(hc:KC t' = KC t)(h:Few t):Few t' := by
 have e1:=few_e hb hs
 have e2:=few_e hb' hs'
 unfold Few at *
 rw [hc] at e2
 omega
theorem Kept.refl {t:List UInt8}(hb:Bsc t)(hs:SeedOk (ntS t)):Kept t t:=⟨hb,hs,rfl,fun h=>⟨h,Iso.refl _⟩⟩
theorem km_map {t:List UInt8}(hs:SeedOk (ntS t))(h:Few t):IsMap (KM t):=(moF_ok (seed_map hs).1 (ntO t) (nt_ops t) h).1
theorem Kept.trans {a b c:List UInt8}(ha:SeedOk (ntS a))(h1:Kept a b)(h2:Kept b c):Kept a c:=
 ⟨h2.bsc,h2.seed,h2.cnt.trans h1.cnt,fun h=>by
  obtain ⟨f1,i1⟩:=h1.map h
  obtain ⟨f2,i2⟩:=h2.map f1
  exact ⟨f2,i1.trans (km_map ha h) i2⟩⟩
theorem parts_of {o s:List UInt8}(ho:∀ b∈o,opB b=true)(hs:SeedOk s):ntO (o++s)=o∧ntS (o++s)=s:=by
 have h1:ntO (o++s)=o++ntO s:=by
  unfold ntO
  exact List.takeWhile_append_of_pos ho
 rw [(seed_parts hs).1,List.append_nil] at h1
 have h2:=nt_app (o++s)
 rw [h1] at h2
 exact ⟨h1,List.append_cancel_left h2⟩
theorem kept_mk {o o' s s' : List UInt8} (ho : ∀ b ∈ o, opB b = true) (ho' : ∀ b ∈ o', opB b = true) (hs : SeedOk s) (hs' : SeedOk s') (hb : Bsc (o ++ s)) (hb' : Bsc (o' ++ s')) (hc : cnt o' (seedC s') = cnt o (seedC s))
    (hm:fl (seedM s)*opZ o≤400→fl (seedM s')*opZ o' ≤ 400→Iso (moF o (seedM s)) (moF o' (seedM s'))):Kept (o++s) (o' ++ s'):=by
 obtain ⟨e1,e2⟩:=parts_of ho hs
 obtain ⟨e3,e4⟩:=parts_of ho' hs'
 have hk:KC (o' ++ s')=KC (o++s):=by unfold KC;rw [e1,e2,e3,e4];exact hc
 have hs2:SeedOk (ntS (o++s)):=by rw [e2];exact hs
 have hs3:SeedOk (ntS (o' ++ s')):=by rw [e4];exact hs'
 refine ⟨hb', hs3,hk,fun h=>?_⟩
 have h' := few_of hb hs2 hb' hs3 hk h
 refine ⟨h', ?_⟩
 unfold Few at h h'
 unfold KM
 rw [e1,e2] at h ⊢
 rw [e3,e4] at h' ⊢
 exact hm h h'
theorem cnt_app (u w:List UInt8)(c:C3):cnt (u++w) c=cnt u (cnt w c):=by unfold cnt;rw [List.foldr_append]
theorem cd (c:C3):cstep 100 c=(c.2.2,c.2.1,c.1):=rfl
theorem ca (c:C3):cstep 97 c=(c.2.1,2*c.2.1,c.1+c.2.2):=rfl
section
variable {A w s:List UInt8}
theorem few_in (hA:∀ b∈A,opB b=true){X:Nat}(h:X*(opZ A*opZ w)≤400):X*opZ w≤400:=by
 have:=opZ_pos A hA
 exact Nat.le_trans (Nat.mul_le_mul_left X (Nat.le_mul_of_pos_left (opZ w) (by omega))) h
theorem kept_dd (hA:∀ b∈A,opB b=true)(hw:∀ b∈w,opB b=true)(hs:SeedOk s)(hb:Bsc ((A++[100,100]++w)++s)):Kept ((A++[100,100]++w)++s) ((A++w)++s):=by
 have hd:opB 100=true:=by decide
 refine kept_mk (fun b hb=>?_) (fun b hb=>?_) hs hs hb (fun x hx=>hb x (by simp only [List.mem_append] at hx ⊢;rcases hx with (h | h) | h<;>simp [h])) ?_ (fun h1 h2=>?_)
 ·simp only [List.mem_append,List.mem_cons,List.not_mem_nil,or_false] at hb
  rcases hb with (h | h | h) | h
  ·exact hA b h
  ·rw [h];exact hd
  ·rw [h];exact hd
  ·exact hw b h
 ·rcases List.mem_append.1 hb with h | h
  ·exact hA b h
  ·exact hw b h
 ·rw [cnt_app,cnt_app,cnt_app]
  rfl
 ·rw [opZ_app] at h2
  have h3:=few_in hA h2
  obtain ⟨m1,m2⟩:=moF_ok (seed_map hs).1 w hw h3
  rw [moF_app,moF_app,moF_app]
  have hi:=dd_iso m1 (d_map m1)
  refine moF_iso A hA (d_map (d_map m1)) m1 hi ?_
  show fl (apM (apM (moF w (seedM s)) tD 3) tD 3)*opZ A≤400
  rw [dual_fl (d_map m1),dual_fl m1,m2,Nat.mul_assoc,Nat.mul_comm (opZ w)]
  exact h2
theorem kept_ad (hA:∀ b∈A,opB b=true)(hw:∀ b∈w,opB b=true)(hs:SeedOk s)(hb:Bsc ((A++[97,100]++w)++s)):Kept ((A++[97,100]++w)++s) ((A++[97]++w)++s):=by
 have hd:opB 100=true:=by decide
 have ha:opB 97=true:=by decide
 refine kept_mk (fun b hb=>?_) (fun b hb=>?_) hs hs hb (fun x hx=>hb x (by simp only [List.mem_append,List.mem_cons,List.not_mem_nil,or_false] at hx ⊢;rcases hx with ((h | h) | h) | h<;>simp [h])) ?_ (fun h1 h2=>?_)
 ·simp only [List.mem_append,List.mem_cons,List.not_mem_nil,or_false] at hb
  rcases hb with (h | h | h) | h
  ·exact hA b h
  ·rw [h];exact ha
  ·rw [h];exact hd
  ·exact hw b h
 ·simp only [List.mem_append,List.mem_cons,List.not_mem_nil,or_false] at hb
  rcases hb with (h | h) | h
  ·exact hA b h
  ·rw [h];exact ha
  ·exact hw b h
 ·rw [cnt_app,cnt_app,cnt_app,cnt_app]
  congr 1
  show cstep 97 (cnt w (seedC s))=cstep 97 (cstep 100 (cnt w (seedC s)))
  rw [ca,cd,ca]
  dsimp only
  rw [Int.add_comm]
 ·have e2:opZ (A++[97]++w)=opZ A*(2*opZ w):=by rw [List.append_assoc,opZ_app,opZ_app];rfl
  rw [e2] at h2
  have h3:fl (seedM s)*(2*opZ w)≤400:=by
   have:=opZ_pos A hA
   exact Nat.le_trans (Nat.mul_le_mul_left (fl (seedM s)) (Nat.le_mul_of_pos_left (2*opZ w) (by omega))) h2
  have h4:fl (seedM s)*opZ w≤400:=Nat.le_trans (Nat.mul_le_mul_left _ (Nat.le_mul_of_pos_left _ (by omega))) h3
  obtain ⟨m1,m2⟩:=moF_ok (seed_map hs).1 w hw h4
  have hY:=ap_map m1 tA_n (by rw [m2,show tA.length=2 from rfl,Nat.mul_assoc,Nat.mul_comm (opZ w)];exact h3)
  have hX:=ap_map (d_map m1) tA_n (by rw [dual_fl m1,m2,show tA.length=2 from rfl,Nat.mul_assoc,Nat.mul_comm (opZ w)];exact h3)
  rw [moF_app,moF_app,moF_app,moF_app]
  refine moF_iso A hA hX.1 hY.1 (ad_iso m1 (d_map m1)) ?_
  show fl (apM (apM (moF w (seedM s)) tD 3) tA 3)*opZ A≤400
  rw [hX.2,dual_fl m1,m2,show tA.length=2 from rfl]
  refine Nat.le_trans (Nat.le_of_eq ?_) h2
  generalize fl (seedM s)=a
  generalize opZ w=b
  generalize opZ A=c
  rw [Nat.mul_assoc,Nat.mul_assoc,Nat.mul_comm c (2*b),Nat.mul_comm 2 b,Nat.mul_assoc b 2 c]
theorem kept_dS (hA:∀ b∈A,opB b=true)(hs:SeedOk s)(hb:Bsc ((A++[100])++s)):Kept ((A++[100])++s) (A++dS s):=by
 have hd:opB 100=true:=by decide
 obtain ⟨d1,d2,d3⟩:=seed_dual hs
 have hs1:=(seed_map hs).1
 have hs2:=(seed_map d1).1
 refine kept_mk (fun b hb=>?_) hA hs d1 hb (fun x hx ho=>?_) ?_ (fun h1 h2=>?_)
 ·rcases List.mem_append.1 hb with h | h
  ·exact hA b h
  ·rw [List.mem_singleton.1 h];exact hd
 ·rcases List.mem_append.1 hx with h | h
  ·exact hb x (by simp [h]) ho
  ·rw [seed_no d1 x h] at ho;cases ho
 ·rw [cnt_app,d3]
  rfl
 ·rw [moF_app]
  refine moF_iso A hA (d_map hs1) hs2 d2 ?_
  show fl (apM (seedM s) tD 3)*opZ A≤400
  rw [dual_fl hs1]
  rw [opZ_app] at h1
  refine Nat.le_trans (Nat.mul_le_mul_left _ ?_) h1
  exact Nat.le_of_eq (Nat.mul_one _).symm
theorem kept_aS (hA:∀ b∈A,opB b=true)(hs:SeedOk s)(hb:Bsc ((A++[97])++s)):Kept ((A++[97])++s) ((A++[97])++dS s):=by
 have ha:opB 97=true:=by decide
 obtain ⟨d1,d2,d3⟩:=seed_dual hs
 have hs1:=(seed_map hs).1
 have hs2:=(seed_map d1).1
 have f1:=(seed_map hs).2.2
 have f2:=(seed_map d1).2.2
 have hAa:∀ b∈A++[97],opB b=true:=fun b hb=>by
  rcases List.mem_append.1 hb with h | h
  ·exact hA b h
  ·rw [List.mem_singleton.1 h];exact ha
 refine kept_mk hAa hAa hs d1 hb (fun x hx ho=>?_) ?_ (fun h1 h2=>?_)
 ·rcases List.mem_append.1 hx with h | h
  ·exact hb x (List.mem_append_left _ h) ho
  ·rw [seed_no d1 x h] at ho;cases ho
 ·rw [cnt_app,cnt_app,d3]
  congr 1
  show cstep 97 ((seedC s).2.2,(seedC s).2.1,(seedC s).1)=cstep 97 (seedC s)
  rw [ca,ca]
  dsimp only
  rw [Int.add_comm]
 ·rw [moF_app,moF_app]
  have m1:=ap_map hs1 tA_n (by rw [show tA.length=2 from rfl];omega)
  have m2:=ap_map hs2 tA_n (by rw [show tA.length=2 from rfl];omega)
  have m3:=ap_map (d_map hs1) tA_n (by rw [dual_fl hs1,show tA.length=2 from rfl];omega)
  have i1:=(ad_iso hs1 (d_map hs1)).symm m3.1
  have i2:=d2.ap (d_map hs1) hs2 tA_ok
  refine moF_iso A hA m1.1 m2.1 (i1.trans m1.1 i2) ?_
  show fl (apM (seedM s) tA 3)*opZ A≤400
  rw [m1.2]
  rw [opZ_app] at h1
  refine Nat.le_trans (Nat.le_of_eq ?_) h1
  rw [Nat.mul_assoc,Nat.mul_comm tA.length]
  rfl
theorem kept_aT (hA:∀ b∈A,opB b=true)(hb:Bsc ((A++[97])++[84])):Kept ((A++[97])++[84]) (A++[79]):=by
 have ha:opB 97=true:=by decide
 have hT:SeedOk [84]:=.inl ⟨84,rfl,by decide⟩
 have hO:SeedOk [79]:=.inl ⟨79,rfl,by decide⟩
 have hs1:=(seed_map hT).1
 have hs2:=(seed_map hO).1
 have f1:=(seed_map hT).2.2
 refine kept_mk (fun b hb=>?_) hA hT hO hb (fun x hx ho=>?_) ?_ (fun h1 h2=>?_)
 ·rcases List.mem_append.1 hb with h | h
  ·exact hA b h
  ·rw [List.mem_singleton.1 h];exact ha
 ·rcases List.mem_append.1 hx with h | h
  ·exact hb x (by simp [h]) ho
  ·rw [seed_no hO x h] at ho;cases ho
 ·rw [cnt_app]
  rfl
 ·rw [moF_app]
  have m1:=ap_map hs1 tA_n (by rw [show tA.length=2 from rfl];omega)
  refine moF_iso A hA m1.1 hs2 seed_aT ?_
  show fl (apM (seedM [84]) tA 3)*opZ A≤400
  rw [m1.2]
  rw [opZ_app] at h1
  refine Nat.le_trans (Nat.le_of_eq ?_) h1
  rw [Nat.mul_assoc,Nat.mul_comm tA.length]
  rfl
end
end
section
open Go.Gov Go.Ce Go.Cl Go.Nt Go.Lib
open Classical
theorem last_mem {A o w:List UInt8}{q:UInt8}(h:A++[q]=o++w)(hw:w≠[]):q∈w:=by
 rcases List.eq_nil_or_concat w with e | ⟨w', z,e⟩
 ·exact absurd e hw
 ·rw [List.concat_eq_append] at e
  subst e
  rw [← List.append_assoc] at h
  have:=List.append_inj_right' h rfl
  simp at this
  simp [this]
theorem app_op {A B o s:List UInt8}{p q:UInt8}(h:A++[p,q]++B=o++s)(hq:opB q=true)(hs:∀ b∈s,opB b=false):∃ w,o=A++[p,q]++w∧B=w++s:=by
 rcases List.append_eq_append_iff.1 h with ⟨w,h1,h2⟩ | ⟨w,h1,h2⟩
 ·exact ⟨w,h1,h2⟩
 ·by_cases hw:w=[]
  ·subst hw
   rw [List.append_nil] at h1
   exact ⟨[],by rw [List.append_nil,h1],by simpa using h2.symm⟩
  ·have h3:(A++[p])++[q]=o++w:=by rw [← h1];simp
   have:=hs q (by rw [h2];exact List.mem_append_left _ (last_mem h3 hw))
   rw [hq] at this
   cases this
theorem app_sd {A B o s:List UInt8}{p q:UInt8}(h:A++[p,q]++B=o++s)(hp:opB p=true)(hq:opB q=false)(ho:∀ b∈o,opB b=true)(hs:∀ b∈s,opB b=false):o=A++[p]∧s=q :: B:=by
 have h' : (A++[p])++(q :: B)=o++s:=by rw [← h];simp
 rcases List.append_eq_append_iff.1 h' with ⟨w,h1,h2⟩ | ⟨w,h1,h2⟩
 ·cases w with
  | nil=>exact ⟨by simpa using h1,by simpa using h2.symm⟩
  | cons z w=>
   have hz:q=z:=by simpa using (List.cons.inj h2).1
   have:=ho q (by rw [h1,hz];simp)
   rw [hq] at this
   cases this
 ·by_cases hw:w=[]
  ·subst hw
   exact ⟨by simpa using h1.symm,by simpa using h2⟩
  ·have:=hs p (by rw [h2];exact List.mem_append_left _ (last_mem h1 hw))
   rw [hp] at this
   cases this
theorem kept_rule {o s t:List UInt8}(et:t=o++s)(ho:∀ b∈o,opB b=true)(hs:SeedOk s)(hb:Bsc t){x:List UInt8×List UInt8}(hx:x∈rls)(hi:index t x.1 ≠ -1):Kept t (rep x.1 x.2 t):=by
 obtain ⟨i,_,e1,e2⟩:=rep_hit (q:=x.2) hi
 rw [e2]
 generalize t.take i=A at e1 ⊢
 generalize t.drop (i+x.1.length)=B at e1 ⊢
 rw [et] at e1
 have hno:=seed_no hs
 have one:∀ (b:UInt8) (r:List UInt8),s=b :: r→seedL b=true→r=[]:=fun b r e hl=>by
  rcases hs with ⟨c,h,_⟩ | ⟨c,r', h,hc,_⟩
  ·rw [h] at e;exact (List.cons.inj e).2.symm
  ·rw [h] at e
   obtain ⟨rfl,_⟩:=List.cons.inj e
   rcases hc with rfl | rfl<;>cases hl
 simp only [rls,List.mem_cons,List.not_mem_nil,or_false] at hx
 have opp:∀ {p q:UInt8},x.1=[p,q]→opB q=true→∃ w,o=A++[p,q]++w∧B=w++s:=fun {p q} e hq=>app_op (by rw [← e];exact e1.symm) hq hno
 have sdd:∀ {p q:UInt8},x.1=[p,q]→opB p=true→opB q=false→o=A++[p]∧s=q :: B:=fun {p q} e hp hq=>app_sd (by rw [← e];exact e1.symm) hp hq ho hno
 have ded:∀ {q q' : UInt8},x=([100,q],[q'])→opB q=false→dS (q :: B)=q' :: B→Kept t (A++x.2++B):=fun {q q'} e hq hd=>by
  obtain ⟨h1,h2⟩:=sdd (p:=100) (q:=q) (by rw [e]) (by decide) hq
  have hA:∀ b∈A,opB b=true:=fun b hb=>ho b (by rw [h1];simp [hb])
  have k:=kept_dS hA hs (by rw [← h1,← et];exact hb)
  rw [← h1,← et,h2,hd] at k
  rw [e]
  simpa using k
 have aed:∀ {q q' : UInt8},x=([97,q],[97,q'])→opB q=false→dS (q :: B)=q' :: B→Kept t (A++x.2++B):=fun {q q'} e hq hd=>by
  obtain ⟨h1,h2⟩:=sdd (p:=97) (q:=q) (by rw [e]) (by decide) hq
  have hA:∀ b∈A,opB b=true:=fun b hb=>ho b (by rw [h1];simp [hb])
  have k:=kept_aS hA hs (by rw [← h1,← et];exact hb)
  rw [← h1,← et,h2,hd] at k
  rw [h1] at k
  rw [e]
  simpa using k
 rcases hx with e | e | e | e | e | e | e | e | e | e | e | e | e
 ·obtain ⟨w,h1,h2⟩:=opp (p:=100) (q:=100) (by rw [e]) (by decide)
  have hA:∀ b∈A,opB b=true:=fun b hb=>ho b (by rw [h1];simp [hb])
  have hw:∀ b∈w,opB b=true:=fun b hb=>ho b (by rw [h1];simp [hb])
  have k:=kept_dd hA hw hs (by rw [← h1,← et];exact hb)
  rw [← h1,← et] at k
  rw [e,h2]
  simpa using k
 ·obtain ⟨w,h1,h2⟩:=opp (p:=97) (q:=100) (by rw [e]) (by decide)
  have hA:∀ b∈A,opB b=true:=fun b hb=>ho b (by rw [h1];simp [hb])
  have hw:∀ b∈w,opB b=true:=fun b hb=>ho b (by rw [h1];simp [hb])
  have k:=kept_ad hA hw hs (by rw [← h1,← et];exact hb)
  rw [← h1,← et] at k
  rw [e,h2]
  simpa using k
 ·exact ded e (by decide) rfl
 ·exact ded e (by decide) rfl
 ·exact ded e (by decide) rfl
 ·exact ded e (by decide) rfl
 ·exact ded e (by decide) rfl
 ·exact ded e (by decide) rfl
 ·exact ded e (by decide) rfl
 ·obtain ⟨h1,h2⟩:=sdd (p:=97) (q:=84) (by rw [e]) (by decide) (by decide)
  have hB:=one 84 B h2 (by decide)
  subst hB
  have hA:∀ b∈A,opB b=true:=fun b hb=>ho b (by rw [h1];simp [hb])
  have k:=kept_aT hA (by rw [← h1,← h2,← et];exact hb)
  rw [← h1,← h2,← et] at k
  rw [e]
  simpa using k
 ·exact aed e (by decide) rfl
 ·exact aed e (by decide) rfl
 ·exact aed e (by decide) rfl
theorem stpR_hit:∀ {l:List (List UInt8×List UInt8)} {s t:List UInt8},stpR l s=some t→∃ x∈l,index s x.1 ≠ -1∧t=rep x.1 x.2 s
 | [],s,t,h=>by cases h
 | x :: r,s,t,h=>by
  unfold stpR at h
  split at h
  ·obtain ⟨y,hy,h2⟩:=stpR_hit h
   exact ⟨y,by simp [hy],h2⟩
  ·rename_i h1
   exact ⟨x,by simp,h1,(Option.some.inj h).symm⟩
theorem kept_z2 {o s t:List UInt8}(et:t=o++s)(ho:∀ b∈o,opB b=true)(hs:SeedOk s)(hb:Bsc t)(hz:z2 t=true):Kept t (t.take (t.length - 2)++[72,50]):=by
 obtain ⟨_,h2⟩:=z2_split hz
 generalize t.take (t.length - 2)=A at h2 ⊢
 have hno:=seed_no hs
 have h3:A++[90,50]=o++s:=by rw [← h2,et]
 have key:s=[90,50]∧A=o:=by
  rcases List.append_eq_append_iff.1 h3 with ⟨w,h4,h5⟩ | ⟨w,h4,h5⟩
  ·cases w with
   | nil=>exact ⟨by simpa using h5.symm,by simpa using h4.symm⟩
   | cons z w=>
    have hz2:(90:UInt8)=z:=(List.cons.inj h5).1
    have:=ho 90 (by rw [h4,← hz2];simp)
    exact absurd this (by decide)
  ·cases w with
   | nil=>exact ⟨by simpa using h5,by simpa using h4⟩
   | cons z w=>
    exfalso
    rcases hs with ⟨c,h,_⟩ | ⟨c,r', h,_,hv⟩
    ·rw [h] at h5
     have:=congrArg List.length h5
     simp at this
    ·rw [h] at h5
     have hr:r' = w++[90,50]:=(List.cons.inj h5).2
     obtain ⟨v,_,hv2,rfl,_⟩:=valS_some hv
     have hd:∀ v,v<31→∀ x∈tx v,dig x:=by decide
     have:=hd v (by omega) 90 (by rw [hr];simp)
     exact absurd this (by decide)
 obtain ⟨k1,k2⟩:=key
 subst k1 k2
 have hH:SeedOk [72,50]:=.inr ⟨72,[50],rfl,.inl rfl,by decide,by decide⟩
 rw [et]
 rw [et] at hb
 refine kept_mk ho ho hs hH hb (fun x hx hx2=>?_) rfl fun _ _=>?_
 ·rcases List.mem_append.1 hx with h | h
  ·exact hb x (by simp [h]) hx2
  ·rw [seed_no hH x h] at hx2;cases hx2
 ·have:seedM [72,50]=seedM [90,50]:=rfl
  rw [this]
  exact Iso.refl _
theorem kept_stp {t t' : List UInt8}(hb:Bsc t)(hs:SeedOk (ntS t))(h:stp t=some t'):Kept t t' := by
 have et:t=ntO t++ntS t:=(nt_app t).symm
 unfold stp at h
 split at h
 ·rename_i u hu
  obtain rfl:=Option.some.inj h
  obtain ⟨x,hx,h1,h2⟩:=stpR_hit hu
  rw [h2]
  exact kept_rule et (nt_ops t) hs hb hx h1
 ·split at h
  ·rename_i hz
   obtain rfl:=Option.some.inj h
   exact kept_z2 et (nt_ops t) hs hb hz
  ·cases h
theorem kept_smp:∀ (n:Nat) (t:List UInt8),mes t<n→Bsc t→SeedOk (ntS t)→Kept t (smp t)
 | 0,_,h,_,_=>by omega
 | n+1,t,h,hb,hs=>by
  cases hst:stp t with
  | none=>rw [smp_none hst];exact Kept.refl hb hs
  | some u=>
   rw [smp_some hst]
   have k:=kept_stp hb hs hst
   have hm:=(stp_some hst).1
   exact k.trans hs (kept_smp n u (by omega) k.bsc k.seed)
end
end Go.Proofs.YtfcbamfkfadabaaGreatDoor
