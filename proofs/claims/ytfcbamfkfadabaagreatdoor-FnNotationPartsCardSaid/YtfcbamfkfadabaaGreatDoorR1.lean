/- Texts that belong together. -/
import Derived.KernelRfl
set_option linter.unusedSimpArgs false
set_option linter.unusedVariables false
set_option maxRecDepth 100000
namespace Go.Ce
open Classical

def fnd : Nat → List Int → Nat → Nat
  | 0, _, c => c
  | k + 1, l, c => if l.getD c 0 = (c : Int) then c else fnd k l (l.getD c 0).toNat
def find (l : List Int) (c : Nat) : Nat := fnd (c + 1) l c
def Low (l : List Int) : Prop := ∀ c, c < l.length → 0 ≤ l.getD c 0 ∧ l.getD c 0 ≤ c
structure St where
  im : List (List Int)
  le : List Int
  bad : Bool
def at2 (I : List (List Int)) (c g : Nat) : Int := (I.getD c []).getD g 0
def put2 (I : List (List Int)) (c g : Nat) (v : Int) : List (List Int) := I.set c ((I.getD c []).set g v)
def img (I : List (List Int)) (l : List Int) (c g : Nat) : Int := if at2 I c g < 0 then -1 else (find l (at2 I c g).toNat : Nat)
theorem put2_len (I : List (List Int)) (c g : Nat) (v : Int) : (put2 I c g v).length = I.length := by simp [put2]
theorem put2_row {I : List (List Int)} {c g : Nat} {v : Int} (d : Nat) : ((put2 I c g v).getD d []).length = (I.getD d []).length := by
  unfold put2
  by_cases hc : c < I.length
  · by_cases e : d = c
    · subst e
      simp [hc]
    · rw [List.getD_eq_getElem?_getD, List.getElem?_set_ne (fun h => e h.symm), ← List.getD_eq_getElem?_getD]
  · rw [List.set_eq_of_length_le (by omega)]
theorem at2_put2 {I : List (List Int)} {c g : Nat} {v : Int} (hc : c < I.length) (hg : g < (I.getD c []).length) (d k : Nat) : at2 (put2 I c g v) d k = if d = c ∧ k = g then v else at2 I d k := by
  unfold at2 put2
  by_cases e : d = c
  · subst e
    have e1 : (I.set d ((I.getD d []).set g v)).getD d [] = (I.getD d []).set g v := by simp [hc]
    rw [e1]
    by_cases e2 : k = g
    · subst e2
      rw [if_pos ⟨rfl, rfl⟩, List.getD_eq_getElem?_getD, List.getElem?_set_self hg]
      rfl
    · rw [if_neg (fun h => e2 h.2), List.getD_eq_getElem?_getD, List.getElem?_set_ne (fun h => e2 h.symm), ← List.getD_eq_getElem?_getD]
  · rw [if_neg (fun h => e h.1), List.getD_eq_getElem?_getD (l := I.set _ _), List.getElem?_set_ne (fun h => e h.symm), ← List.getD_eq_getElem?_getD]
structure Ok (G : Nat) (I : List (List Int)) (l : List Int) : Prop where
  len : I.length = l.length
  low : Low l
  row : ∀ c, c < I.length → (I.getD c []).length = G
  ent : ∀ c g, c < I.length → g < G → -1 ≤ at2 I c g ∧ at2 I c g < (l.length : Int)
theorem Ok.put {G : Nat} {I : List (List Int)} {l : List Int} (h : Ok G I l) {c g : Nat} {v : Int} (hc : c < I.length) (hg : g < G) (hv : -1 ≤ v ∧ v < (l.length : Int)) : Ok G (put2 I c g v) l :=
  ⟨by rw [put2_len, h.len], h.low, fun d hd => by rw [put2_row]; exact h.row d (by rwa [put2_len] at hd), fun d k hd hk => by
    rw [put2_len] at hd
    rw [at2_put2 hc (by rw [h.row c hc]; exact hg)]
    split
    · exact hv
    · exact h.ent d k hd hk⟩
def mI (I : List (List Int)) (lo hi : Nat) : Nat → List (List Int)
  | 0 => I
  | k + 1 => if at2 (mI I lo hi k) hi k < 0 ∨ 0 ≤ at2 (mI I lo hi k) lo k then mI I lo hi k else put2 (mI I lo hi k) lo k (at2 (mI I lo hi k) hi k)
def mQ (I : List (List Int)) (lo hi : Nat) : Nat → List (Nat × Nat)
  | 0 => []
  | k + 1 => if 0 ≤ at2 (mI I lo hi k) hi k ∧ 0 ≤ at2 (mI I lo hi k) lo k then mQ I lo hi k ++ [((at2 (mI I lo hi k) hi k).toNat, (at2 (mI I lo hi k) lo k).toNat)] else mQ I lo hi k
structure Mo (G : Nat) (I : List (List Int)) (l : List Int) (I' : List (List Int)) (l' : List Int) : Prop where
  len : l.length ≤ l'.length
  root : ∀ c, c < l.length → l'.getD c 0 = (c : Int) → l.getD c 0 = (c : Int)
  has : ∀ c g, c < l.length → g < G → 0 ≤ at2 I c g → 0 ≤ at2 I' c g
theorem Mo.put {G : Nat} {I : List (List Int)} {l : List Int} (h : Ok G I l) {c g : Nat} {v : Int} (hc : c < I.length) (hg : g < G) (hv : 0 ≤ v) : Mo G I l (put2 I c g v) l :=
  ⟨Nat.le_refl _, fun _ _ h => h, fun d k hd hk e => by
    rw [at2_put2 hc (by rw [h.row c hc]; exact hg)]
    split
    · exact hv
    · exact e⟩
def roots (l : List Int) : Nat := (List.range l.length).countP fun c => decide (l.getD c 0 = (c : Int))
theorem low_set {l : List Int} (h : Low l) {lo hi : Nat} (hl : lo ≤ hi) : Low (l.set hi (lo : Int)) := fun c hc => by
  rw [List.length_set] at hc
  by_cases e : c = hi
  · subst e
    simp [hc]
    omega
  · rw [List.getD_eq_getElem?_getD, List.getElem?_set_ne (fun h => e h.symm), ← List.getD_eq_getElem?_getD]
    exact h c hc
theorem Ok.set {G : Nat} {I : List (List Int)} {l : List Int} (h : Ok G I l) {lo hi : Nat} (hl : lo ≤ hi) : Ok G I (l.set hi (lo : Int)) :=
  ⟨by rw [List.length_set, h.len], low_set h.low hl, h.row, fun c g hc hg => by rw [List.length_set]; exact h.ent c g hc hg⟩
theorem Mo.set {G : Nat} {I : List (List Int)} {l : List Int} {lo hi : Nat} (hl : lo < hi) (hh : hi < l.length) : Mo G I l I (l.set hi (lo : Int)) :=
  ⟨by simp, fun c hc e => by
    by_cases e2 : c = hi
    · subst e2
      have e3 : (l.set c (lo : Int)).getD c 0 = lo := by simp [hh]
      rw [e3] at e
      omega
    · rwa [List.getD_eq_getElem?_getD, List.getElem?_set_ne (fun h => e2 h.symm), ← List.getD_eq_getElem?_getD] at e, fun c g _ _ h => h⟩
def idf (G : Nat) : Nat → List (List Int) → List Int → List (Nat × Nat) → List (List Int) × List Int
  | 0, I, l, _ => (I, l)
  | _ + 1, I, l, [] => (I, l)
  | n + 1, I, l, p :: q => if find l p.1 = find l p.2 then idf G n I l q else
      idf G n (mI I (min (find l p.1) (find l p.2)) (max (find l p.1) (find l p.2)) G) (l.set (max (find l p.1) (find l p.2)) (min (find l p.1) (find l p.2) : Nat)) (q ++ mQ I (min (find l p.1) (find l p.2)) (max (find l p.1) (find l p.2)) G)
def meas (l : List Int) (q : List (Nat × Nat)) : Nat := 6 * roots l + q.length
structure IdI (G : Nat) (I0 : List (List Int)) (l0 : List Int) (R : List (List Int) × List Int) (I : List (List Int)) (l : List Int) (q : List (Nat × Nat)) : Prop where
  ok : Ok G I l
  mo : Mo G I0 l0 I l
  len : l.length = l0.length
  qb : ∀ p ∈ q, p.1 < l.length ∧ p.2 < l.length
  res : ∃ n, meas l q ≤ n ∧ idf G n I l q = R
theorem IdI.same {G : Nat} {I0 : List (List Int)} {l0 : List Int} {R : List (List Int) × List Int} {I : List (List Int)} {l : List Int} {a b : Nat} {q : List (Nat × Nat)} (h : IdI G I0 l0 R I l ((a, b) :: q)) (e : find l a = find l b) : IdI G I0 l0 R I l q := by
  obtain ⟨n, hn, hR⟩ := h.res
  refine ⟨h.ok, h.mo, h.len, fun p hp => h.qb p (by simp [hp]), ?_⟩
  unfold meas at hn
  simp only [List.length_cons] at hn
  obtain ⟨m, rfl⟩ : ∃ m, n = m + 1 := ⟨n - 1, by omega⟩
  unfold idf at hR
  rw [if_pos e] at hR
  exact ⟨m, by unfold meas; omega, hR⟩
def ident (G : Nat) (I : List (List Int)) (l : List Int) (a b : Nat) : List (List Int) × List Int := idf G (meas l [(a, b)]) I l [(a, b)]
end Go.Ce
set_option maxRecDepth 100000
namespace Go.Ce
open Classical

def newI (G : Nat) (I : List (List Int)) (c g : Nat) : List (List Int) := put2 (put2 (I ++ [List.replicate G (-1)]) c g (I.length : Int)) I.length g (c : Int)
structure Ss (G : Nat) (S : St) : Prop where
  ok : Ok G S.im S.le
  pos : 0 < S.le.length
  few : S.le.length ≤ 2000
def nx (G : Nat) (S : St) (c g : Nat) : St × Nat := if 0 ≤ img S.im S.le c g then (S, (img S.im S.le c g).toNat) else if S.le.length = 2000 then (⟨S.im, S.le, true⟩, 0) else (⟨newI G S.im c g, S.le ++ [(S.le.length : Int)], S.bad⟩, S.le.length)
def clK (G : Nat) (S : St) (w : List Int) (c : Nat) : Nat → St × Nat
  | 0 => (S, c)
  | k + 1 => if (clK G S w c k).1.bad = true then clK G S w c k else nx G (clK G S w c k).1 (clK G S w c k).2 (w.getD k 0).toNat
def fin (G : Nat) (T : St) (c d g : Nat) : St :=
  if 0 ≤ img T.im T.le d g then ⟨(ident G T.im T.le (img T.im T.le d g).toNat c).1, (ident G T.im T.le (img T.im T.le d g).toNat c).2, T.bad⟩
  else if 0 ≤ img T.im T.le c g then ⟨(ident G T.im T.le (img T.im T.le c g).toNat d).1, (ident G T.im T.le (img T.im T.le c g).toNat d).2, T.bad⟩
  else ⟨put2 (put2 T.im d g (c : Int)) c g (d : Int), T.le, T.bad⟩
def cls (G : Nat) (S : St) (w : List Int) (c : Nat) : St := if w.length = 0 then S else if (clK G S w c (w.length - 1)).1.bad = true then (clK G S w c (w.length - 1)).1 else fin G (clK G S w c (w.length - 1)).1 c (clK G S w c (w.length - 1)).2 (w.getD (w.length - 1) 0).toNat
def Go (S : St) (c : Nat) : Prop := S.le.getD c 0 = (c : Int) ∧ S.bad = false
noncomputable def rlK (G : Nat) (S : St) (rs : List (List Int)) (c : Nat) : Nat → St
  | 0 => S
  | k + 1 => if Go (rlK G S rs c k) c then cls G (rlK G S rs c k) (rs.getD k []) c else rlK G S rs c k
noncomputable def glK (G : Nat) (S : St) (c : Nat) : Nat → St
  | 0 => S
  | k + 1 => if Go (glK G S c k) c then (nx G (glK G S c k) c k).1 else glK G S c k
noncomputable def mn (G : Nat) (rs : List (List Int)) : Nat → St → Nat → St
  | 0, S, _ => S
  | k + 1, S, c => if c < S.le.length ∧ S.bad = false then mn G rs k (glK G (rlK G S rs c rs.length) c G) (c + 1) else S
def Cp (G : Nat) (S : St) (c : Nat) : Prop := ∀ d, d < c → d < S.le.length → S.le.getD d 0 = (d : Int) → ∀ g, g < G → 0 ≤ at2 S.im d g
def start (G : Nat) : St := ⟨[List.replicate G (-1)], [0], false⟩
noncomputable def enum (G : Nat) (rs : List (List Int)) : St := mn G rs 2001 (start G) 0
structure Ei (G : Nat) (rs : List (List Int)) (S : St) (c : Nat) : Prop where
  ok : Ss G S
  le : c ≤ S.le.length
  cp : S.bad = false → Cp G S c
  res : mn G rs (2001 - c) S c = enum G rs
end Go.Ce
set_option maxRecDepth 100000
namespace Go.Ce
open Classical

structure Ed (G : Nat) (S : St) : Prop where
  ok : Ss G S
  cp : ∀ d, d < S.le.length → S.le.getD d 0 = (d : Int) → ∀ g, g < G → 0 ≤ at2 S.im d g
def Rt (S : St) (d : Nat) : Prop := d < S.le.length ∧ S.le.getD d 0 = (d : Int)
def im2 (S : St) (d g : Nat) : Nat := (img S.im S.le d g).toNat
noncomputable def psN (O : List Nat) (d : Nat) : List Nat := if d ∈ O then O else O ++ [d]
noncomputable def oG (S : St) (O : List Nat) (x : Nat) : Nat → List Nat
  | 0 => O
  | g + 1 => psN (oG S O x g) (im2 S x g)
noncomputable def oF (G : Nat) (S : St) : Nat → List Nat → Nat → List Nat
  | 0, O, _ => O
  | k + 1, O, i => if i < O.length then oF G S k (oG S O (O.getD i 0) G) (i + 1) else O
noncomputable def ord (G : Nat) (S : St) : List Nat := oF G S 2001 [0] 0
theorem psN_pre (O : List Nat) (d : Nat) : ∃ L, psN O d = O ++ L := by
  unfold psN
  split
  · exact ⟨[], by simp⟩
  · exact ⟨[d], rfl⟩
theorem oG_pre (S : St) (O : List Nat) (x : Nat) : ∀ g : Nat, ∃ L, oG S O x g = O ++ L
  | 0 => ⟨[], by simp [oG]⟩
  | g + 1 => by
    obtain ⟨L, h⟩ := oG_pre S O x g
    obtain ⟨L2, h2⟩ := psN_pre (oG S O x g) (im2 S x g)
    exact ⟨L ++ L2, by rw [oG, h2, h, List.append_assoc]⟩
structure Od (S : St) (O : List Nat) : Prop where
  nd : O.Nodup
  rt : ∀ d ∈ O, Rt S d
  zero : ∃ L, O = 0 :: L
structure Oi (G : Nat) (S : St) (O : List Nat) (i : Nat) : Prop where
  od : Od S O
  le : i ≤ O.length
  cl : ∀ j, j < i → ∀ g, g < G → im2 S (O.getD j 0) g ∈ O
  res : oF G S (2001 - i) O i = ord G S
def plc (O : List Nat) (d : Nat) : Nat := O.idxOf d
end Go.Ce
set_option maxRecDepth 100000
namespace Go.Ce
open Classical

def dg (N i : Nat) : Nat := N / 4096 ^ i % 4096
def dp (N i v : Nat) : Nat := (N / 4096 ^ i / 4096 * 4096 + v) * 4096 ^ i + N % 4096 ^ i
theorem dg_dp {N i v : Nat} (hv : v < 4096) (j : Nat) : dg (dp N i v) j = if j = i then v else dg N j := by
  have hp : ∀ k : Nat, 0 < 4096 ^ k := fun k => Nat.pow_pos (by decide)
  have hr : N % 4096 ^ i < 4096 ^ i := Nat.mod_lt _ (hp i)
  have h1 : dp N i v / 4096 ^ i = N / 4096 ^ i / 4096 * 4096 + v := by
    unfold dp
    rw [Nat.add_comm, Nat.add_mul_div_right _ _ (hp i), Nat.div_eq_of_lt hr, Nat.zero_add]
  have h2 : dp N i v % 4096 ^ i = N % 4096 ^ i := by
    unfold dp
    rw [Nat.add_comm, Nat.add_mul_mod_self_right, Nat.mod_eq_of_lt hr]
  by_cases e : j = i
  · subst e
    rw [if_pos rfl]
    unfold dg
    rw [h1, Nat.add_comm, Nat.add_mul_mod_self_right, Nat.mod_eq_of_lt hv]
  · rw [if_neg e]
    unfold dg
    rcases Nat.lt_or_gt_of_ne e with h | h
    · have hm : ∀ x : Nat, x / 4096 ^ j % 4096 = x % 4096 ^ i / 4096 ^ j % 4096 := fun x => by
        have e1 : 4096 ^ i = 4096 ^ j * 4096 * 4096 ^ (i - j - 1) := by rw [← Nat.pow_succ, ← Nat.pow_add]; congr 1; omega
        have e2 : x % 4096 ^ i % (4096 ^ j * 4096) = x % (4096 ^ j * 4096) := Nat.mod_mod_of_dvd _ (by rw [e1]; exact Nat.dvd_mul_right _ _)
        rw [← Nat.mod_mul_right_div_self, ← Nat.mod_mul_right_div_self, e2]
      rw [hm, h2, ← hm]
    · have e1 : 4096 ^ j = 4096 ^ i * (4096 * 4096 ^ (j - i - 1)) := by rw [← Nat.pow_succ', ← Nat.pow_add]; congr 1; omega
      have hd : ∀ x : Nat, x / 4096 ^ j = x / 4096 ^ i / 4096 / 4096 ^ (j - i - 1) := fun x => by rw [e1, ← Nat.div_div_eq_div_mul, ← Nat.div_div_eq_div_mul]
      rw [hd, hd, h1, Nat.add_comm (_ * 4096) v, Nat.add_mul_div_right _ _ (by decide : 0 < 4096), Nat.div_eq_of_lt hv, Nat.zero_add]
structure NS where
  im : Nat
  le : Nat
  n : Nat
  bad : Bool
structure Rp (G : Nat) (S : St) (T : NS) : Prop where
  n : T.n = S.le.length
  bad : T.bad = S.bad
  le : ∀ c, c < S.le.length → (dg T.le c : Int) = S.le.getD c 0
  im : ∀ c g, c < S.le.length → g < G → (dg T.im (G * c + g) : Int) = at2 S.im c g + 1
  out : ∀ i, G * S.le.length ≤ i → dg T.im i = 0
section
variable {G : Nat} {I : List (List Int)} {l : List Int} {J L : Nat}
structure Rq (G : Nat) (I : List (List Int)) (l : List Int) (J L : Nat) : Prop where
  le : ∀ c, c < l.length → (dg L c : Int) = l.getD c 0
  im : ∀ c g, c < l.length → g < G → (dg J (G * c + g) : Int) = at2 I c g + 1
  out : ∀ i, G * l.length ≤ i → dg J i = 0
theorem idx_ne {G c g d k : Nat} (hg : g < G) (hk : k < G) : G * d + k = G * c + g ↔ d = c ∧ k = g := by
  constructor
  · intro h
    have h1 : (G * d + k) / G = d := by rw [Nat.add_comm, Nat.add_mul_div_left _ _ (by omega), Nat.div_eq_of_lt hk, Nat.zero_add]
    have h2 : (G * c + g) / G = c := by rw [Nat.add_comm, Nat.add_mul_div_left _ _ (by omega), Nat.div_eq_of_lt hg, Nat.zero_add]
    have h3 : d = c := by rw [← h1, ← h2, h]
    subst h3
    exact ⟨rfl, by omega⟩
  · rintro ⟨rfl, rfl⟩; rfl
theorem idx_lt {G c g n : Nat} (hg : g < G) (hc : c < n) : G * c + g < G * n := by
  have : G * (c + 1) ≤ G * n := Nat.mul_le_mul_left _ hc
  rw [Nat.mul_succ] at this
  omega
theorem Rq.put (ho : Ok G I l) (h : Rq G I l J L) (hf : l.length ≤ 2000) {c g v : Nat} (hc : c < l.length) (hg : g < G) (hv : v < 4096) : Rq G (put2 I c g ((v : Int) - 1)) l (dp J (G * c + g) v) L :=
  ⟨h.le, fun d k hd hk => by
    rw [dg_dp hv, at2_put2 (by rw [ho.len]; exact hc) (by rw [ho.row c (by rw [ho.len]; exact hc)]; exact hg)]
    by_cases e : d = c ∧ k = g
    · rw [if_pos ((idx_ne hg hk).2 e), if_pos e]; omega
    · rw [if_neg (fun h2 => e ((idx_ne hg hk).1 h2)), if_neg e]; exact h.im d k hd hk, fun i hi => by
    have := idx_lt (G := G) hg hc
    rw [dg_dp hv, if_neg (by omega)]
    exact h.out i hi⟩
theorem Rq.set (h : Rq G I l J L) {lo hi : Nat} (hh : hi < l.length) (hl : lo < 4096) : Rq G I (l.set hi (lo : Int)) J (dp L hi lo) :=
  ⟨fun c hc => by
    rw [List.length_set] at hc
    rw [dg_dp hl]
    by_cases e : c = hi
    · subst e
      rw [if_pos rfl]
      simp [hc]
    · rw [if_neg e, List.getD_eq_getElem?_getD, List.getElem?_set_ne (fun h => e h.symm), ← List.getD_eq_getElem?_getD]
      exact h.le c hc, fun c g hc hg => h.im c g (by rwa [List.length_set] at hc) hg, fun i hi => h.out i (by rwa [List.length_set] at hi)⟩
end
section
variable {G : Nat} {S : St} {T : NS}
end

/-! ### The numbers in order, on numbers -/
structure OS where
  num : Nat
  oc : Nat
  m : Nat
structure Ro (S : St) (V : List Nat) (O : OS) : Prop where
  m : O.m = V.length
  oc : ∀ i, i < V.length → dg O.oc i = V.getD i 0
  num : ∀ d, d < S.le.length → dg O.num d = if d ∈ V then plc V d + 1 else 0
section
variable {G : Nat} {S : St} {T : NS} {V : List Nat} {O : OS}
end
end Go.Ce
set_option maxRecDepth 100000
namespace Go.Ce

end Go.Ce
