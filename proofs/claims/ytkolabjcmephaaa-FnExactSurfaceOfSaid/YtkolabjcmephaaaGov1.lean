/- The abstract values and what they say of a concrete value in a world. No program in sight. -/
import Derived.OrdersHeld
import Derived.Below
import Derived.Laws.AppendOwn
import Derived.Laws.Sem
import Derived.KernelRfl
set_option linter.unusedSimpArgs false
set_option linter.unusedVariables false
namespace Go.Gov

/-- Abstract values. 'slc', 'pto': memory that nobody writes; 'sl', 'ref': into a tracked object; 'osl': a slice that owns its block (it occurs in a tracked object's cells alone). The lists hold cells. -/
inductive AV where
  | any
  | val (v : Value)
  | cnd (b : Bool) (x : AV)
  | slc (k n : Nat) (cs : List AV)
  | pto (cs : List AV) (j : Nat)
  | sl (o k off len : Nat)
  | ref (o j : Nat)
  | osl (k n : Nat) (cs : List AV)
  | agg (cs : List AV)
  | tup (vs : List AV)
  | clo (f : FuncId) (fs cs : List AV)

abbrev i64 (n : Int) : AV := .val (.int .i64 n)
abbrev bl (b : Bool) : AV := .val (.bool b)
abbrev nilS : AV := .val (.slice none 0 0)
def intsC (xs : List Int) : List AV := xs.map fun n => i64 n
def boolsC (xs : List Bool) : List AV := xs.map fun b => bl b
abbrev ints (xs : List Int) : AV := .slc 1 xs.length (intsC xs)
abbrev bools (xs : List Bool) : AV := .slc 1 xs.length (boolsC xs)
abbrev oints (xs : List Int) : AV := .osl 1 xs.length (intsC xs)
abbrev mat (xss : List (List Int)) : AV := .slc 1 xss.length (xss.map ints)
abbrev omat (xss : List (List Int)) : AV := .osl 1 xss.length (xss.map oints)

/-- Where a tracked object lies: block, first cell, size of the block; none: nowhere (a nil slice). -/
abbrev Loc := Option (Nat × Nat × Nat)
/-- .. and how many cells of it are told. -/
abbrev LocN := Loc × Nat

def SlAt : Loc → Nat → Nat → Nat → Value → Prop
  | none, _, _, len, v => len = 0 ∧ ∃ a, v = .slice a 0 0
  | some (b, base, sz), k, off, len, v => ∃ cap, len ≤ cap ∧ cap ≤ maxLen ∧ base + off + cap * k ≤ sz ∧
      (v = .slice (some ⟨b, base + off, none⟩) len cap ∨ (cap = 0 ∧ ∃ a, v = .slice a 0 0))

def RefAt : Loc → Nat → Value → Prop
  | none, _, _ => False
  | some (b, base, _), j, v => v = .pointer (some ⟨b, base + j, none⟩)

inductive Rd (w : World) (tr : Nat → Option (Option LocN)) (G : Nat → Prop) : AV → Value → List Nat → Prop
  | any {v : Value} : Rd w tr G .any v []
  | val {v : Value} : Rd w tr G (.val v) v []
  | cndF {x : AV} : Rd w tr G (.cnd false x) undef []
  | cndT {x : AV} {v : Value} (h : Rd w tr G x v []) : Rd w tr G (.cnd true x) v []
  | slc {k n : Nat} {cs : List AV} {b off cap : Nat} (u : Nat → Value) (hl : cs.length = n * k) (hn : n ≤ cap) (hm : cap ≤ maxLen) (hG : G b)
      (hc : ∀ m, m < cs.length → w.cell? ⟨b, off + m, none⟩ = some (u m)) (hr : ∀ m (h : m < cs.length), Rd w tr G cs[m] (u m) []) :
      Rd w tr G (.slc k n cs) (.slice (some ⟨b, off, none⟩) n cap) []
  | slc0 {k : Nat} {a : Option Addr} {cap : Nat} (hm : cap ≤ maxLen) : Rd w tr G (.slc k 0 []) (.slice a 0 cap) []
  | pto {cs : List AV} {j b off : Nat} (u : Nat → Value) (hG : G b) (hc : ∀ m, m < cs.length → w.cell? ⟨b, off + m, none⟩ = some (u m))
      (hr : ∀ m (h : m < cs.length), Rd w tr G cs[m] (u m) []) : Rd w tr G (.pto cs j) (.pointer (some ⟨b, off + j, none⟩)) []
  | sl {o k off len : Nat} {v : Value} (h0 : (tr o).isSome = true) (hv : v.oneCell' = true) (h : ∀ l, tr o = some (some l) → off + len * k ≤ l.2 ∧ SlAt l.1 k off len v) : Rd w tr G (.sl o k off len) v []
  | ref {o j : Nat} {v : Value} (h0 : (tr o).isSome = true) (hv : v.oneCell' = true) (h : ∀ l, tr o = some (some l) → RefAt l.1 j v) : Rd w tr G (.ref o j) v []
  | osl {k n : Nat} {cs : List AV} {b off cap : Nat} {arr : Array Value} {elem : TypeId} (u : Nat → Value) (bss : Nat → List Nat) (hl : cs.length = n * k) (hn : n ≤ cap) (hm : cap ≤ maxLen)
      (hb : w.heap[b]? = some (.cells arr elem (0, 0))) (hs : off + cap * k ≤ arr.size) (hc : ∀ m, m < cs.length → arr[off + m]? = some (u m))
      (hr : ∀ m (h : m < cs.length), Rd w tr G cs[m] (u m) (bss m)) :
      Rd w tr G (.osl k n cs) (.slice (some ⟨b, off, none⟩) n cap) (b :: (List.range cs.length).flatMap bss)
  | osl0 {k : Nat} {a : Option Addr} : Rd w tr G (.osl k 0 []) (.slice a 0 0) []
  | agg {cs : List AV} {vs : Array Value} (hl : cs.length = vs.size) (hr : ∀ m (h : m < cs.length), Rd w tr G cs[m] (vs.getD m undef) []) : Rd w tr G (.agg cs) (.agg vs) []
  | tup {cs : List AV} {vs : Array Value} (hl : cs.length = vs.size) (hr : ∀ m (h : m < cs.length), Rd w tr G cs[m] (vs.getD m undef) []) : Rd w tr G (.tup cs) (.tuple vs) []
  | clo {f : FuncId} {fs cs : List AV} {vf vc : Array Value} (hf : fs.length = vf.size) (hrf : ∀ m (h : m < fs.length), Rd w tr G fs[m] (vf.getD m undef) [])
      (hl : cs.length = vc.size) (hr : ∀ m (h : m < cs.length), Rd w tr G cs[m] (vc.getD m undef) []) : Rd w tr G (.clo f fs cs) (.func (.func f) vf vc) []

theorem tr_isSome {tr tr' : Nat → Option (Option LocN)} {o : Nat} (ht : ∀ o d, tr o = some d → tr' o = some d ∨ tr' o = some none) (h0 : (tr o).isSome = true) : (tr' o).isSome = true := by
  obtain ⟨d, hd⟩ := Option.isSome_iff_exists.1 h0
  rcases ht o d hd with h | h <;> simp [h]
theorem tr_back {tr tr' : Nat → Option (Option LocN)} {o : Nat} {l : LocN} (ht : ∀ o d, tr o = some d → tr' o = some d ∨ tr' o = some none) (h0 : (tr o).isSome = true) (h : tr' o = some (some l)) : tr o = some (some l) := by
  obtain ⟨d, hd⟩ := Option.isSome_iff_exists.1 h0
  rcases ht o d hd with h' | h'
  · rw [hd, ← h', h]
  · rw [h'] at h; cases h

/-- What is read stays read: the blocks that are looked at are as they were. -/
theorem Rd.mono {w w' : World} {tr tr' : Nat → Option (Option LocN)} {G G' : Nat → Prop} (hG : ∀ b, G b → G' b) (hw : ∀ b, G b → w'.heap[b]? = w.heap[b]?) (ht : ∀ o d, tr o = some d → tr' o = some d ∨ tr' o = some none) {x : AV} {v : Value} {bs : List Nat}
    (h : Rd w tr G x v bs) : (∀ b ∈ bs, w'.heap[b]? = w.heap[b]?) → Rd w' tr' G' x v bs := by
  induction h with
  | any => exact fun _ => .any
  | val => exact fun _ => .val
  | cndF => exact fun _ => .cndF
  | cndT _ ih => exact fun hb => .cndT (ih hb)
  | slc u hl hn hm hg hc _ ih => exact fun _ => .slc u hl hn hm (hG _ hg) (fun m hm' => (World.cell?_of_block (w := w) (hw _ hg)).trans (hc m hm')) (fun m hm' => ih m hm' (by simp))
  | slc0 hm => exact fun _ => .slc0 hm
  | pto u hg hc _ ih => exact fun _ => .pto u (hG _ hg) (fun m hm' => (World.cell?_of_block (w := w) (hw _ hg)).trans (hc m hm')) (fun m hm' => ih m hm' (by simp))
  | sl h0 hv h => exact fun _ => .sl (tr_isSome ht h0) hv fun l hl => h l (tr_back ht h0 hl)
  | ref h0 hv h => exact fun _ => .ref (tr_isSome ht h0) hv fun l hl => h l (tr_back ht h0 hl)
  | osl u bss hl hn hm hb hs hc _ ih => exact fun hbs => .osl u bss hl hn hm ((hbs _ (by simp)).trans hb) hs hc (fun m hm' => ih m hm' (fun b hb' => hbs b (by
      refine List.mem_cons_of_mem _ (List.mem_flatMap.2 ⟨m, List.mem_range.2 hm', hb'⟩))))
  | osl0 => exact fun _ => .osl0
  | agg hl _ ih => exact fun _ => .agg hl (fun m hm => ih m hm (by simp))
  | tup hl _ ih => exact fun _ => .tup hl (fun m hm => ih m hm (by simp))
  | clo hf _ hl _ ihf ih => exact fun _ => .clo hf (fun m hm => ihf m hm (by simp)) hl (fun m hm => ih m hm (by simp))

abbrev Heap := List (Option (List AV))
abbrev Frame := List (Nat × AV)

def fget : Frame → Nat → AV
  | [], _ => .any
  | (i, x) :: r, j => if i = j then x else fget r j

/-- What a tracked value reads as for whoever only reads. -/
def frz (H : Heap) : Nat → AV → AV
  | 0, _ => .any
  | d + 1, .sl o k off len => match H[o]? with
    | some (some cs) => .slc k len (((cs.drop off).take (len * k)).map (frz H d))
    | _ => .any
  | d + 1, .ref o j => match H[o]? with
    | some (some cs) => .pto (cs.map (frz H d)) j
    | _ => .any
  | d + 1, .osl k n cs => .slc k n (cs.map (frz H d))
  | d + 1, .slc k n cs => .slc k n (cs.map (frz H d))
  | d + 1, .pto cs j => .pto (cs.map (frz H d)) j
  | d + 1, .cnd b x => .cnd b (frz H d x)
  | d + 1, .agg cs => .agg (cs.map (frz H d))
  | d + 1, .tup cs => .tup (cs.map (frz H d))
  | d + 1, .clo f fs cs => .clo f (fs.map (frz H d)) (cs.map (frz H d))
  | _ + 1, x => x

/-- The ghost of a state: where the objects lie, which blocks each owns, which blocks are frozen. -/
structure Gh where
  ρ : Nat → Loc
  ob : Nat → List Nat
  G : Nat → Prop

def Gh.tr (g : Gh) (H : Heap) (o : Nat) : Option (Option LocN) := match H[o]? with
  | some (some cs) => some (some (g.ρ o, cs.length))
  | some none => some none
  | none => none

theorem Gh.tr_some {g : Gh} {H : Heap} {o : Nat} {cs : List AV} (h : H[o]? = some (some cs)) : g.tr H o = some (some (g.ρ o, cs.length)) := by simp [Gh.tr, h]
/-- One tracked object. -/
def ObjR (w : World) (tr : Nat → Option (Option LocN)) (G : Nat → Prop) (cs : List AV) (bs : List Nat) : Loc → Prop
  | none => cs = [] ∧ bs = []
  | some (b, base, sz) => ∃ (arr : Array Value) (elem : TypeId) (u : Nat → Value) (bss : Nat → List Nat), w.heap[b]? = some (.cells arr elem (0, 0)) ∧ arr.size = sz ∧ base + cs.length ≤ sz ∧
      (∀ m, m < cs.length → arr[base + m]? = some (u m)) ∧ (∀ m (h : m < cs.length), Rd w tr G cs[m] (u m) (bss m)) ∧ bs = b :: (List.range cs.length).flatMap bss

structure HeapR (g : Gh) (H : Heap) (w : World) : Prop where
  obj : ∀ o cs, H[o]? = some (some cs) → ObjR w (g.tr H) g.G cs (g.ob o) (g.ρ o)
  nodup : ∀ o cs, H[o]? = some (some cs) → (g.ob o).Nodup
  apart : ∀ o o' cs cs', H[o]? = some (some cs) → H[o']? = some (some cs') → o ≠ o' → ∀ b, b ∈ g.ob o → b ∉ g.ob o'
  free : ∀ o cs, H[o]? = some (some cs) → ∀ b, b ∈ g.ob o → ¬ g.G b
  low : ∀ b, g.G b → b < w.heap.size

def Gh.owns (g : Gh) (H : Heap) (b : Nat) : Prop := ∃ o cs, H[o]? = some (some cs) ∧ b ∈ g.ob o

structure R (N : Nat) (g : Gh) (F : Frame) (H : Heap) (a : Act) (w : World) : Prop where
  fr : ∀ j, Rd w (g.tr H) g.G (fget F j) (a.tmps.getD j undef) []
  hp : HeapR g H w
  size : a.tmps.size = N
  defers : a.defers = []

/-- From one world to a later one. -/
structure Step (w w' : World) (O O' G G' : Nat → Prop) : Prop where
  os : w'.os = w.os
  tape : w'.tape = w.tape
  output : w'.output = w.output
  size : w.heap.size ≤ w'.heap.size
  keep : ∀ b, b < w.heap.size → ¬ O b → w'.heap[b]? = w.heap[b]?
  own : ∀ b, O' b → O b ∨ w.heap.size ≤ b
  gin : ∀ b, G b → G' b
  gout : ∀ b, G' b → G b ∨ O b ∨ w.heap.size ≤ b
  fz : ∀ a, a.block < w.heap.size → w'.frozen? a = w.frozen? a

theorem Step.refl (w : World) (O G : Nat → Prop) : Step w w O O G G := ⟨rfl, rfl, rfl, Nat.le_refl _, fun _ _ _ => rfl, fun _ h => .inl h, fun _ h => h, fun _ h => .inl h, fun _ _ => rfl⟩
theorem Step.trans {w w' w'' : World} {O O' O'' G G' G'' : Nat → Prop} (h : Step w w' O O' G G') (k : Step w' w'' O' O'' G' G'') : Step w w'' O O'' G G'' :=
  ⟨k.os.trans h.os, k.tape.trans h.tape, k.output.trans h.output, Nat.le_trans h.size k.size,
    fun b hb hO => (k.keep b (Nat.lt_of_lt_of_le hb h.size) (fun hO' => (h.own b hO').elim hO (fun hge => absurd hb (by omega)))).trans (h.keep b hb hO),
    fun b hb => (k.own b hb).elim (h.own b) (fun hge => .inr (Nat.le_trans h.size hge)),
    fun b hb => k.gin b (h.gin b hb),
    fun b hb => (k.gout b hb).elim (h.gout b) (fun hor => hor.elim (fun ho => (h.own b ho).elim (fun x => .inr (.inl x)) (fun x => .inr (.inr x))) (fun hge => .inr (.inr (Nat.le_trans h.size hge)))),
    fun a ha => (k.fz a (Nat.lt_of_lt_of_le ha h.size)).trans (h.fz a ha)⟩

theorem frozen_set {w w' : World} {b : Nat} {arr arr' : Array Value} {elem elem' : TypeId} (hb : w.heap[b]? = some (.cells arr elem (0, 0))) (hb' : w'.heap[b]? = some (.cells arr' elem' (0, 0))) (ho : ∀ k, k ≠ b → w'.heap[k]? = w.heap[k]?) (a : Addr) : w'.frozen? a = w.frozen? a := by
  unfold World.frozen?
  by_cases e : a.block = b
  · rw [e, hb, hb']
  · rw [ho _ e]
theorem frozen_new {w w' : World} {b : Nat} {arr : Array Value} {elem : TypeId} (hb : w.heap[b]? = none) (hb' : w'.heap[b]? = some (.cells arr elem (0, 0))) (ho : ∀ k, k ≠ b → w'.heap[k]? = w.heap[k]?) (a : Addr) : w'.frozen? a = w.frozen? a := by
  unfold World.frozen?
  by_cases e : a.block = b
  · rw [e, hb, hb']
    have : ¬ (0 ≤ a.off ∧ a.off < 0) := by omega
    simp
  · rw [ho _ e]

theorem ObjR.lt {w : World} {tr : Nat → Option (Option LocN)} {G : Nat → Prop} {cs : List AV} {bs : List Nat} {l : Loc} (h : ObjR w tr G cs bs l) : ∀ b base sz, l = some (b, base, sz) → b < w.heap.size ∧ b ∈ bs := by
  rintro b base sz rfl
  obtain ⟨arr, elem, u, bss, hb, _, _, _, _, rfl⟩ := h
  exact ⟨(Array.getElem?_eq_some_iff.1 hb).1, by simp⟩

/-- The blocks that a reading owns are there. -/
theorem Rd.lt {w : World} {tr : Nat → Option (Option LocN)} {G : Nat → Prop} {x : AV} {v : Value} {bs : List Nat} (h : Rd w tr G x v bs) : ∀ b ∈ bs, b < w.heap.size := by
  induction h with
  | osl u bss hl hn hm hb hs hc _ ih =>
    intro b' hb'
    rcases List.mem_cons.1 hb' with rfl | hb'
    · exact (Array.getElem?_eq_some_iff.1 hb).1
    · obtain ⟨m, hm, hb'⟩ := List.mem_flatMap.1 hb'
      exact ih m (List.mem_range.1 hm) b' hb'
  | _ => simp

theorem ObjR.all_lt {w : World} {tr : Nat → Option (Option LocN)} {G : Nat → Prop} {cs : List AV} {bs : List Nat} {l : Loc} (h : ObjR w tr G cs bs l) : ∀ b ∈ bs, b < w.heap.size := by
  cases l with
  | none => obtain ⟨_, rfl⟩ := h; simp
  | some l =>
    obtain ⟨b, base, sz⟩ := l
    obtain ⟨arr, elem, u, bss, hb, _, _, _, hr, rfl⟩ := h
    intro b' hb'
    rcases List.mem_cons.1 hb' with rfl | hb'
    · exact (Array.getElem?_eq_some_iff.1 hb).1
    · obtain ⟨m, hm, hb'⟩ := List.mem_flatMap.1 hb'
      exact (hr m (List.mem_range.1 hm)).lt b' hb'

theorem ObjR.mono {w w' : World} {tr tr' : Nat → Option (Option LocN)} {G G' : Nat → Prop} {cs : List AV} {bs : List Nat} {l : Loc} (h : ObjR w tr G cs bs l)
    (hG : ∀ b, G b → G' b) (hw : ∀ b, G b → w'.heap[b]? = w.heap[b]?) (ht : ∀ o d, tr o = some d → tr' o = some d ∨ tr' o = some none) (hb : ∀ b ∈ bs, w'.heap[b]? = w.heap[b]?) : ObjR w' tr' G' cs bs l := by
  cases l with
  | none => exact h
  | some l =>
    obtain ⟨b, base, sz⟩ := l
    obtain ⟨arr, elem, u, bss, hbb, h1, h2, h3, hr, rfl⟩ := h
    refine ⟨arr, elem, u, bss, (hb b (by simp)).trans hbb, h1, h2, h3, fun m hm => (hr m hm).mono hG hw ht (fun b' hb' => hb b' ?_), rfl⟩
    exact List.mem_cons_of_mem _ (List.mem_flatMap.2 ⟨m, List.mem_range.2 hm, hb'⟩)

/-- A step of the world that leaves all owned and frozen blocks as they were: the same ghost serves. -/
theorem HeapR.keep {g : Gh} {H : Heap} {w w' : World} (h : HeapR g H w) (hs : w.heap.size ≤ w'.heap.size) (hw : ∀ b, b < w.heap.size → w'.heap[b]? = w.heap[b]?) : HeapR g H w' :=
  ⟨fun o cs ho => (h.obj o cs ho).mono (fun _ h => h) (fun b hb => hw b (h.low b hb)) (fun _ _ h => .inl h) (fun b hb => hw b ((h.obj o cs ho).all_lt b hb)),
    h.nodup, h.apart, h.free, fun b hb => Nat.lt_of_lt_of_le (h.low b hb) hs⟩

theorem R.keep {N : Nat} {g : Gh} {F : Frame} {H : Heap} {a : Act} {w w' : World} (h : R N g F H a w) (hs : w.heap.size ≤ w'.heap.size) (hw : ∀ b, b < w.heap.size → w'.heap[b]? = w.heap[b]?) : R N g F H a w' :=
  ⟨fun j => (h.fr j).mono (fun _ h => h) (fun b hb => hw b (h.hp.low b hb)) (fun _ _ h => .inl h) (by simp), h.hp.keep hs hw, h.size, h.defers⟩

/-- What 'frz' says is true for a reader who owns nothing. -/
theorem frz_ok {g : Gh} {H : Heap} {w : World} (hp : HeapR g H w) : ∀ (d : Nat) (x : AV) (v : Value) (bs : List Nat), Rd w (g.tr H) g.G x v bs →
    Rd w (fun _ => none) (fun b => b < w.heap.size) (frz H d x) v [] := by
  intro d
  induction d with
  | zero => intro x v bs _; exact .any
  | succ d ih =>
    intro x v bs h
    cases h with
    | any => exact .any
    | val => exact .val
    | cndF => exact .cndF
    | cndT h => simp only [frz]; exact .cndT (ih _ _ _ h)
    | slc u hl hn hm hG hc hr =>
      simp only [frz]
      exact .slc u (by simpa using hl) hn hm (hp.low _ hG) (fun m hm' => hc m (by simpa using hm')) (fun m hm' => by simp only [List.getElem_map]; exact ih _ _ _ (hr m (by simpa using hm')))
    | slc0 hm => simp only [frz, List.map_nil]; exact .slc0 hm
    | pto u hG hc hr =>
      simp only [frz]
      exact .pto u (hp.low _ hG) (fun m hm' => hc m (by simpa using hm')) (fun m hm' => by simp only [List.getElem_map]; exact ih _ _ _ (hr m (by simpa using hm')))
    | sl h00 hv0 h =>
      rename_i o k off len
      simp only [frz]
      split
      · rename_i cs hcs
        obtain ⟨h0, h1⟩ := h _ (Gh.tr_some (g := g) hcs)
        have h2 := hp.obj o cs hcs
        dsimp only at h0 h1
        cases hl : g.ρ o with
        | none =>
          rw [hl] at h1 h2
          obtain ⟨rfl, a, rfl⟩ := h1
          simp only [Nat.zero_mul, List.take_zero, List.map_nil]
          exact .slc0 (by unfold maxLen; omega)
        | some l =>
          obtain ⟨b, base, sz⟩ := l
          rw [hl] at h1 h2
          obtain ⟨cap, h3, h4, h5, h6⟩ := h1
          obtain ⟨arr, elem, u, bss, hb, hsz, hcl, hc, hr, _⟩ := h2
          have hlt : b < w.heap.size := (Array.getElem?_eq_some_iff.1 hb).1
          have hlen : ((cs.drop off).take (len * k)).length = len * k := by
            rw [List.length_take, List.length_drop]; omega
          · rcases h6 with rfl | ⟨rfl, a, rfl⟩
            · refine .slc (fun m => u (off + m)) (by simpa using hlen) h3 h4 hlt (fun m hm => ?_) (fun m hm => ?_)
              · simp only [List.length_map, List.length_take, List.length_drop] at hm
                have := hc (off + m) (by omega)
                simp only [World.cell?, hb]
                simpa [Nat.add_assoc] using this
              · simp only [List.length_map, List.length_take, List.length_drop] at hm
                simp only [List.getElem_map, List.getElem_take, List.getElem_drop]
                exact ih _ _ _ (hr (off + m) (by omega))
            · have : len = 0 := by omega
              subst this
              simp only [Nat.zero_mul, List.take_zero, List.map_nil]
              exact .slc0 (by unfold maxLen; omega)
      · exact .any
    | ref h00 hv0 h =>
      rename_i o j
      simp only [frz]
      split
      · rename_i cs hcs
        have h1 := h _ (Gh.tr_some (g := g) hcs)
        have h2 := hp.obj o cs hcs
        dsimp only at h1
        cases hl : g.ρ o with
        | none => rw [hl] at h1; exact h1.elim
        | some l =>
          obtain ⟨b, base, sz⟩ := l
          rw [hl] at h1 h2
          obtain rfl := h1
          obtain ⟨arr, elem, u, bss, hb, hsz, hcl, hc, hr, _⟩ := h2
          refine .pto u (Array.getElem?_eq_some_iff.1 hb).1 (fun m hm => ?_) (fun m hm => ?_)
          · simp only [List.length_map] at hm
            have := hc m hm
            simp only [World.cell?, hb]
            simpa using this
          · simp only [List.length_map] at hm
            simp only [List.getElem_map]
            exact ih _ _ _ (hr m hm)
      · exact .any
    | osl u bss hl hn hm hb hs hc hr =>
      simp only [frz]
      refine .slc u (by simpa using hl) hn hm (Array.getElem?_eq_some_iff.1 hb).1 (fun m hm' => ?_) (fun m hm' => ?_)
      · simp only [List.length_map] at hm'
        simp only [World.cell?, hb]
        simpa using hc m hm'
      · simp only [List.length_map] at hm'
        simp only [List.getElem_map]
        exact ih _ _ _ (hr m hm')
    | osl0 => simp only [frz, List.map_nil]; exact .slc0 (by unfold maxLen; omega)
    | agg hl hr => simp only [frz]; exact .agg (by simpa using hl) (fun m hm => by simp only [List.getElem_map]; exact ih _ _ _ (hr m (by simpa using hm)))
    | tup hl hr => simp only [frz]; exact .tup (by simpa using hl) (fun m hm => by simp only [List.getElem_map]; exact ih _ _ _ (hr m (by simpa using hm)))
    | clo hf hrf hl hr => simp only [frz]; exact .clo (by simpa using hf) (fun m hm => by simp only [List.getElem_map]; exact ih _ _ _ (hrf m (by simpa using hm))) (by simpa using hl) (fun m hm => by simp only [List.getElem_map]; exact ih _ _ _ (hr m (by simpa using hm)))

end Go.Gov
