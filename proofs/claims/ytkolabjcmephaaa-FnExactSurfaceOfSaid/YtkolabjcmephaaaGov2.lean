/- The abstract operations; how an operation of the model becomes one; the quiet ones are sound. -/
import Derived.Test.YtkolabjcmephaaaGov1
import Derived.Laws.Sem
import Derived.Laws.Cells
import Derived.Laws.Entries
set_option linter.unusedSimpArgs false
set_option linter.unusedVariables false
namespace Go.Gov

inductive AX where
  | s (n : Nat)
  | c (v : Value)
  | f (f : FuncId)

def cX : Operand → AX
  | .tmp t => .s t
  | .const v => .c v
  | .func f => .f f
  | .global g => .c (.pointer (some ⟨g, 0, none⟩))

def ax (F : Frame) : AX → AV
  | .s n => fget F n
  | .c v => .val v
  | .f f => .clo f [] []

def st : AV → AV
  | .cnd _ x => st x
  | x => x

def stOk : AV → Prop
  | .cnd b x => b = true ∧ stOk x
  | _ => True

inductive AOp where
  | mov (x : AX)
  | pick (c a b : AX)
  | alloc (z : List Value)
  | box (x : AX)
  | load (z : AV) (x : AX)
  | loads (n : Nat) (x : AX)
  | store (n : Nat) (a x : AX)
  | bin (cls : Nat) (op : BinOp) (x y : AX)
  | not (x : AX)
  | neg (x : AX)
  | conv (k : IntKind) (x : AX)
  | fld (off : Nat) (x : AX)
  | fldv (off : Nat) (x : AX)
  | fldvs (off n : Nat) (x : AX)
  | idx (k : Nat) (x i : AX)
  | sidx (x i : AX)
  | mk (k bytes : Nat) (z : List Value) (l : AX)
  | slice (k : Nat) (x : AX) (lo hi : Option AX)
  | sslice (x : AX) (lo hi : Option AX)
  | len (x : AX)
  | slen (x : AX)
  | app (k bytes : Nat) (s x : AX)
  | call (f : FuncId) (args : List AX)
  | callv (fv : AX) (args : List AX)
  | ext (t : AX) (i : Nat)
  | fn (f : FuncId) (fs cs : List AX)
  | bsl (n : Nat) (parts : List (Nat × AX))
  | nck (x : AX)
  | bld (z : List Value) (parts : List (Nat × Nat × AX))
  | mnb (x y : AX)
  | cpy (s x : AX)
  | bad

def clsOf (d : Option TypeDesc) : Nat := match d with
  | some .bool => 1
  | some (.slice _) => 2
  | _ => 0

def zav (d : TypeDesc) : AV := match d with
  | .int k => .val (.int k 0)
  | .bool => bl false
  | .string => .val (.string ByteArray.empty)
  | .slice _ => .slc 1 0 []
  | _ => .any

def elemSize (P : Program) (t : TypeId) : Option Nat := match P.underlying t with
  | some (.slice e) => (P.info? e).map (·.size)
  | _ => none

def elemBytes (P : Program) (t : TypeId) : Nat := match P.underlying t with
  | some (.slice e) => P.bytesOf e
  | _ => 0

def elemZero (P : Program) (t : TypeId) : Option (List Value) := match P.underlying t with
  | some (.slice e) => ((P.info? e).bind (·.zero)).map (·.cells.toList)
  | _ => none

def fieldOf (P : Program) (t : TypeId) (j : Nat) : Option (Nat × TypeId) := match P.underlying t with
  | some (.struct fs) => (fs[j]?).map fun f => (f.offset, f.type)
  | _ => none

def isAggT (d : Option TypeDesc) : Bool := match d with
  | some (.struct _) | some (.array _ _) => true
  | _ => false

def placesOf (P : Program) (fs : Array Field) : List (Nat × AX) → Option (List (Nat × Nat × AX))
  | [] => some []
  | (i, x) :: r => match fs[i]?, placesOf P fs r with
    | some f, some l => match P.info? f.type with
      | some j => some ((f.offset, j.size, x) :: l)
      | none => none
    | _, _ => none

/-- What an operation of the model is as an abstract one. -/
def compileOp0 (P : Program) (o : Oper) : Option AOp := match o.op with
  | .move x | .assign x => some (.mov (cX x))
  | .pick c a b => some (.pick (cX c) (cX a) (cX b))
  | .alloc t => match (P.info? t).bind (·.zero) with
    | some z => some (.alloc z.cells.toList)
    | none => none
  | .box _ x => some (.box (cX x))
  | .load t x => match P.underlying t, P.info? t with
    | some d, some i => if isAggT (some d) then some (.loads i.size (cX x)) else some (.load (zav d) (cX x))
    | _, _ => none
  | .store t a x => match P.info? t with
    | some i => some (.store i.size (cX a) (cX x))
    | none => none
  | .binOp op t x y _ => some (.bin (clsOf (P.underlying t)) op (cX x) (cX y))
  | .unOp .not _ x => some (.not (cX x))
  | .unOp .neg _ x => some (.neg (cX x))
  | .convert src dst x => match P.underlying src, P.underlying dst with
    | some (.int _), some (.int k) => some (.conv k (cX x))
    | _, _ => none
  | .fieldAddr t x j => match fieldOf P t j with
    | some (off, ft) => match P.info? ft with
      | some i => if i.size = 0 then none else some (.fld off (cX x))
      | none => none
    | none => none
  | .indexAddr t x i => match elemSize P t with
    | some k => some (.idx k (cX x) (cX i))
    | none => none
  | .index t x i => match P.underlying t with
    | some .string => some (.sidx (cX x) (cX i))
    | _ => none
  | .makeSlice t (.tmp l) (.tmp c) => if l = c then match elemSize P t, elemZero P t with
    | some k, some z => if z.length = k then some (.mk k (elemBytes P t) z (.s l)) else none
    | _, _ => none
    else none
  | .makeSlice t (.const (.int k1 n1)) (.const (.int k2 n2)) => if k1 = k2 ∧ n1 = n2 then match elemSize P t, elemZero P t with
    | some k, some z => if z.length = k then some (.mk k (elemBytes P t) z (.c (.int k1 n1))) else none
    | _, _ => none
    else none
  | .slice t x lo hi none => match P.underlying t with
    | some .string => some (.sslice (cX x) (lo.map cX) (hi.map cX))
    | _ => match elemSize P t with
      | some k => some (.slice k (cX x) (lo.map cX) (hi.map cX))
      | none => none
  | .extract t i => some (.ext (cX t) i)
  | .makeFunc (.func f) fs cs => some (.fn f (fs.toList.map cX) (cs.toList.map cX))
  | .buildSlice t n parts => match elemSize P t, elemZero P t with
    | some 1, some _ => some (.bsl n (parts.toList.map fun (i, x) => (i, cX x)))
    | _, _ => none
  | .call { callee := .builtin .len, args, argTypes } => match args.toList, argTypes.toList with
    | [x], [t] => match P.underlying t with
      | some .string => some (.slen (cX x))
      | some (.slice _) => some (.len (cX x))
      | _ => none
    | _, _ => none
  | .call { callee := .builtin .append, args, argTypes } => match args.toList, argTypes.toList with
    | [s, x], [t, u] => if t = u then match elemSize P t, elemZero P t with
      | some k, some z => if z.length = k ∧ 0 < k then some (.app k (elemBytes P t) (cX s) (cX x)) else none
      | _, _ => none
      else none
    | _, _ => none
  | .call { callee := .value (.func f), args, .. } => match P.funcs[f]? with
    | some fn => if fn.body.isNone || fn.name == "runtime.NumGoroutine" then none else some (.call f (args.toList.map cX))
    | none => none
  | .call { callee := .value (.tmp t), args, .. } => some (.callv (.s t) (args.toList.map cX))
  | .call { callee := .builtin .min, args, .. } => match args.toList with
    | [x, y] => some (.mnb (cX x) (cX y))
    | _ => none
  | .call { callee := .builtin .copy, args, argTypes } => match args.toList, argTypes.toList with
    | [s, x], [t, _] => match elemSize P t with
      | some 1 => some (.cpy (cX s) (cX x))
      | _ => none
    | _, _ => none
  | .nilCheck x => some (.nck (cX x))
  | .build t parts => match P.underlying t, (P.info? t).bind (·.zero) with
    | some (.struct fs), some z => if fs.toList.all (fun f => (P.info? f.type).isSome) then (placesOf P fs (parts.toList.map fun (i, x) => (i, cX x))).map (.bld z.cells.toList) else none
    | _, _ => none
  | .field t x j => match fieldOf P t j with
    | some (off, ft) => match P.underlying ft, P.info? ft with
      | some d, some i => if isAggT (some d) then some (.fldvs off i.size (cX x)) else some (.fldv off (cX x))
      | _, _ => none
    | none => none
  | _ => none

/-- Where there is none: a mark that asks for False. -/
def compileOp (P : Program) (o : Oper) : Option AOp := some ((compileOp0 P o).getD .bad)

def isQuiet : AOp → Bool
  | .mov _ | .pick .. | .load .. | .loads .. | .bin .. | .not _ | .neg _ | .conv .. | .fld .. | .idx .. | .sidx .. | .slice .. | .sslice .. | .len _ | .slen _ | .ext .. | .fn .. | .nck _ | .bld .. | .fldv .. | .fldvs .. | .mnb .. | .bad => true
  | _ => false

/-! ### The quiet ones: what they ask, what they yield -/

def inI64 (n : Int) : Prop := -9223372036854775808 ≤ n ∧ n ≤ 9223372036854775807
theorem inI64_of {n : Int} (h1 : -4611686018427387904 ≤ n) (h2 : n ≤ 4611686018427387904) : inI64 n := ⟨by omega, by omega⟩

def intOk (op : BinOp) (k : IntKind) (a b : Int) : Prop := match op with
  | .add => match k with
    | .i64 => inI64 (a + b)
    | _ => True
  | .sub => match k with
    | .i64 => inI64 (a - b)
    | _ => True
  | .mul => match k with
    | .i64 => inI64 (a * b)
    | _ => True
  | .quo => b ≠ 0 ∧ match k with
    | .i64 => inI64 (a.tdiv b)
    | _ => True
  | .rem => b ≠ 0
  | .shl | .shr => 0 ≤ b
  | _ => True

def bitsV (op : BinOp) (k : IntKind) (a b : Int) : Int := match op with
  | .and => k.wrap (BitVec.ofInt k.bits a &&& BitVec.ofInt k.bits b).toNat
  | .or => k.wrap (BitVec.ofInt k.bits a ||| BitVec.ofInt k.bits b).toNat
  | .xor => k.wrap (BitVec.ofInt k.bits a ^^^ BitVec.ofInt k.bits b).toNat
  | _ => k.wrap (BitVec.ofInt k.bits a &&& ~~~BitVec.ofInt k.bits b).toNat

def shV (op : BinOp) (k : IntKind) (a b : Int) : Int := match op with
  | .shl => k.wrap (a * 2 ^ (min b.toNat k.bits))
  | _ => a.fdiv (2 ^ (min b.toNat k.bits))

def intV (op : BinOp) (k : IntKind) (a b : Int) : Value := match op with
  | .add => match k with
    | .i64 => .int .i64 (a + b)
    | k => .int k (k.wrap (a + b))
  | .sub => match k with
    | .i64 => .int .i64 (a - b)
    | k => .int k (k.wrap (a - b))
  | .mul => match k with
    | .i64 => .int .i64 (a * b)
    | k => .int k (k.wrap (a * b))
  | .quo => match k with
    | .i64 => .int .i64 (a.tdiv b)
    | k => .int k (k.wrap (a.tdiv b))
  | .rem => .int k (a.tmod b)
  | .and => .int k (bitsV .and k a b)
  | .or => .int k (bitsV .or k a b)
  | .xor => .int k (bitsV .xor k a b)
  | .andNot => .int k (bitsV .andNot k a b)
  | .shl => .int k (shV .shl k a b)
  | .shr => .int k (shV .shr k a b)
  | .eql => .bool (a == b)
  | .neq => .bool (a != b)
  | .lss => .bool (decide (a < b))
  | .leq => .bool (decide (a ≤ b))
  | .gtr => .bool (decide (a > b))
  | .geq => .bool (decide (a ≥ b))

def isSh (op : BinOp) : Bool := match op with
  | .shl | .shr => true
  | _ => false
def isEq (op : BinOp) : Bool := match op with
  | .eql | .neq => true
  | _ => false

/-- Strings: comparisons and '+'. -/
def strOk (op : BinOp) (a b : ByteArray) : Prop := match op with
  | .add => a.size + b.size ≤ maxLen
  | .eql | .neq | .lss | .leq | .gtr | .geq => True
  | _ => False
def strV (op : BinOp) (a b : ByteArray) : Value := match op with
  | .add => .string (a ++ b)
  | .eql => .bool (a.toList == b.toList)
  | .neq => .bool (!(a.toList == b.toList))
  | .lss => .bool (Op.bytesLess a.toList b.toList)
  | .leq => .bool (Op.bytesLess a.toList b.toList || a.toList == b.toList)
  | .gtr => .bool (!(Op.bytesLess a.toList b.toList || a.toList == b.toList))
  | _ => .bool (!(Op.bytesLess a.toList b.toList))

/-- Is a slice known to be, or not to be, nil? -/
def nilOf (H : Heap) : AV → Option Bool
  | .val (.slice none 0 0) => some true
  | .slc _ (_ + 1) _ => some false
  | .sl o _ _ (_ + 1) => if (H[o]?.bind id).isSome then some false else none
  | _ => none

def binOk (H : Heap) (cls : Nat) (op : BinOp) (x y : AV) : Prop := match x, y with
  | .val (.int k a), .val (.int k' b) => (isSh op = false → k = k') ∧ intOk op k a b
  | .val (.bool _), .val (.bool _) => cls = 1 ∧ isEq op = true
  | .val (.string a), .val (.string b) => strOk op a b
  | x, .val (.slice none 0 0) => cls = 2 ∧ isEq op = true ∧ (nilOf H x).isSome
  | _, _ => False

def binV (H : Heap) (op : BinOp) (x y : AV) : AV := match x, y with
  | .val (.int k a), .val (.int _ b) => .val (intV op k a b)
  | .val (.bool a), .val (.bool b) => match op with
    | .eql => bl (a == b)
    | _ => bl (!(a == b))
  | .val (.string a), .val (.string b) => .val (strV op a b)
  | x, .val (.slice none 0 0) => match op with
    | .eql => bl ((nilOf H x).getD false)
    | _ => bl (!(nilOf H x).getD false)
  | _, _ => .any

def cellsAt (H : Heap) : AV → Option (List AV × Nat)
  | .pto cs j => some (cs, j)
  | .ref o j => match H[o]? with
    | some (some cs) => some (cs, j)
    | _ => none
  | _ => none

/-- May a cell's content be copied into a slot? (what owns a block may not) -/
def plainC : AV → Bool
  | .osl .. => false
  | _ => true

def loOf (F : Frame) : Option AX → Option Int
  | none => some 0
  | some x => match st (ax F x) with
    | .val (.int _ i) => some i
    | _ => none
def hiOf (F : Frame) (n : Nat) : Option AX → Option Int
  | none => some n
  | some x => match st (ax F x) with
    | .val (.int _ i) => some i
    | _ => none
def loOk (F : Frame) : Option AX → Prop
  | none => True
  | some x => stOk (ax F x)

def slOk (n : Nat) (lo hi : Option Int) : Prop := match lo, hi with
  | some l, some h => 0 ≤ l ∧ l ≤ h ∧ h ≤ (n : Int)
  | _, _ => False

def conOk (k : IntKind) (n : Int) : Prop := match k with
  | .i64 => inI64 n
  | _ => True
def conV (k : IntKind) (n : Int) : Value := match k with
  | .i64 => .int .i64 n
  | k => .int k (k.wrap n)

def oneA : AV → Bool
  | .val v => v.oneCell'
  | .slc .. | .pto .. | .sl .. | .ref .. | .clo .. => true
  | _ => false

/-- The cells of what is stored. -/
def cellsOf : AV → Option (List AV)
  | .agg cs => some cs
  | x => if oneA x then some [x] else none

def splice (cs : List AV) (j : Nat) (vs : List AV) : List AV := match vs with
  | [v] => cs.set j v
  | vs => cs.take j ++ vs ++ cs.drop (j + vs.length)

def bldOk (F : Frame) (n : Nat) : List (Nat × Nat × AX) → Prop
  | [] => True
  | (off, m, x) :: r => (match cellsOf (ax F x) with
    | some vs => vs.length = m ∧ off + m ≤ n
    | none => False) ∧ bldOk F n r
def bldV (F : Frame) : List AV → List (Nat × Nat × AX) → List AV
  | cs, [] => cs
  | cs, (off, _, x) :: r => bldV F (splice cs off ((cellsOf (ax F x)).getD [])) r

def qOk (o : AOp) (F : Frame) (H : Heap) : Prop := match o with
  | .mov _ => True
  | .pick c a b => stOk (ax F c) ∧ match st (ax F c), st (ax F a), st (ax F b) with
    | .val (.bool t), .val (.bool _), .val (.bool _) => (t = true → stOk (ax F a)) ∧ (t = false → stOk (ax F b))
    | _, _, _ => False
  | .load _ x => stOk (ax F x) ∧ match cellsAt H (st (ax F x)) with
    | some (cs, j) => j < cs.length ∧ plainC (cs.getD j .any) = true
    | none => False
  | .loads n x => stOk (ax F x) ∧ match cellsAt H (st (ax F x)) with
    | some (cs, j) => j + n ≤ cs.length ∧ ((cs.drop j).take n).all plainC = true
    | none => False
  | .bin cls op x y => stOk (ax F x) ∧ stOk (ax F y) ∧ binOk H cls op (st (ax F x)) (st (ax F y))
  | .not x => stOk (ax F x) ∧ match st (ax F x) with
    | .val (.bool _) => True
    | _ => False
  | .neg x => stOk (ax F x) ∧ match st (ax F x) with
    | .val (.int .i64 n) => inI64 (0 - n)
    | _ => False
  | .conv k x => stOk (ax F x) ∧ match st (ax F x) with
    | .val (.int _ n) => conOk k n
    | _ => False
  | .fld _ x => stOk (ax F x) ∧ match st (ax F x) with
    | .pto _ _ => True
    | .ref o _ => (H[o]?.bind id).isSome
    | _ => False
  | .idx k x i => stOk (ax F x) ∧ stOk (ax F i) ∧ match st (ax F x), st (ax F i) with
    | .slc k' n _, .val (.int _ m) => k = k' ∧ 0 ≤ m ∧ m < (n : Int)
    | .sl o k' _ len, .val (.int _ m) => k = k' ∧ (H[o]?.bind id).isSome ∧ 0 ≤ m ∧ m < (len : Int)
    | _, _ => False
  | .sidx x i => stOk (ax F x) ∧ stOk (ax F i) ∧ match st (ax F x), st (ax F i) with
    | .val (.string s), .val (.int _ m) => 0 ≤ m ∧ m < (s.size : Int)
    | _, _ => False
  | .slice k x lo hi => stOk (ax F x) ∧ loOk F lo ∧ loOk F hi ∧ match st (ax F x) with
    | .slc k' n _ => k = k' ∧ slOk n (loOf F lo) (hiOf F n hi)
    | .sl o k' _ len => k = k' ∧ (H[o]?.bind id).isSome ∧ slOk len (loOf F lo) (hiOf F len hi)
    | _ => False
  | .sslice x lo hi => stOk (ax F x) ∧ loOk F lo ∧ loOk F hi ∧ match st (ax F x) with
    | .val (.string s) => slOk s.size (loOf F lo) (hiOf F s.size hi)
    | _ => False
  | .mnb x y => stOk (ax F x) ∧ stOk (ax F y) ∧ match st (ax F x), st (ax F y) with
    | .val (.int _ _), .val (.int _ _) => True
    | _, _ => False
  | .len x => stOk (ax F x) ∧ match st (ax F x) with
    | .slc _ _ _ => True
    | .sl o _ _ _ => (H[o]?.bind id).isSome
    | .val (.slice _ _ _) => True
    | _ => False
  | .slen x => stOk (ax F x) ∧ match st (ax F x) with
    | .val (.string _) => True
    | _ => False
  | .ext t i => stOk (ax F t) ∧ match st (ax F t) with
    | .tup vs => i < vs.length
    | _ => False
  | .fn _ _ _ => True
  | .nck x => stOk (ax F x) ∧ match st (ax F x) with
    | .pto _ _ => True
    | .ref o _ => (H[o]?.bind id).isSome
    | .clo _ _ _ => True
    | _ => False
  | .bld z parts => bldOk F z.length parts ∧ z.all Value.oneCell' = true
  | .fldv off x => stOk (ax F x) ∧ match st (ax F x) with
    | .agg cs => off < cs.length
    | _ => False
  | .fldvs off n x => stOk (ax F x) ∧ match st (ax F x) with
    | .agg cs => off + n ≤ cs.length
    | _ => False
  | _ => False

def qVal (o : AOp) (F : Frame) (H : Heap) : AV := match o with
  | .mov x => ax F x
  | .pick c a b => match st (ax F c), st (ax F a), st (ax F b) with
    | .val (.bool t), .val (.bool x), .val (.bool y) => bl (bif t then x else y)
    | _, _, _ => .any
  | .load z x => match cellsAt H (st (ax F x)) with
    | some (cs, j) => cs.getD j z
    | none => .any
  | .loads n x => match cellsAt H (st (ax F x)) with
    | some (cs, j) => .agg ((cs.drop j).take n)
    | none => .any
  | .bin _ op x y => binV H op (st (ax F x)) (st (ax F y))
  | .not x => match st (ax F x) with
    | .val (.bool b) => bl (!b)
    | _ => .any
  | .neg x => match st (ax F x) with
    | .val (.int .i64 n) => i64 (0 - n)
    | _ => .any
  | .conv k x => match st (ax F x) with
    | .val (.int _ n) => .val (conV k n)
    | _ => .any
  | .mnb x y => match st (ax F x), st (ax F y) with
    | .val (.int k a), .val (.int _ b) => .val (.int k (if b < a then b else a))
    | _, _ => .any
  | .fld off x => match st (ax F x) with
    | .pto cs j => .pto cs (j + off)
    | .ref o j => .ref o (j + off)
    | _ => .any
  | .idx k x i => match st (ax F x), st (ax F i) with
    | .slc _ _ cs, .val (.int _ m) => .pto cs (m.toNat * k)
    | .sl o _ off _, .val (.int _ m) => .ref o (off + m.toNat * k)
    | _, _ => .any
  | .sidx x i => match st (ax F x), st (ax F i) with
    | .val (.string s), .val (.int _ m) => .val (.int .u8 (s.data.toList.getD m.toNat 0).toNat)
    | _, _ => .any
  | .slice k x lo hi => match st (ax F x) with
    | .slc _ n cs => match loOf F lo, hiOf F n hi with
      | some l, some h => .slc k (h - l).toNat ((cs.drop (l.toNat * k)).take ((h - l).toNat * k))
      | _, _ => .any
    | .sl o _ off len => match loOf F lo, hiOf F len hi with
      | some l, some h => .sl o k (off + l.toNat * k) (h - l).toNat
      | _, _ => .any
    | _ => .any
  | .sslice x lo hi => match st (ax F x) with
    | .val (.string s) => match loOf F lo, hiOf F s.size hi with
      | some l, some h => .val (.string (s.extract l.toNat h.toNat))
      | _, _ => .any
    | _ => .any
  | .len x => match st (ax F x) with
    | .slc _ n _ => i64 n
    | .sl _ _ _ len => i64 len
    | .val (.slice _ n _) => i64 n
    | _ => .any
  | .slen x => match st (ax F x) with
    | .val (.string s) => i64 s.size
    | _ => .any
  | .ext t i => match st (ax F t) with
    | .tup vs => vs.getD i .any
    | _ => .any
  | .fn f fs cs => .clo f (fs.map (ax F)) (cs.map (ax F))
  | .nck x => st (ax F x)
  | .bld z parts => .agg (bldV F (z.map .val) parts)
  | .fldv off x => match st (ax F x) with
    | .agg cs => cs.getD off .any
    | _ => .any
  | .fldvs off n x => match st (ax F x) with
    | .agg cs => .agg ((cs.drop off).take n)
    | _ => .any
  | _ => .any

end Go.Gov
