/- A machine beside the model's own: the same program, run with values whose slices are told by what they hold or by a block of this machine's own heap, in the order of the text, with no capacity left open. Nothing is proved here: definitions alone. -/
import Derived.Test.YtolhjndfplfjpaaG0
import Derived.Calls
import Derived.Orders
import Derived.Below
import Derived.LoopN
import Derived.Control
namespace Go.Proofs.Ytolhjndfplfjpaa.G
open Go.RowKit
set_option linter.unusedVariables false

abbrev Heap := List (List GV)
abbrev GS := Nat → GV

structure Lg where
  r : List Nat
  w : List Nat
def Lg.nil : Lg := ⟨[], []⟩
def Lg.add (a b : Lg) : Lg := ⟨a.r ++ b.r, a.w ++ b.w⟩

/-- Which functions run in their caller's heap; which are told by a rule of their own. -/
structure Cfg where
  heapy : FuncId → Bool
  ext : FuncId → Option (List GV → Option GV)
  /-- Which heapy functions are run twice where their slice has no elements: for nil, and for one that is not nil. -/
  split : FuncId → Bool := fun _ => false
  /-- Which functions hand back new memory: run in no heap, their blocks are laid behind the caller's. -/
  fresh : FuncId → Bool := fun _ => false

def GV.isCell : GV → Bool
  | .agg _ | .tup _ | .un | .dk _ => false
  | _ => true

def ofC : Value → Option GV
  | .int k n => some (.int k n)
  | .bool b => some (.bool b)
  | .string s => some (.str s)
  | .pointer none => some .nilp
  | .slice none 0 0 => some .nils
  | .nilIface => some .nili
  | _ => none
def ofV : Value → Option GV
  | .agg cs => (cs.toList.mapM ofC).map .agg
  | v => ofC v

def GV.cells : GV → List GV
  | .agg cs => cs
  | v => [v]

def eval (σ : GS) : Operand → Option GV
  | .tmp t => some (σ t)
  | .const v => ofV v
  | .func f => some (.fn f [])
  | .global g => (globs g).map (.fp false)

def upd (σ : GS) (d : Option Tmp) (v : GV) : GS :=
  match d with
  | some d => fun t => bif Nat.beq t d then v else σ t
  | none => σ

/-- The cells of block i, if it has as many as it had. -/
def cellsAt (h : Heap) (i tot : Nat) : Option (List GV) :=
  match h[i]? with
  | some cs => bif Nat.beq cs.length tot then some cs else none
  | none => none

def splice (cs : List GV) (off : Nat) (vs : List GV) : List GV := cs.take off ++ vs ++ cs.drop (off + vs.length)

/-- n cells from a place on. -/
def gread (h : Heap) (a : GV) (n : Nat) : Option (List GV × List Nat) :=
  match a with
  | .ptr i off tot => do
    let cs ← cellsAt h i tot
    if off + n ≤ cs.length then some ((cs.drop off).take n, [i]) else none
  | .fp _ cells => if n ≤ cells.length then some (cells.take n, []) else none
  | _ => none

def gagg (P : Program) (t : TypeId) : Option Bool :=
  match P.underlying t with
  | some (.struct _) | some (.array _ _) => some true
  | some _ => some false
  | none => none

def gsize (P : Program) (t : TypeId) : Option Nat := (P.info? t).map (·.size)
def gzero (P : Program) (t : TypeId) : Option (List GV) := do
  let i ← P.info? t
  let z ← i.zero
  let g ← ofV z
  some g.cells

def gpart (P : Program) (t : TypeId) (cs : List GV) (off : Nat) : Option GV := do
  if ← gagg P t then
    let n ← gsize P t
    if off + n ≤ cs.length then some (.agg ((cs.drop off).take n)) else none
  else cs[off]?

def gload (P : Program) (h : Heap) (t : TypeId) (a : GV) : Option (GV × List Nat) := do
  if ← gagg P t then
    let n ← gsize P t
    let (cs, r) ← gread h a n
    some (.agg cs, r)
  else
    let (cs, r) ← gread h a 1
    match cs with
    | [v] => some (v, r)
    | _ => none

def gstore (P : Program) (h : Heap) (t : TypeId) (a v : GV) : Option (Heap × Nat) := do
  let n ← gsize P t
  let vs := v.cells
  if vs.length = n ∧ vs.all GV.isCell = true then
    match a with
    | .ptr i off tot => do
      let cs ← cellsAt h i tot
      if off + n ≤ cs.length then some (h.set i (splice cs off vs), i) else none
    | _ => none
  else none

/-- The elements of a slice, in cells. -/
def gcells (h : Heap) (es : Nat) (v : GV) : Option (Nat × List GV × List Nat) :=
  match v with
  | .sl i off len cap es' => do
    let cs ← cellsAt h i (off + cap * es')
    if es' = es ∧ len ≤ cap then some (len, (cs.drop off).take (len * es), [i]) else none
  | .fz _ n es' cells => if n = 0 then some (0, [], []) else if es' = es then some (n, cells, []) else none
  | .nils => some (0, [], [])
  | .emp => some (0, [], [])
  | .str s => if es = 1 then some (s.size, s.toList.map fun b => .int .u8 b.toNat, []) else none
  | _ => none

def glen : GV → Option Nat
  | .sl _ _ len _ _ => some len
  | .fz _ n _ _ => some n
  | .nils => some 0
  | .emp => some 0
  | .str s => some s.size
  | _ => none

def gint : GV → Option Int
  | .int _ n => some n
  | _ => none

def gopt (d : Int) : Option GV → Option Int
  | some v => gint v
  | none => some d

/-- A slice without elements: nil, or of no length. -/
def mt : GV := .fz false 0 0 []

def gslice (P : Program) (t : TypeId) (x : GV) (lo hi mx : Option GV) : Option GV := do
  let l ← gopt 0 lo
  if mx.isSome = true ∧ hi.isNone = true then none else
  match x with
  | .str s =>
    if mx.isSome then none else
    let h ← gopt s.size hi
    if 0 ≤ l ∧ l ≤ h ∧ h ≤ s.size then some (.str (s.extract l.toNat h.toNat)) else none
  | .sl i off len cap es =>
    let m ← gopt cap mx
    let h ← gopt len hi
    if 0 ≤ l ∧ l ≤ h ∧ h ≤ m ∧ m ≤ cap then
      if m = cap then some (.sl i (off + l.toNat * es) (h.toNat - l.toNat) (cap - l.toNat) es)
      else if m = l then some .emp else some (.dk 0)
    else none
  | .fz _ 0 _ _ =>
    let h ← gopt 0 hi
    let m ← gopt 0 mx
    if l = 0 ∧ h = 0 ∧ m = 0 then some mt else none
  | .fz tg (n + 1) es cells =>
    let h ← gopt (n + 1 : Nat) hi
    let m ← gopt h mx
    if 0 ≤ l ∧ l ≤ h ∧ h ≤ m ∧ m ≤ (n + 1 : Nat) then (if h = l then some mt else some (.fz tg (h.toNat - l.toNat) es ((cells.drop (l.toNat * es)).take ((h.toNat - l.toNat) * es)))) else none
  | .nils =>
    let h ← gopt 0 hi
    let m ← gopt 0 mx
    if l = 0 ∧ h = 0 ∧ m = 0 then some .nils else none
  | .emp =>
    let h ← gopt 0 hi
    let m ← gopt 0 mx
    if l = 0 ∧ h = 0 ∧ m = 0 then some .emp else none
  | _ => none

def roomMax : Nat := 140737488355328

/-- append: in its room, or into a block of its own. -/
def gappend (P : Program) (h : Heap) (t : TypeId) (s x : GV) : Option (GV × Heap × Lg) := do
  let .slice e ← P.underlying t | none
  let info ← P.info? e
  let es := info.size
  let (n, new, r) ← gcells h es x
  let z ← gzero P e
  if new.all GV.isCell = true ∧ z.length = es ∧ n ≤ maxLen ∧ n * info.bytes ≤ roomMax then
    match s with
    | .nils => if n = 0 then some (.nils, h, ⟨r, []⟩) else some (.sl h.length 0 n n es, h ++ [new], ⟨r, []⟩)
    | .emp => if n = 0 then some (.emp, h, ⟨r, []⟩) else some (.sl h.length 0 n n es, h ++ [new], ⟨r, []⟩)
    | .sl i off len cap es' => do
      let cs ← cellsAt h i (off + cap * es')
      if es' = es ∧ len ≤ cap ∧ (len + n) * info.bytes ≤ roomMax ∧ len + n ≤ maxLen then
        if len + n ≤ cap then some (.sl i off (len + n) cap es, h.set i (splice cs (off + len * es) new), ⟨i :: r, [i]⟩)
        else if off = 0 ∧ 0 < es then some (.sl i 0 (len + n) (len + n) es, h.set i (cs.take (len * es) ++ new), ⟨i :: r, [i]⟩) else none
      else none
    | _ => none
  else none

def zeros (z : List GV) : Nat → List GV
  | 0 => []
  | n + 1 => z ++ zeros z n

/-- append of n zeros, to nil alone. -/
def gappz (P : Program) (h : Heap) (t : TypeId) (s x : GV) : Option (GV × Heap × Lg) := do
  let .slice e ← P.underlying t | none
  let info ← P.info? e
  let z ← gzero P e
  match s, x with
  | .nils, .int .i64 l =>
    if 0 ≤ l ∧ l ≤ maxLen ∧ l.toNat * info.bytes ≤ roomMax ∧ z.length = info.size then
      if l.toNat = 0 then some (.nils, h, .nil) else some (.sl h.length 0 l.toNat l.toNat info.size, h ++ [zeros z l.toNat], .nil)
    else none
  | _, _ => none

def gcopy (P : Program) (h : Heap) (t : TypeId) (d x : GV) : Option (GV × Heap × Lg) := do
  let .slice e ← P.underlying t | none
  let es ← gsize P e
  let (n, new, r) ← gcells h es x
  if new.all GV.isCell = true then
    match d with
    | .nils => some (.int .i64 0, h, ⟨r, []⟩)
    | .emp => some (.int .i64 0, h, ⟨r, []⟩)
    | .sl i off len cap es' => do
      let cs ← cellsAt h i (off + cap * es')
      if es' = es ∧ len ≤ cap then
        let m := min n len
        some (.int .i64 m, h.set i (splice cs off (new.take (m * es))), ⟨r, [i]⟩)
      else none
    | _ => none
  else none

/-- clear: the elements of a slice become zeros. -/
def gclear (P : Program) (h : Heap) (t : TypeId) (d : GV) : Option (GV × Heap × Lg) := do
  let .slice e ← P.underlying t | none
  let z ← gzero P e
  match d with
  | .nils => some (.un, h, .nil)
  | .emp => some (.un, h, .nil)
  | .sl i off len cap es => do
    let cs ← cellsAt h i (off + cap * es)
    if z.length = es ∧ len ≤ cap ∧ z.all GV.isCell = true then some (.un, h.set i (splice cs off (zeros z len)), ⟨[], [i]⟩) else none
  | _ => none

/-- < of two whole numbers, by their constructors. -/
def ilt : Int → Int → Bool
  | .ofNat a, .ofNat b => Nat.blt a b
  | .ofNat _, .negSucc _ => false
  | .negSucc _, .ofNat _ => true
  | .negSucc a, .negSucc b => Nat.blt b a

def gbin (P : Program) (op : BinOp) (t : TypeId) (x y : GV) : Option GV :=
  match op, x, y with
  | .shl, .int k a, .int _ b => if 0 ≤ b then some (.int k (k.wrap (a * 2 ^ (min b.toNat k.bits)))) else none
  | .shr, .int k a, .int _ b => if 0 ≤ b then some (.int k (a.fdiv (2 ^ (min b.toNat k.bits)))) else none
  | op, .int k a, .int k' b =>
    if k = k' then
      match op with
      | .add => some (.int k (k.wrap (a + b)))
      | .sub => some (.int k (k.wrap (a - b)))
      | .mul => some (.int k (k.wrap (a * b)))
      | .quo => if b = 0 then none else some (.int k (k.wrap (a.tdiv b)))
      | .rem => if b = 0 then none else some (.int k (a.tmod b))
      | .and => some (.int k (k.wrap (BitVec.ofInt k.bits a &&& BitVec.ofInt k.bits b).toNat))
      | .or => some (.int k (k.wrap (BitVec.ofInt k.bits a ||| BitVec.ofInt k.bits b).toNat))
      | .xor => some (.int k (k.wrap (BitVec.ofInt k.bits a ^^^ BitVec.ofInt k.bits b).toNat))
      | .andNot => some (.int k (k.wrap (BitVec.ofInt k.bits a &&& ~~~(BitVec.ofInt k.bits b)).toNat))
      | .eql => some (.bool (a == b))
      | .neq => some (.bool (a != b))
      | .lss => some (.bool (ilt a b))
      | .leq => some (.bool !(ilt b a))
      | .gtr => some (.bool (ilt b a))
      | .geq => some (.bool !(ilt a b))
      | _ => none
    else none
  | op, .str a, .str b =>
    match op with
    | .add => if a.size + b.size ≤ maxLen then some (.str (a ++ b)) else none
    | .eql => some (.bool (a.toList == b.toList))
    | .neq => some (.bool !(a.toList == b.toList))
    | .lss => some (.bool (Op.bytesLess a.toList b.toList))
    | .leq => some (.bool (Op.bytesLess a.toList b.toList || a.toList == b.toList))
    | .gtr => some (.bool !(Op.bytesLess a.toList b.toList || a.toList == b.toList))
    | .geq => some (.bool !(Op.bytesLess a.toList b.toList))
    | _ => none
  | _, _, _ => none

def geqs (P : Program) (eq : TypeId → GV → GV → Option Bool) : List Field → List GV → List GV → Option Bool
  | [], _, _ => some true
  | f :: fs, xs, ys =>
    if f.name ≠ "_" then do
      let a ← gpart P f.type xs f.offset
      let b ← gpart P f.type ys f.offset
      let r ← eq f.type a b
      if r then geqs P eq fs xs ys else some false
    else geqs P eq fs xs ys

/-- == of a type's two values. -/
def geq (P : Program) : Nat → TypeId → GV → GV → Option Bool
  | 0, _, _, _ => none
  | d + 1, t, x, y =>
    match P.underlying t, x, y with
    | some .bool, .bool a, .bool b => some (a == b)
    | some (.int _), .int k a, .int k' b => if k = k' then some (a == b) else none
    | some .string, .str a, .str b => some (a == b)
    | some (.pointer _), .nilp, .nilp => some true
    | some (.pointer _), .nilp, .ptr _ _ _ => some false
    | some (.pointer _), .ptr _ _ _, .nilp => some false
    | some (.pointer _), .nilp, .fp _ _ => some false
    | some (.pointer _), .fp _ _, .nilp => some false
    | some (.slice _), .nils, .nils => some true
    | some (.slice _), .nils, .sl _ _ _ _ _ => some false
    | some (.slice _), .nils, .fz _ (_ + 1) _ _ => some false
    | some (.slice _), .sl _ _ _ _ _, .nils => some false
    | some (.slice _), .fz _ (_ + 1) _ _, .nils => some false
    | some (.slice _), .fz _ 0 (_ + 1) _, .nils => some false
    | some (.interface _), .nili, .nili => some true
    | some (.interface _), .nili, .ifc => some false
    | some (.interface _), .ifc, .nili => some false
    | some (.struct fs), .agg xs, .agg ys => if P.stoodInHeld t then none else geqs P (geq P d) fs.toList xs ys
    | _, _, _ => none

/-- A value that was told by what it holds, lent on. -/
def lend : Nat → GV → GV
  | 0, v => v
  | d + 1, v =>
    match v with
    | .fz _ 0 _ _ => mt
    | .fz _ (n + 1) es cells => .fz true (n + 1) es (cells.map (lend d))
    | .fp _ cells => .fp true (cells.map (lend d))
    | .nils => mt
    | .emp => mt
    | .agg cs => .agg (cs.map (lend d))
    | v => v

/-- A value, as long as it is lent: its blocks by what they hold. -/
def bor : Nat → Heap → GV → Option (GV × List Nat)
  | 0, _, _ => none
  | d + 1, h, v =>
    match v with
    | .sl i off len cap es => do
      let cs ← cellsAt h i (off + cap * es)
      let xs ← ((cs.drop off).take (len * es)).mapM (bor d h)
      if len ≤ cap then
        match len with
        | 0 => some (mt, [i])
        | n + 1 => some (.fz true (n + 1) es (xs.map (·.1)), i :: (xs.map (·.2)).flatten)
      else none
    | .ptr i off tot => do
      let cs ← cellsAt h i tot
      let xs ← (cs.drop off).mapM (bor d h)
      some (.fp true (xs.map (·.1)), i :: (xs.map (·.2)).flatten)
    | .fn f caps => do
      let xs ← caps.mapM (bor d h)
      some (.fn f (xs.map (·.1)), (xs.map (·.2)).flatten)
    | .agg cs => do
      let xs ← cs.mapM (bor d h)
      some (.agg (xs.map (·.1)), (xs.map (·.2)).flatten)
    | .tup _ => none
    | .nils => some (mt, [])
    | .emp => some (mt, [])
    | .fz t n es cells => some (lend (d + 1) (.fz t n es cells), [])
    | .fp t cells => some (lend (d + 1) (.fp t cells), [])
    | v => some (v, [])

/-- A value that is handed back: its blocks by what they hold, for good. -/
def frz : Nat → Heap → GV → Option (GV × List Nat)
  | 0, _, _ => none
  | d + 1, h, v =>
    match v with
    | .sl i off len cap es => do
      let cs ← cellsAt h i (off + cap * es)
      let xs ← ((cs.drop off).take (len * es)).mapM (frz d h)
      if len ≤ cap then
        match len with
        | 0 => some (mt, [])
        | n + 1 => some (.fz false (n + 1) es (xs.map (·.1)), [])
      else none
    | .ptr _ _ _ | .fp _ _ | .fn _ _ => none
    | .fz _ 0 _ _ => some (mt, [])
    | .fz true (_ + 1) _ _ => none
    | .nils => some (mt, [])
    | .emp => some (mt, [])
    | .agg cs => do
      let xs ← cs.mapM (frz d h)
      some (.agg (xs.map (·.1)), [])
    | .tup cs => do
      let xs ← cs.mapM (frz d h)
      some (.tup (xs.map (·.1)), [])
    | v => some (v, [])

abbrev Vis := List (Nat × Nat × Nat)
def ownL (f : Nat → GV → Option (GV × Vis × List (List GV))) : Nat → List GV → Option (List GV × Vis × List (List GV))
  | _, [] => some ([], [], [])
  | b, g :: gs => (f b g).bind fun r => (ownL f (b + r.2.2.length) gs).bind fun q => some (r.1 :: q.1, r.2.1 ++ q.2.1, r.2.2 ++ q.2.2)
/-- A value that is handed over: its blocks, in order from block b on; with each the place where it was. -/
def own : Nat → Heap → Nat → GV → Option (GV × Vis × List (List GV))
  | 0, _, _, _ => none
  | d + 1, h, b, v =>
    match v with
    | .sl i off len cap es =>
      (cellsAt h i (off + cap * es)).bind fun cs =>
      if len ≤ cap then (ownL (own d h) (b + 1) ((cs.drop off).take (len * es))).bind fun q => some (.sl b 0 len len es, (i, off, off + cap * es) :: q.2.1, q.1 :: q.2.2) else none
    | .agg cs => (ownL (own d h) b cs).bind fun q => some (.agg q.1, q.2.1, q.2.2)
    | .tup cs => (ownL (own d h) b cs).bind fun q => some (.tup q.1, q.2.1, q.2.2)
    | .ptr _ _ _ | .fp _ _ | .fn _ _ => none
    | .fz _ 0 _ _ => some (mt, [], [])
    | .fz true (_ + 1) _ _ => none
    | v => some (v, [], [])
def nodupB : List Nat → Bool
  | [] => true
  | a :: l => (l.all fun b => !Nat.beq a b) && nodupB l

abbrev GCall := FuncId → List GV → Heap → Option (GV × Heap × Lg)

def emptyArg : List GV → Bool
  | [.fz _ 0 _ _] => true
  | [.emp] => true
  | _ => false
def gsplit (call : GCall) (g : FuncId) : Bool :=
  match call g [.nils] [], call g [.fz true 0 1 []] [] with
  | some (.nils, _, _), some (.emp, _, _) => true
  | _, _ => false

def gcallee (P : Program) (C : Cfg) (call : GCall) (g : FuncId) (args : List GV) (h : Heap) : Option (GV × Heap × Lg) :=
  match P.funcs[g]? with
  | none => none
  | some fn =>
    if fn.body.isSome = true then
      match C.ext g with
      | some e => do
        let xs ← args.mapM (bor 9 h)
        let v ← e (xs.map (·.1))
        some (v, h, ⟨(xs.map (·.2)).flatten, []⟩)
      | none =>
        if C.heapy g = true then
          if (C.split g && emptyArg args) = true then
            if gsplit call g = true then some (.emp, h, .nil) else none
          else call g args h
        else if C.fresh g = true then do
          let xs ← args.mapM (bor 9 h)
          if (C.split g && emptyArg (xs.map (·.1))) = true then
            if gsplit call g = true then some (.emp, h, ⟨(xs.map (·.2)).flatten, []⟩) else none
          else
          let (v, h1, _) ← call g (xs.map (·.1)) []
          let (v', vis, bl) ← own 9 h1 h.length v
          if nodupB (vis.map (·.1)) = true then some (v', h ++ bl, ⟨(xs.map (·.2)).flatten, []⟩) else none
        else do
          let xs ← args.mapM (bor 9 h)
          let (v, h1, _) ← call g (xs.map (·.1)) []
          let (v', _) ← frz 9 h1 v
          some (v', h, ⟨(xs.map (·.2)).flatten, []⟩)
    else none

def gmin : GV → GV → Option GV
  | .int k x, .int _ y => some (.int k (if y < x then y else x))
  | _, _ => none
def gmax : GV → GV → Option GV
  | .int k x, .int _ y => some (.int k (if y > x then y else x))
  | _, _ => none

def gbuiltin (P : Program) (b : Builtin) (ts : Array TypeId) (args : List GV) (h : Heap) : Option (GV × Heap × Lg) :=
  match b, args with
  | .len, [x] => do
    let t ← ts[0]?
    match P.underlying t, x with
    | some .string, .str s => some (.int .i64 s.size, h, .nil)
    | some (.slice _), x => match x with
      | .str _ => none
      | x => do some (.int .i64 (← glen x), h, .nil)
    | some (.array n _), _ => some (.int .i64 n, h, .nil)
    | _, _ => none
  | .cap, [x] => do
    let t ← ts[0]?
    match P.underlying t, x with
    | some (.slice _), .nils => some (.int .i64 0, h, .nil)
    | some (.slice _), .emp => some (.int .i64 0, h, .nil)
    | _, _ => none
  | .min, x :: xs => do some (← xs.foldlM gmin x, h, .nil)
  | .max, x :: xs => do some (← xs.foldlM gmax x, h, .nil)
  | .append, [s, x] => do
    let t ← ts[0]?
    let u ← ts[1]?
    match P.underlying u with
    | some (.int _) => gappz P h t s x
    | some _ => gappend P h t s x
    | none => none
  | .copy, [d, x] => do
    let t ← ts[0]?
    gcopy P h t d x
  | .clear, [d] => do
    let t ← ts[0]?
    gclear P h t d
  | _, _ => none

def gfill (place : Nat → Option (Nat × Nat)) (cells : List GV) : List (Nat × GV) → Option (List GV)
  | [] => some cells
  | (i, v) :: rest =>
    match place i with
    | none => none
    | some (off, size) => if v.cells.length = size ∧ off + v.cells.length ≤ cells.length then gfill place (splice cells off v.cells) rest else none

def gparts (ev : Operand → Option GV) (parts : Array (Nat × Operand)) : Option (List (Nat × GV)) :=
  parts.toList.mapM fun (i, x) => (ev x).map fun v => (i, v)

def gfine (P : Program) (t : TypeId) (xo yo : Operand) : GV → GV → Bool
  | .nili, .nili => (xo matches .const _) || (yo matches .const _)
  | .agg _, .agg _ => !P.eqGuardType P.depth t
  | .int _ _, .int _ _ => false
  | .str _, .str _ => false
  | _, _ => true

def gbinop (P : Program) (op : BinOp) (t : TypeId) (xo yo : Operand) (x y : GV) : Option GV :=
  match gbin P op t x y with
  | some r => some r
  | none =>
    if gfine P t xo yo x y = true then
      match op with
      | .eql => (geq P Op.maxDepth t x y).map .bool
      | .neq => (geq P Op.maxDepth t x y).map fun b => .bool !b
      | _ => none
    else none

def gbyte : GV → Option Int
  | .int .u8 n => some n
  | _ => none

def gconvert (P : Program) (s d : TypeId) (x : GV) (h : Heap) : Option (GV × Heap × Lg) :=
  match P.underlying s, P.underlying d, x with
  | some _, some (.int k), .int _ n => some (.int k (k.wrap n), h, .nil)
  | some _, some .string, .str b => some (.str b, h, .nil)
  | some _, some (.slice e), .str b => do
    match P.underlying e with
    | some (.int .u8) => some (.sl h.length 0 b.size b.size 1, h ++ [b.toList.map fun c => .int .u8 c.toNat], .nil)
    | _ => none
  | some (.slice e), some .string, x => do
    match P.underlying e with
    | some (.int .u8) =>
      match x with
      | .str _ => none
      | .int _ _ => none
      | x =>
        let (n, cs, r) ← gcells h 1 x
        let ns ← cs.mapM gbyte
        if ns.length = n then some (.str ⟨(ns.map fun n => UInt8.ofNat n.toNat).toArray⟩, h, ⟨r, []⟩) else none
    | _ => none
  | _, _, _ => none

def gmay (ev : Operand → Option GV) : Option Operand → Option (Option GV)
  | some y => (ev y).map some
  | none => some none

def gop (P : Program) (C : Cfg) (call : GCall) (ev : Operand → Option GV) (o : Oper) (h : Heap) : Option (GV × Heap × Lg) :=
  match o.op with
  | .move x => do some (← ev x, h, .nil)
  | .assign x => do some (← ev x, h, .nil)
  | .pick c a b => do
    let .bool t ← ev c | none
    let x ← ev a
    let y ← ev b
    some (bif t then x else y, h, .nil)
  | .alloc e => do
    let z ← gzero P e
    some (.ptr h.length 0 z.length, h ++ [z], .nil)
  | .box e x => do
    let v ← ev x
    some (.ptr h.length 0 v.cells.length, h ++ [v.cells], .nil)
  | .build t parts => do
    let z ← gzero P t
    let ps ← gparts ev parts
    match P.underlying t with
    | some (.struct fs) => do
      let places ← fs.toList.mapM fun f => (gsize P f.type).map fun n => (f.offset, n)
      let cs ← gfill (fun i => places[i]?) z ps
      some (.agg cs, h, .nil)
    | some (.array _ e) => do
      let n ← gsize P e
      let cs ← gfill (fun i => some (i * n, n)) z ps
      some (.agg cs, h, .nil)
    | _ => none
  | .buildSlice t len parts => do
    let .slice e ← P.underlying t | none
    let n ← gsize P e
    let z ← gzero P e
    let ps ← gparts ev parts
    if len * n ≤ 16777216 ∧ z.length = n then
      let cs ← gfill (fun i => some (i * n, n)) (zeros z len) ps
      match len with
      | 0 => some (.emp, h, .nil)
      | len + 1 => some (.sl h.length 0 (len + 1) (len + 1) n, h ++ [cs], .nil)
    else none
  | .load t a => do
    let x ← ev a
    let (v, r) ← gload P h t x
    some (v, h, ⟨r, []⟩)
  | .store t a x => do
    let p ← ev a
    let v ← ev x
    let (h', i) ← gstore P h t p v
    some (.un, h', ⟨[], [i]⟩)
  | .nilCheck x => do
    match ← ev x with
    | .ptr i off tot => some (.ptr i off tot, h, .nil)
    | .fp t cells => some (.fp t cells, h, .nil)
    | .fn f caps => some (.fn f caps, h, .nil)
    | _ => none
  | .binOp op t x y _ => do
    let a ← ev x
    let b ← ev y
    some (← gbinop P op t x y a b, h, .nil)
  | .unOp op _ x => do
    match op, ← ev x with
    | .neg, .int k n => some (.int k (k.wrap (0 - n)), h, .nil)
    | .not, .bool b => some (.bool !b, h, .nil)
    | _, _ => none
  | .convert s d x => do gconvert P s d (← ev x) h
  | .makeInterface t x => do
    let _ ← ev x
    match P.underlying t with
    | some (.interface _) => none
    | some _ => some (.ifc, h, .nil)
    | none => none
  | .makeFunc (.func f) first caps => do
    let cs ← caps.toList.mapM ev
    if first.size = 0 then some (.fn f cs, h, .nil) else none
  | .makeSlice t l c => do
    let .slice e ← P.underlying t | none
    let info ← P.info? e
    let z ← gzero P e
    let .int _ len ← ev l | none
    let .int _ cap ← ev c | none
    if 0 ≤ len ∧ len ≤ cap ∧ cap ≤ maxLen ∧ cap.toNat * info.bytes ≤ roomMax ∧ z.length = info.size then
      some (.sl h.length 0 len.toNat cap.toNat info.size, h ++ [zeros z cap.toNat], .nil)
    else none
  | .slice t x lo hi mx => do
    let a ← ev x
    let l ← gmay ev lo
    let u ← gmay ev hi
    let m ← gmay ev mx
    match P.underlying t, a with
    | some .string, .str s => do some (← gslice P t (.str s) l u m, h, .nil)
    | some (.slice e), .sl i off len cap es => do
      if gsize P e = some es then some (← gslice P t (.sl i off len cap es) l u m, h, .nil) else none
    | some (.slice e), .fz tg n es cells => do
      if gsize P e = some es ∨ (n = 0 ∧ (gsize P e).isSome = true) then some (← gslice P t (.fz tg n es cells) l u m, h, .nil) else none
    | some (.slice e), .nils => do
      let _ ← gsize P e
      some (← gslice P t .nils l u m, h, .nil)
    | some (.slice e), .emp => do
      let _ ← gsize P e
      some (← gslice P t .emp l u m, h, .nil)
    | _, _ => none
  | .fieldAddr s x f => do
    let .struct fs ← P.underlying s | none
    let fd ← fs[f]?
    let n ← gsize P fd.type
    if n = 0 then none else
    match ← ev x with
    | .ptr i off tot => some (.ptr i (off + fd.offset) tot, h, .nil)
    | .fp t cells => some (.fp t (cells.drop fd.offset), h, .nil)
    | _ => none
  | .field t x f => do
    let .struct fs ← P.underlying t | none
    let fd ← fs[f]?
    let .agg cs ← ev x | none
    some (← gpart P fd.type cs fd.offset, h, .nil)
  | .indexAddr t x ix => do
    let a ← ev x
    let .int _ i ← ev ix | none
    match P.underlying t, a with
    | some (.slice e), .sl b off len cap es =>
      if gsize P e = some es ∧ 0 ≤ i ∧ i < len then some (.ptr b (off + i.toNat * es) (off + cap * es), h, .nil) else none
    | some (.slice e), .fz tg n es cells =>
      if gsize P e = some es ∧ 0 ≤ i ∧ i < n then some (.fp tg (cells.drop (i.toNat * es)), h, .nil) else none
    | _, _ => none
  | .index t x ix => do
    let a ← ev x
    let .int _ i ← ev ix | none
    match P.underlying t, a with
    | some .string, .str s =>
      if hi : i.toNat < s.size then (if 0 ≤ i then some (.int .u8 (s[i.toNat]'hi).toNat, h, .nil) else none) else none
    | some (.array len e), .agg cs => do
      let n ← gsize P e
      if 0 ≤ i ∧ i < len then some (← gpart P e cs (i.toNat * n), h, .nil) else none
    | _, _ => none
  | .extract t i => do
    let .tup vs ← ev t | none
    some (← vs[i]?, h, .nil)
  | .call c =>
    match c.callee with
    | .builtin b => do
      let args ← c.args.toList.mapM ev
      gbuiltin P b c.argTypes args h
    | .value f => do
      let .fn g caps ← ev f | none
      let args ← c.args.toList.mapM ev
      gcallee P C call g (args ++ caps) h
    | .invoke _ _ => none
  | _ => none

/-! Regions. -/
def gyield (ops : Array Oper) (σ : GS) (j : Nat) : Option Bool :=
  match (ops[j]?).bind (·.dst) with
  | some d => match σ d with | .bool b => some b | _ => none
  | none => none

def dstOk (nt : Nat) : Option Tmp → Bool
  | some d => Nat.blt d nt
  | none => true

/-- What an operation did: its number, the heap's length before and after, its log. -/
structure Rec where
  j : Nat
  n0 : Nat
  n1 : Nat
  lg : Lg

def gops (P : Program) (C : Cfg) (call : GCall) (nt : Nat) (ops : Array Oper) : List Nat → GS → Heap → Option (GS × Heap × List Rec)
  | [], σ, h => some (σ, h, [])
  | j :: rest, σ, h =>
    match ops[j]? with
    | none => none
    | some o =>
      if dstOk nt o.dst = true then
        if Region.wanted o (gyield ops σ) = true then do
          let (v, h1, lg) ← gop P C call (eval σ) o h
          let (σ', h', l) ← gops P C call nt ops rest (upd σ o.dst v) h1
          some (σ', h', ⟨j, h.length, h1.length, lg⟩ :: l)
        else do
          let (σ', h', l) ← gops P C call nt ops rest (upd σ o.dst .un) h
          some (σ', h', ⟨j, h.length, h.length, .nil⟩ :: l)
      else none

/-- Of each operation, as bits, those that come before it. -/
def maskOf (acc : List Nat) (o : Oper) : Nat :=
  o.after.toList.foldl (fun s e => if Region.binds .any e then s ||| (2 ^ e.on ||| acc.getD e.on 0) else s) 0
def masks (ops : Array Oper) : List Nat := ops.toList.foldl (fun acc o => acc ++ [maskOf acc o]) []

def slotsOf (ops : Array Oper) (o : Oper) : List Tmp :=
  o.dst.toList ++ (o.op.operands.toList.filterMap fun | .tmp t => some t | _ => none) ++
    (match o.guard with | some (g, _) => ((ops[g]?).bind (·.dst)).toList | none => [])

/-- Two operations that meet in a slot are in an order. -/
def slotsOk (ops : Array Oper) (m : List Nat) : Bool :=
  (List.range ops.size).all fun j => (List.range j).all fun i =>
    (m.getD j 0).testBit i ||
    match ops[i]?, ops[j]? with
    | some a, some b => (a.dst.all fun d => !(slotsOf ops b).contains d) && (b.dst.all fun d => !(slotsOf ops a).contains d)
    | _, _ => true

def edgesOk (ops : Array Oper) : Bool :=
  (List.range ops.size).all fun j =>
    match ops[j]? with
    | some o => o.after.toList.all fun e => !Region.binds .any e || Nat.blt e.on j
    | none => true

def touches (b : Rec) (i : Nat) : Bool := b.lg.w.contains i || (Nat.ble b.n0 i && Nat.blt i b.n1)
def meets (a b : Rec) : Bool :=
  (a.lg.w.any fun i => b.lg.r.contains i || touches b i) || (b.lg.w.any fun i => a.lg.r.contains i || touches a i)
    || (b.lg.r.any fun i => touches a i) || (a.lg.r.any fun i => touches b i)

def recsOk (m : List Nat) : List Rec → Bool
  | [] => true
  | a :: l => (l.all fun b => (m.getD b.j 0).testBit a.j || !meets a b) && recsOk m l

def logOf : List Rec → Lg
  | [] => .nil
  | a :: l => a.lg.add (logOf l)

def gregion (P : Program) (C : Cfg) (call : GCall) (nt : Nat) (ops : Array Oper) (draw : Bool) (σ : GS) (h : Heap) : Option (GS × Heap × Lg) := do
  let (σ', h', l) ← gops P C call nt ops (List.range ops.size) σ h
  if draw = true then
    let m := masks ops
    if slotsOk ops m = true ∧ edgesOk ops = true ∧ recsOk m l = true then some (σ', h', logOf l) else none
  else some (σ', h', logOf l)

inductive GX where
  | nrm
  | ext (id : Nat)
  | ret
abbrev GR := Option (GX × GS × Heap × Lg)

def gloop (body : GS → Heap → GR) : Nat → GS → Heap → GR
  | 0, _, _ => none
  | k + 1, σ, h =>
    match body σ h with
    | some (.nrm, σ', h', l) => (gloop body k σ' h').map fun (x, σ2, h2, l2) => (x, σ2, h2, l.add l2)
    | r => r

def gcode (P : Program) (C : Cfg) (call : GCall) (k nt : Nat) : Code → GS → Heap → GR
  | .skip, σ, h => some (.nrm, σ, h, .nil)
  | .region _ ops draw, σ, h => (gregion P C call nt ops draw σ h).map fun (σ', h', l) => (.nrm, σ', h', l)
  | .seq a b, σ, h =>
    match gcode P C call k nt a σ h with
    | some (.nrm, σ', h', l) => (gcode P C call k nt b σ' h').map fun (x, σ2, h2, l2) => (x, σ2, h2, l.add l2)
    | r => r
  | .cond c x y, σ, h =>
    match eval σ c with
    | some (.bool b) => bif b then gcode P C call k nt x σ h else gcode P C call k nt y σ h
    | _ => none
  | .block id c, σ, h =>
    match gcode P C call k nt c σ h with
    | some (.ext id', σ', h', l) => if id' = id then some (.nrm, σ', h', l) else some (.ext id', σ', h', l)
    | r => r
  | .loop c, σ, h => gloop (gcode P C call k nt c) k σ h
  | .exit id, σ, h => some (.ext id, σ, h, .nil)
  | .ret, σ, h => some (.ret, σ, h, .nil)
  | .label _, σ, h => some (.nrm, σ, h, .nil)
  | _, _, _ => none

def gresult (P : Program) (σ : GS) (h : Heap) : ResultVar → Option (GV × List Nat)
  | .tmp t => some (σ t, [])
  | .cell a t => gload P h t (σ a)

def gresults (P : Program) (fn : Func) (σ : GS) (h : Heap) : Option (GV × List Nat) := do
  let vs ← fn.results.toList.mapM (gresult P σ h)
  match vs with
  | [v] => some v
  | vs => some (.tup (vs.map (·.1)), (vs.map (·.2)).flatten)

def gcall (P : Program) (C : Cfg) : Nat → GCall
  | 0, _, _, _ => none
  | k + 1, f, args, h =>
    match P.funcs[f]? with
    | none => none
    | some fn =>
      match fn.body with
      | none => none
      | some c =>
        match gcode P C (gcall P C k) k (max args.length fn.ntmps) c (fun t => args.getD t .un) h with
        | some (.ext _, _, _, _) => none
        | some (_, σ, h', l) => (gresults P fn σ h').map fun (v, r) => (v, h', l.add ⟨r, []⟩)
        | none => none

end Go.Proofs.Ytolhjndfplfjpaa.G
