/- Values of the machine beside the model's own; what the package-level variables hold. Definitions alone. A machine beside the model's own: the same pro -/
import Derived.Calls
import Derived.Orders
import Derived.Below
import Derived.LoopN
import Derived.Control
import Derived.Laws.Sem
import Derived.Laws.Cells
import Derived.Laws.World
import Derived.Laws.Rows
import Derived.Laws.StructEq
import Derived.Laws.BytesString
set_option linter.unusedSimpArgs false
set_option linter.unusedVariables false
namespace Go.Proofs.Ytlbnioapepelnaa.G
open Go.RowKit

inductive GV where
  | int (k : IntKind) (n : Int)
  | bool (b : Bool)
  | str (s : ByteArray)
  | nilp
  | ptr (i off tot : Nat)
  | fp (t : Bool) (cells : List GV)
  | nils
  | emp
  | sl (i off len cap es : Nat)
  | fz (t : Bool) (n es : Nat) (cells : List GV)
  | fn (f : FuncId) (caps : List GV)
  | nili
  | ifc
  | un
  | dk (k : Nat)
  | agg (cs : List GV)
  | tup (vs : List GV)
  deriving Inhabited

def globs : Nat → Option (List GV) := fun _ => none
def Base (W : World) : Prop := True

theorem obsi {α β : Type} {o : Option α} {f : α → Option β} {b : β} : o.bind f = some b ↔ ∃ a, o = some a ∧ f a = some b := Option.bind_eq_some_iff
end Go.Proofs.Ytlbnioapepelnaa.G

namespace Go.Proofs.Ytlbnioapepelnaa.G
open Go.RowKit

abbrev Heap := List (List GV)
abbrev GS := Nat → GV

structure Lg where
  r : List Nat
  w : List Nat
def Lg.nil : Lg := ⟨[], []⟩
def Lg.add (a b : Lg) : Lg := ⟨a.r ++ b.r, a.w ++ b.w⟩

structure Cfg where
  heapy : FuncId → Bool
  ext : FuncId → Option (List GV → Option GV)
  /-- Which heapy functions are run twice where their slice has no elements: for nil, and for one that is not nil. -/
  split : FuncId → Bool := fun _ => false
  /-- Which functions hand back new memory: run in no heap, their blocks are laid behind the caller's. -/
  fresh : FuncId → Bool := fun _ => false

def GV.isCell : GV → Bool
  | .agg _ | .tup _ | .un | .dk _ => false
  | _ => true

def ofC : Value → Option GV
  | .int k n => some (.int k n)
  | .bool b => some (.bool b)
  | .string s => some (.str s)
  | .pointer none => some .nilp
  | .slice none 0 0 => some .nils
  | .nilIface => some .nili
  | _ => none
def ofV : Value → Option GV
  | .agg cs => (cs.toList.mapM ofC).map .agg
  | v => ofC v

def GV.cells : GV → List GV
  | .agg cs => cs
  | v => [v]

def eval (σ : GS) : Operand → Option GV
  | .tmp t => some (σ t)
  | .const v => ofV v
  | .func f => some (.fn f [])
  | .global g => (globs g).map (.fp false)

def upd (σ : GS) (d : Option Tmp) (v : GV) : GS :=
  match d with
  | some d => fun t => bif Nat.beq t d then v else σ t
  | none => σ

def cellsAt (h : Heap) (i tot : Nat) : Option (List GV) :=
  match h[i]? with
  | some cs => bif Nat.beq cs.length tot then some cs else none
  | none => none

def splice (cs : List GV) (off : Nat) (vs : List GV) : List GV := cs.take off ++ vs ++ cs.drop (off + vs.length)

def gread (h : Heap) (a : GV) (n : Nat) : Option (List GV × List Nat) :=
  match a with
  | .ptr i off tot => do
    let cs ← cellsAt h i tot
    if off + n ≤ cs.length then some ((cs.drop off).take n, [i]) else none
  | .fp _ cells => if n ≤ cells.length then some (cells.take n, []) else none
  | _ => none

def gagg (P : Program) (t : TypeId) : Option Bool :=
  match P.underlying t with
  | some (.struct _) | some (.array _ _) => some true
  | some _ => some false
  | none => none

def gsize (P : Program) (t : TypeId) : Option Nat := (P.info? t).map (·.size)
def gzero (P : Program) (t : TypeId) : Option (List GV) := do
  let i ← P.info? t
  let z ← i.zero
  let g ← ofV z
  some g.cells

def gpart (P : Program) (t : TypeId) (cs : List GV) (off : Nat) : Option GV := do
  if ← gagg P t then
    let n ← gsize P t
    if off + n ≤ cs.length then some (.agg ((cs.drop off).take n)) else none
  else cs[off]?

def gload (P : Program) (h : Heap) (t : TypeId) (a : GV) : Option (GV × List Nat) := do
  if ← gagg P t then
    let n ← gsize P t
    let (cs, r) ← gread h a n
    some (.agg cs, r)
  else
    let (cs, r) ← gread h a 1
    match cs with
    | [v] => some (v, r)
    | _ => none

def gstore (P : Program) (h : Heap) (t : TypeId) (a v : GV) : Option (Heap × Nat) := do
  let n ← gsize P t
  let vs := v.cells
  if vs.length = n ∧ vs.all GV.isCell = true then
    match a with
    | .ptr i off tot => do
      let cs ← cellsAt h i tot
      if off + n ≤ cs.length then some (h.set i (splice cs off vs), i) else none
    | _ => none
  else none

def gcells (h : Heap) (es : Nat) (v : GV) : Option (Nat × List GV × List Nat) :=
  match v with
  | .sl i off len cap es' => do
    let cs ← cellsAt h i (off + cap * es')
    if es' = es ∧ len ≤ cap then some (len, (cs.drop off).take (len * es), [i]) else none
  | .fz _ n es' cells => if n = 0 then some (0, [], []) else if es' = es then some (n, cells, []) else none
  | .nils => some (0, [], [])
  | .emp => some (0, [], [])
  | .str s => if es = 1 then some (s.size, s.toList.map fun b => .int .u8 b.toNat, []) else none
  | _ => none

def glen : GV → Option Nat
  | .sl _ _ len _ _ => some len
  | .fz _ n _ _ => some n
  | .nils => some 0
  | .emp => some 0
  | .str s => some s.size
  | _ => none

def gint : GV → Option Int
  | .int _ n => some n
  | _ => none

def gopt (d : Int) : Option GV → Option Int
  | some v => gint v
  | none => some d

def mt : GV := .fz false 0 0 []

def gslice (P : Program) (t : TypeId) (x : GV) (lo hi mx : Option GV) : Option GV := do
  let l ← gopt 0 lo
  if mx.isSome = true ∧ hi.isNone = true then none else
  match x with
  | .str s =>
    if mx.isSome then none else
    let h ← gopt s.size hi
    if 0 ≤ l ∧ l ≤ h ∧ h ≤ s.size then some (.str (s.extract l.toNat h.toNat)) else none
  | .sl i off len cap es =>
    let m ← gopt cap mx
    let h ← gopt len hi
    if 0 ≤ l ∧ l ≤ h ∧ h ≤ m ∧ m ≤ cap then
      if m = cap then some (.sl i (off + l.toNat * es) (h.toNat - l.toNat) (cap - l.toNat) es)
      else if m = l then some .emp else some (.dk 0)
    else none
  | .fz _ 0 _ _ =>
    let h ← gopt 0 hi
    let m ← gopt 0 mx
    if l = 0 ∧ h = 0 ∧ m = 0 then some mt else none
  | .fz tg (n + 1) es cells =>
    let h ← gopt (n + 1 : Nat) hi
    let m ← gopt h mx
    if 0 ≤ l ∧ l ≤ h ∧ h ≤ m ∧ m ≤ (n + 1 : Nat) then (if h = l then some mt else some (.fz tg (h.toNat - l.toNat) es ((cells.drop (l.toNat * es)).take ((h.toNat - l.toNat) * es)))) else none
  | .nils =>
    let h ← gopt 0 hi
    let m ← gopt 0 mx
    if l = 0 ∧ h = 0 ∧ m = 0 then some .nils else none
  | .emp =>
    let h ← gopt 0 hi
    let m ← gopt 0 mx
    if l = 0 ∧ h = 0 ∧ m = 0 then some .emp else none
  | _ => none

def roomMax : Nat := 140737488355328

def gappend (P : Program) (h : Heap) (t : TypeId) (s x : GV) : Option (GV × Heap × Lg) := do
  let .slice e ← P.underlying t | none
  let info ← P.info? e
  let es := info.size
  let (n, new, r) ← gcells h es x
  let z ← gzero P e
  if new.all GV.isCell = true ∧ z.length = es ∧ n ≤ maxLen ∧ n * info.bytes ≤ roomMax then
    match s with
    | .nils => if n = 0 then some (.nils, h, ⟨r, []⟩) else some (.sl h.length 0 n n es, h ++ [new], ⟨r, []⟩)
    | .emp => if n = 0 then some (.emp, h, ⟨r, []⟩) else some (.sl h.length 0 n n es, h ++ [new], ⟨r, []⟩)
    | .sl i off len cap es' => do
      let cs ← cellsAt h i (off + cap * es')
      if es' = es ∧ len ≤ cap ∧ (len + n) * info.bytes ≤ roomMax ∧ len + n ≤ maxLen then
        if len + n ≤ cap then some (.sl i off (len + n) cap es, h.set i (splice cs (off + len * es) new), ⟨i :: r, [i]⟩)
        else if off = 0 ∧ 0 < es then some (.sl i 0 (len + n) (len + n) es, h.set i (cs.take (len * es) ++ new), ⟨i :: r, [i]⟩) else none
      else none
    | _ => none
  else none

def zeros (z : List GV) : Nat → List GV
  | 0 => []
  | n + 1 => z ++ zeros z n

def gappz (P : Program) (h : Heap) (t : TypeId) (s x : GV) : Option (GV × Heap × Lg) := do
  let .slice e ← P.underlying t | none
  let info ← P.info? e
  let z ← gzero P e
  match s, x with
  | .nils, .int .i64 l =>
    if 0 ≤ l ∧ l ≤ maxLen ∧ l.toNat * info.bytes ≤ roomMax ∧ z.length = info.size then
      if l.toNat = 0 then some (.nils, h, .nil) else some (.sl h.length 0 l.toNat l.toNat info.size, h ++ [zeros z l.toNat], .nil)
    else none
  | _, _ => none

def gcopy (P : Program) (h : Heap) (t : TypeId) (d x : GV) : Option (GV × Heap × Lg) := do
  let .slice e ← P.underlying t | none
  let es ← gsize P e
  let (n, new, r) ← gcells h es x
  if new.all GV.isCell = true then
    match d with
    | .nils => some (.int .i64 0, h, ⟨r, []⟩)
    | .emp => some (.int .i64 0, h, ⟨r, []⟩)
    | .sl i off len cap es' => do
      let cs ← cellsAt h i (off + cap * es')
      if es' = es ∧ len ≤ cap then
        let m := min n len
        some (.int .i64 m, h.set i (splice cs off (new.take (m * es))), ⟨r, [i]⟩)
      else none
    | _ => none
  else none

def gclear (P : Program) (h : Heap) (t : TypeId) (d : GV) : Option (GV × Heap × Lg) := do
  let .slice e ← P.underlying t | none
  let z ← gzero P e
  match d with
  | .nils => some (.un, h, .nil)
  | .emp => some (.un, h, .nil)
  | .sl i off len cap es => do
    let cs ← cellsAt h i (off + cap * es)
    if z.length = es ∧ len ≤ cap ∧ z.all GV.isCell = true then some (.un, h.set i (splice cs off (zeros z len)), ⟨[], [i]⟩) else none
  | _ => none

def ilt : Int → Int → Bool
  | .ofNat a, .ofNat b => Nat.blt a b
  | .ofNat _, .negSucc _ => false
  | .negSucc _, .ofNat _ => true
  | .negSucc a, .negSucc b => Nat.blt b a

def gbin (P : Program) (op : BinOp) (t : TypeId) (x y : GV) : Option GV :=
  match op, x, y with
  | .shl, .int k a, .int _ b => if 0 ≤ b then some (.int k (k.wrap (a * 2 ^ (min b.toNat k.bits)))) else none
  | .shr, .int k a, .int _ b => if 0 ≤ b then some (.int k (a.fdiv (2 ^ (min b.toNat k.bits)))) else none
  | op, .int k a, .int k' b =>
    if k = k' then
      match op with
      | .add => some (.int k (k.wrap (a + b)))
      | .sub => some (.int k (k.wrap (a - b)))
      | .mul => some (.int k (k.wrap (a * b)))
      | .quo => if b = 0 then none else some (.int k (k.wrap (a.tdiv b)))
      | .rem => if b = 0 then none else some (.int k (a.tmod b))
      | .and => some (.int k (k.wrap (BitVec.ofInt k.bits a &&& BitVec.ofInt k.bits b).toNat))
      | .or => some (.int k (k.wrap (BitVec.ofInt k.bits a ||| BitVec.ofInt k.bits b).toNat))
      | .xor => some (.int k (k.wrap (BitVec.ofInt k.bits a ^^^ BitVec.ofInt k.bits b).toNat))
      | .andNot => some (.int k (k.wrap (BitVec.ofInt k.bits a &&& ~~~(BitVec.ofInt k.bits b)).toNat))
      | .eql => some (.bool (a == b))
      | .neq => some (.bool (a != b))
      | .lss => some (.bool (ilt a b))
      | .leq => some (.bool !(ilt b a))
      | .gtr => some (.bool (ilt b a))
      | .geq => some (.bool !(ilt a b))
      | _ => none
    else none
  | op, .str a, .str b =>
    match op with
    | .add => if a.size + b.size ≤ maxLen then some (.str (a ++ b)) else none
    | .eql => some (.bool (a.toList == b.toList))
    | .neq => some (.bool !(a.toList == b.toList))
    | .lss => some (.bool (Op.bytesLess a.toList b.toList))
    | .leq => some (.bool (Op.bytesLess a.toList b.toList || a.toList == b.toList))
    | .gtr => some (.bool !(Op.bytesLess a.toList b.toList || a.toList == b.toList))
    | .geq => some (.bool !(Op.bytesLess a.toList b.toList))
    | _ => none
  | _, _, _ => none

def geqs (P : Program) (eq : TypeId → GV → GV → Option Bool) : List Field → List GV → List GV → Option Bool
  | [], _, _ => some true
  | f :: fs, xs, ys =>
    if f.name ≠ "_" then do
      let a ← gpart P f.type xs f.offset
      let b ← gpart P f.type ys f.offset
      let r ← eq f.type a b
      if r then geqs P eq fs xs ys else some false
    else geqs P eq fs xs ys

def geq (P : Program) : Nat → TypeId → GV → GV → Option Bool
  | 0, _, _, _ => none
  | d + 1, t, x, y =>
    match P.underlying t, x, y with
    | some .bool, .bool a, .bool b => some (a == b)
    | some (.int _), .int k a, .int k' b => if k = k' then some (a == b) else none
    | some .string, .str a, .str b => some (a == b)
    | some (.pointer _), .nilp, .nilp => some true
    | some (.pointer _), .nilp, .ptr _ _ _ => some false
    | some (.pointer _), .ptr _ _ _, .nilp => some false
    | some (.pointer _), .nilp, .fp _ _ => some false
    | some (.pointer _), .fp _ _, .nilp => some false
    | some (.slice _), .nils, .nils => some true
    | some (.slice _), .nils, .sl _ _ _ _ _ => some false
    | some (.slice _), .nils, .fz _ (_ + 1) _ _ => some false
    | some (.slice _), .sl _ _ _ _ _, .nils => some false
    | some (.slice _), .fz _ (_ + 1) _ _, .nils => some false
    | some (.slice _), .fz _ 0 (_ + 1) _, .nils => some false
    | some (.interface _), .nili, .nili => some true
    | some (.interface _), .nili, .ifc => some false
    | some (.interface _), .ifc, .nili => some false
    | some (.struct fs), .agg xs, .agg ys => if P.stoodInHeld t then none else geqs P (geq P d) fs.toList xs ys
    | _, _, _ => none

def lend : Nat → GV → GV
  | 0, v => v
  | d + 1, v =>
    match v with
    | .fz _ 0 _ _ => mt
    | .fz _ (n + 1) es cells => .fz true (n + 1) es (cells.map (lend d))
    | .fp _ cells => .fp true (cells.map (lend d))
    | .nils => mt
    | .emp => mt
    | .agg cs => .agg (cs.map (lend d))
    | v => v

def bor : Nat → Heap → GV → Option (GV × List Nat)
  | 0, _, _ => none
  | d + 1, h, v =>
    match v with
    | .sl i off len cap es => do
      let cs ← cellsAt h i (off + cap * es)
      let xs ← ((cs.drop off).take (len * es)).mapM (bor d h)
      if len ≤ cap then
        match len with
        | 0 => some (mt, [i])
        | n + 1 => some (.fz true (n + 1) es (xs.map (·.1)), i :: (xs.map (·.2)).flatten)
      else none
    | .ptr i off tot => do
      let cs ← cellsAt h i tot
      let xs ← (cs.drop off).mapM (bor d h)
      some (.fp true (xs.map (·.1)), i :: (xs.map (·.2)).flatten)
    | .fn f caps => do
      let xs ← caps.mapM (bor d h)
      some (.fn f (xs.map (·.1)), (xs.map (·.2)).flatten)
    | .agg cs => do
      let xs ← cs.mapM (bor d h)
      some (.agg (xs.map (·.1)), (xs.map (·.2)).flatten)
    | .tup _ => none
    | .nils => some (mt, [])
    | .emp => some (mt, [])
    | .fz t n es cells => some (lend (d + 1) (.fz t n es cells), [])
    | .fp t cells => some (lend (d + 1) (.fp t cells), [])
    | v => some (v, [])

def frz : Nat → Heap → GV → Option (GV × List Nat)
  | 0, _, _ => none
  | d + 1, h, v =>
    match v with
    | .sl i off len cap es => do
      let cs ← cellsAt h i (off + cap * es)
      let xs ← ((cs.drop off).take (len * es)).mapM (frz d h)
      if len ≤ cap then
        match len with
        | 0 => some (mt, [])
        | n + 1 => some (.fz false (n + 1) es (xs.map (·.1)), [])
      else none
    | .ptr _ _ _ | .fp _ _ | .fn _ _ => none
    | .fz _ 0 _ _ => some (mt, [])
    | .fz true (_ + 1) _ _ => none
    | .nils => some (mt, [])
    | .emp => some (mt, [])
    | .agg cs => do
      let xs ← cs.mapM (frz d h)
      some (.agg (xs.map (·.1)), [])
    | .tup cs => do
      let xs ← cs.mapM (frz d h)
      some (.tup (xs.map (·.1)), [])
    | v => some (v, [])

abbrev Vis := List (Nat × Nat × Nat)
def ownL (f : Nat → GV → Option (GV × Vis × List (List GV))) : Nat → List GV → Option (List GV × Vis × List (List GV))
  | _, [] => some ([], [], [])
  | b, g :: gs => (f b g).bind fun r => (ownL f (b + r.2.2.length) gs).bind fun q => some (r.1 :: q.1, r.2.1 ++ q.2.1, r.2.2 ++ q.2.2)
def own : Nat → Heap → Nat → GV → Option (GV × Vis × List (List GV))
  | 0, _, _, _ => none
  | d + 1, h, b, v =>
    match v with
    | .sl i off len cap es =>
      (cellsAt h i (off + cap * es)).bind fun cs =>
      if len ≤ cap then (ownL (own d h) (b + 1) ((cs.drop off).take (len * es))).bind fun q => some (.sl b 0 len len es, (i, off, off + cap * es) :: q.2.1, q.1 :: q.2.2) else none
    | .agg cs => (ownL (own d h) b cs).bind fun q => some (.agg q.1, q.2.1, q.2.2)
    | .tup cs => (ownL (own d h) b cs).bind fun q => some (.tup q.1, q.2.1, q.2.2)
    | .ptr _ _ _ | .fp _ _ | .fn _ _ => none
    | .fz _ 0 _ _ => some (mt, [], [])
    | .fz true (_ + 1) _ _ => none
    | v => some (v, [], [])
def nodupB : List Nat → Bool
  | [] => true
  | a :: l => (l.all fun b => !Nat.beq a b) && nodupB l

abbrev GCall := FuncId → List GV → Heap → Option (GV × Heap × Lg)

def emptyArg : List GV → Bool
  | [.fz _ 0 _ _] => true
  | [.emp] => true
  | _ => false
def gsplit (call : GCall) (g : FuncId) : Bool :=
  match call g [.nils] [], call g [.fz true 0 1 []] [] with
  | some (.nils, _, _), some (.emp, _, _) => true
  | _, _ => false

def gcallee (P : Program) (C : Cfg) (call : GCall) (g : FuncId) (args : List GV) (h : Heap) : Option (GV × Heap × Lg) :=
  match P.funcs[g]? with
  | none => none
  | some fn =>
    if fn.body.isSome = true then
      match C.ext g with
      | some e => do
        let xs ← args.mapM (bor 9 h)
        let v ← e (xs.map (·.1))
        some (v, h, ⟨(xs.map (·.2)).flatten, []⟩)
      | none =>
        if C.heapy g = true then
          if (C.split g && emptyArg args) = true then
            if gsplit call g = true then some (.emp, h, .nil) else none
          else call g args h
        else if C.fresh g = true then do
          let xs ← args.mapM (bor 9 h)
          if (C.split g && emptyArg (xs.map (·.1))) = true then
            if gsplit call g = true then some (.emp, h, ⟨(xs.map (·.2)).flatten, []⟩) else none
          else
          let (v, h1, _) ← call g (xs.map (·.1)) []
          let (v', vis, bl) ← own 9 h1 h.length v
          if nodupB (vis.map (·.1)) = true then some (v', h ++ bl, ⟨(xs.map (·.2)).flatten, []⟩) else none
        else do
          let xs ← args.mapM (bor 9 h)
          let (v, h1, _) ← call g (xs.map (·.1)) []
          let (v', _) ← frz 9 h1 v
          some (v', h, ⟨(xs.map (·.2)).flatten, []⟩)
    else none

def gmin : GV → GV → Option GV
  | .int k x, .int _ y => some (.int k (if y < x then y else x))
  | _, _ => none
def gmax : GV → GV → Option GV
  | .int k x, .int _ y => some (.int k (if y > x then y else x))
  | _, _ => none

def gbuiltin (P : Program) (b : Builtin) (ts : Array TypeId) (args : List GV) (h : Heap) : Option (GV × Heap × Lg) :=
  match b, args with
  | .len, [x] => do
    let t ← ts[0]?
    match P.underlying t, x with
    | some .string, .str s => some (.int .i64 s.size, h, .nil)
    | some (.slice _), x => match x with
      | .str _ => none
      | x => do some (.int .i64 (← glen x), h, .nil)
    | some (.array n _), _ => some (.int .i64 n, h, .nil)
    | _, _ => none
  | .cap, [x] => do
    let t ← ts[0]?
    match P.underlying t, x with
    | some (.slice _), .nils => some (.int .i64 0, h, .nil)
    | some (.slice _), .emp => some (.int .i64 0, h, .nil)
    | _, _ => none
  | .min, x :: xs => do some (← xs.foldlM gmin x, h, .nil)
  | .max, x :: xs => do some (← xs.foldlM gmax x, h, .nil)
  | .append, [s, x] => do
    let t ← ts[0]?
    let u ← ts[1]?
    match P.underlying u with
    | some (.int _) => gappz P h t s x
    | some _ => gappend P h t s x
    | none => none
  | .copy, [d, x] => do
    let t ← ts[0]?
    gcopy P h t d x
  | .clear, [d] => do
    let t ← ts[0]?
    gclear P h t d
  | _, _ => none

def gfill (place : Nat → Option (Nat × Nat)) (cells : List GV) : List (Nat × GV) → Option (List GV)
  | [] => some cells
  | (i, v) :: rest =>
    match place i with
    | none => none
    | some (off, size) => if v.cells.length = size ∧ off + v.cells.length ≤ cells.length then gfill place (splice cells off v.cells) rest else none

def gparts (ev : Operand → Option GV) (parts : Array (Nat × Operand)) : Option (List (Nat × GV)) :=
  parts.toList.mapM fun (i, x) => (ev x).map fun v => (i, v)

def gfine (P : Program) (t : TypeId) (xo yo : Operand) : GV → GV → Bool
  | .nili, .nili => (xo matches .const _) || (yo matches .const _)
  | .agg _, .agg _ => !P.eqGuardType P.depth t
  | .int _ _, .int _ _ => false
  | .str _, .str _ => false
  | _, _ => true

def gbinop (P : Program) (op : BinOp) (t : TypeId) (xo yo : Operand) (x y : GV) : Option GV :=
  match gbin P op t x y with
  | some r => some r
  | none =>
    if gfine P t xo yo x y = true then
      match op with
      | .eql => (geq P Op.maxDepth t x y).map .bool
      | .neq => (geq P Op.maxDepth t x y).map fun b => .bool !b
      | _ => none
    else none

def gbyte : GV → Option Int
  | .int .u8 n => some n
  | _ => none

def gconvert (P : Program) (s d : TypeId) (x : GV) (h : Heap) : Option (GV × Heap × Lg) :=
  match P.underlying s, P.underlying d, x with
  | some _, some (.int k), .int _ n => some (.int k (k.wrap n), h, .nil)
  | some _, some .string, .str b => some (.str b, h, .nil)
  | some _, some (.slice e), .str b => do
    match P.underlying e with
    | some (.int .u8) => some (.sl h.length 0 b.size b.size 1, h ++ [b.toList.map fun c => .int .u8 c.toNat], .nil)
    | _ => none
  | some (.slice e), some .string, x => do
    match P.underlying e with
    | some (.int .u8) =>
      match x with
      | .str _ => none
      | .int _ _ => none
      | x =>
        let (n, cs, r) ← gcells h 1 x
        let ns ← cs.mapM gbyte
        if ns.length = n then some (.str ⟨(ns.map fun n => UInt8.ofNat n.toNat).toArray⟩, h, ⟨r, []⟩) else none
    | _ => none
  | _, _, _ => none

def gmay (ev : Operand → Option GV) : Option Operand → Option (Option GV)
  | some y => (ev y).map some
  | none => some none

def gop (P : Program) (C : Cfg) (call : GCall) (ev : Operand → Option GV) (o : Oper) (h : Heap) : Option (GV × Heap × Lg) :=
  match o.op with
  | .move x => do some (← ev x, h, .nil)
  | .assign x => do some (← ev x, h, .nil)
  | .pick c a b => do
    let .bool t ← ev c | none
    let x ← ev a
    let y ← ev b
    some (bif t then x else y, h, .nil)
  | .alloc e => do
    let z ← gzero P e
    some (.ptr h.length 0 z.length, h ++ [z], .nil)
  | .box e x => do
    let v ← ev x
    some (.ptr h.length 0 v.cells.length, h ++ [v.cells], .nil)
  | .build t parts => do
    let z ← gzero P t
    let ps ← gparts ev parts
    match P.underlying t with
    | some (.struct fs) => do
      let places ← fs.toList.mapM fun f => (gsize P f.type).map fun n => (f.offset, n)
      let cs ← gfill (fun i => places[i]?) z ps
      some (.agg cs, h, .nil)
    | some (.array _ e) => do
      let n ← gsize P e
      let cs ← gfill (fun i => some (i * n, n)) z ps
      some (.agg cs, h, .nil)
    | _ => none
  | .buildSlice t len parts => do
    let .slice e ← P.underlying t | none
    let n ← gsize P e
    let z ← gzero P e
    let ps ← gparts ev parts
    if len * n ≤ 16777216 ∧ z.length = n then
      let cs ← gfill (fun i => some (i * n, n)) (zeros z len) ps
      match len with
      | 0 => some (.emp, h, .nil)
      | len + 1 => some (.sl h.length 0 (len + 1) (len + 1) n, h ++ [cs], .nil)
    else none
  | .load t a => do
    let x ← ev a
    let (v, r) ← gload P h t x
    some (v, h, ⟨r, []⟩)
  | .store t a x => do
    let p ← ev a
    let v ← ev x
    let (h', i) ← gstore P h t p v
    some (.un, h', ⟨[], [i]⟩)
  | .nilCheck x => do
    match ← ev x with
    | .ptr i off tot => some (.ptr i off tot, h, .nil)
    | .fp t cells => some (.fp t cells, h, .nil)
    | .fn f caps => some (.fn f caps, h, .nil)
    | _ => none
  | .binOp op t x y _ => do
    let a ← ev x
    let b ← ev y
    some (← gbinop P op t x y a b, h, .nil)
  | .unOp op _ x => do
    match op, ← ev x with
    | .neg, .int k n => some (.int k (k.wrap (0 - n)), h, .nil)
    | .not, .bool b => some (.bool !b, h, .nil)
    | _, _ => none
  | .convert s d x => do gconvert P s d (← ev x) h
  | .makeInterface t x => do
    let _ ← ev x
    match P.underlying t with
    | some (.interface _) => none
    | some _ => some (.ifc, h, .nil)
    | none => none
  | .makeFunc (.func f) first caps => do
    let cs ← caps.toList.mapM ev
    if first.size = 0 then some (.fn f cs, h, .nil) else none
  | .makeSlice t l c => do
    let .slice e ← P.underlying t | none
    let info ← P.info? e
    let z ← gzero P e
    let .int _ len ← ev l | none
    let .int _ cap ← ev c | none
    if 0 ≤ len ∧ len ≤ cap ∧ cap ≤ maxLen ∧ cap.toNat * info.bytes ≤ roomMax ∧ z.length = info.size then
      some (.sl h.length 0 len.toNat cap.toNat info.size, h ++ [zeros z cap.toNat], .nil)
    else none
  | .slice t x lo hi mx => do
    let a ← ev x
    let l ← gmay ev lo
    let u ← gmay ev hi
    let m ← gmay ev mx
    match P.underlying t, a with
    | some .string, .str s => do some (← gslice P t (.str s) l u m, h, .nil)
    | some (.slice e), .sl i off len cap es => do
      if gsize P e = some es then some (← gslice P t (.sl i off len cap es) l u m, h, .nil) else none
    | some (.slice e), .fz tg n es cells => do
      if gsize P e = some es ∨ (n = 0 ∧ (gsize P e).isSome = true) then some (← gslice P t (.fz tg n es cells) l u m, h, .nil) else none
    | some (.slice e), .nils => do
      let _ ← gsize P e
      some (← gslice P t .nils l u m, h, .nil)
    | some (.slice e), .emp => do
      let _ ← gsize P e
      some (← gslice P t .emp l u m, h, .nil)
    | _, _ => none
  | .fieldAddr s x f => do
    let .struct fs ← P.underlying s | none
    let fd ← fs[f]?
    let n ← gsize P fd.type
    if n = 0 then none else
    match ← ev x with
    | .ptr i off tot => some (.ptr i (off + fd.offset) tot, h, .nil)
    | .fp t cells => some (.fp t (cells.drop fd.offset), h, .nil)
    | _ => none
  | .field t x f => do
    let .struct fs ← P.underlying t | none
    let fd ← fs[f]?
    let .agg cs ← ev x | none
    some (← gpart P fd.type cs fd.offset, h, .nil)
  | .indexAddr t x ix => do
    let a ← ev x
    let .int _ i ← ev ix | none
    match P.underlying t, a with
    | some (.slice e), .sl b off len cap es =>
      if gsize P e = some es ∧ 0 ≤ i ∧ i < len then some (.ptr b (off + i.toNat * es) (off + cap * es), h, .nil) else none
    | some (.slice e), .fz tg n es cells =>
      if gsize P e = some es ∧ 0 ≤ i ∧ i < n then some (.fp tg (cells.drop (i.toNat * es)), h, .nil) else none
    | some (.array n e), .fp tg cells =>
      (gsize P e).bind fun es => if 0 ≤ i ∧ i < n then some (.fp tg (cells.drop (i.toNat * es)), h, .nil) else none
    | some (.array n e), .ptr b off tot =>
      (gsize P e).bind fun es => if 0 ≤ i ∧ i < n then some (.ptr b (off + i.toNat * es) tot, h, .nil) else none
    | _, _ => none
  | .index t x ix => do
    let a ← ev x
    let .int _ i ← ev ix | none
    match P.underlying t, a with
    | some .string, .str s =>
      if hi : i.toNat < s.size then (if 0 ≤ i then some (.int .u8 (s[i.toNat]'hi).toNat, h, .nil) else none) else none
    | some (.array len e), .agg cs => do
      let n ← gsize P e
      if 0 ≤ i ∧ i < len then some (← gpart P e cs (i.toNat * n), h, .nil) else none
    | _, _ => none
  | .extract t i => do
    let .tup vs ← ev t | none
    some (← vs[i]?, h, .nil)
  | .call c =>
    match c.callee with
    | .builtin b => do
      let args ← c.args.toList.mapM ev
      gbuiltin P b c.argTypes args h
    | .value f => do
      let .fn g caps ← ev f | none
      let args ← c.args.toList.mapM ev
      gcallee P C call g (args ++ caps) h
    | .invoke _ _ => none
  | _ => none

/-! Regions. -/
def gyield (ops : Array Oper) (σ : GS) (j : Nat) : Option Bool :=
  match (ops[j]?).bind (·.dst) with
  | some d => match σ d with | .bool b => some b | _ => none
  | none => none

def dstOk (nt : Nat) : Option Tmp → Bool
  | some d => Nat.blt d nt
  | none => true

structure Rec where
  j : Nat
  n0 : Nat
  n1 : Nat
  lg : Lg

def gops (P : Program) (C : Cfg) (call : GCall) (nt : Nat) (ops : Array Oper) : List Nat → GS → Heap → Option (GS × Heap × List Rec)
  | [], σ, h => some (σ, h, [])
  | j :: rest, σ, h =>
    match ops[j]? with
    | none => none
    | some o =>
      if dstOk nt o.dst = true then
        if Region.wanted o (gyield ops σ) = true then do
          let (v, h1, lg) ← gop P C call (eval σ) o h
          let (σ', h', l) ← gops P C call nt ops rest (upd σ o.dst v) h1
          some (σ', h', ⟨j, h.length, h1.length, lg⟩ :: l)
        else do
          let (σ', h', l) ← gops P C call nt ops rest (upd σ o.dst .un) h
          some (σ', h', ⟨j, h.length, h.length, .nil⟩ :: l)
      else none

def maskOf (acc : List Nat) (o : Oper) : Nat :=
  o.after.toList.foldl (fun s e => if Region.binds .any e then s ||| (2 ^ e.on ||| acc.getD e.on 0) else s) 0
def masks (ops : Array Oper) : List Nat := ops.toList.foldl (fun acc o => acc ++ [maskOf acc o]) []

def slotsOf (ops : Array Oper) (o : Oper) : List Tmp :=
  o.dst.toList ++ (o.op.operands.toList.filterMap fun | .tmp t => some t | _ => none) ++
    (match o.guard with | some (g, _) => ((ops[g]?).bind (·.dst)).toList | none => [])

def slotsOk (ops : Array Oper) (m : List Nat) : Bool :=
  (List.range ops.size).all fun j => (List.range j).all fun i =>
    (m.getD j 0).testBit i ||
    match ops[i]?, ops[j]? with
    | some a, some b => (a.dst.all fun d => !(slotsOf ops b).contains d) && (b.dst.all fun d => !(slotsOf ops a).contains d)
    | _, _ => true

def edgesOk (ops : Array Oper) : Bool :=
  (List.range ops.size).all fun j =>
    match ops[j]? with
    | some o => o.after.toList.all fun e => !Region.binds .any e || Nat.blt e.on j
    | none => true

def touches (b : Rec) (i : Nat) : Bool := b.lg.w.contains i || (Nat.ble b.n0 i && Nat.blt i b.n1)
def meets (a b : Rec) : Bool :=
  (a.lg.w.any fun i => b.lg.r.contains i || touches b i) || (b.lg.w.any fun i => a.lg.r.contains i || touches a i)
    || (b.lg.r.any fun i => touches a i) || (a.lg.r.any fun i => touches b i)

def recsOk (m : List Nat) : List Rec → Bool
  | [] => true
  | a :: l => (l.all fun b => (m.getD b.j 0).testBit a.j || !meets a b) && recsOk m l

def logOf : List Rec → Lg
  | [] => .nil
  | a :: l => a.lg.add (logOf l)

def gregion (P : Program) (C : Cfg) (call : GCall) (nt : Nat) (ops : Array Oper) (draw : Bool) (σ : GS) (h : Heap) : Option (GS × Heap × Lg) := do
  let (σ', h', l) ← gops P C call nt ops (List.range ops.size) σ h
  if draw = true then
    let m := masks ops
    if slotsOk ops m = true ∧ edgesOk ops = true ∧ recsOk m l = true then some (σ', h', logOf l) else none
  else some (σ', h', logOf l)

inductive GX where
  | nrm
  | ext (id : Nat)
  | ret
abbrev GR := Option (GX × GS × Heap × Lg)

def gloop (body : GS → Heap → GR) : Nat → GS → Heap → GR
  | 0, _, _ => none
  | k + 1, σ, h =>
    match body σ h with
    | some (.nrm, σ', h', l) => (gloop body k σ' h').map fun (x, σ2, h2, l2) => (x, σ2, h2, l.add l2)
    | r => r

def gcode (P : Program) (C : Cfg) (call : GCall) (k nt : Nat) : Code → GS → Heap → GR
  | .skip, σ, h => some (.nrm, σ, h, .nil)
  | .region _ ops draw, σ, h => (gregion P C call nt ops draw σ h).map fun (σ', h', l) => (.nrm, σ', h', l)
  | .seq a b, σ, h =>
    match gcode P C call k nt a σ h with
    | some (.nrm, σ', h', l) => (gcode P C call k nt b σ' h').map fun (x, σ2, h2, l2) => (x, σ2, h2, l.add l2)
    | r => r
  | .cond c x y, σ, h =>
    match eval σ c with
    | some (.bool b) => bif b then gcode P C call k nt x σ h else gcode P C call k nt y σ h
    | _ => none
  | .block id c, σ, h =>
    match gcode P C call k nt c σ h with
    | some (.ext id', σ', h', l) => if id' = id then some (.nrm, σ', h', l) else some (.ext id', σ', h', l)
    | r => r
  | .loop c, σ, h => gloop (gcode P C call k nt c) k σ h
  | .exit id, σ, h => some (.ext id, σ, h, .nil)
  | .ret, σ, h => some (.ret, σ, h, .nil)
  | .label _, σ, h => some (.nrm, σ, h, .nil)
  | _, _, _ => none

def gresult (P : Program) (σ : GS) (h : Heap) : ResultVar → Option (GV × List Nat)
  | .tmp t => some (σ t, [])
  | .cell a t => gload P h t (σ a)

def gresults (P : Program) (fn : Func) (σ : GS) (h : Heap) : Option (GV × List Nat) := do
  let vs ← fn.results.toList.mapM (gresult P σ h)
  match vs with
  | [v] => some v
  | vs => some (.tup (vs.map (·.1)), (vs.map (·.2)).flatten)

def gcall (P : Program) (C : Cfg) : Nat → GCall
  | 0, _, _, _ => none
  | k + 1, f, args, h =>
    match P.funcs[f]? with
    | none => none
    | some fn =>
      match fn.body with
      | none => none
      | some c =>
        match gcode P C (gcall P C k) k (max args.length fn.ntmps) c (fun t => args.getD t .un) h with
        | some (.ext _, _, _, _) => none
        | some (_, σ, h', l) => (gresults P fn σ h').map fun (v, r) => (v, h', l.add ⟨r, []⟩)
        | none => none

end Go.Proofs.Ytlbnioapepelnaa.G

namespace Go.Proofs.Ytlbnioapepelnaa.G
open Go.RowKit

abbrev Map := Nat → Nat → Option (Nat × Nat)

def rsz (w : World) (c : Nat) : Option Nat :=
  match w.heap[c]? with
  | some (.cells rc _ _) => some rc.size
  | _ => none

def E0 : Map := fun _ _ => none

mutual
def VRi (w : World) (Pp : Nat → Prop) : GV → Map → (Nat → Prop) → Value → Prop
  | .int k n, _, _, v => v = .int k n
  | .bool b, _, _, v => v = .bool b
  | .str s, _, _, v => v = .string s
  | .nilp, _, _, v => v = .pointer none
  | .ptr i off tot, ρ, _, v => ∃ c sh, ρ i tot = some (c, sh) ∧ v = .pointer (some ⟨c, sh + off, none⟩)
  | .fp t cells, _, Pt, v => ∃ A, v = .pointer (some A) ∧ (cells ≠ [] → (if t = true then Pt A.block ∨ Pp A.block else Pp A.block) ∧
      ∃ us : List Value, VRsi w Pp cells E0 (if t = true then Pt else Pp) us ∧ ∀ j u, us[j]? = some u → w.cell? (A.add j) = some u)
  | .nils, _, _, v => v = .slice none 0 0
  | .emp, _, _, v => v = .slice none 0 0 ∨ ∃ A, v = .slice (some A) 0 0
  | .sl i off len cap es, ρ, _, v => ∃ c sh A cap', ρ i (off + cap * es) = some (c, sh) ∧ v = .slice (some A) len cap' ∧ len ≤ cap ∧ cap ≤ cap' ∧
      (cap' = 0 ∨ (A = ⟨c, sh + off, none⟩ ∧ ∃ R, rsz w c = some R ∧ sh + off + cap' * es ≤ R))
  | .fz t n es cells, _, Pt, v => (n = 0 ∧ es = 0 ∧ cells = [] ∧ v = .slice none 0 0) ∨ ∃ A cap', v = .slice (some A) n cap' ∧ n ≤ cap' ∧ cells.length = n * es ∧ (cells ≠ [] → (if t = true then Pt A.block ∨ Pp A.block else Pp A.block) ∧
      ∃ us : List Value, VRsi w Pp cells E0 (if t = true then Pt else Pp) us ∧ ∀ j u, us[j]? = some u → w.cell? (A.add j) = some u)
  | .fn f caps, ρ, Pt, v => ∃ us : Array Value, v = .func (.func f) #[] us ∧ VRsi w Pp caps ρ Pt us.toList
  | .nili, _, _, v => v = .nilIface
  | .ifc, _, _, v => ∃ t x, v = .iface t x
  | .un, _, _, v => v = undef
  | .dk k, _, _, v => k = 0 ∧ ∃ b n c, v = .slice b n c
  | .agg cs, ρ, Pt, v => ∃ us : Array Value, v = .agg us ∧ VRsi w Pp cs ρ Pt us.toList
  | .tup cs, ρ, Pt, v => ∃ us : Array Value, v = .tuple us ∧ VRsi w Pp cs ρ Pt us.toList
def VRsi (w : World) (Pp : Nat → Prop) : List GV → Map → (Nat → Prop) → List Value → Prop
  | [], _, _, us => us = []
  | g :: gs, ρ, Pt, us => ∃ u us', us = u :: us' ∧ VRi w Pp g ρ Pt u ∧ VRsi w Pp gs ρ Pt us'
end
abbrev VR (w : World) (ρ : Map) (Pp : Nat → Prop) (g : GV) (Pt : Nat → Prop) (v : Value) : Prop := VRi w Pp g ρ Pt v
abbrev VRs (w : World) (ρ : Map) (Pp : Nat → Prop) (g : List GV) (Pt : Nat → Prop) (v : List Value) : Prop := VRsi w Pp g ρ Pt v

structure Keep (w : World) (ρ : Map) (Pp : Nat → Prop) (w' : World) (ρ' : Map) (Pp' : Nat → Prop) : Prop where
  rsz : ∀ c R, rsz w c = some R → rsz w' c = some R
  rho : ∀ i n loc, ρ i n = some loc → ρ' i n = some loc
  pp : ∀ c, Pp c → Pp' c

theorem Keep.refl (w : World) (ρ : Map) (Pp : Nat → Prop) : Keep w ρ Pp w ρ Pp := ⟨fun _ _ h => h, fun _ _ _ h => h, fun _ h => h⟩
theorem Keep.trans {w w1 w2 : World} {ρ ρ1 ρ2 : Map} {Pp P1 P2 : Nat → Prop} (h : Keep w ρ Pp w1 ρ1 P1) (k : Keep w1 ρ1 P1 w2 ρ2 P2) : Keep w ρ Pp w2 ρ2 P2 :=
  ⟨fun c R e => k.rsz c R (h.rsz c R e), fun i n l e => k.rho i n l (h.rho i n l e), fun c e => k.pp c (h.pp c e)⟩

theorem Keep.e0 {w w' : World} {ρ ρ' : Map} {Pp Pp' : Nat → Prop} (h : Keep w ρ Pp w' ρ' Pp') (σ : Map) : Keep w E0 Pp w' σ Pp' := ⟨h.rsz, fun _ _ _ e => by simp [E0] at e, h.pp⟩

theorem cell_of_heap {w w' : World} {A : Addr} (h : w'.heap[A.block]? = w.heap[A.block]?) : w'.cell? A = w.cell? A := by
  unfold World.cell?
  rw [h]

theorem add_block (A : Addr) (j : Nat) : (A.add j).block = A.block := by unfold Addr.add; split <;> rfl

mutual
theorem VRi_mono {w w' : World} {Pp Pp' : Nat → Prop} : ∀ (g : GV) (ρ ρ' : Map) (hk : Keep w ρ Pp w' ρ' Pp') (Pt Pt' : Nat → Prop) (v : Value), (∀ c, Pt c → Pt' c ∨ Pp' c) → (∀ c, Pp c ∨ Pt c → w'.heap[c]? = w.heap[c]?) → VRi w Pp g ρ Pt v → VRi w' Pp' g ρ' Pt' v
  | .int _ _, _, _, _, _, _, _, _, _, h => h
  | .bool _, _, _, _, _, _, _, _, _, h => h
  | .str _, _, _, _, _, _, _, _, _, h => h
  | .nilp, _, _, _, _, _, _, _, _, h => h
  | .nils, _, _, _, _, _, _, _, _, h => h
  | .emp, _, _, _, _, _, _, _, _, h => h
  | .nili, _, _, _, _, _, _, _, _, h => h
  | .ifc, _, _, _, _, _, _, _, _, h => h
  | .un, _, _, _, _, _, _, _, _, h => h
  | .dk _, _, _, _, _, _, _, _, _, h => h
  | .ptr i off tot, ρ, ρ', hk, _, _, v, _, _, h => by
    obtain ⟨c, sh, h1, h2⟩ := h
    exact ⟨c, sh, hk.rho _ _ _ h1, h2⟩
  | .sl i off len cap es, ρ, ρ', hk, _, _, v, _, _, h => by
    obtain ⟨c, sh, A, cap', h1, h2, h3, h4, h5⟩ := h
    refine ⟨c, sh, A, cap', hk.rho _ _ _ h1, h2, h3, h4, ?_⟩
    rcases h5 with h5 | ⟨h5, R, h6, h7⟩
    · exact .inl h5
    · exact .inr ⟨h5, R, hk.rsz _ _ h6, h7⟩
  | .fp t cells, ρ, ρ', hk, Pt, Pt', v, ht, hb, h => by
    obtain ⟨A, h1, h2⟩ := h
    refine ⟨A, h1, fun hc => ?_⟩
    obtain ⟨h3, us, h4, h5⟩ := h2 hc
    have hbl : w'.heap[A.block]? = w.heap[A.block]? := hb _ (by by_cases c : t = true <;> simp [c] at h3 <;> first | exact h3.symm | exact .inl h3)
    refine ⟨by by_cases c : t = true <;> simp [c] at h3 ⊢ <;> first | exact h3.elim (fun e => ht _ e) (fun e => .inr (hk.pp _ e)) | exact hk.pp _ h3, us, ?_, fun j u hj => ?_⟩
    · exact VRsi_mono cells _ _ (hk.e0 _) _ _ us (fun c hc => by by_cases e : t = true <;> simp [e] at hc ⊢ <;> first | exact ht _ hc | exact .inl (hk.pp _ hc) | exact hk.pp _ hc) (fun c hc => hb c (by by_cases e : t = true <;> simp [e] at hc <;> simp [hc])) h4
    · rw [cell_of_heap (w := w) (by rw [add_block]; exact hbl)]
      exact h5 j u hj
  | .fz t n es cells, ρ, ρ', hk, Pt, Pt', v, ht, hb, h => by
    rcases h with h | ⟨A, cap', h1, h1a, h1b, h2⟩
    · exact .inl h
    refine .inr ⟨A, cap', h1, h1a, h1b, fun hc => ?_⟩
    obtain ⟨h3, us, h4, h5⟩ := h2 hc
    have hbl : w'.heap[A.block]? = w.heap[A.block]? := hb _ (by by_cases c : t = true <;> simp [c] at h3 <;> first | exact h3.symm | exact .inl h3)
    refine ⟨by by_cases c : t = true <;> simp [c] at h3 ⊢ <;> first | exact h3.elim (fun e => ht _ e) (fun e => .inr (hk.pp _ e)) | exact hk.pp _ h3, us, ?_, fun j u hj => ?_⟩
    · exact VRsi_mono cells _ _ (hk.e0 _) _ _ us (fun c hc => by by_cases e : t = true <;> simp [e] at hc ⊢ <;> first | exact ht _ hc | exact .inl (hk.pp _ hc) | exact hk.pp _ hc) (fun c hc => hb c (by by_cases e : t = true <;> simp [e] at hc <;> simp [hc])) h4
    · rw [cell_of_heap (w := w) (by rw [add_block]; exact hbl)]
      exact h5 j u hj
  | .fn f caps, ρ, ρ', hk, _, _, v, ht, hb, h => by
    obtain ⟨us, h1, h2⟩ := h
    exact ⟨us, h1, VRsi_mono caps _ _ hk _ _ _ ht hb h2⟩
  | .agg cs, ρ, ρ', hk, _, _, v, ht, hb, h => by
    obtain ⟨us, h1, h2⟩ := h
    exact ⟨us, h1, VRsi_mono cs _ _ hk _ _ _ ht hb h2⟩
  | .tup cs, ρ, ρ', hk, _, _, v, ht, hb, h => by
    obtain ⟨us, h1, h2⟩ := h
    exact ⟨us, h1, VRsi_mono cs _ _ hk _ _ _ ht hb h2⟩
theorem VRsi_mono {w w' : World} {Pp Pp' : Nat → Prop} : ∀ (gs : List GV) (ρ ρ' : Map) (hk : Keep w ρ Pp w' ρ' Pp') (Pt Pt' : Nat → Prop) (us : List Value), (∀ c, Pt c → Pt' c ∨ Pp' c) → (∀ c, Pp c ∨ Pt c → w'.heap[c]? = w.heap[c]?) → VRsi w Pp gs ρ Pt us → VRsi w' Pp' gs ρ' Pt' us
  | [], _, _, _, _, _, _, _, _, h => h
  | g :: gs, ρ, ρ', hk, _, _, us, ht, hb, h => by
    obtain ⟨u, us', h1, h2, h3⟩ := h
    exact ⟨u, us', h1, VRi_mono g _ _ hk _ _ u ht hb h2, VRsi_mono gs _ _ hk _ _ us' ht hb h3⟩
end

theorem VR_mono {w w' : World} {ρ ρ' : Map} {Pp Pp' : Nat → Prop} (hk : Keep w ρ Pp w' ρ' Pp') (g : GV) (Pt Pt' : Nat → Prop) (v : Value) (ht : ∀ c, Pt c → Pt' c ∨ Pp' c) (hb : ∀ c, Pp c ∨ Pt c → w'.heap[c]? = w.heap[c]?) (h : VR w ρ Pp g Pt v) : VR w' ρ' Pp' g Pt' v := VRi_mono g ρ ρ' hk Pt Pt' v ht hb h
theorem VRs_mono {w w' : World} {ρ ρ' : Map} {Pp Pp' : Nat → Prop} (hk : Keep w ρ Pp w' ρ' Pp') (gs : List GV) (Pt Pt' : Nat → Prop) (us : List Value) (ht : ∀ c, Pt c → Pt' c ∨ Pp' c) (hb : ∀ c, Pp c ∨ Pt c → w'.heap[c]? = w.heap[c]?) (h : VRs w ρ Pp gs Pt us) : VRs w' ρ' Pp' gs Pt' us := VRsi_mono gs ρ ρ' hk Pt Pt' us ht hb h

section
variable {w : World} {ρ : Map} {Pp Pt : Nat → Prop}

theorem VRs_len : ∀ {gs : List GV} {us : List Value}, VRs w ρ Pp gs Pt us → us.length = gs.length
  | [], _, h => by simp [VRs, VRsi] at h; simp [h]
  | g :: gs, us, h => by
    obtain ⟨u, us', rfl, _, h3⟩ := h
    simp [VRs_len h3]
theorem VRs_get : ∀ {gs : List GV} {us : List Value}, VRs w ρ Pp gs Pt us → ∀ (j : Nat) (g : GV), gs[j]? = some g → ∃ u, us[j]? = some u ∧ VR w ρ Pp g Pt u
  | [], _, _, j, g, e => by simp at e
  | g :: gs, us, h, j, g', e => by
    obtain ⟨u, us', rfl, h2, h3⟩ := h
    cases j with
    | zero => simp at e; subst e; exact ⟨u, rfl, h2⟩
    | succ j => simpa using VRs_get h3 j g' (by simpa using e)
theorem VRs_of : ∀ {gs : List GV} {us : List Value}, us.length = gs.length → (∀ (j : Nat) (g : GV) (u : Value), gs[j]? = some g → us[j]? = some u → VR w ρ Pp g Pt u) → VRs w ρ Pp gs Pt us
  | [], us, hl, _ => by simp at hl; simp [VRs, VRsi, hl]
  | g :: gs, [], hl, _ => by simp at hl
  | g :: gs, u :: us, hl, h => ⟨u, us, rfl, h 0 g u rfl rfl, VRs_of (by simpa using hl) (fun j g u e1 e2 => h (j + 1) g u (by simpa using e1) (by simpa using e2))⟩
theorem VRs_append {gs gs' : List GV} {us us' : List Value} (h : VRs w ρ Pp gs Pt us) (h' : VRs w ρ Pp gs' Pt us') : VRs w ρ Pp (gs ++ gs') Pt (us ++ us') := by
  induction gs generalizing us with
  | nil => simp [VRs, VRsi] at h; simpa [h] using h'
  | cons g gs ih =>
    obtain ⟨u, us1, rfl, h2, h3⟩ := h
    exact ⟨u, us1 ++ us', rfl, h2, ih h3⟩
theorem VRs_take {gs : List GV} {us : List Value} (n : Nat) (h : VRs w ρ Pp gs Pt us) : VRs w ρ Pp (gs.take n) Pt (us.take n) := by
  have hl := VRs_len h
  refine VRs_of (by simp [hl]) fun j g u e1 e2 => ?_
  rw [List.getElem?_take] at e1 e2
  split at e1
  · rename_i hj
    rw [if_pos hj] at e2
    obtain ⟨u', h1, h2⟩ := VRs_get h j g e1
    rw [h1] at e2
    cases e2
    exact h2
  · cases e1
theorem VRs_drop {gs : List GV} {us : List Value} (n : Nat) (h : VRs w ρ Pp gs Pt us) : VRs w ρ Pp (gs.drop n) Pt (us.drop n) := by
  have hl := VRs_len h
  refine VRs_of (by simp [hl]) fun j g u e1 e2 => ?_
  rw [List.getElem?_drop] at e1 e2
  obtain ⟨u', h1, h2⟩ := VRs_get h _ g e1
  rw [h1] at e2
  cases e2
  exact h2

theorem VR_ofC {v : Value} {g : GV} (h : ofC v = some g) : VR w ρ Pp g Pt v := by
  unfold ofC at h
  split at h <;> first | (cases h; simp [VR, VRi]) | cases h
theorem VRs_ofC : ∀ {vs : List Value} {gs : List GV}, vs.mapM ofC = some gs → VRs w ρ Pp gs Pt vs
  | [], gs, h => by simp at h; subst h; simp [VRs, VRsi]
  | v :: vs, gs, h => by
    simp only [List.mapM_cons, Option.bind_eq_bind, obsi, Option.pure_def, Option.some.injEq] at h
    obtain ⟨g, h1, gs', h2, rfl⟩ := h
    exact ⟨v, vs, rfl, VR_ofC h1, VRs_ofC h2⟩
theorem VR_ofV {v : Value} {g : GV} (h : ofV v = some g) : VR w ρ Pp g Pt v := by
  unfold ofV at h
  split at h
  · rename_i cs
    rw [Option.map_eq_some_iff] at h
    obtain ⟨gs, h1, rfl⟩ := h
    exact ⟨cs, rfl, VRs_ofC h1⟩
  · exact VR_ofC h

theorem VR_cells {g : GV} {v : Value} (h : VR w ρ Pp g Pt v) : VRs w ρ Pp g.cells Pt v.cells.toList := by
  cases g with
  | agg cs =>
    obtain ⟨us, rfl, h2⟩ := h
    exact h2
  | int k n => simp only [VR, VRi] at h; subst h; exact ⟨_, [], rfl, rfl, rfl⟩
  | bool k => simp only [VR, VRi] at h; subst h; exact ⟨_, [], rfl, rfl, rfl⟩
  | str k => simp only [VR, VRi] at h; subst h; exact ⟨_, [], rfl, rfl, rfl⟩
  | nilp => simp only [VR, VRi] at h; subst h; exact ⟨_, [], rfl, rfl, rfl⟩
  | nils => simp only [VR, VRi] at h; subst h; exact ⟨_, [], rfl, rfl, rfl⟩
  | nili => simp only [VR, VRi] at h; subst h; exact ⟨_, [], rfl, rfl, rfl⟩
  | un => simp only [VR, VRi] at h; subst h; exact ⟨_, [], rfl, rfl, rfl⟩
  | ptr i off tot =>
    have h' := h
    obtain ⟨c, sh, h1, rfl⟩ := h
    exact ⟨_, [], rfl, h', rfl⟩
  | emp =>
    have h' := h
    rcases h with rfl | ⟨c, rfl⟩ <;> exact ⟨_, [], rfl, h', rfl⟩
  | ifc =>
    have h' := h
    obtain ⟨c, x, rfl⟩ := h
    exact ⟨_, [], rfl, h', rfl⟩
  | dk k =>
    have h' := h
    obtain ⟨_, b, n, c, rfl⟩ := h
    exact ⟨_, [], rfl, h', rfl⟩
  | fp t cells =>
    have h' := h
    obtain ⟨c, rfl, _⟩ := h
    exact ⟨_, [], rfl, h', rfl⟩
  | sl i off len cap es =>
    have h' := h
    obtain ⟨c, sh, A, cap', _, rfl, _⟩ := h
    exact ⟨_, [], rfl, h', rfl⟩
  | fz t n es cells =>
    have h' := h
    rcases h with ⟨_, _, _, rfl⟩ | ⟨A, cap', rfl, _⟩ <;> exact ⟨_, [], rfl, h', rfl⟩
  | fn f caps =>
    have h' := h
    obtain ⟨us, rfl, _⟩ := h
    exact ⟨_, [], rfl, h', rfl⟩
  | tup vs =>
    have h' := h
    obtain ⟨us, rfl, _⟩ := h
    exact ⟨_, [], rfl, h', rfl⟩

theorem isCell_one {g : GV} {v : Value} (h : VR w ρ Pp g Pt v) (hc : g.isCell = true) : v.oneCell' = true := by
  cases g with
  | agg cs => simp [GV.isCell] at hc
  | tup cs => simp [GV.isCell] at hc
  | un => simp [GV.isCell] at hc
  | dk k => simp [GV.isCell] at hc
  | int k n => simp only [VR, VRi] at h; subst h; rfl
  | bool k => simp only [VR, VRi] at h; subst h; rfl
  | str k => simp only [VR, VRi] at h; subst h; rfl
  | nilp => simp only [VR, VRi] at h; subst h; rfl
  | nils => simp only [VR, VRi] at h; subst h; rfl
  | nili => simp only [VR, VRi] at h; subst h; rfl
  | ptr i off tot => obtain ⟨c, sh, h1, rfl⟩ := h; rfl
  | emp => rcases h with rfl | ⟨c, rfl⟩ <;> rfl
  | ifc => obtain ⟨c, x, rfl⟩ := h; rfl
  | fp t cells => obtain ⟨c, rfl, _⟩ := h; rfl
  | sl i off len cap es => obtain ⟨c, sh, A, cap', _, rfl, _⟩ := h; rfl
  | fz t n es cells => rcases h with ⟨_, _, _, rfl⟩ | ⟨A, cap', rfl, _⟩ <;> rfl
  | fn f caps => obtain ⟨us, rfl, _⟩ := h; rfl
end

structure GL (w : World) (Pp : Nat → Prop) : Prop where
  base : ∃ W0, Base W0 ∧ (∀ c, c < W0.heap.size → Pp c) ∧ Below W0.heap.size W0 w
  gl : ∀ g cells, globs g = some cells → cells ≠ [] ∧ VR w E0 Pp (.fp false cells) (fun _ => False) (.pointer (some ⟨g, 0, none⟩))
theorem GL.mono {w w' : World} {ρ ρ' : Map} {Pp Pp' : Nat → Prop} (h : GL w Pp) (hk : Keep w ρ Pp w' ρ' Pp') (ho : w'.os = w.os) (ht : w'.tape = w.tape) (hu : w'.output = w.output) (hs : w.heap.size ≤ w'.heap.size) (hb : ∀ c, Pp c → w'.heap[c]? = w.heap[c]?) : GL w' Pp' := by
  refine ⟨?_, fun g cells e => ⟨(h.gl g cells e).1, VR_mono (hk.e0 E0) _ _ _ _ (fun _ h => .inl h) (fun c hc => hb c (hc.resolve_right id)) (h.gl g cells e).2⟩⟩
  obtain ⟨W0, h1, h2, h3⟩ := h.base
  exact ⟨W0, h1, fun c hc => hk.pp c (h2 c hc), ho.trans h3.os, ht.trans h3.tape, hu.trans h3.output, Nat.le_trans h3.size hs, fun c hc => (hb c (h2 c hc)).trans (h3.block c hc)⟩
theorem GL.start {W : World} (hb : Base W) (h : ∀ g, globs g = Option.none) : GL W (fun c => c < W.heap.size) :=
  ⟨⟨W, hb, fun _ h => h, Below.refl _ _⟩, fun g cells e => by rw [h g] at e; cases e⟩

def BR (w : World) (ρ : Map) (Pp Pt : Nat → Prop) (cs : List GV) (loc : Nat × Nat) : Prop :=
  ∃ rc ty lo hi, w.heap[loc.1]? = some (.cells rc ty (lo, hi)) ∧ loc.2 + cs.length ≤ rc.size ∧ (∀ o, o < rc.size → ¬(lo ≤ o ∧ o < hi)) ∧
    ∀ j g, cs[j]? = some g → ∃ u, rc[loc.2 + j]? = some u ∧ VR w ρ Pp g Pt u

def HB (w : World) (ρ : Map) (Pp Pt : Nat → Prop) (h : Heap) (i : Nat) : Prop :=
  ∀ cs, h[i]? = some cs → (∃ loc, ρ i cs.length = some loc ∧ BR w ρ Pp Pt cs loc ∧ ¬ Pp loc.1 ∧ ¬ Pt loc.1) ∧ ∀ m, cs.length < m → ρ i m = none

def At (ρ : Map) (h : Heap) (i : Nat) (c : Nat) : Prop := ∃ cs loc, h[i]? = some cs ∧ ρ i cs.length = some loc ∧ loc.1 = c

structure Step (Pt : Nat → Prop) (w : World) (ρ : Map) (Pp : Nat → Prop) (h : Heap) (lg : Lg) (w' : World) (ρ' : Map) (Pp' : Nat → Prop) (h' : Heap) : Prop where
  os : w'.os = w.os
  tape : w'.tape = w.tape
  output : w'.output = w.output
  size : w.heap.size ≤ w'.heap.size
  keep : Keep w ρ Pp w' ρ' Pp'
  kept : ∀ c, c < w.heap.size → (∀ i, i ∈ lg.w → ¬ At ρ h i c) → w'.heap[c]? = w.heap[c]?
  ppnew : ∀ c, Pp' c → Pp c ∨ (w.heap.size ≤ c ∧ c < w'.heap.size)
  rhoold : ∀ i n, (i < h.length ∧ i ∉ lg.w) ∨ h'.length ≤ i → ρ' i n = ρ i n
  hlen : h.length ≤ h'.length
  hkeep : ∀ i, i < h.length → i ∉ lg.w → h'[i]? = h[i]?
  blocks : ∀ i, (i ∈ lg.w ∨ (h.length ≤ i ∧ i < h'.length)) → HB w' ρ' Pp' Pt h' i
  fresh : ∀ i c, (i ∈ lg.w ∨ (h.length ≤ i ∧ i < h'.length)) → At ρ' h' i c → (w.heap.size ≤ c ∧ c < w'.heap.size) ∨ At ρ h i c
  inj : ∀ i j c, (h.length ≤ i ∧ i < h'.length ∨ i ∈ lg.w) → (h.length ≤ j ∧ j < h'.length ∨ j ∈ lg.w) → i ≠ j → At ρ' h' i c → At ρ' h' j c → c < w.heap.size

end Go.Proofs.Ytlbnioapepelnaa.G

namespace Go.Proofs.Ytlbnioapepelnaa.G
open Go.RowKit

structure Pre (Pt : Nat → Prop) (w : World) (ρ : Map) (Pp : Nat → Prop) (h : Heap) (F : Nat → Prop) (N : Nat) : Prop where
  lt : ∀ c, Pp c ∨ Pt c → c < w.heap.size
  hb : ∀ i, F i → HB w ρ Pp Pt h i
  inj : ∀ i j c, F i → F j → i ≠ j → At ρ h i c → ¬ At ρ h j c
  nw : ∀ i n, h.length ≤ i → i < N → ρ i n = none
  gl : GL w Pp

section
variable {Pt Pp : Nat → Prop} {w : World} {ρ : Map} {h : Heap} {F : Nat → Prop} {N : Nat}

theorem Pre.sub {F' : Nat → Prop} (p : Pre Pt w ρ Pp h F N) (hs : ∀ i, F' i → F i) : Pre Pt w ρ Pp h F' N :=
  ⟨p.lt, fun i hi => p.hb i (hs i hi), fun i j c hi hj => p.inj i j c (hs i hi) (hs j hj), p.nw, p.gl⟩
theorem Pre.less {N' : Nat} (p : Pre Pt w ρ Pp h F N) (hs : N' ≤ N) : Pre Pt w ρ Pp h F N' :=
  ⟨p.lt, p.hb, p.inj, fun i n h1 h2 => p.nw i n h1 (by omega), p.gl⟩

theorem At.lt {i c : Nat} (hb : HB w ρ Pp Pt h i) (ha : At ρ h i c) : c < w.heap.size ∧ ¬ Pp c ∧ ¬ Pt c := by
  obtain ⟨cs, loc, h1, h2, rfl⟩ := ha
  obtain ⟨⟨loc', h3, ⟨rc, ty, lo, hi, h4, _⟩, h5, h6⟩, _⟩ := hb cs h1
  rw [h2] at h3
  cases h3
  exact ⟨(Array.getElem?_eq_some_iff.1 h4).1, h5, h6⟩

variable {lg : Lg} {w' : World} {ρ' : Map} {Pp' : Nat → Prop} {h' : Heap}

theorem Step.stays (st : Step Pt w ρ Pp h lg w' ρ' Pp' h') (p : Pre Pt w ρ Pp h F N) (hF : ∀ i, i ∈ lg.w → F i) : ∀ c, Pp c ∨ Pt c → w'.heap[c]? = w.heap[c]? := fun c hc =>
  st.kept c (p.lt c hc) fun i hi ha => by
    have := (At.lt (p.hb i (hF i hi)) ha).2
    rcases hc with hc | hc
    · exact this.1 hc
    · exact this.2 hc

theorem Step.val (st : Step Pt w ρ Pp h lg w' ρ' Pp' h') (p : Pre Pt w ρ Pp h F N) (hF : ∀ i, i ∈ lg.w → F i) {g : GV} {v : Value} (hv : VR w ρ Pp g Pt v) : VR w' ρ' Pp' g Pt v :=
  VR_mono st.keep g Pt Pt v (fun _ h => .inl h) (st.stays p hF) hv
theorem Step.block (st : Step Pt w ρ Pp h lg w' ρ' Pp' h') (p : Pre Pt w ρ Pp h F N) (hF : ∀ i, i ∈ lg.w → F i) {i : Nat} (hi : F i) (hlt : i < h.length) (hw : i ∉ lg.w) : HB w' ρ' Pp' Pt h' i := by
  intro cs hcs
  rw [st.hkeep i hlt hw] at hcs
  obtain ⟨⟨loc, h1, ⟨rc, ty, lo, hi', h4, h5, h6, h7⟩, h8, h9⟩, h10⟩ := p.hb i hi cs hcs
  have hr : ∀ n, ρ' i n = ρ i n := fun n => st.rhoold i n (.inl ⟨hlt, hw⟩)
  have hc : loc.1 < w.heap.size := (Array.getElem?_eq_some_iff.1 h4).1
  refine ⟨⟨loc, by rw [hr]; exact h1, ⟨rc, ty, lo, hi', ?_, h5, h6, fun j g hg => ?_⟩, fun hp => ?_, h9⟩, fun m hm => by rw [hr]; exact h10 m hm⟩
  · rw [st.kept loc.1 hc fun j hj ha => ?_]
    · exact h4
    · exact p.inj i j loc.1 hi (hF j hj) (fun e => hw (e ▸ hj)) ⟨cs, loc, hcs, h1, rfl⟩ ha
  · obtain ⟨u, h11, h12⟩ := h7 j g hg
    exact ⟨u, h11, st.val p hF h12⟩
  · rcases st.ppnew _ hp with h | h
    · exact h8 h
    · omega

theorem Step.at_old (st : Step Pt w ρ Pp h lg w' ρ' Pp' h') {i c : Nat} (hlt : i < h.length) (hw : i ∉ lg.w) : At ρ' h' i c ↔ At ρ h i c := by
  unfold At
  rw [st.hkeep i hlt hw]
  simp only [st.rhoold i _ (.inl ⟨hlt, hw⟩)]

theorem At.bound {i c : Nat} (ha : At ρ h i c) : i < h.length := by
  obtain ⟨cs, loc, h1, _⟩ := ha
  exact (List.getElem?_eq_some_iff.1 h1).1

theorem Step.after (st : Step Pt w ρ Pp h lg w' ρ' Pp' h') (p : Pre Pt w ρ Pp h F N) (hF : ∀ i, i ∈ lg.w → F i) : Pre Pt w' ρ' Pp' h' F N := by
  refine ⟨fun c hc => ?_, fun i hi => ?_, fun i j c hi hj hne ha hb => ?_, fun i n h1 h2 => ?_, p.gl.mono st.keep st.os st.tape st.output st.size fun c hc => st.stays p hF c (.inl hc)⟩
  · have := st.size
    rcases hc with hc | hc
    · rcases st.ppnew c hc with h | h
      · have := p.lt c (.inl h); omega
      · exact h.2
    · have := p.lt c (.inr hc); omega
  · by_cases hw : i ∈ lg.w
    · exact st.blocks i (.inl hw)
    · by_cases hlt : i < h.length
      · exact st.block p hF hi hlt hw
      · intro cs hcs
        exact st.blocks i (.inr ⟨by omega, (List.getElem?_eq_some_iff.1 hcs).1⟩) cs hcs
  · have bi := ha.bound
    have bj := hb.bound
    -- a written or new one lies in new memory, or where it was
    have key : ∀ i, F i → i < h'.length → At ρ' h' i c → At ρ h i c ∨ (w.heap.size ≤ c ∧ (i ∈ lg.w ∨ h.length ≤ i)) := by
      intro i hi hb ha
      by_cases hw : i ∈ lg.w
      · rcases st.fresh i c (.inl hw) ha with h | h
        · exact .inr ⟨h.1, .inl hw⟩
        · exact .inl h
      · by_cases hlt : i < h.length
        · exact .inl ((st.at_old hlt hw).1 ha)
        · rcases st.fresh i c (.inr ⟨by omega, hb⟩) ha with h | h
          · exact .inr ⟨h.1, .inr (by omega)⟩
          · exact .inl h
    rcases key i hi bi ha with h1 | ⟨h1, h1'⟩
    · rcases key j hj bj hb with h2 | ⟨h2, _⟩
      · exact p.inj i j c hi hj hne h1 h2
      · have := (At.lt (p.hb i hi) h1).1
        omega
    · rcases key j hj bj hb with h2 | ⟨h2, h2'⟩
      · have := (At.lt (p.hb j hj) h2).1
        omega
      · have := st.inj i j c (h1'.symm.imp (fun h => ⟨h, bi⟩) id) (h2'.symm.imp (fun h => ⟨h, bj⟩) id) hne ha hb
        omega
  · rw [st.rhoold i n (.inr h1)]
    exact p.nw i n (by have := st.hlen; omega) h2

theorem Pre.more (p : Pre Pt w ρ Pp h F N) : Pre Pt w ρ Pp h (fun i => F i ∨ h.length ≤ i) N := by
  refine ⟨p.lt, fun i hi => ?_, fun i j c hi hj hne ha hb => ?_, p.nw, p.gl⟩
  · rcases hi with hi | hi
    · exact p.hb i hi
    · intro cs hcs
      have := (List.getElem?_eq_some_iff.1 hcs).1
      omega
  · have h1 := ha.bound
    have h2 := hb.bound
    exact p.inj i j c (hi.resolve_right (by omega)) (hj.resolve_right (by omega)) hne ha hb

theorem Step.trans {lg2 : Lg} {w2 : World} {ρ2 : Map} {P2 : Nat → Prop} {h2 : Heap} (st : Step Pt w ρ Pp h lg w' ρ' Pp' h') (st2 : Step Pt w' ρ' Pp' h' lg2 w2 ρ2 P2 h2)
    (p0 : Pre Pt w ρ Pp h F N) (hF0 : ∀ i, i ∈ lg.w → F i) (hF20 : ∀ i, i ∈ lg2.w → F i ∨ h.length ≤ i) : Step Pt w ρ Pp h (lg.add lg2) w2 ρ2 P2 h2 := by
  have p := p0.more
  have hF : ∀ i, i ∈ lg.w → (F i ∨ h.length ≤ i) := fun i hi => .inl (hF0 i hi)
  have p' := st.after p hF
  have p2 := st2.after p' hF20
  have hw : ∀ i, i ∈ (lg.add lg2).w ↔ i ∈ lg.w ∨ i ∈ lg2.w := fun i => by simp [Lg.add]
  have key : ∀ i c, (i ∈ (lg.add lg2).w ∨ h.length ≤ i ∧ i < h2.length) → At ρ2 h2 i c → (w.heap.size ≤ c ∧ c < w2.heap.size) ∨ At ρ h i c := by
    intro i c hi ha
    have hs := st.size
    have hs2 := st2.size
    have first : At ρ' h' i c → (w.heap.size ≤ c ∧ c < w2.heap.size) ∨ At ρ h i c := by
      intro ha'
      by_cases h1 : i ∈ lg.w ∨ h.length ≤ i
      · rcases st.fresh i c (h1.imp id fun h => ⟨h, ha'.bound⟩) ha' with h | h
        · exact .inl ⟨h.1, by omega⟩
        · exact .inr h
      · exact .inr ((st.at_old (by omega) (fun h => h1 (.inl h))).1 ha')
    by_cases h1 : i ∈ lg2.w ∨ h'.length ≤ i
    · rcases st2.fresh i c (h1.imp id fun h => ⟨h, ha.bound⟩) ha with h | h
      · exact .inl ⟨by omega, h.2⟩
      · exact first h
    · exact first ((st2.at_old (by omega) (fun h => h1 (.inl h))).1 ha)
  have mem : ∀ i, (i ∈ (lg.add lg2).w ∨ h.length ≤ i ∧ i < h2.length) → F i ∨ h.length ≤ i := fun i hi => by
    rcases hi with hi | hi
    · rcases (hw i).1 hi with h | h
      · exact hF i h
      · exact hF20 i h
    · exact .inr hi.1
  refine ⟨st2.os.trans st.os, st2.tape.trans st.tape, st2.output.trans st.output, Nat.le_trans st.size st2.size, st.keep.trans st2.keep, fun c hc hn => ?_, fun c hc => ?_, fun i n hi => ?_, Nat.le_trans st.hlen st2.hlen, fun i hi hn => ?_, fun i hi => p2.hb i (mem i hi), key, fun i j c hi hj hne ha hb' => absurd hb' (p2.inj i j c (mem i hi.symm) (mem j hj.symm) hne ha)⟩
  · have e1 := st.kept c hc (fun i hi => hn i ((hw i).2 (.inl hi)))
    rw [← e1]
    refine st2.kept c (by have := st.size; omega) fun i hi ha => ?_
    by_cases h1 : i ∈ lg.w ∨ h.length ≤ i
    · rcases st.fresh i c (h1.imp id fun h => ⟨h, ha.bound⟩) ha with h | h
      · omega
      · exact hn i ((hw i).2 (.inr hi)) h
    · exact hn i ((hw i).2 (.inr hi)) ((st.at_old (by omega) (fun h => h1 (.inl h))).1 ha)
  · have hs := st.size
    have hs2 := st2.size
    rcases st2.ppnew c hc with h | h
    · rcases st.ppnew c h with h | h
      · exact .inl h
      · exact .inr ⟨h.1, by omega⟩
    · exact .inr ⟨by omega, h.2⟩
  · have := st.hlen
    have := st2.hlen
    rcases hi with ⟨h1, h3⟩ | h1
    · rw [st2.rhoold i n (.inl ⟨by omega, fun h => h3 ((hw i).2 (.inr h))⟩), st.rhoold i n (.inl ⟨h1, fun h => h3 ((hw i).2 (.inl h))⟩)]
    · rw [st2.rhoold i n (.inr h1), st.rhoold i n (.inr (by omega))]
  · rw [st2.hkeep i (by have := st.hlen; omega) (fun h => hn ((hw i).2 (.inr h))), st.hkeep i hi (fun h => hn ((hw i).2 (.inl h)))]

theorem Step.none (Pt : Nat → Prop) (w : World) (ρ : Map) (Pp : Nat → Prop) (h : Heap) (r : List Nat) : Step Pt w ρ Pp h ⟨r, []⟩ w ρ Pp h :=
  ⟨rfl, rfl, rfl, Nat.le_refl _, Keep.refl .., fun _ _ _ => rfl, fun _ h => .inl h, fun _ _ _ => rfl, Nat.le_refl _, fun _ _ _ => rfl, fun i hi => (by rcases hi with hi | hi; exact absurd hi (by simp); omega), fun i c hi => (by rcases hi with hi | hi; exact absurd hi (by simp); omega), fun i j c hi => (by rcases hi with hi | hi; omega; exact absurd hi (by simp))⟩

theorem Step.drew (Pt : Nat → Prop) (w : World) (ρ : Map) (Pp : Nat → Prop) (h : Heap) (r : List Nat) (n : Nat) : Step Pt w ρ Pp h ⟨r, []⟩ { w with drawn := n } ρ Pp h := by
  refine ⟨rfl, rfl, rfl, Nat.le_refl _, ⟨fun _ _ h => h, fun _ _ _ h => h, fun _ h => h⟩, fun _ _ _ => rfl, fun _ h => .inl h, fun _ _ _ => rfl, Nat.le_refl _, fun _ _ _ => rfl, fun i hi => ?_, fun i c hi => ?_, fun i j c hi => ?_⟩ <;> (rcases hi with hi | hi <;> first | exact absurd hi (by simp) | omega)

end

end Go.Proofs.Ytlbnioapepelnaa.G

namespace Go.Proofs.Ytlbnioapepelnaa.G
open Go.RowKit

section
variable {P : Program} {Pt Pp : Nat → Prop} {w : World} {ρ : Map} {h : Heap}

theorem run_underlying {t : TypeId} {d : TypeDesc} (e : P.underlying t = some d) (w : World) : (underlying t).run P w = .ok d w := by
  simp [underlying, e]
theorem run_typeInfo {t : TypeId} {d : TypeInfo} (e : P.info? t = some d) (w : World) : (typeInfo t).run P w = .ok d w := by
  simp [typeInfo, e]
theorem run_sizeOf {t : TypeId} {n : Nat} (e : gsize P t = some n) (w : World) : (sizeOf t).run P w = .ok n w := by
  unfold gsize at e
  obtain ⟨i, h1, rfl⟩ := Option.map_eq_some_iff.1 e
  simp [sizeOf, run_typeInfo h1]
theorem run_isAgg {t : TypeId} {b : Bool} (e : gagg P t = some b) (w : World) : (isAgg t).run P w = .ok b w := by
  unfold gagg at e
  unfold isAgg
  cases hu : P.underlying t with
  | none => rw [hu] at e; cases e
  | some d =>
    rw [hu] at e
    rw [Sem.run_bind, run_underlying hu]
    cases d <;> simp at e ⊢ <;> exact e
theorem cellsAt_eq {i tot : Nat} {cs : List GV} (e : cellsAt h i tot = some cs) : h[i]? = some cs ∧ cs.length = tot := by
  unfold cellsAt at e
  split at e
  · rename_i cs' h1
    cases hb : Nat.beq cs'.length tot with
    | false => rw [hb] at e; cases e
    | true => rw [hb] at e; cases e; exact ⟨h1, Nat.eq_of_beq_eq_true hb⟩
  · cases e

theorem cells_at {i tot c sh : Nat} {cs : List GV} (e : cellsAt h i tot = some cs) (hb : HB w ρ Pp Pt h i) (hr : ρ i tot = some (c, sh)) : BR w ρ Pp Pt cs (c, sh) ∧ ¬ Pp c ∧ ¬ Pt c := by
  obtain ⟨h1, h2⟩ := cellsAt_eq e
  obtain ⟨⟨loc, h3, h4, h5, h6⟩, _⟩ := hb cs h1
  rw [h2, hr] at h3
  cases h3
  exact ⟨h4, h5, h6⟩

theorem BR_cells {cs : List GV} {c sh : Nat} (b : BR w ρ Pp Pt cs (c, sh)) (off n : Nat) (hn : off + n ≤ cs.length) :
    ∃ us : List Value, VRs w ρ Pp ((cs.drop off).take n) Pt us ∧ ∀ (j : Nat) (u : Value), us[j]? = some u → w.cell? ((⟨c, sh + off, none⟩ : Addr).add j) = some u := by
  obtain ⟨rc, ty, lo, hi, h1, h2, h3, h4⟩ := b
  refine ⟨(List.range n).map fun j => (rc[sh + (off + j)]?).getD undef, VRs_of (by simp; omega) fun j g u e1 e2 => ?_, fun j u e => ?_⟩
  · rw [List.getElem?_take] at e1
    split at e1
    · rw [List.getElem?_drop] at e1
      obtain ⟨u', h5, h6⟩ := h4 (off + j) g e1
      rw [List.getElem?_map, List.getElem?_range (by omega)] at e2
      simp only [Option.map_some, Option.some.injEq] at e2
      rw [h5] at e2
      simp only [Option.getD_some] at e2
      rw [← e2]; exact h6
    · cases e1
  · have hj : j < n := by
      have := (List.getElem?_eq_some_iff.1 e).1
      simpa using this
    rw [List.getElem?_map, List.getElem?_range hj] at e
    simp only [Option.map_some, Option.some.injEq] at e
    rw [RowAdd c (sh + off) j]
    rw [cell_of_row w c _ rc ty (lo, hi) h1]
    have : sh + off + j < rc.size := by omega
    rw [show sh + (off + j) = sh + off + j by omega] at e
    rw [Array.getElem?_eq_getElem this] at e ⊢
    simpa using e
where RowAdd (c o j : Nat) : (⟨c, o, none⟩ : Addr).add j = ⟨c, o + j, none⟩ := by unfold Addr.add; split <;> simp_all

theorem addr_add (c o j : Nat) : (⟨c, o, none⟩ : Addr).add j = ⟨c, o + j, none⟩ := by unfold Addr.add; split <;> simp_all

theorem gread_run {a : GV} {n : Nat} {cs : List GV} {r : List Nat} {v : Value} (e : gread h a n = some (cs, r)) (hv : VR w ρ Pp a Pt v) (hb : ∀ i, i ∈ r → HB w ρ Pp Pt h i) :
    ∃ A us, v = .pointer (some A) ∧ VRs w ρ Pp cs Pt us ∧ cs.length = n ∧ ∀ (j : Nat) (u : Value), us[j]? = some u → w.cell? (A.add j) = some u := by
  unfold gread at e
  split at e
  · rename_i i off tot
    simp only [Option.bind_eq_bind, obsi] at e
    obtain ⟨cs0, h1, h2⟩ := e
    split at h2
    · rename_i hn
      cases h2
      obtain ⟨c, sh, h3, rfl⟩ := hv
      obtain ⟨us, h4, h5⟩ := BR_cells (cells_at h1 (hb i (by simp)) h3).1 off n hn
      exact ⟨_, us, rfl, h4, by simp; omega, h5⟩
    · cases h2
  · rename_i t cells
    split at e
    · rename_i hn
      cases e
      obtain ⟨A, rfl, h2⟩ := hv
      by_cases hc : cells = []
      · subst hc
        exact ⟨A, [], rfl, by simp [VRs, VRsi], by simp at hn ⊢; omega, fun j u hj => by simp at hj⟩
      · obtain ⟨h3, us, h4, h5⟩ := h2 hc
        refine ⟨A, us.take n, rfl, ?_, by simp; omega, fun j u hj => ?_⟩
        · have h6 := VRs_take n h4
          refine VRs_mono ((Keep.refl w ρ Pp).e0 ρ) _ _ _ _ (fun c hc => ?_) (fun c _ => rfl) h6
          by_cases e : t = true <;> simp [e] at hc <;> simp [hc]
        · rw [List.getElem?_take] at hj
          split at hj
          · exact h5 j u hj
          · cases hj
    · cases e
  · cases e
end

end Go.Proofs.Ytlbnioapepelnaa.G

namespace Go.Proofs.Ytlbnioapepelnaa.G
open Go.RowKit

section
variable {P : Program} {Pt Pp : Nat → Prop} {w : World} {ρ : Map} {h : Heap}

theorem gload_run {t : TypeId} {g v : GV} {r : List Nat} {u : Value} (e : gload P h t g = some (v, r)) (hv : VR w ρ Pp g Pt u) (hb : ∀ i, i ∈ r → HB w ρ Pp Pt h i) :
    ∃ x, (Instr.loadAt t u).run P w = .ok x w ∧ VR w ρ Pp v Pt x := by
  unfold gload at e
  simp only [Option.bind_eq_bind, obsi] at e
  obtain ⟨b, hag, e⟩ := e
  cases b with
  | true =>
    simp only [if_true, obsi, Option.some.injEq, Prod.mk.injEq] at e
    obtain ⟨n, hn, ⟨cs, r'⟩, hr, rfl, rfl⟩ := e
    obtain ⟨A, us, rfl, h2, h3, h4⟩ := gread_run hr hv hb
    have hl := VRs_len h2
    refine ⟨.agg us.toArray, ?_, ⟨us.toArray, rfl, h2⟩⟩
    have := run_loadCells_list (P := P) w A us h4
    rw [hl, h3] at this
    simp [Instr.loadAt, Instr.sureAddr, loadVar, run_isAgg hag, run_sizeOf hn, this]
  | false =>
    simp only [Bool.false_eq_true, if_false, obsi] at e
    obtain ⟨⟨cs, r'⟩, hr, e⟩ := e
    split at e
    · rename_i v' heq
      simp only [Option.some.injEq, Prod.mk.injEq] at e
      obtain ⟨rfl, rfl⟩ := e
      dsimp only at heq
      subst heq
      obtain ⟨A, us, rfl, h2, h3, h4⟩ := gread_run hr hv hb
      obtain ⟨x, us', rfl, h5, h6⟩ := h2
      have h7 := h4 0 x rfl
      have h8 : A.add 0 = A := by simp [Addr.add]
      rw [h8] at h7
      refine ⟨x, ?_, h5⟩
      simp [Instr.loadAt, Instr.sureAddr, loadVar, run_isAgg hag, run_load, h7]
    · cases e

theorem gpart_run {t : TypeId} {cs : List GV} {off : Nat} {v : GV} {us : Array Value} (e : gpart P t cs off = some v) (hv : VRs w ρ Pp cs Pt us.toList) :
    ∃ x, (part t us off).run P w = .ok x w ∧ VR w ρ Pp v Pt x := by
  unfold gpart at e
  simp only [Option.bind_eq_bind, obsi] at e
  obtain ⟨b, hag, e⟩ := e
  cases b with
  | true =>
    simp only [if_true, obsi] at e
    obtain ⟨n, hn, e⟩ := e
    split at e
    · cases e
      refine ⟨.agg (us.extract off (off + n)), by simp [part, run_isAgg hag, run_sizeOf hn], ⟨_, rfl, ?_⟩⟩
      have := VRs_take n (VRs_drop off hv)
      have e2 : (us.extract off (off + n)).toList = (us.toList.drop off).take n := by
        simp [Array.toList_extract, List.extract_eq_take_drop]
      rw [e2]
      exact this
    · cases e
  | false =>
    simp only [Bool.false_eq_true, if_false] at e
    obtain ⟨x, h1, h2⟩ := VRs_get hv off v e
    refine ⟨x, ?_, h2⟩
    have h3 : us[off]? = some x := by simpa using h1
    simp [part, run_isAgg hag, h3]

theorem geq_run : ∀ (d : Nat) (t : TypeId) (x y : GV) (b : Bool) (u v : Value) (w : World), geq P d t x y = some b → VR w ρ Pp x Pt u → VR w ρ Pp y Pt v → (Op.equalIn d t u v).run P w = .ok b w
  | 0, t, x, y, b, u, v, w, e, _, _ => by cases e
  | d + 1, t, x, y, b, u, v, w, e, hx, hy => by
    unfold geq at e
    split at e
    · rename_i hu; simp only [VR, VRi] at hx hy; subst hx; subst hy; cases e; simp [Op.equalIn, run_underlying hu]
    · rename_i hu
      split at e
      · rename_i hk; simp only [VR, VRi] at hx hy; subst hx; subst hy; subst hk; cases e; simp [Op.equalIn, run_underlying hu]
      · cases e
    · rename_i hu; simp only [VR, VRi] at hx hy; subst hx; subst hy; cases e; simp [Op.equalIn, run_underlying hu]
    · rename_i hu; simp only [VR, VRi] at hx hy; subst hx; subst hy; cases e; simp [Op.equalIn, run_underlying hu]
    · rename_i hu; simp only [VR, VRi] at hx; obtain ⟨c, sh, _, rfl⟩ := hy; subst hx; cases e; simp [Op.equalIn, run_underlying hu]
    · rename_i hu; simp only [VR, VRi] at hy; obtain ⟨c, sh, _, rfl⟩ := hx; subst hy; cases e; simp [Op.equalIn, run_underlying hu]
    · rename_i hu; simp only [VR, VRi] at hx; obtain ⟨A, rfl, _⟩ := hy; subst hx; cases e; simp [Op.equalIn, run_underlying hu]
    · rename_i hu; simp only [VR, VRi] at hy; obtain ⟨A, rfl, _⟩ := hx; subst hy; cases e; simp [Op.equalIn, run_underlying hu]
    · rename_i hu; simp only [VR, VRi] at hx hy; subst hx; subst hy; cases e; simp [Op.equalIn, run_underlying hu]
    · rename_i hu; simp only [VR, VRi] at hx; obtain ⟨c, sh, A, cap', _, rfl, _⟩ := hy; subst hx; cases e; simp [Op.equalIn, run_underlying hu]
    · rename_i hu; simp only [VR, VRi] at hx; obtain ⟨A, cap', rfl, _⟩ := hy.resolve_left (by simp); subst hx; cases e; simp [Op.equalIn, run_underlying hu]
    · rename_i hu; simp only [VR, VRi] at hy; obtain ⟨c, sh, A, cap', _, rfl, _⟩ := hx; subst hy; cases e; simp [Op.equalIn, run_underlying hu]
    · rename_i hu; simp only [VR, VRi] at hy; obtain ⟨A, cap', rfl, _⟩ := hx.resolve_left (by simp); subst hy; cases e; simp [Op.equalIn, run_underlying hu]
    · rename_i hu; simp only [VR, VRi] at hy; obtain ⟨A, cap', rfl, _⟩ := hx.resolve_left (by simp); subst hy; cases e; simp [Op.equalIn, run_underlying hu]
    · rename_i hu; simp only [VR, VRi] at hx hy; subst hx; subst hy; cases e; simp [Op.equalIn, run_underlying hu]
    · rename_i hu; simp only [VR, VRi] at hx; obtain ⟨t', x', rfl⟩ := hy; subst hx; cases e; simp [Op.equalIn, run_underlying hu]
    · rename_i hu; simp only [VR, VRi] at hy; obtain ⟨t', x', rfl⟩ := hx; subst hy; cases e; simp [Op.equalIn, run_underlying hu]
    · rename_i fs xs ys hu
      split at e
      · cases e
      · rename_i hst
        obtain ⟨us, rfl, hxs⟩ := hx
        obtain ⟨vs, rfl, hys⟩ := hy
        have hf : P.fieldsOf t = fs := by simp [Program.fieldsOf, hu]
        rw [run_equalIn_struct w d t us vs (by rw [hf]; exact hu) (by simpa using hst), hf]
        generalize fs.toList = l at e
        induction l generalizing b with
        | nil => cases e; simp [Op.eqFields]
        | cons f l ih =>
          unfold geqs at e
          unfold Op.eqFields
          split at e
          · rename_i hn
            simp only [Option.bind_eq_bind, obsi] at e
            obtain ⟨a, h1, b', h2, r, h3, e⟩ := e
            obtain ⟨p, h4, h5⟩ := gpart_run h1 hxs
            obtain ⟨q, h6, h7⟩ := gpart_run h2 hys
            have h8 := geq_run d f.type a b' r p q w h3 h5 h7
            rw [if_pos hn]
            simp only [Sem.run_bind, h4, h6, h8, Result.andThen_ok]
            cases r with
            | true =>
              simp only [Bool.not_true, Bool.false_eq_true, if_false]
              exact ih b (by simpa using e)
            | false =>
              simp only [Bool.false_eq_true, if_false, Option.some.injEq] at e
              subst e
              simp
          · rename_i hn
            rw [if_neg hn]
            exact ih b e
    · cases e

theorem ilt_eq (a b : Int) : ilt a b = decide (a < b) := by
  cases a <;> cases b <;> simp only [ilt]
  · rw [Bool.eq_iff_iff]; simp
  · symm; simp; omega
  · symm; simp; omega
  · rw [Bool.eq_iff_iff]; simp; omega

theorem gbin_run {op : BinOp} {t : TypeId} {x y r : GV} {u v : Value} (e : gbin P op t x y = some r) (hx : VR w ρ Pp x Pt u) (hy : VR w ρ Pp y Pt v) (xo yo : Operand) :
    ∃ z, (do eqGuard op t xo yo u v; binOp op t u v : Sem Value).run P w = .ok z w ∧ VR w ρ Pp r Pt z := by
  unfold gbin at e
  split at e
  · simp only [VR, VRi] at hx hy; subst hx; subst hy
    split at e
    · rename_i hb
      cases e
      refine ⟨_, ?_, rfl⟩
      simp [eqGuard, binOp, Op.shift, Int.not_lt.2 hb]
    · cases e
  · simp only [VR, VRi] at hx hy; subst hx; subst hy
    split at e
    · rename_i hb
      cases e
      refine ⟨_, ?_, rfl⟩
      simp [eqGuard, binOp, Op.shift, Int.not_lt.2 hb]
    · cases e
  · rename_i hn1 hn2
    simp only [VR, VRi] at hx hy; subst hx; subst hy
    split at e
    · rename_i hk
      subst hk
      split at e <;> first
        | (cases e; exact ⟨_, by simp [eqGuard, binOp, Op.intArith, Op.intBits, Op.intCmp, ilt_eq, ← decide_not, Int.not_lt, -Bool.not_eq_true], rfl⟩)
        | (split at e
           · cases e
           · rename_i hb
             cases e
             exact ⟨_, by simp [eqGuard, binOp, Op.intDiv, hb], rfl⟩)
        | cases e
    · cases e
  · rename_i a b
    simp only [VR, VRi] at hx hy; subst hx; subst hy
    cases op
    case add =>
      dsimp only at e
      split at e
      · rename_i hm
        cases e
        refine ⟨_, ?_, rfl⟩
        have hm' : ¬ (((a.size + b.size : Nat) : Int) > IntKind.i64.max) := by
          show ¬ (((a.size + b.size : Nat) : Int) > 9223372036854775807)
          simp only [maxLen] at hm
          omega
        simp only [eqGuard, binOp, Op.stringOp, hm', if_false]
        simp
      · cases e
    all_goals first
      | (cases e; exact ⟨_, by simp [eqGuard, binOp, Op.stringOp], rfl⟩)
      | cases e
  · cases e

theorem VR_int {x : GV} {k : IntKind} {n : Int} (h : VR w ρ Pp x Pt (.int k n)) : x = .int k n := by
  cases x <;> simp [VR, VRi, undef] at h <;> first | (obtain ⟨rfl, rfl⟩ := h; rfl) | skip
theorem VR_str {x : GV} {s : ByteArray} (h : VR w ρ Pp x Pt (.string s)) : x = .str s := by
  cases x <;> simp [VR, VRi, undef] at h <;> first | (subst h; rfl) | skip
theorem VR_nili {x : GV} (h : VR w ρ Pp x Pt .nilIface) : x = .nili := by
  cases x <;> simp [VR, VRi, undef] at h <;> rfl
theorem VR_agg {x : GV} {us : Array Value} (h : VR w ρ Pp x Pt (.agg us)) : ∃ cs, x = .agg cs := by
  cases x <;> simp [VR, VRi, undef] at h ⊢
theorem VR_float {x : GV} {k : FloatKind} {n : Nat} (h : VR w ρ Pp x Pt (.float k n)) : False := by
  cases x <;> simp [VR, VRi, undef] at h
theorem VR_complex {x : GV} {k : FloatKind} {n m : Nat} (h : VR w ρ Pp x Pt (.complex k n m)) : False := by
  cases x <;> simp [VR, VRi, undef] at h

theorem eqGuard_fine {op : BinOp} {t : TypeId} {x y : GV} {u v : Value} (xo yo : Operand) (e : gfine P t xo yo x y = true) (hx : VR w ρ Pp x Pt u) (hy : VR w ρ Pp y Pt v) :
    (eqGuard op t xo yo u v).run P w = .ok () w := by
  unfold eqGuard
  cases op <;> first
    | rfl
    | (simp only [Bool.not_true, Bool.false_eq_true, if_false, pure_bind]
       split
       · have := VR_nili ‹VR w ρ Pp x Pt .nilIface›; subst this
         have := VR_nili ‹VR w ρ Pp y Pt .nilIface›; subst this
         simp only [gfine] at e
         cases xo <;> cases yo <;> first | rfl | (simp at e)
       · obtain ⟨c1, rfl⟩ := VR_agg ‹VR w ρ Pp x Pt (.agg _)›
         obtain ⟨c2, rfl⟩ := VR_agg ‹VR w ρ Pp y Pt (.agg _)›
         simp only [gfine, Bool.not_eq_true'] at e
         simp [e]
       · simp)

theorem binOp_eql_of {t : TypeId} {u v : Value} (hi : ∀ k a k' b, u = .int k a → v = .int k' b → False) (hf : ∀ k a k' b, u = .float k a → v = .float k' b → False)
    (hc : ∀ k a a' k' b b', u = .complex k a a' → v = .complex k' b b' → False) (hs : ∀ a b, u = .string a → v = .string b → False) :
    binOp .eql t u v = (do let b ← Op.equal t u v; pure (.bool b)) ∧ binOp .neq t u v = (do let b ← Op.equal t u v; pure (.bool !b)) := by
  constructor <;>
  · unfold binOp
    split <;> first
      | exact (hi _ _ _ _ rfl rfl).elim
      | exact (hf _ _ _ _ rfl rfl).elim
      | exact (hc _ _ _ _ _ _ rfl rfl).elim
      | exact (hs _ _ rfl rfl).elim
      | rfl
      | contradiction
      | simp_all

theorem binOp_eq {op : BinOp} {t : TypeId} {x y : GV} {u v : Value} (xo yo : Operand) (e : gfine P t xo yo x y = true) (hx : VR w ρ Pp x Pt u) (hy : VR w ρ Pp y Pt v) (ho : op = .eql ∨ op = .neq) :
    binOp op t u v = (do let b ← Op.equal t u v; pure (.bool (if op = .eql then b else !b))) := by
  have := binOp_eql_of (t := t) (u := u) (v := v) (fun k a k' b e1 e2 => by
      subst e1; subst e2
      have h1 := VR_int hx; have h2 := VR_int hy; subst h1; subst h2; simp [gfine] at e)
    (fun k a k' b e1 e2 => by subst e1; exact VR_float hx)
    (fun k a a' k' b b' e1 e2 => by subst e1; exact VR_complex hx)
    (fun a b e1 e2 => by
      subst e1; subst e2
      have h1 := VR_str hx; have h2 := VR_str hy; subst h1; subst h2; simp [gfine] at e)
  rcases ho with rfl | rfl
  · rw [this.1]; simp
  · rw [this.2]; simp

theorem gbinop_run {op : BinOp} {t : TypeId} {x y r : GV} {u v : Value} (xo yo : Operand) (e : gbinop P op t xo yo x y = some r) (hx : VR w ρ Pp x Pt u) (hy : VR w ρ Pp y Pt v) :
    ∃ z, (do eqGuard op t xo yo u v; binOp op t u v : Sem Value).run P w = .ok z w ∧ VR w ρ Pp r Pt z := by
  unfold gbinop at e
  split at e
  · rename_i r' h1
    cases e
    exact gbin_run h1 hx hy xo yo
  · split at e
    · rename_i hf
      have key : ∀ b, geq P Op.maxDepth t x y = some b → (op = .eql ∨ op = .neq) →
          (do eqGuard op t xo yo u v; binOp op t u v : Sem Value).run P w = .ok (.bool (if op = .eql then b else !b)) w := by
        intro b hb ho
        have hq := geq_run Op.maxDepth t x y b u v w hb hx hy
        rw [Sem.run_bind, eqGuard_fine xo yo hf hx hy, Result.andThen_ok, binOp_eq xo yo hf hx hy ho]
        simp [Op.equal, hq]
      split at e
      · obtain ⟨b, h1, rfl⟩ := Option.map_eq_some_iff.1 e
        exact ⟨_, key b h1 (.inl rfl), by simp [VR, VRi]⟩
      · obtain ⟨b, h1, rfl⟩ := Option.map_eq_some_iff.1 e
        exact ⟨_, key b h1 (.inr rfl), by simp [VR, VRi]⟩
      · cases e
    · cases e
end

end Go.Proofs.Ytlbnioapepelnaa.G

namespace Go.Proofs.Ytlbnioapepelnaa.G
open Go.RowKit

def OpTo (P : Program) (o : Oper) (a : Act) (w : World) (R : Value → World → Prop) : Prop :=
  ∀ (K : Act → World → Prop) (Q : Exit → Act → World → Prop), (∀ u w', R u w' → K (a.put o.dst u) w') → o.wp P a w K Q

def After (Pt : Nat → Prop) (w : World) (ρ : Map) (Pp : Nat → Prop) (h : Heap) (lg : Lg) (h' : Heap) (v : GV) (u : Value) (w' : World) : Prop :=
  ∃ ρ' Pp', VR w' ρ' Pp' v Pt u ∧ Step Pt w ρ Pp h lg w' ρ' Pp' h'

section
variable {P : Program} {Pt Pp : Nat → Prop} {w : World} {ρ : Map} {h : Heap} {a : Act} {o : Oper} {σ : GS} {C : Cfg} {call : GCall}

theorem OpTo.value {R : Value → World → Prop} {u : Value} {w' : World} (e : (execOp a.eval o).run P w = .ok (.value u) w') (r : R u w') : OpTo P o a w R :=
  fun K Q hk => by unfold Oper.wp; rw [e]; exact hk u w' r
theorem OpTo.skip {R : Value → World → Prop} {w' : World} (e : (execOp a.eval o).run P w = .ok .skip w') (r : R undef w') : OpTo P o a w R :=
  fun K Q hk => by unfold Oper.wp; rw [e]; exact hk undef w' r
theorem OpTo.same {v : GV} {r : List Nat} {u : Value} (e : (execOp a.eval o).run P w = .ok (.value u) w) (hv : VR w ρ Pp v Pt u) : OpTo P o a w (After Pt w ρ Pp h ⟨r, []⟩ h v) :=
  .value e ⟨ρ, Pp, hv, Step.none ..⟩

def EV (w : World) (ρ : Map) (Pp Pt : Nat → Prop) (σ : GS) (a : Act) (x : Operand) : Prop := ∀ g, eval σ x = some g → VR w ρ Pp g Pt (a.eval x)

theorem op_move {x : Operand} {v : GV} {h' : Heap} {lg : Lg} (ho : o.op = .move x) (hx : EV w ρ Pp Pt σ a x) (e : gop P C call (eval σ) o h = some (v, h', lg)) :
    OpTo P o a w (After Pt w ρ Pp h lg h' v) := by
  simp only [gop, ho, Option.bind_eq_bind, obsi, Option.some.injEq, Prod.mk.injEq] at e
  obtain ⟨g, h1, rfl, rfl, rfl⟩ := e
  exact .same (by simp [execOp, ho]) (hx _ h1)
theorem op_assign {x : Operand} {v : GV} {h' : Heap} {lg : Lg} (ho : o.op = .assign x) (hx : EV w ρ Pp Pt σ a x) (e : gop P C call (eval σ) o h = some (v, h', lg)) :
    OpTo P o a w (After Pt w ρ Pp h lg h' v) := by
  simp only [gop, ho, Option.bind_eq_bind, obsi, Option.some.injEq, Prod.mk.injEq] at e
  obtain ⟨g, h1, rfl, rfl, rfl⟩ := e
  exact .same (by simp [execOp, ho]) (hx _ h1)
theorem op_pick {c x y : Operand} {v : GV} {h' : Heap} {lg : Lg} (ho : o.op = .pick c x y) (hc : EV w ρ Pp Pt σ a c) (hx : EV w ρ Pp Pt σ a x) (hy : EV w ρ Pp Pt σ a y) (e : gop P C call (eval σ) o h = some (v, h', lg)) :
    OpTo P o a w (After Pt w ρ Pp h lg h' v) := by
  simp only [gop, ho, Option.bind_eq_bind, obsi] at e
  obtain ⟨g, h1, e⟩ := e
  split at e
  · simp only [obsi, Option.some.injEq, Prod.mk.injEq] at e
    obtain ⟨gx, h2, gy, h3, rfl, rfl, rfl⟩ := e
    rename_i t
    have h4 := hc _ h1
    simp only [VR, VRi] at h4
    cases t with
    | true => exact .same (u := a.eval x) (by simp [execOp, ho, h4, asBool]) (hx _ h2)
    | false => exact .same (u := a.eval y) (by simp [execOp, ho, h4, asBool]) (hy _ h3)
  · cases e
theorem op_load {t : TypeId} {x : Operand} {v : GV} {h' : Heap} {lg : Lg} (ho : o.op = .load t x) (hx : EV w ρ Pp Pt σ a x) (e : gop P C call (eval σ) o h = some (v, h', lg))
    (hb : ∀ i, i ∈ lg.r → HB w ρ Pp Pt h i) : OpTo P o a w (After Pt w ρ Pp h lg h' v) := by
  simp only [gop, ho, Option.bind_eq_bind, obsi, Option.some.injEq, Prod.mk.injEq] at e
  obtain ⟨g, h1, ⟨v', r⟩, h2, rfl, rfl, rfl⟩ := e
  obtain ⟨u, h3, h4⟩ := gload_run h2 (hx _ h1) hb
  exact .same (by simp [execOp, ho, h3]) h4
theorem op_nilCheck {x : Operand} {v : GV} {h' : Heap} {lg : Lg} (ho : o.op = .nilCheck x) (hx : EV w ρ Pp Pt σ a x) (e : gop P C call (eval σ) o h = some (v, h', lg)) :
    OpTo P o a w (After Pt w ρ Pp h lg h' v) := by
  simp only [gop, ho, Option.bind_eq_bind, obsi] at e
  obtain ⟨g, h1, e⟩ := e
  have h4 := hx _ h1
  split at e
  · simp only [Option.some.injEq, Prod.mk.injEq] at e
    obtain ⟨rfl, rfl, rfl⟩ := e
    have h5 := h4
    obtain ⟨c, sh, _, h6⟩ := h4
    exact .same (u := a.eval x) (by simp [execOp, ho, h6]) h5
  · simp only [Option.some.injEq, Prod.mk.injEq] at e
    obtain ⟨rfl, rfl, rfl⟩ := e
    have h5 := h4
    obtain ⟨A, h6, _⟩ := h4
    exact .same (u := a.eval x) (by simp [execOp, ho, h6]) h5
  · simp only [Option.some.injEq, Prod.mk.injEq] at e
    obtain ⟨rfl, rfl, rfl⟩ := e
    have h5 := h4
    obtain ⟨us, h6, _⟩ := h4
    exact .same (u := a.eval x) (by simp [execOp, ho, h6]) h5
  · cases e
theorem op_binOp {b : BinOp} {t t' : TypeId} {x y : Operand} {v : GV} {h' : Heap} {lg : Lg} (ho : o.op = .binOp b t x y t') (hx : EV w ρ Pp Pt σ a x) (hy : EV w ρ Pp Pt σ a y) (e : gop P C call (eval σ) o h = some (v, h', lg)) :
    OpTo P o a w (After Pt w ρ Pp h lg h' v) := by
  simp only [gop, ho, Option.bind_eq_bind, obsi, Option.some.injEq, Prod.mk.injEq] at e
  obtain ⟨g, h1, g', h2, r, h3, rfl, rfl, rfl⟩ := e
  obtain ⟨z, h4, h5⟩ := gbinop_run x y h3 (hx _ h1) (hy _ h2)
  refine .same (u := z) ?_ h5
  simp only [execOp, ho]
  rw [Sem.run_bind, h4]
  rfl
theorem op_unOp {b : UnOp} {t : TypeId} {x : Operand} {v : GV} {h' : Heap} {lg : Lg} (ho : o.op = .unOp b t x) (hx : EV w ρ Pp Pt σ a x) (e : gop P C call (eval σ) o h = some (v, h', lg)) :
    OpTo P o a w (After Pt w ρ Pp h lg h' v) := by
  simp only [gop, ho, Option.bind_eq_bind, obsi] at e
  obtain ⟨g, h1, e⟩ := e
  have h4 := hx _ h1
  split at e
  · simp only [Option.some.injEq, Prod.mk.injEq] at e
    obtain ⟨rfl, rfl, rfl⟩ := e
    simp only [VR, VRi] at h4
    exact .same (by simp [execOp, ho, h4, Op.unary, Op.intArith]) rfl
  · simp only [Option.some.injEq, Prod.mk.injEq] at e
    obtain ⟨rfl, rfl, rfl⟩ := e
    simp only [VR, VRi] at h4
    exact .same (by simp [execOp, ho, h4, Op.unary]) rfl
  · cases e
theorem op_makeInterface {t : TypeId} {x : Operand} {v : GV} {h' : Heap} {lg : Lg} (ho : o.op = .makeInterface t x) (e : gop P C call (eval σ) o h = some (v, h', lg)) :
    OpTo P o a w (After Pt w ρ Pp h lg h' v) := by
  simp only [gop, ho, Option.bind_eq_bind, obsi] at e
  obtain ⟨g, h1, e⟩ := e
  split at e
  · cases e
  · rename_i d hn hu
    simp only [Option.some.injEq, Prod.mk.injEq] at e
    obtain ⟨rfl, rfl, rfl⟩ := e
    refine .same (u := .iface t (a.eval x)) ?_ ⟨_, _, rfl⟩
    simp only [execOp, ho, Instr.makeInterface, Sem.run_bind, run_underlying hu, Result.andThen_ok]
    cases d <;> first
      | exact absurd hu (hn _)
      | simp
  · cases e
theorem op_makeFunc {f : FuncId} {first caps : Array Operand} {v : GV} {h' : Heap} {lg : Lg} (ho : o.op = .makeFunc (.func f) first caps) (hx : ∀ x, x ∈ caps.toList → EV w ρ Pp Pt σ a x) (e : gop P C call (eval σ) o h = some (v, h', lg)) :
    OpTo P o a w (After Pt w ρ Pp h lg h' v) := by
  simp only [gop, ho, Option.bind_eq_bind, obsi] at e
  obtain ⟨cs, h1, e⟩ := e
  split at e
  · rename_i hf
    simp only [Option.some.injEq, Prod.mk.injEq] at e
    obtain ⟨rfl, rfl, rfl⟩ := e
    have hf' : first = #[] := Array.eq_empty_of_size_eq_zero hf
    subst hf'
    refine .same (u := .func (.func f) #[] (caps.map a.eval)) (by simp [execOp, ho, Instr.makeFunc]) ⟨_, rfl, ?_⟩
    rw [Array.toList_map]
    generalize caps.toList = l at h1 hx
    induction l generalizing cs with
    | nil => simp at h1; subst h1; simp [VRs, VRsi]
    | cons x l ih =>
      simp only [List.mapM_cons, Option.bind_eq_bind, obsi, Option.pure_def, Option.some.injEq] at h1
      obtain ⟨g, h1, gs', h2, rfl⟩ := h1
      exact ⟨_, _, rfl, hx x (by simp) _ h1, ih _ h2 (fun y hy => hx y (by simp [hy]))⟩
  · cases e
theorem op_field {t : TypeId} {x : Operand} {f : Nat} {v : GV} {h' : Heap} {lg : Lg} (ho : o.op = .field t x f) (hx : EV w ρ Pp Pt σ a x) (e : gop P C call (eval σ) o h = some (v, h', lg)) :
    OpTo P o a w (After Pt w ρ Pp h lg h' v) := by
  simp only [gop, ho, Option.bind_eq_bind, obsi] at e
  obtain ⟨d, hu, e⟩ := e
  split at e
  · simp only [obsi] at e
    obtain ⟨fd, hf, g, h1, e⟩ := e
    split at e
    · simp only [obsi, Option.some.injEq, Prod.mk.injEq] at e
      obtain ⟨g', h2, rfl, rfl, rfl⟩ := e
      obtain ⟨us, h3, h4⟩ := hx _ h1
      obtain ⟨z, h5, h6⟩ := gpart_run h2 h4
      exact .same (u := z) (by simp [execOp, ho, Instr.field, run_underlying hu, hf, h3, asAgg, h5]) h6
    · cases e
  · cases e
theorem op_extract {x : Operand} {i : Nat} {v : GV} {h' : Heap} {lg : Lg} (ho : o.op = .extract x i) (hx : EV w ρ Pp Pt σ a x) (e : gop P C call (eval σ) o h = some (v, h', lg)) :
    OpTo P o a w (After Pt w ρ Pp h lg h' v) := by
  simp only [gop, ho, Option.bind_eq_bind, obsi] at e
  obtain ⟨g, h1, e⟩ := e
  split at e
  · simp only [obsi, Option.some.injEq, Prod.mk.injEq] at e
    obtain ⟨g', h2, rfl, rfl, rfl⟩ := e
    obtain ⟨us, h3, h4⟩ := hx _ h1
    obtain ⟨z, h5, h6⟩ := VRs_get h4 i _ h2
    have h7 : us[i]? = some z := by simpa using h5
    exact .same (u := z) (by simp [execOp, ho, Instr.extract, h3, h7]) h6
  · cases e

theorem add_add (A : Addr) (i j : Nat) : (A.add i).add j = A.add (i + j) := by
  unfold Addr.add
  by_cases hi : i = 0
  · subst hi; simp
  · by_cases hj : j = 0
    · subst hj; simp
    · rw [if_neg hi, if_neg hj, if_neg (by omega)]
      simp; omega

theorem op_fieldAddr {t : TypeId} {x : Operand} {f : Nat} {v : GV} {h' : Heap} {lg : Lg} (ho : o.op = .fieldAddr t x f) (hx : EV w ρ Pp Pt σ a x) (e : gop P C call (eval σ) o h = some (v, h', lg)) :
    OpTo P o a w (After Pt w ρ Pp h lg h' v) := by
  simp only [gop, ho, Option.bind_eq_bind, obsi] at e
  obtain ⟨d, hu, e⟩ := e
  split at e
  · simp only [obsi] at e
    obtain ⟨fd, hf, n, hn, e⟩ := e
    split at e
    · cases e
    · rename_i hn0
      simp only [obsi] at e
      obtain ⟨g, h1, e⟩ := e
      have h4 := hx _ h1
      have run : ∀ A, a.eval x = .pointer (some A) → (execOp a.eval o).run P w = .ok (.value (.pointer (some (A.add fd.offset)))) w := by
        intro A hA
        simp [execOp, ho, Instr.fieldAt, run_underlying hu, hf, hA, Instr.sureAddr, fieldPlace, run_sizeOf hn, hn0]
      split at e
      · simp only [Option.some.injEq, Prod.mk.injEq] at e
        obtain ⟨rfl, rfl, rfl⟩ := e
        obtain ⟨c, sh, h5, h6⟩ := h4
        exact .same (run _ h6) ⟨c, sh, h5, by rw [addr_add]; simp; omega⟩
      · rename_i tg cells
        simp only [Option.some.injEq, Prod.mk.injEq] at e
        obtain ⟨rfl, rfl, rfl⟩ := e
        obtain ⟨A, h6, h7⟩ := h4
        refine .same (run _ h6) ⟨_, rfl, fun hc => ?_⟩
        obtain ⟨h8, us, h9, h10⟩ := h7 (fun e => hc (by simp [e]))
        refine ⟨by rw [add_block]; exact h8, us.drop fd.offset, VRs_drop _ h9, fun j u hj => ?_⟩
        rw [List.getElem?_drop] at hj
        rw [add_add]
        exact h10 _ _ hj
      · cases e
  · cases e

theorem op_indexAddr {t : TypeId} {x y : Operand} {v : GV} {h' : Heap} {lg : Lg} (ho : o.op = .indexAddr t x y) (hx : EV w ρ Pp Pt σ a x) (hy : EV w ρ Pp Pt σ a y) (e : gop P C call (eval σ) o h = some (v, h', lg)) :
    OpTo P o a w (After Pt w ρ Pp h lg h' v) := by
  simp only [gop, ho, Option.bind_eq_bind, obsi] at e
  obtain ⟨g, h1, gi, h2, e⟩ := e
  have h4 := hx _ h1
  split at e
  · rename_i k i
    have h5 := hy _ h2
    simp only [VR, VRi] at h5
    split at e
    · rename_i e' b off len cap es hu
      split at e
      · rename_i hc
        obtain ⟨hs, hi0, hi⟩ := hc
        simp only [Option.some.injEq, Prod.mk.injEq] at e
        obtain ⟨rfl, rfl, rfl⟩ := e
        obtain ⟨c, sh, A, cap', h6, h7, h8, h9, h10⟩ := h4
        refine .same (u := .pointer (some (A.add (i.toNat * es)))) ?_ ⟨c, sh, h6, ?_⟩
        · simp [execOp, ho, Instr.indexAt, h5, h7, asIntOf, run_underlying hu, run_sizeOf hs, hi0, hi]
        · rcases h10 with h10 | ⟨rfl, _⟩
          · omega
          · rw [addr_add]; simp; omega
      · cases e
    · rename_i e' tg n es cells hu
      split at e
      · rename_i hc
        obtain ⟨hs, hi0, hi⟩ := hc
        simp only [Option.some.injEq, Prod.mk.injEq] at e
        obtain ⟨rfl, rfl, rfl⟩ := e
        obtain ⟨A, cap', h7, h8, h9, h10⟩ := h4.resolve_left (by rintro ⟨hz, _⟩; omega)
        refine .same (u := .pointer (some (A.add (i.toNat * es)))) ?_ ⟨_, rfl, fun hc => ?_⟩
        · simp [execOp, ho, Instr.indexAt, h5, h7, asIntOf, run_underlying hu, run_sizeOf hs, hi0, hi]
        · obtain ⟨h8, us, h9, h10⟩ := h10 (fun e => hc (by simp [e]))
          refine ⟨by rw [add_block]; exact h8, us.drop (i.toNat * es), VRs_drop _ h9, fun j u hj => ?_⟩
          rw [List.getElem?_drop] at hj
          rw [add_add]
          exact h10 _ _ hj
      · cases e
    · rename_i n e' tg cells hu
      obtain ⟨es, hs, e⟩ := obsi.1 e
      split at e
      · rename_i hc
        obtain ⟨hi0, hi⟩ := hc
        simp only [Option.some.injEq, Prod.mk.injEq] at e
        obtain ⟨rfl, rfl, rfl⟩ := e
        obtain ⟨A, h7, h8⟩ := h4
        refine .same (u := .pointer (some (A.add (i.toNat * es)))) ?_ ⟨_, rfl, fun hc => ?_⟩
        · simp [execOp, ho, Instr.indexAt, Instr.sureAddr, h5, h7, asIntOf, run_underlying hu, run_sizeOf hs, hi0, hi]
        · obtain ⟨h8, us, h9, h10⟩ := h8 (fun e => hc (by simp [e]))
          refine ⟨by rw [add_block]; exact h8, us.drop (i.toNat * es), VRs_drop _ h9, fun j u hj => ?_⟩
          rw [List.getElem?_drop] at hj
          rw [add_add]
          exact h10 _ _ hj
      · cases e
    · rename_i n e' b off tot hu
      obtain ⟨es, hs, e⟩ := obsi.1 e
      split at e
      · rename_i hc
        obtain ⟨hi0, hi⟩ := hc
        simp only [Option.some.injEq, Prod.mk.injEq] at e
        obtain ⟨rfl, rfl, rfl⟩ := e
        obtain ⟨c, sh, h6, h7⟩ := h4
        refine .same (u := .pointer (some ((⟨c, sh + off, none⟩ : Addr).add (i.toNat * es)))) ?_ ⟨c, sh, h6, ?_⟩
        · simp [execOp, ho, Instr.indexAt, Instr.sureAddr, h5, h7, asIntOf, run_underlying hu, run_sizeOf hs, hi0, hi]
        · rw [addr_add]; simp; omega
      · cases e
    · cases e
  · cases e

theorem op_index {t : TypeId} {x y : Operand} {v : GV} {h' : Heap} {lg : Lg} (ho : o.op = .index t x y) (hx : EV w ρ Pp Pt σ a x) (hy : EV w ρ Pp Pt σ a y) (e : gop P C call (eval σ) o h = some (v, h', lg)) :
    OpTo P o a w (After Pt w ρ Pp h lg h' v) := by
  simp only [gop, ho, Option.bind_eq_bind, obsi] at e
  obtain ⟨g, h1, gi, h2, e⟩ := e
  have h4 := hx _ h1
  split at e
  · rename_i k i
    have h5 := hy _ h2
    simp only [VR, VRi] at h5
    split at e
    · rename_i s hu
      split at e
      · rename_i hi
        split at e
        · rename_i hi0
          simp only [Option.some.injEq, Prod.mk.injEq] at e
          obtain ⟨rfl, rfl, rfl⟩ := e
          simp only [VR, VRi] at h4
          refine .same (u := .int .u8 (s[i.toNat]'hi).toNat) ?_ (by simp [VR, VRi])
          simp [execOp, ho, Instr.index, h5, h4, asIntOf, run_underlying hu, hi0, hi]
        · cases e
      · cases e
    · rename_i len e' cs hu
      simp only [obsi] at e
      obtain ⟨n, hn, e⟩ := e
      split at e
      · rename_i hc
        simp only [obsi, Option.some.injEq, Prod.mk.injEq] at e
        obtain ⟨g', h6, rfl, rfl, rfl⟩ := e
        obtain ⟨us, h7, h8⟩ := h4
        obtain ⟨z, h9, h10⟩ := gpart_run h6 h8
        refine .same (u := z) ?_ h10
        simp [execOp, ho, Instr.index, h5, h7, asIntOf, run_underlying hu, hc, run_sizeOf hn, h9]
      · cases e
    · cases e
  · cases e
end

end Go.Proofs.Ytlbnioapepelnaa.G
