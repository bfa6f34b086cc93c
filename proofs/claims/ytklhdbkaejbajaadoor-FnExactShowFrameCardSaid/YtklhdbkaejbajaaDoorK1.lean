/- The machine G once more, each step with what follows it as an argument, without logs: made to be unfolded over open values. Definitions alone. -/
import Derived.Test.YtklhdbkaejbajaaDoorG27
namespace Go.Proofs.YtklhdbkaejbajaaDoor.G
open Go.RowKit
set_option linter.unusedVariables false

/-- How calls are answered: N: in a heap of their own, what comes back is told by what it holds; H: in the caller's heap. -/
abbrev NCall := FuncId → List GV → Option GV
abbrev HCall := FuncId → List GV → Heap → Option (GV × Heap)

def tr (want : Bool) : GV → Bool
  | .bool b => b == want
  | _ => false

def kread (h : Heap) (a : GV) (n : Nat) : Option (List GV) :=
  match a with
  | .ptr i off tot => (cellsAt h i tot).bind fun cs => if off + n ≤ cs.length then some ((cs.drop off).take n) else none
  | .fp _ cells => if n ≤ cells.length then some (cells.take n) else none
  | _ => none
def kloadA (n : Nat) (h : Heap) (a : GV) : Option GV := (kread h a n).map .agg
def one : List GV → Option GV
  | [v] => some v
  | _ => none
def kload1 (h : Heap) (a : GV) : Option GV := (kread h a 1).bind one
def kload (P : Program) (t : TypeId) (h : Heap) (a : GV) : Option GV :=
  match gagg P t with
  | some true => (match gsize P t with | some n => kloadA n h a | none => none)
  | some false => kload1 h a
  | none => none

def kstore (n : Nat) (h : Heap) (a v : GV) : Option Heap :=
  if v.cells.length = n ∧ v.cells.all GV.isCell = true then
    match a with
    | .ptr i off tot => (cellsAt h i tot).bind fun cs => if off + n ≤ cs.length then some (h.set i (splice cs off v.cells)) else none
    | _ => none
  else none

def knil : GV → Option GV
  | .ptr i off tot => some (.ptr i off tot)
  | .fp t cells => some (.fp t cells)
  | .fn f caps => some (.fn f caps)
  | _ => none

def kpick (c a b : GV) : Option GV :=
  match c with
  | .bool t => some (bif t then a else b)
  | _ => none

/-- Arithmetic and comparing of numbers and texts. -/
def kbin (op : BinOp) (x y : GV) : Option GV :=
  match op, x, y with
  | .shl, .int k a, .int _ b => if 0 ≤ b then some (.int k (k.wrap (a * 2 ^ (min b.toNat k.bits)))) else none
  | .shr, .int k a, .int _ b => if 0 ≤ b then some (.int k (a.fdiv (2 ^ (min b.toNat k.bits)))) else none
  | op, .int k a, .int k' b =>
    if k = k' then
      match op with
      | .add => some (.int k (k.wrap (a + b)))
      | .sub => some (.int k (k.wrap (a - b)))
      | .mul => some (.int k (k.wrap (a * b)))
      | .quo => if b = 0 then none else some (.int k (k.wrap (a.tdiv b)))
      | .rem => if b = 0 then none else some (.int k (a.tmod b))
      | .and => some (.int k (k.wrap (BitVec.ofInt k.bits a &&& BitVec.ofInt k.bits b).toNat))
      | .or => some (.int k (k.wrap (BitVec.ofInt k.bits a ||| BitVec.ofInt k.bits b).toNat))
      | .xor => some (.int k (k.wrap (BitVec.ofInt k.bits a ^^^ BitVec.ofInt k.bits b).toNat))
      | .andNot => some (.int k (k.wrap (BitVec.ofInt k.bits a &&& ~~~(BitVec.ofInt k.bits b)).toNat))
      | .eql => some (.bool (a == b))
      | .neq => some (.bool (a != b))
      | .lss => some (.bool (ilt a b))
      | .leq => some (.bool !(ilt b a))
      | .gtr => some (.bool (ilt b a))
      | .geq => some (.bool !(ilt a b))
      | _ => none
    else none
  | op, .str a, .str b =>
    match op with
    | .add => if a.size + b.size ≤ maxLen then some (.str (a ++ b)) else none
    | .eql => some (.bool (a.toList == b.toList))
    | .neq => some (.bool !(a.toList == b.toList))
    | .lss => some (.bool (Op.bytesLess a.toList b.toList))
    | .leq => some (.bool (Op.bytesLess a.toList b.toList || a.toList == b.toList))
    | .gtr => some (.bool !(Op.bytesLess a.toList b.toList || a.toList == b.toList))
    | .geq => some (.bool !(Op.bytesLess a.toList b.toList))
    | _ => none
  | _, _, _ => none

def keqB (op : BinOp) (x y : GV) : Option GV :=
  match op, x, y with
  | .eql, .bool a, .bool b => some (.bool (a == b))
  | .neq, .bool a, .bool b => some (.bool !(a == b))
  | _, _, _ => none

/-- == of two structs. -/
def keqS (P : Program) (op : BinOp) (t : TypeId) (x y : GV) : Option GV :=
  match x, y with
  | .agg xs, .agg ys =>
    match op with
    | .eql => (geq P Op.maxDepth t (.agg xs) (.agg ys)).map .bool
    | .neq => (geq P Op.maxDepth t (.agg xs) (.agg ys)).map fun b => .bool !b
    | _ => none
  | _, _ => none

def kbinop (P : Program) (op : BinOp) (t : TypeId) (xo yo : Operand) (x y : GV) : Option GV :=
  match P.underlying t with
  | some (.int _) => kbin op x y
  | some .string => kbin op x y
  | some .bool => keqB op x y
  | some (.struct _) => bif P.eqGuardType P.depth t then none else keqS P op t x y
  | _ => gbinop P op t xo yo x y

def kun (op : UnOp) (x : GV) : Option GV :=
  match op, x with
  | .neg, .int k n => some (.int k (k.wrap (0 - n)))
  | .not, .bool b => some (.bool !b)
  | _, _ => none

def kconvI (k : IntKind) : GV → Option GV
  | .int _ n => some (.int k (k.wrap n))
  | _ => none
def kstr : GV → Option ByteArray
  | .str s => some s
  | _ => none
/-- The bytes of a slice as a text. -/
def kbstr (h : Heap) (x : GV) : Option GV :=
  match x with
  | .str _ => none
  | .int _ _ => none
  | x => (gcells h 1 x).bind fun (n, cs, _) => (cs.mapM gbyte).bind fun ns => if ns.length = n then some (.str ⟨(ns.map fun n => UInt8.ofNat n.toNat).toArray⟩) else none
def kbytes (s : ByteArray) : List GV := s.toList.map fun c => .int .u8 c.toNat

def kslice (x : GV) (lo hi mx : Option GV) : Option GV := gslice default 0 x lo hi mx
def ksl (es : Nat) (x : GV) (lo hi mx : Option GV) : Option GV :=
  match x with
  | .sl i off len cap es' => if es = es' then kslice (.sl i off len cap es') lo hi mx else none
  | .fz tg n es' cells => if es = es' ∨ n = 0 then kslice (.fz tg n es' cells) lo hi mx else none
  | .nils => kslice .nils lo hi mx
  | .emp => kslice .emp lo hi mx
  | _ => none
def kslS (x : GV) (lo hi mx : Option GV) : Option GV := (kstr x).bind fun s => kslice (.str s) lo hi mx

def kfa (off : Nat) : GV → Option GV
  | .ptr i o tot => some (.ptr i (o + off) tot)
  | .fp t cells => some (.fp t (cells.drop off))
  | _ => none
def kcs : GV → Option (List GV)
  | .agg cs => some cs
  | _ => none
def kpartA (n off : Nat) (cs : List GV) : Option GV := if off + n ≤ cs.length then some (.agg ((cs.drop off).take n)) else none
def kpart1 (off : Nat) (cs : List GV) : Option GV := cs[off]?
def kpart (P : Program) (t : TypeId) (off : Nat) (cs : List GV) : Option GV :=
  match gagg P t with
  | some true => (match gsize P t with | some n => kpartA n off cs | none => none)
  | some false => kpart1 off cs
  | none => none
/-- The room of a slice: told where there is none. -/
def kcap : GV → Option GV
  | .nils => some (.int .i64 0)
  | .emp => some (.int .i64 0)
  | _ => none
def kint : GV → Option Int
  | .int _ n => some n
  | _ => none
def kia (es : Nat) (a i : GV) : Option GV :=
  (kint i).bind fun i =>
  match a with
  | .sl b off len cap es' => if es = es' ∧ 0 ≤ i ∧ i < len then some (.ptr b (off + i.toNat * es) (off + cap * es)) else none
  | .fz tg n es' cells => if es = es' ∧ 0 ≤ i ∧ i < n then some (.fp tg (cells.drop (i.toNat * es))) else none
  | _ => none
/-- A byte of a text. -/
def kbyte (a i : GV) : Option GV :=
  (kstr a).bind fun s => (kint i).bind fun i => if hi : i.toNat < s.size then (if 0 ≤ i then some (.int .u8 (s[i.toNat]'hi).toNat) else none) else none
def kxt (i : Nat) : GV → Option GV
  | .tup vs => vs[i]?
  | _ => none

def klenS (x : GV) : Option GV := (kstr x).bind fun s => some (.int .i64 s.size)
def klen : GV → Option GV
  | .str _ => none
  | x => (glen x).map fun (n : Nat) => GV.int .i64 (n : Int)

def kmake (z : List GV) (es bytes : Nat) (l c : GV) (h : Heap) : Option (GV × Heap) :=
  (kint l).bind fun len => (kint c).bind fun cap =>
  if 0 ≤ len ∧ len ≤ cap ∧ cap ≤ maxLen ∧ cap.toNat * bytes ≤ roomMax ∧ z.length = es then some (.sl h.length 0 len.toNat cap.toNat es, h ++ [zeros z cap.toNat]) else none

/-- append: es, bytes: of an element. -/
def kapp (z : List GV) (es bytes : Nat) (s x : GV) (h : Heap) : Option (GV × Heap) :=
  (gcells h es x).bind fun (n, new, _) =>
  if new.all GV.isCell = true ∧ z.length = es ∧ n ≤ maxLen ∧ n * bytes ≤ roomMax then
    match s with
    | .nils => if n = 0 then some (.nils, h) else some (.sl h.length 0 n n es, h ++ [new])
    | .emp => if n = 0 then some (.emp, h) else some (.sl h.length 0 n n es, h ++ [new])
    | .sl i off len cap es' =>
      (cellsAt h i (off + cap * es')).bind fun cs =>
      if es' = es ∧ len ≤ cap ∧ (len + n) * bytes ≤ roomMax ∧ len + n ≤ maxLen then
        if len + n ≤ cap then some (.sl i off (len + n) cap es, h.set i (splice cs (off + len * es) new))
        else if off = 0 ∧ 0 < es then some (.sl i 0 (len + n) (len + n) es, h.set i (cs.take (len * es) ++ new)) else none
      else none
    | _ => none
  else none

/-- append of n zeros to nil. -/
def kapz (z : List GV) (es bytes : Nat) (s x : GV) (h : Heap) : Option (GV × Heap) :=
  match s, x with
  | .nils, .int .i64 l =>
    if 0 ≤ l ∧ l ≤ maxLen ∧ l.toNat * bytes ≤ roomMax ∧ z.length = es then
      if l.toNat = 0 then some (.nils, h) else some (.sl h.length 0 l.toNat l.toNat es, h ++ [zeros z l.toNat])
    else none
  | _, _ => none

def kcopy (es : Nat) (d x : GV) (h : Heap) : Option (GV × Heap) :=
  (gcells h es x).bind fun (n, new, _) =>
  if new.all GV.isCell = true then
    match d with
    | .nils => some (.int .i64 0, h)
    | .emp => some (.int .i64 0, h)
    | .sl i off len cap es' =>
      (cellsAt h i (off + cap * es')).bind fun cs =>
      if es' = es ∧ len ≤ cap then some (.int .i64 (min n len : Nat), h.set i (splice cs off (new.take (min n len * es)))) else none
    | _ => none
  else none

/-- clear. -/
def kclear (z : List GV) (d : GV) (h : Heap) : Option (GV × Heap) :=
  match d with
  | .nils => some (.un, h)
  | .emp => some (.un, h)
  | .sl i off len cap es =>
    (cellsAt h i (off + cap * es)).bind fun cs =>
    if z.length = es ∧ len ≤ cap ∧ z.all GV.isCell = true then some (.un, h.set i (splice cs off (zeros z len))) else none
  | _ => none

def bors (h : Heap) : List GV → Option (List GV)
  | [] => some []
  | g :: gs => (bor 9 h g).bind fun x => (bors h gs).bind fun xs => some (x.1 :: xs)

/-- A call in a heap of its own. -/
def kN (N : NCall) (f : FuncId) (args : List GV) (h : Heap) : Option GV := (bors h args).bind fun xs => N f xs

def evs (ev : Operand → Option GV) : List Operand → Option (List GV)
  | [] => some []
  | x :: xs => match ev x with | some v => (match evs ev xs with | some vs => some (v :: vs) | none => none) | none => none
def evm (ev : Operand → Option GV) : Option Operand → Option (Option GV)
  | some y => match ev y with | some v => some (some v) | none => none
  | none => some none
def evps (ev : Operand → Option GV) : List (Nat × Operand) → Option (List (Nat × GV))
  | [] => some []
  | (i, x) :: xs => match ev x with | some v => (match evps ev xs with | some vs => some ((i, v) :: vs) | none => none) | none => none
def placesOf (P : Program) : List Field → Option (List (Nat × Nat))
  | [] => some []
  | f :: fs => match gsize P f.type with | some n => (match placesOf P fs with | some l => some ((f.offset, n) :: l) | none => none) | none => none

section
variable {R : Type}

def ksplit (H : HCall) (g : FuncId) : Bool :=
  match H g [.nils] [], H g [.fz true 0 1 []] [] with
  | some (.nils, _), some (.emp, _) => true
  | _, _ => false
/-- A call in the caller's heap; sp: of a function that is run twice where its slice has no elements. -/
def kS (sp : Bool) (H : HCall) (g : FuncId) (args : List GV) (h : Heap) : Option (GV × Heap) :=
  bif sp then (bif emptyArg args then (bif ksplit H g then some (.emp, h) else none) else H g args h) else H g args h

def ownOk (r : GV × Heap) (b : Nat) : Option (GV × List (List GV)) :=
  (own 9 r.2 b r.1).bind fun q => bif nodupB (q.2.1.map (·.1)) then some (q.1, q.2.2) else none
/-- A call in no heap, of a function that hands back new memory. -/
def kF (sp : Bool) (H : HCall) (g : FuncId) (args : List GV) (h : Heap) : Option (GV × Heap) :=
  (bors h args).bind fun xs => bif sp && emptyArg xs then (bif ksplit H g then some (.emp, h) else none)
    else (H g xs []).bind fun r => (ownOk r h.length).bind fun q => some (q.1, h ++ q.2)

def kcallee (P : Program) (C : Cfg) (N : NCall) (H : HCall) (g : FuncId) (args : List GV) (h : Heap) (K : GV → Heap → Option R) : Option R :=
  match P.funcs[g]? with
  | none => none
  | some fn =>
    bif fn.body.isSome then
      (bif (C.heapy g && (C.ext g).isNone) then (kS (C.split g) H g args h).bind fun r => K r.1 r.2
       else bif (C.fresh g && (C.ext g).isNone) then (kF (C.split g) H g args h).bind fun r => K r.1 r.2
       else (kN N g args h).bind fun v => K v h)
    else none

/-- A value that is looked for at once, and then the rest. -/
def got {α : Type} (x : Option α) (K : α → Option R) : Option R :=
  match x with
  | some v => K v
  | none => none

def kop (P : Program) (C : Cfg) (N : NCall) (H : HCall) (ev : Operand → Option GV) (o : Oper) (h : Heap) (K : GV → Heap → Option R) : Option R :=
  match o.op with
  | .move x => got (ev x) fun v => K v h
  | .assign x => got (ev x) fun v => K v h
  | .pick c a b => got (ev c) fun c => got (ev a) fun a => got (ev b) fun b => (kpick c a b).bind fun v => K v h
  | .alloc e => got (gzero P e) fun z => K (.ptr h.length 0 z.length) (h ++ [z])
  | .box e x => got (ev x) fun v => K (.ptr h.length 0 v.cells.length) (h ++ [v.cells])
  | .build t parts => got (gzero P t) fun z => got (evps ev parts.toList) fun ps =>
    match P.underlying t with
    | some (.struct fs) => got (placesOf P fs.toList) fun places => (gfill (fun i => places[i]?) z ps).bind fun cs => K (.agg cs) h
    | some (.array _ e) => got (gsize P e) fun n => (gfill (fun i => some (i * n, n)) z ps).bind fun cs => K (.agg cs) h
    | _ => none
  | .buildSlice t len parts =>
    match P.underlying t with
    | some (.slice e) => got (gsize P e) fun n => got (gzero P e) fun z => got (evps ev parts.toList) fun ps =>
      bif Nat.ble (len * n) 16777216 && Nat.beq z.length n then (gfill (fun i => some (i * n, n)) (zeros z len) ps).bind fun cs =>
        (match len with
         | 0 => K .emp h
         | len + 1 => K (.sl h.length 0 (len + 1) (len + 1) n) (h ++ [cs])) else none
    | _ => none
  | .load t a => got (ev a) fun x => (kload P t h x).bind fun v => K v h
  | .store t a x => got (ev a) fun p => got (ev x) fun v => got (gsize P t) fun n => (kstore n h p v).bind fun h' => K .un h'
  | .nilCheck x => got (ev x) fun v => (knil v).bind fun v => K v h
  | .binOp op t x y _ => got (ev x) fun a => got (ev y) fun b => (kbinop P op t x y a b).bind fun v => K v h
  | .unOp op _ x => got (ev x) fun a => (kun op a).bind fun v => K v h
  | .convert s d x => got (ev x) fun a =>
    match P.underlying s, P.underlying d with
    | some (.int _), some (.int k) => (kconvI k a).bind fun v => K v h
    | some .string, some .string => (kstr a).bind fun b => K (.str b) h
    | some .string, some (.slice e) =>
      (match P.underlying e with
       | some (.int .u8) => (kstr a).bind fun b => K (.sl h.length 0 b.size b.size 1) (h ++ [kbytes b])
       | _ => none)
    | some (.slice e), some .string =>
      (match P.underlying e with
       | some (.int .u8) => (kbstr h a).bind fun v => K v h
       | _ => none)
    | _, _ => none
  | .makeInterface t x => got (ev x) fun _ =>
    match P.underlying t with
    | some (.interface _) => none
    | some _ => K .ifc h
    | none => none
  | .makeFunc (.func f) first caps => got (evs ev caps.toList) fun cs => bif Nat.beq first.size 0 then K (.fn f cs) h else none
  | .makeSlice t l c =>
    match P.underlying t with
    | some (.slice e) => got (P.info? e) fun info => got (gzero P e) fun z => got (ev l) fun l => got (ev c) fun c => (kmake z info.size info.bytes l c h).bind fun r => K r.1 r.2
    | _ => none
  | .slice t x lo hi mx => got (ev x) fun a => got (evm ev lo) fun l => got (evm ev hi) fun u => got (evm ev mx) fun m =>
    match P.underlying t with
    | some .string => (kslS a l u m).bind fun v => K v h
    | some (.slice e) => got (gsize P e) fun es => (ksl es a l u m).bind fun v => K v h
    | _ => none
  | .fieldAddr s x f =>
    match P.underlying s with
    | some (.struct fs) => got fs[f]? fun fd => got (gsize P fd.type) fun n => bif Nat.beq n 0 then none else got (ev x) fun a => (kfa fd.offset a).bind fun v => K v h
    | _ => none
  | .field t x f =>
    match P.underlying t with
    | some (.struct fs) => got fs[f]? fun fd => got (ev x) fun a => (kcs a).bind fun cs => (kpart P fd.type fd.offset cs).bind fun v => K v h
    | _ => none
  | .indexAddr t x ix => got (ev x) fun a => got (ev ix) fun i =>
    match P.underlying t with
    | some (.slice e) => got (gsize P e) fun es => (kia es a i).bind fun v => K v h
    | _ => none
  | .index t x ix => got (ev x) fun a => got (ev ix) fun i =>
    match P.underlying t with
    | some .string => (kbyte a i).bind fun v => K v h
    | some (.array len e) => got (gsize P e) fun n => (kcs a).bind fun cs => (kint i).bind fun i => if 0 ≤ i ∧ i < len then (kpart P e (i.toNat * n) cs).bind fun v => K v h else none
    | _ => none
  | .extract t i => got (ev t) fun a => (kxt i a).bind fun v => K v h
  | .call c =>
    match c.callee with
    | .builtin b => got (evs ev c.args.toList) fun args =>
      match b, args with
      | .len, [x] => got c.argTypes[0]? fun t =>
        (match P.underlying t with
         | some .string => (klenS x).bind fun v => K v h
         | some (.slice _) => (klen x).bind fun v => K v h
         | some (.array n _) => K (.int .i64 n) h
         | _ => none)
      | .cap, [x] => got c.argTypes[0]? fun t =>
        (match P.underlying t with
         | some (.slice _) => (kcap x).bind fun v => K v h
         | _ => none)
      | .min, [x, y] => (gmin x y).bind fun v => K v h
      | .max, [x, y] => (gmax x y).bind fun v => K v h
      | .min, [x, y, z] => (gmin x y).bind fun v => (gmin v z).bind fun v => K v h
      | .append, [s, x] => got c.argTypes[0]? fun t => got c.argTypes[1]? fun u =>
        (match P.underlying u with
         | some (.int _) =>
           (match P.underlying t with
            | some (.slice e) => got (P.info? e) fun info => got (gzero P e) fun z => (kapz z info.size info.bytes s x h).bind fun r => K r.1 r.2
            | _ => none)
         | some _ =>
           (match P.underlying t with
            | some (.slice e) => got (P.info? e) fun info => got (gzero P e) fun z => (kapp z info.size info.bytes s x h).bind fun r => K r.1 r.2
            | _ => none)
         | none => none)
      | .copy, [d, x] => got c.argTypes[0]? fun t =>
        (match P.underlying t with
         | some (.slice e) => got (gsize P e) fun es => (kcopy es d x h).bind fun r => K r.1 r.2
         | _ => none)
      | .clear, [d] => got c.argTypes[0]? fun t =>
        (match P.underlying t with
         | some (.slice e) => got (gzero P e) fun z => (kclear z d h).bind fun r => K r.1 r.2
         | _ => none)
      | _, _ => none
    | .value (.func g) => got (evs ev c.args.toList) fun args => kcallee P C N H g args h K
    | .value f => got (ev f) fun fv => got (evs ev c.args.toList) fun args =>
      (match fv with
       | .fn g caps => kcallee P C N H g (args ++ caps) h K
       | _ => none)
    | .invoke _ _ => none
  | _ => none

/-! Regions: operations under one guard, one behind the other, are taken together. -/
def guardEq : Option (Nat × Bool) → Option (Nat × Bool) → Bool
  | none, none => true
  | some (a, x), some (b, y) => Nat.beq a b && (x == y)
  | _, _ => false
def guardOf (ops : Array Oper) (j : Nat) : Option (Nat × Bool) := match ops[j]? with | some o => o.guard | none => none
def grp (ops : Array Oper) : List Nat → List (Option (Nat × Bool) × List Nat)
  | [] => []
  | j :: js =>
    match grp ops js with
    | (g, l) :: rest => bif guardEq (guardOf ops j) g then (g, j :: l) :: rest else (guardOf ops j, [j]) :: (g, l) :: rest
    | [] => [(guardOf ops j, [j])]

def dstEq : Option Tmp → Option Tmp → Bool
  | some a, some b => Nat.beq a b
  | _, _ => false
def dstOf (ops : Array Oper) (j : Nat) : Option Tmp := match ops[j]? with | some o => o.dst | none => none
def grpOk (ops : Array Oper) (gs : List (Option (Nat × Bool) × List Nat)) : Bool :=
  gs.all fun (g, js) => match g with | none => true | some (i, _) => js.all fun j => !dstEq (dstOf ops j) (dstOf ops i)

/-- What an operation may do: read, write, lay new blocks. -/
structure Eff where
  r : Bool
  w : Bool
  a : Bool
def effOf (C : Cfg) (o : Op) : Eff :=
  match o with
  | .load _ _ => ⟨true, false, false⟩
  | .store _ _ _ => ⟨false, true, false⟩
  | .alloc _ | .box _ _ | .buildSlice _ _ _ | .makeSlice _ _ _ => ⟨false, false, true⟩
  | .convert _ _ _ => ⟨true, false, true⟩
  | .call c =>
    match c.callee with
    | .builtin .append => ⟨true, true, true⟩
    | .builtin .copy => ⟨true, true, true⟩
    | .builtin .clear => ⟨true, true, true⟩
    | .builtin _ => ⟨false, false, false⟩
    | .value (.func f) => bif C.heapy f && (C.ext f).isNone then ⟨true, true, true⟩ else bif C.fresh f && (C.ext f).isNone then ⟨true, false, true⟩ else ⟨true, false, false⟩
    | _ => ⟨true, true, true⟩
  | _ => ⟨false, false, false⟩
def clash (a b : Eff) : Bool := (a.w && (b.r || b.w || b.a)) || (b.w && (a.r || a.w || a.a)) || (b.r && a.a)
def effAt (C : Cfg) (ops : Array Oper) (j : Nat) : Eff := match ops[j]? with | some o => effOf C o.op | none => ⟨true, true, true⟩
def statIn (C : Cfg) (ops : Array Oper) (m : List Nat) : List Nat → Bool
  | [] => true
  | a :: l => (l.all fun b => (m.getD b 0).testBit a || !clash (effAt C ops a) (effAt C ops b)) && statIn C ops m l
def statOk (C : Cfg) (ops : Array Oper) : Bool :=
  let m := masks ops
  slotsOk ops m && edgesOk ops && statIn C ops m (List.range ops.size)

/-! Where that does not settle it: what each of the operations in question touched is written down, and looked at in the end. -/
def kblk : GV → List Nat
  | .ptr i _ _ => [i]
  | .sl i _ _ _ _ => [i]
  | _ => []
def eblk (ev : Operand → Option GV) (x : Operand) : List Nat := match ev x with | some v => kblk v | none => []
def ebor (ev : Operand → Option GV) (h : Heap) (x : Operand) : List Nat := match ev x with | some v => (match bor 9 h v with | some y => y.2 | none => []) | none => []
/-- The operations of which is known what they touch. -/
def logOk0 (C : Cfg) (o : Op) : Bool :=
  match o with
  | .call c =>
    match c.callee with
    | .builtin _ => true
    | .value (.func f) => !(C.heapy f && (C.ext f).isNone)
    | _ => false
  | _ => true
def klog0 (ev : Operand → Option GV) (h : Heap) (o : Op) : Lg :=
  match o with
  | .load _ a => ⟨eblk ev a, []⟩
  | .store _ a _ => ⟨[], eblk ev a⟩
  | .convert _ _ x => ⟨eblk ev x, []⟩
  | .call c =>
    match c.callee with
    | .builtin .append => (match c.args.toList with | [s, x] => ⟨eblk ev s ++ eblk ev x, eblk ev s⟩ | _ => .nil)
    | .builtin .copy => (match c.args.toList with | [d, x] => ⟨eblk ev x, eblk ev d⟩ | _ => .nil)
    | .builtin .clear => (match c.args.toList with | [d] => ⟨[], eblk ev d⟩ | _ => .nil)
    | .value (.func _) => ⟨c.args.toList.flatMap (ebor ev h), []⟩
    | _ => .nil
  | _ => .nil
mutual
/-- A value that names no block. -/
def nbi : GV → Bool
  | .ptr _ _ _ => false
  | .sl _ _ _ _ _ => false
  | .fp _ cs => nbs cs
  | .fz _ _ _ cs => nbs cs
  | .fn _ cs => nbs cs
  | .agg cs => nbs cs
  | .tup cs => nbs cs
  | .int _ _ => true
  | .bool _ => true
  | .str _ => true
  | .nilp => true
  | .nils => true
  | .emp => true
  | .nili => true
  | .ifc => true
  | .un => true
  | .dk _ => true
def nbs : List GV → Bool
  | [] => true
  | g :: gs => nbi g && nbs gs
end
/-- The blocks that arguments lead to; whether these hold no other blocks. -/
def kflat (h : Heap) (args : List GV) : Bool := (args.all fun g => Nat.beq (kblk g).length 1 || nbi g) && (args.flatMap kblk).all fun i => match h[i]? with | some cs => nbs cs | none => true
def kreach (h : Heap) (args : List GV) : List Nat := args.flatMap kblk
/-- A call of a function that runs in its caller's heap. -/
def hcall (C : Cfg) (o : Op) : Option (List Operand) :=
  match o with
  | .call c =>
    match c.callee with
    | .value (.func f) => bif C.heapy f && (C.ext f).isNone then some c.args.toList else none
    | _ => none
  | _ => none
def klog (C : Cfg) (ev : Operand → Option GV) (h : Heap) (o : Op) : Lg :=
  match hcall C o with
  | some l => ⟨kreach h (l.map fun x => (ev x).getD .un), kreach h (l.map fun x => (ev x).getD .un)⟩
  | none => klog0 ev h o
def kfine (C : Cfg) (ev : Operand → Option GV) (h : Heap) (o : Op) : Bool :=
  match hcall C o with
  | some l => kflat h (l.map fun x => (ev x).getD .un)
  | none => true
def kchk {R : Type} (b : Bool) (x : Option R) : Option R := bif b then x else none
def logOk (C : Cfg) (o : Op) : Bool := logOk0 C o || (hcall C o).isSome
def badIn (C : Cfg) (ops : Array Oper) (m : List Nat) : List Nat → List (Nat × Nat)
  | [] => []
  | a :: l => (l.filter fun b => !(m.getD b 0).testBit a && clash (effAt C ops a) (effAt C ops b)).map (fun b => (a, b)) ++ badIn C ops m l
def badOf (C : Cfg) (ops : Array Oper) : List (Nat × Nat) := badIn C ops (masks ops) (List.range ops.size)
def inBad (bad : List (Nat × Nat)) (j : Nat) : Bool := bad.any fun p => Nat.beq p.1 j || Nat.beq p.2 j
def logAt (C : Cfg) (ops : Array Oper) (j : Nat) : Bool := match ops[j]? with | some o => logOk C o.op | none => false
def dynOk (C : Cfg) (ops : Array Oper) : Bool := slotsOk ops (masks ops) && edgesOk ops && (badOf C ops).all fun p => logAt C ops p.1 && logAt C ops p.2
/-- No two of them meet. -/
def chk (bad : List (Nat × Nat)) (rs : List Rec) : Bool :=
  bad.all fun p => rs.all fun a => rs.all fun b => !(Nat.beq a.j p.1 && Nat.beq b.j p.2) || !meets a b

section
variable {R : Type}
def krunD (P : Program) (C : Cfg) (N : NCall) (H : HCall) (nt : Nat) (ops : Array Oper) (bad : List (Nat × Nat)) : List Nat → List Rec → GS → Heap → (List Rec → GS → Heap → Option R) → Option R
  | [], rs, σ, h, K => K rs σ h
  | j :: js, rs, σ, h, K =>
    match ops[j]? with
    | none => none
    | some o => bif dstOk nt o.dst then kchk (!inBad bad j || kfine C (eval σ) h o.op) (kop P C N H (eval σ) o h fun v h1 => krunD P C N H nt ops bad js (bif inBad bad j then rs ++ [⟨j, h.length, h1.length, klog C (eval σ) h o.op⟩] else rs) (upd σ o.dst v) h1 K) else none
end

def krun (P : Program) (C : Cfg) (N : NCall) (H : HCall) (nt : Nat) (ops : Array Oper) : List Nat → GS → Heap → (GS → Heap → Option R) → Option R
  | [], σ, h, K => K σ h
  | j :: js, σ, h, K =>
    match ops[j]? with
    | none => none
    | some o => bif dstOk nt o.dst then kop P C N H (eval σ) o h (fun v h1 => krun P C N H nt ops js (upd σ o.dst v) h1 K) else none
def kskip (nt : Nat) (ops : Array Oper) : List Nat → GS → Option GS
  | [], σ => some σ
  | j :: js, σ => match ops[j]? with
    | none => none
    | some o => bif dstOk nt o.dst then kskip nt ops js (upd σ o.dst .un) else none
def kwant (ops : Array Oper) (σ : GS) : Option (Nat × Bool) → Bool
  | none => true
  | some (j, want) => match dstOf ops j with | some d => tr want (σ d) | none => false
def kgroups (P : Program) (C : Cfg) (N : NCall) (H : HCall) (nt : Nat) (ops : Array Oper) : List (Option (Nat × Bool) × List Nat) → GS → Heap → (GS → Heap → Option R) → Option R
  | [], σ, h, K => K σ h
  | (none, js) :: rest, σ, h, K => krun P C N H nt ops js σ h fun σ h => kgroups P C N H nt ops rest σ h K
  | (some g, js) :: rest, σ, h, K => bif kwant ops σ (some g) then krun P C N H nt ops js σ h fun σ h => kgroups P C N H nt ops rest σ h K
    else got (kskip nt ops js σ) fun σ => kgroups P C N H nt ops rest σ h K

def kgroupsD (P : Program) (C : Cfg) (N : NCall) (H : HCall) (nt : Nat) (ops : Array Oper) (bad : List (Nat × Nat)) : List (Option (Nat × Bool) × List Nat) → List Rec → GS → Heap → (List Rec → GS → Heap → Option R) → Option R
  | [], rs, σ, h, K => K rs σ h
  | (none, js) :: rest, rs, σ, h, K => krunD P C N H nt ops bad js rs σ h fun rs σ h => kgroupsD P C N H nt ops bad rest rs σ h K
  | (some g, js) :: rest, rs, σ, h, K => bif kwant ops σ (some g) then krunD P C N H nt ops bad js rs σ h fun rs σ h => kgroupsD P C N H nt ops bad rest rs σ h K
    else got (kskip nt ops js σ) fun σ => kgroupsD P C N H nt ops bad rest rs σ h K

def kregion (P : Program) (C : Cfg) (N : NCall) (H : HCall) (nt : Nat) (ops : Array Oper) (draw : Bool) (σ : GS) (h : Heap) (K : GS → Heap → Option R) : Option R :=
  bif grpOk ops (grp ops (List.range ops.size)) && (!draw || statOk C ops) then kgroups P C N H nt ops (grp ops (List.range ops.size)) σ h K else
  bif grpOk ops (grp ops (List.range ops.size)) && dynOk C ops then kgroupsD P C N H nt ops (badOf C ops) (grp ops (List.range ops.size)) [] σ h (fun rs σ h => bif chk (badOf C ops) rs then K σ h else none) else none

def kloop (body : GS → Heap → (GX → GS → Heap → Option R) → Option R) : Nat → GS → Heap → (GX → GS → Heap → Option R) → Option R
  | 0, _, _, _ => none
  | k + 1, σ, h, K => body σ h fun x σ' h' => match x with | .nrm => kloop body k σ' h' K | x => K x σ' h'

def kcode (P : Program) (C : Cfg) (N : NCall) (H : HCall) (k nt : Nat) : Code → GS → Heap → (GX → GS → Heap → Option R) → Option R
  | .skip, σ, h, K => K .nrm σ h
  | .region _ ops draw, σ, h, K => kregion P C N H nt ops draw σ h fun σ h => K .nrm σ h
  | .seq a b, σ, h, K => kcode P C N H k nt a σ h fun x σ' h' => match x with | .nrm => kcode P C N H k nt b σ' h' K | x => K x σ' h'
  | .cond c x y, σ, h, K => got (eval σ c) fun v => match v with | .bool b => (bif b then kcode P C N H k nt x σ h K else kcode P C N H k nt y σ h K) | _ => none
  | .block id c, σ, h, K => kcode P C N H k nt c σ h fun x σ' h' => match x with | .ext id' => (bif Nat.beq id' id then K .nrm σ' h' else K (.ext id') σ' h') | x => K x σ' h'
  | .loop c, σ, h, K => kloop (fun σ h K => kcode P C N H k nt c σ h K) k σ h K
  | .exit id, σ, h, K => K (.ext id) σ h
  | .ret, σ, h, K => K .ret σ h
  | .label _, σ, h, K => K .nrm σ h
  | _, _, _, _ => none

def kres (P : Program) (σ : GS) (h : Heap) : List ResultVar → List GV → (GV → Option R) → Option R
  | [], [v], K => K v
  | [], vs, K => K (.tup vs)
  | .tmp t :: rest, acc, K => kres P σ h rest (acc ++ [σ t]) K
  | .cell a t :: rest, acc, K => (kload P t h (σ a)).bind fun v => kres P σ h rest (acc ++ [v]) K

/-- A function, its callees told by N and H. -/
def kfun (P : Program) (C : Cfg) (N : NCall) (H : HCall) (k : Nat) (f : FuncId) (args : List GV) (h : Heap) (fin : GV → Heap → Option R) : Option R :=
  match P.funcs[f]? with
  | none => none
  | some fn =>
    match fn.body with
    | none => none
    | some b => kcode P C N H k (max args.length fn.ntmps) b (fun t => args.getD t .un) h fun x σ h' => match x with
      | .ext _ => none
      | _ => kres P σ h' fn.results.toList [] fun v => fin v h'
end

end Go.Proofs.YtklhdbkaejbajaaDoor.G
