/- Values of the machine beside the model's own; what the package-level variables hold. Definitions alone. -/
import Derived.Calls
import Derived.Orders
import Derived.Below
import Derived.LoopN
import Derived.Control
namespace Go.Proofs.Ytolhjndfplfjpaa.G
open Go.RowKit
set_option linter.unusedVariables false

/-- Values. ptr i off tot: a place in block i, which had tot cells; sl: a slice in a block; fz: a slice by what it holds (t: only for a while); fp: a place by what stands from there on; dk: some slice, of which nothing is known. -/
inductive GV where
  | int (k : IntKind) (n : Int)
  | bool (b : Bool)
  | str (s : ByteArray)
  | nilp
  | ptr (i off tot : Nat)
  | fp (t : Bool) (cells : List GV)
  | nils
  | emp
  | sl (i off len cap es : Nat)
  | fz (t : Bool) (n es : Nat) (cells : List GV)
  | fn (f : FuncId) (caps : List GV)
  | nili
  | ifc
  | un
  | dk (k : Nat)
  | agg (cs : List GV)
  | tup (vs : List GV)
  deriving Inhabited

/-- What the package-level variables hold that this machine may read: laid once, never written. -/
def globs : Nat → Option (List GV) := fun _ => none
/-- What is known of the world in which the law is called. -/
def Base (W : World) : Prop := True

end Go.Proofs.Ytolhjndfplfjpaa.G
