/-
  No cell of these rows narrows 'for every input' (looked for: loops, veiled, ifaces, maps, wideKeys, modest, calm, conditions, laid).
  DERIVED. THE GIVEN ROWS OF THIS SEAT. 9 by the template 'for every input the law returns true; each argument reads behind the call as it read before'; 0 by the template 'total and deterministic' (their statements: YtopmnigfklgnkaaTotals.lean).
  GIVEN WITH THE SEED: the statements are not yours to turn. If you find one false, say at which input.
  Laid BY PROGRAM, IN A SANDBOX (cutbox-rows.mjs): the forced cells as the released guide's own fill.sh prints them over the translation 6fb581576c40215a… (all of the seat's roots in one cut). By AI agents, Wed Nov 11 2026. No macro, syntax, notation, axiom, sorry.
-/
import Derived.Test.YtopmnigfklgnkaaChecked
import GoSem.Claim
import GoSem.ClaimJoined
import GoSem.ClaimMapViews
import Derived.JoinedTies
import Derived.KernelRfl
namespace Go.Proofs.Ytopmnigfklgnkaa
/- THE CELL 'sum', in the pinned program and in every row, IS THE sha256 OF THE DUMP (.gsa) THAT YtopmnigfklgnkaaProg.lean LOADS. Nothing in Lean hashes anything: it is a label: what it is worth is what the hold of that sum in a sandbox is worth. -/
noncomputable def Try.pinned : Pinned := { name := "ytopmnigfklgnkaa", sum := "6fb581576c40215ac36b23b101ed15fae560d4aa09498bb9e77b29970ea2d5d3", checked := Try.checked }
namespace Rows
def none {H : Type} : Left H := { results := [], args := [] }

/-- 'laws.FnExactCertain': WHATEVER THE INPUT: true; the input reads as it did. -/
def fnExactCertainSpec : ChangeSpec := { name := "fnExactCertain", fn := fun _ => fun
  | [d] => { results := [.lit (.bool true)], args := [d] }
  | _ => none }
def fnExactCertainRow : OpenClaim := { program := "ytopmnigfklgnkaa", sum := "6fb581576c40215ac36b23b101ed15fae560d4aa09498bb9e77b29970ea2d5d3", func := "loop.example/g00215/laws.FnExactCertain", spec := "fnExactCertain", unfollowed := true, recurses := true, apart := false }
def FnExactCertainSaid : Prop := fnExactCertainRow.holds Try.pinned (OpenSpec.ofChange fnExactCertainSpec)

/-- ITS FALSE NEIGHBOUR: 'it returns false'. Refute it at one input. -/
def fnExactCertainWrong : ChangeSpec := { name := "fnExactCertain", fn := fun _ => fun
  | [d] => { results := [.lit (.bool false)], args := [d] }
  | _ => none }
def FnExactCertainWrongFalsely : Prop := fnExactCertainRow.holds Try.pinned (OpenSpec.ofChange fnExactCertainWrong)

/-- 'laws.FnExactExtend': WHATEVER THE INPUT: true; the input reads as it did. -/
def fnExactExtendSpec : ChangeSpec := { name := "fnExactExtend", fn := fun _ => fun
  | [d] => { results := [.lit (.bool true)], args := [d] }
  | _ => none }
def fnExactExtendRow : OpenClaim := { program := "ytopmnigfklgnkaa", sum := "6fb581576c40215ac36b23b101ed15fae560d4aa09498bb9e77b29970ea2d5d3", func := "loop.example/g00215/laws.FnExactExtend", spec := "fnExactExtend", unfollowed := true, recurses := true, apart := false }
def FnExactExtendSaid : Prop := fnExactExtendRow.holds Try.pinned (OpenSpec.ofChange fnExactExtendSpec)

/-- ITS FALSE NEIGHBOUR: 'it returns false'. Refute it at one input. -/
def fnExactExtendWrong : ChangeSpec := { name := "fnExactExtend", fn := fun _ => fun
  | [d] => { results := [.lit (.bool false)], args := [d] }
  | _ => none }
def FnExactExtendWrongFalsely : Prop := fnExactExtendRow.holds Try.pinned (OpenSpec.ofChange fnExactExtendWrong)

/-- 'laws.FnExactSubmit': WHATEVER THE INPUT: true; the input reads as it did. -/
def fnExactSubmitSpec : ChangeSpec := { name := "fnExactSubmit", fn := fun _ => fun
  | [d1, d2] => { results := [.lit (.bool true)], args := [d1, d2] }
  | _ => none }
def fnExactSubmitRow : OpenClaim := { program := "ytopmnigfklgnkaa", sum := "6fb581576c40215ac36b23b101ed15fae560d4aa09498bb9e77b29970ea2d5d3", func := "loop.example/g00215/laws.FnExactSubmit", spec := "fnExactSubmit", unfollowed := true, recurses := true, apart := false }
def FnExactSubmitSaid : Prop := fnExactSubmitRow.holds Try.pinned (OpenSpec.ofChange fnExactSubmitSpec)

/-- ITS FALSE NEIGHBOUR: 'it returns false'. Refute it at one input. -/
def fnExactSubmitWrong : ChangeSpec := { name := "fnExactSubmit", fn := fun _ => fun
  | [d1, d2] => { results := [.lit (.bool false)], args := [d1, d2] }
  | _ => none }
def FnExactSubmitWrongFalsely : Prop := fnExactSubmitRow.holds Try.pinned (OpenSpec.ofChange fnExactSubmitWrong)

/-- 'laws.FnExactReply': WHATEVER THE INPUT: true; the input reads as it did. -/
def fnExactReplySpec : ChangeSpec := { name := "fnExactReply", fn := fun _ => fun
  | [d1, d2] => { results := [.lit (.bool true)], args := [d1, d2] }
  | _ => none }
def fnExactReplyRow : OpenClaim := { program := "ytopmnigfklgnkaa", sum := "6fb581576c40215ac36b23b101ed15fae560d4aa09498bb9e77b29970ea2d5d3", func := "loop.example/g00215/laws.FnExactReply", spec := "fnExactReply", unfollowed := true, recurses := true, apart := false }
def FnExactReplySaid : Prop := fnExactReplyRow.holds Try.pinned (OpenSpec.ofChange fnExactReplySpec)

/-- ITS FALSE NEIGHBOUR: 'it returns false'. Refute it at one input. -/
def fnExactReplyWrong : ChangeSpec := { name := "fnExactReply", fn := fun _ => fun
  | [d1, d2] => { results := [.lit (.bool false)], args := [d1, d2] }
  | _ => none }
def FnExactReplyWrongFalsely : Prop := fnExactReplyRow.holds Try.pinned (OpenSpec.ofChange fnExactReplyWrong)

/-- 'laws.FnExactCarry': WHATEVER THE INPUT: true; the input reads as it did. -/
def fnExactCarrySpec : ChangeSpec := { name := "fnExactCarry", fn := fun _ => fun
  | [d1, d2] => { results := [.lit (.bool true)], args := [d1, d2] }
  | _ => none }
def fnExactCarryRow : OpenClaim := { program := "ytopmnigfklgnkaa", sum := "6fb581576c40215ac36b23b101ed15fae560d4aa09498bb9e77b29970ea2d5d3", func := "loop.example/g00215/laws.FnExactCarry", spec := "fnExactCarry", unfollowed := true, recurses := true, apart := false }
def FnExactCarrySaid : Prop := fnExactCarryRow.holds Try.pinned (OpenSpec.ofChange fnExactCarrySpec)

/-- ITS FALSE NEIGHBOUR: 'it returns false'. Refute it at one input. -/
def fnExactCarryWrong : ChangeSpec := { name := "fnExactCarry", fn := fun _ => fun
  | [d1, d2] => { results := [.lit (.bool false)], args := [d1, d2] }
  | _ => none }
def FnExactCarryWrongFalsely : Prop := fnExactCarryRow.holds Try.pinned (OpenSpec.ofChange fnExactCarryWrong)

/-- 'laws.FnExactFall': WHATEVER THE INPUT: true; the input reads as it did. -/
def fnExactFallSpec : ChangeSpec := { name := "fnExactFall", fn := fun _ => fun
  | [d1, d2] => { results := [.lit (.bool true)], args := [d1, d2] }
  | _ => none }
def fnExactFallRow : OpenClaim := { program := "ytopmnigfklgnkaa", sum := "6fb581576c40215ac36b23b101ed15fae560d4aa09498bb9e77b29970ea2d5d3", func := "loop.example/g00215/laws.FnExactFall", spec := "fnExactFall", unfollowed := true, recurses := true, apart := false }
def FnExactFallSaid : Prop := fnExactFallRow.holds Try.pinned (OpenSpec.ofChange fnExactFallSpec)

/-- ITS FALSE NEIGHBOUR: 'it returns false'. Refute it at one input. -/
def fnExactFallWrong : ChangeSpec := { name := "fnExactFall", fn := fun _ => fun
  | [d1, d2] => { results := [.lit (.bool false)], args := [d1, d2] }
  | _ => none }
def FnExactFallWrongFalsely : Prop := fnExactFallRow.holds Try.pinned (OpenSpec.ofChange fnExactFallWrong)

/-- 'laws.FnCertain': WHATEVER THE INPUT: true; the input reads as it did. -/
def fnCertainSpec : ChangeSpec := { name := "fnCertain", fn := fun _ => fun
  | [d] => { results := [.lit (.bool true)], args := [d] }
  | _ => none }
def fnCertainRow : OpenClaim := { program := "ytopmnigfklgnkaa", sum := "6fb581576c40215ac36b23b101ed15fae560d4aa09498bb9e77b29970ea2d5d3", func := "loop.example/g00215/laws.FnCertain", spec := "fnCertain", unfollowed := true, recurses := true, apart := false }
def FnCertainSaid : Prop := fnCertainRow.holds Try.pinned (OpenSpec.ofChange fnCertainSpec)

/-- ITS FALSE NEIGHBOUR: 'it returns false'. Refute it at one input. -/
def fnCertainWrong : ChangeSpec := { name := "fnCertain", fn := fun _ => fun
  | [d] => { results := [.lit (.bool false)], args := [d] }
  | _ => none }
def FnCertainWrongFalsely : Prop := fnCertainRow.holds Try.pinned (OpenSpec.ofChange fnCertainWrong)

/-- 'laws.FnChains': WHATEVER THE INPUT: true; the input reads as it did. -/
def fnChainsSpec : ChangeSpec := { name := "fnChains", fn := fun _ => fun
  | [d] => { results := [.lit (.bool true)], args := [d] }
  | _ => none }
def fnChainsRow : OpenClaim := { program := "ytopmnigfklgnkaa", sum := "6fb581576c40215ac36b23b101ed15fae560d4aa09498bb9e77b29970ea2d5d3", func := "loop.example/g00215/laws.FnChains", spec := "fnChains", unfollowed := true, recurses := true, apart := false }
def FnChainsSaid : Prop := fnChainsRow.holds Try.pinned (OpenSpec.ofChange fnChainsSpec)

/-- ITS FALSE NEIGHBOUR: 'it returns false'. Refute it at one input. -/
def fnChainsWrong : ChangeSpec := { name := "fnChains", fn := fun _ => fun
  | [d] => { results := [.lit (.bool false)], args := [d] }
  | _ => none }
def FnChainsWrongFalsely : Prop := fnChainsRow.holds Try.pinned (OpenSpec.ofChange fnChainsWrong)

/-- 'laws.FnWindows': WHATEVER THE INPUT: true; the input reads as it did. -/
def fnWindowsSpec : ChangeSpec := { name := "fnWindows", fn := fun _ => fun
  | [d] => { results := [.lit (.bool true)], args := [d] }
  | _ => none }
def fnWindowsRow : OpenClaim := { program := "ytopmnigfklgnkaa", sum := "6fb581576c40215ac36b23b101ed15fae560d4aa09498bb9e77b29970ea2d5d3", func := "loop.example/g00215/laws.FnWindows", spec := "fnWindows", unfollowed := true, recurses := true, apart := false }
def FnWindowsSaid : Prop := fnWindowsRow.holds Try.pinned (OpenSpec.ofChange fnWindowsSpec)

/-- ITS FALSE NEIGHBOUR: 'it returns false'. Refute it at one input. -/
def fnWindowsWrong : ChangeSpec := { name := "fnWindows", fn := fun _ => fun
  | [d] => { results := [.lit (.bool false)], args := [d] }
  | _ => none }
def FnWindowsWrongFalsely : Prop := fnWindowsRow.holds Try.pinned (OpenSpec.ofChange fnWindowsWrong)

/- THE SECOND FORM. 'bulk': how many values and letters a reading holds, each counted each time it is reached (what is shared counts as often as it is met; a slice's spare places count too). A statement '..UptoSaid' is the law's where the arguments, and the package variables that the reading takes, are together of bulk at most 1048576: NARROWER than '..Said'. Prove '..Said' where nothing that the law and all that it calls make is longer than what came in: it says more and counts as full. Else prove '..UptoSaid'. A law counts once. -/
mutual
def uptoBulk {H : Type} : DataW H → Nat
  | .lit (.string bytes) => bytes.length + 1
  | .lit _ => 1
  | .nil => 1
  | .ptr d => uptoBulk d + 1
  | .slice elems spare => uptoBulkAll elems + uptoBulkAll spare + 1
  | .agg parts => uptoBulkAll parts + 1
  | .iface _ d => uptoBulk d + 1
  | .map entries => uptoBulkEntries entries + 1
  | .held _ => 1
def uptoBulkAll {H : Type} : List (DataW H) → Nat
  | [] => 0
  | d :: r => uptoBulk d + uptoBulkAll r
def uptoBulkEntries {H : Type} : List (Lit × DataW H) → Nat
  | [] => 0
  | x :: r => uptoBulkEntry x + uptoBulkEntries r
def uptoBulkEntry {H : Type} : Lit × DataW H → Nat
  | (.string bytes, d) => bytes.length + uptoBulk d + 1
  | (_, d) => uptoBulk d + 1
 end
def uptoSmall : (H : Type) → List (DataW H) → Bool := fun _ ds => decide (uptoBulkAll ds ≤ 1048576)
def OpenSpec.upto (s : _root_.Go.ChangeSpec) : _root_.Go.OpenSpec := { _root_.Go.OpenSpec.ofChange s with cond := some uptoSmall }

/-- 'laws.FnExactCertain', WHERE WHAT IT READS IS OF BULK AT MOST 1048576: true; the input reads as it did. -/
def fnExactCertainUptoRow : OpenClaim := { program := "ytopmnigfklgnkaa", sum := "6fb581576c40215ac36b23b101ed15fae560d4aa09498bb9e77b29970ea2d5d3", func := "loop.example/g00215/laws.FnExactCertain", spec := "fnExactCertain", unfollowed := true, recurses := true, apart := false, narrowed := true }
def FnExactCertainUptoSaid : Prop := fnExactCertainUptoRow.holds Try.pinned (OpenSpec.upto fnExactCertainSpec)

/-- 'laws.FnExactExtend', WHERE WHAT IT READS IS OF BULK AT MOST 1048576: true; the input reads as it did. -/
def fnExactExtendUptoRow : OpenClaim := { program := "ytopmnigfklgnkaa", sum := "6fb581576c40215ac36b23b101ed15fae560d4aa09498bb9e77b29970ea2d5d3", func := "loop.example/g00215/laws.FnExactExtend", spec := "fnExactExtend", unfollowed := true, recurses := true, apart := false, narrowed := true }
def FnExactExtendUptoSaid : Prop := fnExactExtendUptoRow.holds Try.pinned (OpenSpec.upto fnExactExtendSpec)

/-- 'laws.FnExactSubmit', WHERE WHAT IT READS IS OF BULK AT MOST 1048576: true; the input reads as it did. -/
def fnExactSubmitUptoRow : OpenClaim := { program := "ytopmnigfklgnkaa", sum := "6fb581576c40215ac36b23b101ed15fae560d4aa09498bb9e77b29970ea2d5d3", func := "loop.example/g00215/laws.FnExactSubmit", spec := "fnExactSubmit", unfollowed := true, recurses := true, apart := false, narrowed := true }
def FnExactSubmitUptoSaid : Prop := fnExactSubmitUptoRow.holds Try.pinned (OpenSpec.upto fnExactSubmitSpec)

/-- 'laws.FnExactReply', WHERE WHAT IT READS IS OF BULK AT MOST 1048576: true; the input reads as it did. -/
def fnExactReplyUptoRow : OpenClaim := { program := "ytopmnigfklgnkaa", sum := "6fb581576c40215ac36b23b101ed15fae560d4aa09498bb9e77b29970ea2d5d3", func := "loop.example/g00215/laws.FnExactReply", spec := "fnExactReply", unfollowed := true, recurses := true, apart := false, narrowed := true }
def FnExactReplyUptoSaid : Prop := fnExactReplyUptoRow.holds Try.pinned (OpenSpec.upto fnExactReplySpec)

/-- 'laws.FnExactCarry', WHERE WHAT IT READS IS OF BULK AT MOST 1048576: true; the input reads as it did. -/
def fnExactCarryUptoRow : OpenClaim := { program := "ytopmnigfklgnkaa", sum := "6fb581576c40215ac36b23b101ed15fae560d4aa09498bb9e77b29970ea2d5d3", func := "loop.example/g00215/laws.FnExactCarry", spec := "fnExactCarry", unfollowed := true, recurses := true, apart := false, narrowed := true }
def FnExactCarryUptoSaid : Prop := fnExactCarryUptoRow.holds Try.pinned (OpenSpec.upto fnExactCarrySpec)

/-- 'laws.FnExactFall', WHERE WHAT IT READS IS OF BULK AT MOST 1048576: true; the input reads as it did. -/
def fnExactFallUptoRow : OpenClaim := { program := "ytopmnigfklgnkaa", sum := "6fb581576c40215ac36b23b101ed15fae560d4aa09498bb9e77b29970ea2d5d3", func := "loop.example/g00215/laws.FnExactFall", spec := "fnExactFall", unfollowed := true, recurses := true, apart := false, narrowed := true }
def FnExactFallUptoSaid : Prop := fnExactFallUptoRow.holds Try.pinned (OpenSpec.upto fnExactFallSpec)

/-- 'laws.FnCertain', WHERE WHAT IT READS IS OF BULK AT MOST 1048576: true; the input reads as it did. -/
def fnCertainUptoRow : OpenClaim := { program := "ytopmnigfklgnkaa", sum := "6fb581576c40215ac36b23b101ed15fae560d4aa09498bb9e77b29970ea2d5d3", func := "loop.example/g00215/laws.FnCertain", spec := "fnCertain", unfollowed := true, recurses := true, apart := false, narrowed := true }
def FnCertainUptoSaid : Prop := fnCertainUptoRow.holds Try.pinned (OpenSpec.upto fnCertainSpec)

/-- 'laws.FnChains', WHERE WHAT IT READS IS OF BULK AT MOST 1048576: true; the input reads as it did. -/
def fnChainsUptoRow : OpenClaim := { program := "ytopmnigfklgnkaa", sum := "6fb581576c40215ac36b23b101ed15fae560d4aa09498bb9e77b29970ea2d5d3", func := "loop.example/g00215/laws.FnChains", spec := "fnChains", unfollowed := true, recurses := true, apart := false, narrowed := true }
def FnChainsUptoSaid : Prop := fnChainsUptoRow.holds Try.pinned (OpenSpec.upto fnChainsSpec)

/-- 'laws.FnWindows', WHERE WHAT IT READS IS OF BULK AT MOST 1048576: true; the input reads as it did. -/
def fnWindowsUptoRow : OpenClaim := { program := "ytopmnigfklgnkaa", sum := "6fb581576c40215ac36b23b101ed15fae560d4aa09498bb9e77b29970ea2d5d3", func := "loop.example/g00215/laws.FnWindows", spec := "fnWindows", unfollowed := true, recurses := true, apart := false, narrowed := true }
def FnWindowsUptoSaid : Prop := fnWindowsUptoRow.holds Try.pinned (OpenSpec.upto fnWindowsSpec)

end Rows
end Go.Proofs.Ytopmnigfklgnkaa
