/-
  No cell of these rows narrows 'for every input' (looked for: loops, veiled, ifaces, maps, wideKeys, modest, calm, conditions, laid).
  DERIVED. THE GIVEN ROWS OF THIS SEAT. 11 by the template 'for every input the law returns true; each argument reads behind the call as it read before'; 0 by the template 'total and deterministic' (their statements: YtlbnioapepelnaaTotals.lean).
  GIVEN WITH THE SEED: the statements are not yours to turn. If you find one false, say at which input.
  Laid BY PROGRAM, IN A SANDBOX (cutbox-rows.mjs): the forced cells as the released guide's own fill.sh prints them over the translation b1ddcbbcfde4e829… (all of the seat's roots in one cut). By AI agents, Wed Nov 11 2026. No macro, syntax, notation, axiom, sorry.
-/
import Derived.Test.YtlbnioapepelnaaChecked
import GoSem.Claim
import GoSem.ClaimJoined
import GoSem.ClaimMapViews
import Derived.JoinedTies
import Derived.KernelRfl
namespace Go.Proofs.Ytlbnioapepelnaa
/- THE CELL 'sum', in the pinned program and in every row, IS THE sha256 OF THE DUMP (.gsa) THAT YtlbnioapepelnaaProg.lean LOADS. Nothing in Lean hashes anything: it is a label: what it is worth is what the hold of that sum in a sandbox is worth. -/
noncomputable def Try.pinned : Pinned := { name := "ytlbnioapepelnaa", sum := "b1ddcbbcfde4e829614e5f961594b6417cf4be2ed2e316a1360ab95dfd57d715", checked := Try.checked }
namespace Rows
def none {H : Type} : Left H := { results := [], args := [] }

/-- 'laws.FnExactFall': WHATEVER THE INPUT: true; the input reads as it did. -/
def fnExactFallSpec : ChangeSpec := { name := "fnExactFall", fn := fun _ => fun
  | [d1, d2] => { results := [.lit (.bool true)], args := [d1, d2] }
  | _ => none }
def fnExactFallRow : OpenClaim := { program := "ytlbnioapepelnaa", sum := "b1ddcbbcfde4e829614e5f961594b6417cf4be2ed2e316a1360ab95dfd57d715", func := "loop.example/g00215/laws.FnExactFall", spec := "fnExactFall", unfollowed := true, recurses := true, apart := false }
def FnExactFallSaid : Prop := fnExactFallRow.holds Try.pinned (OpenSpec.ofChange fnExactFallSpec)

/-- ITS FALSE NEIGHBOUR: 'it returns false'. Refute it at one input. -/
def fnExactFallWrong : ChangeSpec := { name := "fnExactFall", fn := fun _ => fun
  | [d1, d2] => { results := [.lit (.bool false)], args := [d1, d2] }
  | _ => none }
def FnExactFallWrongFalsely : Prop := fnExactFallRow.holds Try.pinned (OpenSpec.ofChange fnExactFallWrong)

/-- 'laws.FnCertain': WHATEVER THE INPUT: true; the input reads as it did. -/
def fnCertainSpec : ChangeSpec := { name := "fnCertain", fn := fun _ => fun
  | [d] => { results := [.lit (.bool true)], args := [d] }
  | _ => none }
def fnCertainRow : OpenClaim := { program := "ytlbnioapepelnaa", sum := "b1ddcbbcfde4e829614e5f961594b6417cf4be2ed2e316a1360ab95dfd57d715", func := "loop.example/g00215/laws.FnCertain", spec := "fnCertain", unfollowed := true, recurses := true, apart := false }
def FnCertainSaid : Prop := fnCertainRow.holds Try.pinned (OpenSpec.ofChange fnCertainSpec)

/-- ITS FALSE NEIGHBOUR: 'it returns false'. Refute it at one input. -/
def fnCertainWrong : ChangeSpec := { name := "fnCertain", fn := fun _ => fun
  | [d] => { results := [.lit (.bool false)], args := [d] }
  | _ => none }
def FnCertainWrongFalsely : Prop := fnCertainRow.holds Try.pinned (OpenSpec.ofChange fnCertainWrong)

/-- 'laws.FnChains': WHATEVER THE INPUT: true; the input reads as it did. -/
def fnChainsSpec : ChangeSpec := { name := "fnChains", fn := fun _ => fun
  | [d] => { results := [.lit (.bool true)], args := [d] }
  | _ => none }
def fnChainsRow : OpenClaim := { program := "ytlbnioapepelnaa", sum := "b1ddcbbcfde4e829614e5f961594b6417cf4be2ed2e316a1360ab95dfd57d715", func := "loop.example/g00215/laws.FnChains", spec := "fnChains", unfollowed := true, recurses := true, apart := false }
def FnChainsSaid : Prop := fnChainsRow.holds Try.pinned (OpenSpec.ofChange fnChainsSpec)

/-- ITS FALSE NEIGHBOUR: 'it returns false'. Refute it at one input. -/
def fnChainsWrong : ChangeSpec := { name := "fnChains", fn := fun _ => fun
  | [d] => { results := [.lit (.bool false)], args := [d] }
  | _ => none }
def FnChainsWrongFalsely : Prop := fnChainsRow.holds Try.pinned (OpenSpec.ofChange fnChainsWrong)

/-- 'laws.FnWindows': WHATEVER THE INPUT: true; the input reads as it did. -/
def fnWindowsSpec : ChangeSpec := { name := "fnWindows", fn := fun _ => fun
  | [d] => { results := [.lit (.bool true)], args := [d] }
  | _ => none }
def fnWindowsRow : OpenClaim := { program := "ytlbnioapepelnaa", sum := "b1ddcbbcfde4e829614e5f961594b6417cf4be2ed2e316a1360ab95dfd57d715", func := "loop.example/g00215/laws.FnWindows", spec := "fnWindows", unfollowed := true, recurses := true, apart := false }
def FnWindowsSaid : Prop := fnWindowsRow.holds Try.pinned (OpenSpec.ofChange fnWindowsSpec)

/-- ITS FALSE NEIGHBOUR: 'it returns false'. Refute it at one input. -/
def fnWindowsWrong : ChangeSpec := { name := "fnWindows", fn := fun _ => fun
  | [d] => { results := [.lit (.bool false)], args := [d] }
  | _ => none }
def FnWindowsWrongFalsely : Prop := fnWindowsRow.holds Try.pinned (OpenSpec.ofChange fnWindowsWrong)

/-- 'laws.FnExactNewWorld': WHATEVER THE INPUT: true; the input reads as it did. -/
def fnExactNewWorldSpec : ChangeSpec := { name := "fnExactNewWorld", fn := fun _ => fun
  | [d] => { results := [.lit (.bool true)], args := [d] }
  | _ => none }
def fnExactNewWorldRow : OpenClaim := { program := "ytlbnioapepelnaa", sum := "b1ddcbbcfde4e829614e5f961594b6417cf4be2ed2e316a1360ab95dfd57d715", func := "loop.example/g00215/laws.FnExactNewWorld", spec := "fnExactNewWorld", apart := false }
def FnExactNewWorldSaid : Prop := fnExactNewWorldRow.holds Try.pinned (OpenSpec.ofChange fnExactNewWorldSpec)

/-- ITS FALSE NEIGHBOUR: 'it returns false'. Refute it at one input. -/
def fnExactNewWorldWrong : ChangeSpec := { name := "fnExactNewWorld", fn := fun _ => fun
  | [d] => { results := [.lit (.bool false)], args := [d] }
  | _ => none }
def FnExactNewWorldWrongFalsely : Prop := fnExactNewWorldRow.holds Try.pinned (OpenSpec.ofChange fnExactNewWorldWrong)

/-- 'laws.FnExactTook': WHATEVER THE INPUT: true; the input reads as it did. -/
def fnExactTookSpec : ChangeSpec := { name := "fnExactTook", fn := fun _ => fun
  | [d1, d2] => { results := [.lit (.bool true)], args := [d1, d2] }
  | _ => none }
def fnExactTookRow : OpenClaim := { program := "ytlbnioapepelnaa", sum := "b1ddcbbcfde4e829614e5f961594b6417cf4be2ed2e316a1360ab95dfd57d715", func := "loop.example/g00215/laws.FnExactTook", spec := "fnExactTook", unfollowed := true, recurses := true, apart := false }
def FnExactTookSaid : Prop := fnExactTookRow.holds Try.pinned (OpenSpec.ofChange fnExactTookSpec)

/-- ITS FALSE NEIGHBOUR: 'it returns false'. Refute it at one input. -/
def fnExactTookWrong : ChangeSpec := { name := "fnExactTook", fn := fun _ => fun
  | [d1, d2] => { results := [.lit (.bool false)], args := [d1, d2] }
  | _ => none }
def FnExactTookWrongFalsely : Prop := fnExactTookRow.holds Try.pinned (OpenSpec.ofChange fnExactTookWrong)

/-- 'laws.FnExactStep': WHATEVER THE INPUT: true; the input reads as it did. -/
def fnExactStepSpec : ChangeSpec := { name := "fnExactStep", fn := fun _ => fun
  | [d1, d2] => { results := [.lit (.bool true)], args := [d1, d2] }
  | _ => none }
def fnExactStepRow : OpenClaim := { program := "ytlbnioapepelnaa", sum := "b1ddcbbcfde4e829614e5f961594b6417cf4be2ed2e316a1360ab95dfd57d715", func := "loop.example/g00215/laws.FnExactStep", spec := "fnExactStep", unfollowed := true, recurses := true, apart := false }
def FnExactStepSaid : Prop := fnExactStepRow.holds Try.pinned (OpenSpec.ofChange fnExactStepSpec)

/-- ITS FALSE NEIGHBOUR: 'it returns false'. Refute it at one input. -/
def fnExactStepWrong : ChangeSpec := { name := "fnExactStep", fn := fun _ => fun
  | [d1, d2] => { results := [.lit (.bool false)], args := [d1, d2] }
  | _ => none }
def FnExactStepWrongFalsely : Prop := fnExactStepRow.holds Try.pinned (OpenSpec.ofChange fnExactStepWrong)

/-- 'laws.FnExactParsed': WHATEVER THE INPUT: true; the input reads as it did. -/
def fnExactParsedSpec : ChangeSpec := { name := "fnExactParsed", fn := fun _ => fun
  | [d1, d2] => { results := [.lit (.bool true)], args := [d1, d2] }
  | _ => none }
def fnExactParsedRow : OpenClaim := { program := "ytlbnioapepelnaa", sum := "b1ddcbbcfde4e829614e5f961594b6417cf4be2ed2e316a1360ab95dfd57d715", func := "loop.example/g00215/laws.FnExactParsed", spec := "fnExactParsed", unfollowed := true, recurses := true, apart := false }
def FnExactParsedSaid : Prop := fnExactParsedRow.holds Try.pinned (OpenSpec.ofChange fnExactParsedSpec)

/-- ITS FALSE NEIGHBOUR: 'it returns false'. Refute it at one input. -/
def fnExactParsedWrong : ChangeSpec := { name := "fnExactParsed", fn := fun _ => fun
  | [d1, d2] => { results := [.lit (.bool false)], args := [d1, d2] }
  | _ => none }
def FnExactParsedWrongFalsely : Prop := fnExactParsedRow.holds Try.pinned (OpenSpec.ofChange fnExactParsedWrong)

/-- 'laws.FnExactDown': WHATEVER THE INPUT: true; the input reads as it did. -/
def fnExactDownSpec : ChangeSpec := { name := "fnExactDown", fn := fun _ => fun
  | [d1, d2, d3, d4, d5] => { results := [.lit (.bool true)], args := [d1, d2, d3, d4, d5] }
  | _ => none }
def fnExactDownRow : OpenClaim := { program := "ytlbnioapepelnaa", sum := "b1ddcbbcfde4e829614e5f961594b6417cf4be2ed2e316a1360ab95dfd57d715", func := "loop.example/g00215/laws.FnExactDown", spec := "fnExactDown", unfollowed := true, recurses := true, apart := false }
def FnExactDownSaid : Prop := fnExactDownRow.holds Try.pinned (OpenSpec.ofChange fnExactDownSpec)

/-- ITS FALSE NEIGHBOUR: 'it returns false'. Refute it at one input. -/
def fnExactDownWrong : ChangeSpec := { name := "fnExactDown", fn := fun _ => fun
  | [d1, d2, d3, d4, d5] => { results := [.lit (.bool false)], args := [d1, d2, d3, d4, d5] }
  | _ => none }
def FnExactDownWrongFalsely : Prop := fnExactDownRow.holds Try.pinned (OpenSpec.ofChange fnExactDownWrong)

/-- 'laws.FnExactUp': WHATEVER THE INPUT: true; the input reads as it did. -/
def fnExactUpSpec : ChangeSpec := { name := "fnExactUp", fn := fun _ => fun
  | [d1, d2, d3, d4, d5] => { results := [.lit (.bool true)], args := [d1, d2, d3, d4, d5] }
  | _ => none }
def fnExactUpRow : OpenClaim := { program := "ytlbnioapepelnaa", sum := "b1ddcbbcfde4e829614e5f961594b6417cf4be2ed2e316a1360ab95dfd57d715", func := "loop.example/g00215/laws.FnExactUp", spec := "fnExactUp", unfollowed := true, recurses := true, apart := false }
def FnExactUpSaid : Prop := fnExactUpRow.holds Try.pinned (OpenSpec.ofChange fnExactUpSpec)

/-- ITS FALSE NEIGHBOUR: 'it returns false'. Refute it at one input. -/
def fnExactUpWrong : ChangeSpec := { name := "fnExactUp", fn := fun _ => fun
  | [d1, d2, d3, d4, d5] => { results := [.lit (.bool false)], args := [d1, d2, d3, d4, d5] }
  | _ => none }
def FnExactUpWrongFalsely : Prop := fnExactUpRow.holds Try.pinned (OpenSpec.ofChange fnExactUpWrong)

/-- 'laws.FnParsed': WHATEVER THE INPUT: true; the input reads as it did. -/
def fnParsedSpec : ChangeSpec := { name := "fnParsed", fn := fun _ => fun
  | [d] => { results := [.lit (.bool true)], args := [d] }
  | _ => none }
def fnParsedRow : OpenClaim := { program := "ytlbnioapepelnaa", sum := "b1ddcbbcfde4e829614e5f961594b6417cf4be2ed2e316a1360ab95dfd57d715", func := "loop.example/g00215/laws.FnParsed", spec := "fnParsed", unfollowed := true, recurses := true, apart := false }
def FnParsedSaid : Prop := fnParsedRow.holds Try.pinned (OpenSpec.ofChange fnParsedSpec)

/-- ITS FALSE NEIGHBOUR: 'it returns false'. Refute it at one input. -/
def fnParsedWrong : ChangeSpec := { name := "fnParsed", fn := fun _ => fun
  | [d] => { results := [.lit (.bool false)], args := [d] }
  | _ => none }
def FnParsedWrongFalsely : Prop := fnParsedRow.holds Try.pinned (OpenSpec.ofChange fnParsedWrong)

/- THE SECOND FORM. 'bulk': how many values and letters a reading holds, each counted each time it is reached (what is shared counts as often as it is met; a slice's spare places count too). A statement '..UptoSaid' is the law's where the arguments, and the package variables that the reading takes, are together of bulk at most 1048576: NARROWER than '..Said'. Prove '..Said' where nothing that the law and all that it calls make is longer than what came in: it says more and counts as full. Else prove '..UptoSaid'. A law counts once. -/
mutual
def uptoBulk {H : Type} : DataW H → Nat
  | .lit (.string bytes) => bytes.length + 1
  | .lit _ => 1
  | .nil => 1
  | .ptr d => uptoBulk d + 1
  | .slice elems spare => uptoBulkAll elems + uptoBulkAll spare + 1
  | .agg parts => uptoBulkAll parts + 1
  | .iface _ d => uptoBulk d + 1
  | .map entries => uptoBulkEntries entries + 1
  | .held _ => 1
def uptoBulkAll {H : Type} : List (DataW H) → Nat
  | [] => 0
  | d :: r => uptoBulk d + uptoBulkAll r
def uptoBulkEntries {H : Type} : List (Lit × DataW H) → Nat
  | [] => 0
  | x :: r => uptoBulkEntry x + uptoBulkEntries r
def uptoBulkEntry {H : Type} : Lit × DataW H → Nat
  | (.string bytes, d) => bytes.length + uptoBulk d + 1
  | (_, d) => uptoBulk d + 1
 end
def uptoSmall : (H : Type) → List (DataW H) → Bool := fun _ ds => decide (uptoBulkAll ds ≤ 1048576)
def OpenSpec.upto (s : _root_.Go.ChangeSpec) : _root_.Go.OpenSpec := { _root_.Go.OpenSpec.ofChange s with cond := some uptoSmall }

/-- 'laws.FnExactFall', WHERE WHAT IT READS IS OF BULK AT MOST 1048576: true; the input reads as it did. -/
def fnExactFallUptoRow : OpenClaim := { program := "ytlbnioapepelnaa", sum := "b1ddcbbcfde4e829614e5f961594b6417cf4be2ed2e316a1360ab95dfd57d715", func := "loop.example/g00215/laws.FnExactFall", spec := "fnExactFall", unfollowed := true, recurses := true, apart := false, narrowed := true }
def FnExactFallUptoSaid : Prop := fnExactFallUptoRow.holds Try.pinned (OpenSpec.upto fnExactFallSpec)

/-- 'laws.FnCertain', WHERE WHAT IT READS IS OF BULK AT MOST 1048576: true; the input reads as it did. -/
def fnCertainUptoRow : OpenClaim := { program := "ytlbnioapepelnaa", sum := "b1ddcbbcfde4e829614e5f961594b6417cf4be2ed2e316a1360ab95dfd57d715", func := "loop.example/g00215/laws.FnCertain", spec := "fnCertain", unfollowed := true, recurses := true, apart := false, narrowed := true }
def FnCertainUptoSaid : Prop := fnCertainUptoRow.holds Try.pinned (OpenSpec.upto fnCertainSpec)

/-- 'laws.FnChains', WHERE WHAT IT READS IS OF BULK AT MOST 1048576: true; the input reads as it did. -/
def fnChainsUptoRow : OpenClaim := { program := "ytlbnioapepelnaa", sum := "b1ddcbbcfde4e829614e5f961594b6417cf4be2ed2e316a1360ab95dfd57d715", func := "loop.example/g00215/laws.FnChains", spec := "fnChains", unfollowed := true, recurses := true, apart := false, narrowed := true }
def FnChainsUptoSaid : Prop := fnChainsUptoRow.holds Try.pinned (OpenSpec.upto fnChainsSpec)

/-- 'laws.FnWindows', WHERE WHAT IT READS IS OF BULK AT MOST 1048576: true; the input reads as it did. -/
def fnWindowsUptoRow : OpenClaim := { program := "ytlbnioapepelnaa", sum := "b1ddcbbcfde4e829614e5f961594b6417cf4be2ed2e316a1360ab95dfd57d715", func := "loop.example/g00215/laws.FnWindows", spec := "fnWindows", unfollowed := true, recurses := true, apart := false, narrowed := true }
def FnWindowsUptoSaid : Prop := fnWindowsUptoRow.holds Try.pinned (OpenSpec.upto fnWindowsSpec)

/-- 'laws.FnExactNewWorld', WHERE WHAT IT READS IS OF BULK AT MOST 1048576: true; the input reads as it did. -/
def fnExactNewWorldUptoRow : OpenClaim := { program := "ytlbnioapepelnaa", sum := "b1ddcbbcfde4e829614e5f961594b6417cf4be2ed2e316a1360ab95dfd57d715", func := "loop.example/g00215/laws.FnExactNewWorld", spec := "fnExactNewWorld", apart := false, narrowed := true }
def FnExactNewWorldUptoSaid : Prop := fnExactNewWorldUptoRow.holds Try.pinned (OpenSpec.upto fnExactNewWorldSpec)

/-- 'laws.FnExactTook', WHERE WHAT IT READS IS OF BULK AT MOST 1048576: true; the input reads as it did. -/
def fnExactTookUptoRow : OpenClaim := { program := "ytlbnioapepelnaa", sum := "b1ddcbbcfde4e829614e5f961594b6417cf4be2ed2e316a1360ab95dfd57d715", func := "loop.example/g00215/laws.FnExactTook", spec := "fnExactTook", unfollowed := true, recurses := true, apart := false, narrowed := true }
def FnExactTookUptoSaid : Prop := fnExactTookUptoRow.holds Try.pinned (OpenSpec.upto fnExactTookSpec)

/-- 'laws.FnExactStep', WHERE WHAT IT READS IS OF BULK AT MOST 1048576: true; the input reads as it did. -/
def fnExactStepUptoRow : OpenClaim := { program := "ytlbnioapepelnaa", sum := "b1ddcbbcfde4e829614e5f961594b6417cf4be2ed2e316a1360ab95dfd57d715", func := "loop.example/g00215/laws.FnExactStep", spec := "fnExactStep", unfollowed := true, recurses := true, apart := false, narrowed := true }
def FnExactStepUptoSaid : Prop := fnExactStepUptoRow.holds Try.pinned (OpenSpec.upto fnExactStepSpec)

/-- 'laws.FnExactParsed', WHERE WHAT IT READS IS OF BULK AT MOST 1048576: true; the input reads as it did. -/
def fnExactParsedUptoRow : OpenClaim := { program := "ytlbnioapepelnaa", sum := "b1ddcbbcfde4e829614e5f961594b6417cf4be2ed2e316a1360ab95dfd57d715", func := "loop.example/g00215/laws.FnExactParsed", spec := "fnExactParsed", unfollowed := true, recurses := true, apart := false, narrowed := true }
def FnExactParsedUptoSaid : Prop := fnExactParsedUptoRow.holds Try.pinned (OpenSpec.upto fnExactParsedSpec)

/-- 'laws.FnExactDown', WHERE WHAT IT READS IS OF BULK AT MOST 1048576: true; the input reads as it did. -/
def fnExactDownUptoRow : OpenClaim := { program := "ytlbnioapepelnaa", sum := "b1ddcbbcfde4e829614e5f961594b6417cf4be2ed2e316a1360ab95dfd57d715", func := "loop.example/g00215/laws.FnExactDown", spec := "fnExactDown", unfollowed := true, recurses := true, apart := false, narrowed := true }
def FnExactDownUptoSaid : Prop := fnExactDownUptoRow.holds Try.pinned (OpenSpec.upto fnExactDownSpec)

/-- 'laws.FnExactUp', WHERE WHAT IT READS IS OF BULK AT MOST 1048576: true; the input reads as it did. -/
def fnExactUpUptoRow : OpenClaim := { program := "ytlbnioapepelnaa", sum := "b1ddcbbcfde4e829614e5f961594b6417cf4be2ed2e316a1360ab95dfd57d715", func := "loop.example/g00215/laws.FnExactUp", spec := "fnExactUp", unfollowed := true, recurses := true, apart := false, narrowed := true }
def FnExactUpUptoSaid : Prop := fnExactUpUptoRow.holds Try.pinned (OpenSpec.upto fnExactUpSpec)

/-- 'laws.FnParsed', WHERE WHAT IT READS IS OF BULK AT MOST 1048576: true; the input reads as it did. -/
def fnParsedUptoRow : OpenClaim := { program := "ytlbnioapepelnaa", sum := "b1ddcbbcfde4e829614e5f961594b6417cf4be2ed2e316a1360ab95dfd57d715", func := "loop.example/g00215/laws.FnParsed", spec := "fnParsed", unfollowed := true, recurses := true, apart := false, narrowed := true }
def FnParsedUptoSaid : Prop := fnParsedUptoRow.holds Try.pinned (OpenSpec.upto fnParsedSpec)

end Rows
end Go.Proofs.Ytlbnioapepelnaa
