/-
  No cell of these rows narrows 'for every input' (looked for: loops, veiled, ifaces, maps, wideKeys, modest, calm, conditions, laid).
  DERIVED. THE GIVEN ROWS OF THIS SEAT. 9 by the template 'for every input the law returns true; each argument reads behind the call as it read before'; 0 by the template 'total and deterministic' (their statements: YtleeifecdjolhaaTotals.lean).
  GIVEN WITH THE SEED: the statements are not yours to turn. If you find one false, say at which input.
  Laid BY PROGRAM, IN A SANDBOX (cutbox-rows.mjs): the forced cells as the released guide's own fill.sh prints them over the translation c088545eab1dbf28… (all of the seat's roots in one cut). By AI agents, Wed Nov 11 2026. No macro, syntax, notation, axiom, sorry.
-/
import Derived.Test.YtleeifecdjolhaaChecked
import GoSem.Claim
import GoSem.ClaimJoined
import GoSem.ClaimMapViews
import Derived.JoinedTies
import Derived.KernelRfl
namespace Go.Proofs.Ytleeifecdjolhaa
/- THE CELL 'sum', in the pinned program and in every row, IS THE sha256 OF THE DUMP (.gsa) THAT YtleeifecdjolhaaProg.lean LOADS. Nothing in Lean hashes anything: it is a label: what it is worth is what the hold of that sum in a sandbox is worth. -/
noncomputable def Try.pinned : Pinned := { name := "ytleeifecdjolhaa", sum := "c088545eab1dbf28004befbdf603972d5d802ff2baa5e47f7a58fed1b639061e", checked := Try.checked }
namespace Rows
def none {H : Type} : Left H := { results := [], args := [] }

/-- 'laws.FnExactTorn': WHATEVER THE INPUT: true; the input reads as it did. -/
def fnExactTornSpec : ChangeSpec := { name := "fnExactTorn", fn := fun _ => fun
  | [d1, d2, d3, d4] => { results := [.lit (.bool true)], args := [d1, d2, d3, d4] }
  | _ => none }
def fnExactTornRow : OpenClaim := { program := "ytleeifecdjolhaa", sum := "c088545eab1dbf28004befbdf603972d5d802ff2baa5e47f7a58fed1b639061e", func := "loop.example/g00215/laws.FnExactTorn", spec := "fnExactTorn", apart := false }
def FnExactTornSaid : Prop := fnExactTornRow.holds Try.pinned (OpenSpec.ofChange fnExactTornSpec)

/-- ITS FALSE NEIGHBOUR: 'it returns false'. Refute it at one input. -/
def fnExactTornWrong : ChangeSpec := { name := "fnExactTorn", fn := fun _ => fun
  | [d1, d2, d3, d4] => { results := [.lit (.bool false)], args := [d1, d2, d3, d4] }
  | _ => none }
def FnExactTornWrongFalsely : Prop := fnExactTornRow.holds Try.pinned (OpenSpec.ofChange fnExactTornWrong)

/-- 'laws.FnExactSum': WHATEVER THE INPUT: true; the input reads as it did. -/
def fnExactSumSpec : ChangeSpec := { name := "fnExactSum", fn := fun _ => fun
  | [d] => { results := [.lit (.bool true)], args := [d] }
  | _ => none }
def fnExactSumRow : OpenClaim := { program := "ytleeifecdjolhaa", sum := "c088545eab1dbf28004befbdf603972d5d802ff2baa5e47f7a58fed1b639061e", func := "loop.example/g00215/laws.FnExactSum", spec := "fnExactSum", apart := false }
def FnExactSumSaid : Prop := fnExactSumRow.holds Try.pinned (OpenSpec.ofChange fnExactSumSpec)

/-- ITS FALSE NEIGHBOUR: 'it returns false'. Refute it at one input. -/
def fnExactSumWrong : ChangeSpec := { name := "fnExactSum", fn := fun _ => fun
  | [d] => { results := [.lit (.bool false)], args := [d] }
  | _ => none }
def FnExactSumWrongFalsely : Prop := fnExactSumRow.holds Try.pinned (OpenSpec.ofChange fnExactSumWrong)

/-- 'laws.FnExactEntryOk': WHATEVER THE INPUT: true; the input reads as it did. -/
def fnExactEntryOkSpec : ChangeSpec := { name := "fnExactEntryOk", fn := fun _ => fun
  | [d] => { results := [.lit (.bool true)], args := [d] }
  | _ => none }
def fnExactEntryOkRow : OpenClaim := { program := "ytleeifecdjolhaa", sum := "c088545eab1dbf28004befbdf603972d5d802ff2baa5e47f7a58fed1b639061e", func := "loop.example/g00215/laws.FnExactEntryOk", spec := "fnExactEntryOk", apart := false }
def FnExactEntryOkSaid : Prop := fnExactEntryOkRow.holds Try.pinned (OpenSpec.ofChange fnExactEntryOkSpec)

/-- ITS FALSE NEIGHBOUR: 'it returns false'. Refute it at one input. -/
def fnExactEntryOkWrong : ChangeSpec := { name := "fnExactEntryOk", fn := fun _ => fun
  | [d] => { results := [.lit (.bool false)], args := [d] }
  | _ => none }
def FnExactEntryOkWrongFalsely : Prop := fnExactEntryOkRow.holds Try.pinned (OpenSpec.ofChange fnExactEntryOkWrong)

/-- 'laws.FnExactWindowOk': WHATEVER THE INPUT: true; the input reads as it did. -/
def fnExactWindowOkSpec : ChangeSpec := { name := "fnExactWindowOk", fn := fun _ => fun
  | [d] => { results := [.lit (.bool true)], args := [d] }
  | _ => none }
def fnExactWindowOkRow : OpenClaim := { program := "ytleeifecdjolhaa", sum := "c088545eab1dbf28004befbdf603972d5d802ff2baa5e47f7a58fed1b639061e", func := "loop.example/g00215/laws.FnExactWindowOk", spec := "fnExactWindowOk", apart := false }
def FnExactWindowOkSaid : Prop := fnExactWindowOkRow.holds Try.pinned (OpenSpec.ofChange fnExactWindowOkSpec)

/-- ITS FALSE NEIGHBOUR: 'it returns false'. Refute it at one input. -/
def fnExactWindowOkWrong : ChangeSpec := { name := "fnExactWindowOk", fn := fun _ => fun
  | [d] => { results := [.lit (.bool false)], args := [d] }
  | _ => none }
def FnExactWindowOkWrongFalsely : Prop := fnExactWindowOkRow.holds Try.pinned (OpenSpec.ofChange fnExactWindowOkWrong)

/-- 'laws.FnExactFresh': WHATEVER THE INPUT: true; the input reads as it did. -/
def fnExactFreshSpec : ChangeSpec := { name := "fnExactFresh", fn := fun _ => fun
  | [d1, d2] => { results := [.lit (.bool true)], args := [d1, d2] }
  | _ => none }
def fnExactFreshRow : OpenClaim := { program := "ytleeifecdjolhaa", sum := "c088545eab1dbf28004befbdf603972d5d802ff2baa5e47f7a58fed1b639061e", func := "loop.example/g00215/laws.FnExactFresh", spec := "fnExactFresh", apart := false }
def FnExactFreshSaid : Prop := fnExactFreshRow.holds Try.pinned (OpenSpec.ofChange fnExactFreshSpec)

/-- ITS FALSE NEIGHBOUR: 'it returns false'. Refute it at one input. -/
def fnExactFreshWrong : ChangeSpec := { name := "fnExactFresh", fn := fun _ => fun
  | [d1, d2] => { results := [.lit (.bool false)], args := [d1, d2] }
  | _ => none }
def FnExactFreshWrongFalsely : Prop := fnExactFreshRow.holds Try.pinned (OpenSpec.ofChange fnExactFreshWrong)

/-- 'laws.FnExactNewChain': WHATEVER THE INPUT: true; the input reads as it did. -/
def fnExactNewChainSpec : ChangeSpec := { name := "fnExactNewChain", fn := fun _ => fun
  | [d] => { results := [.lit (.bool true)], args := [d] }
  | _ => none }
def fnExactNewChainRow : OpenClaim := { program := "ytleeifecdjolhaa", sum := "c088545eab1dbf28004befbdf603972d5d802ff2baa5e47f7a58fed1b639061e", func := "loop.example/g00215/laws.FnExactNewChain", spec := "fnExactNewChain", apart := false }
def FnExactNewChainSaid : Prop := fnExactNewChainRow.holds Try.pinned (OpenSpec.ofChange fnExactNewChainSpec)

/-- ITS FALSE NEIGHBOUR: 'it returns false'. Refute it at one input. -/
def fnExactNewChainWrong : ChangeSpec := { name := "fnExactNewChain", fn := fun _ => fun
  | [d] => { results := [.lit (.bool false)], args := [d] }
  | _ => none }
def FnExactNewChainWrongFalsely : Prop := fnExactNewChainRow.holds Try.pinned (OpenSpec.ofChange fnExactNewChainWrong)

/-- 'laws.FnExactChainOk': WHATEVER THE INPUT: true; the input reads as it did. -/
def fnExactChainOkSpec : ChangeSpec := { name := "fnExactChainOk", fn := fun _ => fun
  | [d] => { results := [.lit (.bool true)], args := [d] }
  | _ => none }
def fnExactChainOkRow : OpenClaim := { program := "ytleeifecdjolhaa", sum := "c088545eab1dbf28004befbdf603972d5d802ff2baa5e47f7a58fed1b639061e", func := "loop.example/g00215/laws.FnExactChainOk", spec := "fnExactChainOk", unfollowed := true, recurses := true, apart := false }
def FnExactChainOkSaid : Prop := fnExactChainOkRow.holds Try.pinned (OpenSpec.ofChange fnExactChainOkSpec)

/-- ITS FALSE NEIGHBOUR: 'it returns false'. Refute it at one input. -/
def fnExactChainOkWrong : ChangeSpec := { name := "fnExactChainOk", fn := fun _ => fun
  | [d] => { results := [.lit (.bool false)], args := [d] }
  | _ => none }
def FnExactChainOkWrongFalsely : Prop := fnExactChainOkRow.holds Try.pinned (OpenSpec.ofChange fnExactChainOkWrong)

/-- 'laws.FnExactNewClient': WHATEVER THE INPUT: true; the input reads as it did. -/
def fnExactNewClientSpec : ChangeSpec := { name := "fnExactNewClient", fn := fun _ => fun
  | [d] => { results := [.lit (.bool true)], args := [d] }
  | _ => none }
def fnExactNewClientRow : OpenClaim := { program := "ytleeifecdjolhaa", sum := "c088545eab1dbf28004befbdf603972d5d802ff2baa5e47f7a58fed1b639061e", func := "loop.example/g00215/laws.FnExactNewClient", spec := "fnExactNewClient", apart := false }
def FnExactNewClientSaid : Prop := fnExactNewClientRow.holds Try.pinned (OpenSpec.ofChange fnExactNewClientSpec)

/-- ITS FALSE NEIGHBOUR: 'it returns false'. Refute it at one input. -/
def fnExactNewClientWrong : ChangeSpec := { name := "fnExactNewClient", fn := fun _ => fun
  | [d] => { results := [.lit (.bool false)], args := [d] }
  | _ => none }
def FnExactNewClientWrongFalsely : Prop := fnExactNewClientRow.holds Try.pinned (OpenSpec.ofChange fnExactNewClientWrong)

/-- 'laws.FnExactNewTerm': WHATEVER THE INPUT: true; the input reads as it did. -/
def fnExactNewTermSpec : ChangeSpec := { name := "fnExactNewTerm", fn := fun _ => fun
  | [d1, d2] => { results := [.lit (.bool true)], args := [d1, d2] }
  | _ => none }
def fnExactNewTermRow : OpenClaim := { program := "ytleeifecdjolhaa", sum := "c088545eab1dbf28004befbdf603972d5d802ff2baa5e47f7a58fed1b639061e", func := "loop.example/g00215/laws.FnExactNewTerm", spec := "fnExactNewTerm", apart := false }
def FnExactNewTermSaid : Prop := fnExactNewTermRow.holds Try.pinned (OpenSpec.ofChange fnExactNewTermSpec)

/-- ITS FALSE NEIGHBOUR: 'it returns false'. Refute it at one input. -/
def fnExactNewTermWrong : ChangeSpec := { name := "fnExactNewTerm", fn := fun _ => fun
  | [d1, d2] => { results := [.lit (.bool false)], args := [d1, d2] }
  | _ => none }
def FnExactNewTermWrongFalsely : Prop := fnExactNewTermRow.holds Try.pinned (OpenSpec.ofChange fnExactNewTermWrong)

/- THE SECOND FORM. 'bulk': how many values and letters a reading holds, each counted each time it is reached (what is shared counts as often as it is met; a slice's spare places count too). A statement '..UptoSaid' is the law's where the arguments, and the package variables that the reading takes, are together of bulk at most 1048576: NARROWER than '..Said'. Prove '..Said' where nothing that the law and all that it calls make is longer than what came in: it says more and counts as full. Else prove '..UptoSaid'. A law counts once. -/
mutual
def uptoBulk {H : Type} : DataW H → Nat
  | .lit (.string bytes) => bytes.length + 1
  | .lit _ => 1
  | .nil => 1
  | .ptr d => uptoBulk d + 1
  | .slice elems spare => uptoBulkAll elems + uptoBulkAll spare + 1
  | .agg parts => uptoBulkAll parts + 1
  | .iface _ d => uptoBulk d + 1
  | .map entries => uptoBulkEntries entries + 1
  | .held _ => 1
def uptoBulkAll {H : Type} : List (DataW H) → Nat
  | [] => 0
  | d :: r => uptoBulk d + uptoBulkAll r
def uptoBulkEntries {H : Type} : List (Lit × DataW H) → Nat
  | [] => 0
  | x :: r => uptoBulkEntry x + uptoBulkEntries r
def uptoBulkEntry {H : Type} : Lit × DataW H → Nat
  | (.string bytes, d) => bytes.length + uptoBulk d + 1
  | (_, d) => uptoBulk d + 1
 end
def uptoSmall : (H : Type) → List (DataW H) → Bool := fun _ ds => decide (uptoBulkAll ds ≤ 1048576)
def OpenSpec.upto (s : _root_.Go.ChangeSpec) : _root_.Go.OpenSpec := { _root_.Go.OpenSpec.ofChange s with cond := some uptoSmall }

/-- 'laws.FnExactTorn', WHERE WHAT IT READS IS OF BULK AT MOST 1048576: true; the input reads as it did. -/
def fnExactTornUptoRow : OpenClaim := { program := "ytleeifecdjolhaa", sum := "c088545eab1dbf28004befbdf603972d5d802ff2baa5e47f7a58fed1b639061e", func := "loop.example/g00215/laws.FnExactTorn", spec := "fnExactTorn", apart := false, narrowed := true }
def FnExactTornUptoSaid : Prop := fnExactTornUptoRow.holds Try.pinned (OpenSpec.upto fnExactTornSpec)

/-- 'laws.FnExactSum', WHERE WHAT IT READS IS OF BULK AT MOST 1048576: true; the input reads as it did. -/
def fnExactSumUptoRow : OpenClaim := { program := "ytleeifecdjolhaa", sum := "c088545eab1dbf28004befbdf603972d5d802ff2baa5e47f7a58fed1b639061e", func := "loop.example/g00215/laws.FnExactSum", spec := "fnExactSum", apart := false, narrowed := true }
def FnExactSumUptoSaid : Prop := fnExactSumUptoRow.holds Try.pinned (OpenSpec.upto fnExactSumSpec)

/-- 'laws.FnExactEntryOk', WHERE WHAT IT READS IS OF BULK AT MOST 1048576: true; the input reads as it did. -/
def fnExactEntryOkUptoRow : OpenClaim := { program := "ytleeifecdjolhaa", sum := "c088545eab1dbf28004befbdf603972d5d802ff2baa5e47f7a58fed1b639061e", func := "loop.example/g00215/laws.FnExactEntryOk", spec := "fnExactEntryOk", apart := false, narrowed := true }
def FnExactEntryOkUptoSaid : Prop := fnExactEntryOkUptoRow.holds Try.pinned (OpenSpec.upto fnExactEntryOkSpec)

/-- 'laws.FnExactWindowOk', WHERE WHAT IT READS IS OF BULK AT MOST 1048576: true; the input reads as it did. -/
def fnExactWindowOkUptoRow : OpenClaim := { program := "ytleeifecdjolhaa", sum := "c088545eab1dbf28004befbdf603972d5d802ff2baa5e47f7a58fed1b639061e", func := "loop.example/g00215/laws.FnExactWindowOk", spec := "fnExactWindowOk", apart := false, narrowed := true }
def FnExactWindowOkUptoSaid : Prop := fnExactWindowOkUptoRow.holds Try.pinned (OpenSpec.upto fnExactWindowOkSpec)

/-- 'laws.FnExactFresh', WHERE WHAT IT READS IS OF BULK AT MOST 1048576: true; the input reads as it did. -/
def fnExactFreshUptoRow : OpenClaim := { program := "ytleeifecdjolhaa", sum := "c088545eab1dbf28004befbdf603972d5d802ff2baa5e47f7a58fed1b639061e", func := "loop.example/g00215/laws.FnExactFresh", spec := "fnExactFresh", apart := false, narrowed := true }
def FnExactFreshUptoSaid : Prop := fnExactFreshUptoRow.holds Try.pinned (OpenSpec.upto fnExactFreshSpec)

/-- 'laws.FnExactNewChain', WHERE WHAT IT READS IS OF BULK AT MOST 1048576: true; the input reads as it did. -/
def fnExactNewChainUptoRow : OpenClaim := { program := "ytleeifecdjolhaa", sum := "c088545eab1dbf28004befbdf603972d5d802ff2baa5e47f7a58fed1b639061e", func := "loop.example/g00215/laws.FnExactNewChain", spec := "fnExactNewChain", apart := false, narrowed := true }
def FnExactNewChainUptoSaid : Prop := fnExactNewChainUptoRow.holds Try.pinned (OpenSpec.upto fnExactNewChainSpec)

/-- 'laws.FnExactChainOk', WHERE WHAT IT READS IS OF BULK AT MOST 1048576: true; the input reads as it did. -/
def fnExactChainOkUptoRow : OpenClaim := { program := "ytleeifecdjolhaa", sum := "c088545eab1dbf28004befbdf603972d5d802ff2baa5e47f7a58fed1b639061e", func := "loop.example/g00215/laws.FnExactChainOk", spec := "fnExactChainOk", unfollowed := true, recurses := true, apart := false, narrowed := true }
def FnExactChainOkUptoSaid : Prop := fnExactChainOkUptoRow.holds Try.pinned (OpenSpec.upto fnExactChainOkSpec)

/-- 'laws.FnExactNewClient', WHERE WHAT IT READS IS OF BULK AT MOST 1048576: true; the input reads as it did. -/
def fnExactNewClientUptoRow : OpenClaim := { program := "ytleeifecdjolhaa", sum := "c088545eab1dbf28004befbdf603972d5d802ff2baa5e47f7a58fed1b639061e", func := "loop.example/g00215/laws.FnExactNewClient", spec := "fnExactNewClient", apart := false, narrowed := true }
def FnExactNewClientUptoSaid : Prop := fnExactNewClientUptoRow.holds Try.pinned (OpenSpec.upto fnExactNewClientSpec)

/-- 'laws.FnExactNewTerm', WHERE WHAT IT READS IS OF BULK AT MOST 1048576: true; the input reads as it did. -/
def fnExactNewTermUptoRow : OpenClaim := { program := "ytleeifecdjolhaa", sum := "c088545eab1dbf28004befbdf603972d5d802ff2baa5e47f7a58fed1b639061e", func := "loop.example/g00215/laws.FnExactNewTerm", spec := "fnExactNewTerm", apart := false, narrowed := true }
def FnExactNewTermUptoSaid : Prop := fnExactNewTermUptoRow.holds Try.pinned (OpenSpec.upto fnExactNewTermSpec)

end Rows
end Go.Proofs.Ytleeifecdjolhaa
