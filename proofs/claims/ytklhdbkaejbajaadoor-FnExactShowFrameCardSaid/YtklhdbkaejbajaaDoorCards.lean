/-
  DERIVED. GIVEN WITH THE SEED: THE CARDS: each row of YtklhdbkaejbajaaDoorRows.lean that lists a variable, with what it lists TIED to the program's text (the seventh form; the later family's looks); each row that meets fmt, with fmt's text TOLD by the authors' own Lean function (tested against real Go, not proved from fmt's source: count such statements apart). THE CARD IS WHAT COUNTS. Prove the row's statement (the work); the ties are given (YtklhdbkaejbajaaDoorTie.lean); close each card by the builder's one call (the guide's Derived/Test/ToyasCard.lean, 'card_holds'). Laid BY PROGRAM, IN A SANDBOX (cutbox-door.mjs). By AI agents, Wed Nov 11 2026. No macro, syntax, notation, axiom, sorry.
-/
import Derived.Test.YtklhdbkaejbajaaDoorRows
import GoSem.ClaimSeven
namespace Go.Proofs.YtklhdbkaejbajaaDoor
namespace Rows

/-- THE TIED CARD OF 'laws.FnExactRecord'. -/
def fnExactRecordCard : Claim7 := { stood := { row := fnExactRecordRow, standIns := [], harness := (true, "2ea897f03287066f9ee72b7da1ce0d0fb8db96078aa9be931caa2e1cf572ed10"), looks := true }, kinds := [], alts := [], laidByText := true, laidKinds := [.data, .data, .data], laidTests := true, laidLooks := .later }
def FnExactRecordCardSaid : Prop := Claim7.holds Tryd.pinned (.plain (OpenSpec.ofChange fnExactRecordSpec)) fnExactRecordCard

/-- THE TIED CARD OF 'laws.FnExactSealed'. -/
def fnExactSealedCard : Claim7 := { stood := { row := fnExactSealedRow, standIns := [], harness := (true, "2ea897f03287066f9ee72b7da1ce0d0fb8db96078aa9be931caa2e1cf572ed10"), looks := true }, kinds := [], alts := [], laidByText := true, laidKinds := [.data, .data, .data], laidTests := true, laidLooks := .later }
def FnExactSealedCardSaid : Prop := Claim7.holds Tryd.pinned (.plain (OpenSpec.ofChange fnExactSealedSpec)) fnExactSealedCard

/-- THE TIED CARD OF 'laws.FnExactShowEntry'. -/
def fnExactShowEntryCard : Claim7 := { stood := { row := fnExactShowEntryRow, standIns := [], harness := (true, "2ea897f03287066f9ee72b7da1ce0d0fb8db96078aa9be931caa2e1cf572ed10"), looks := true }, kinds := [], alts := [], laidByText := true, laidKinds := [.data, .data, .data], laidTests := true, laidLooks := .later }
def FnExactShowEntryCardSaid : Prop := Claim7.holds Tryd.pinned (.plain (OpenSpec.ofChange fnExactShowEntrySpec)) fnExactShowEntryCard

/-- THE TIED CARD OF 'laws.FnExactOpened'. -/
def fnExactOpenedCard : Claim7 := { stood := { row := fnExactOpenedRow, standIns := [], harness := (true, "2ea897f03287066f9ee72b7da1ce0d0fb8db96078aa9be931caa2e1cf572ed10"), looks := true }, kinds := [], alts := [], laidByText := true, laidKinds := [.data, .data, .data, .sentinel, .sentinel], laidTests := true, laidLooks := .later }
def FnExactOpenedCardSaid : Prop := Claim7.holds Tryd.pinned (.plain (OpenSpec.ofChange fnExactOpenedSpec)) fnExactOpenedCard

/-- THE TIED CARD OF 'laws.FnExactRecords'. -/
def fnExactRecordsCard : Claim7 := { stood := { row := fnExactRecordsRow, standIns := [], harness := (true, "2ea897f03287066f9ee72b7da1ce0d0fb8db96078aa9be931caa2e1cf572ed10"), looks := true }, kinds := [], alts := [], laidByText := true, laidKinds := [.data, .data, .data, .sentinel, .sentinel], laidTests := true, laidLooks := .later }
def FnExactRecordsCardSaid : Prop := Claim7.holds Tryd.pinned (.plain (OpenSpec.ofChange fnExactRecordsSpec)) fnExactRecordsCard

/-- THE TIED CARD OF 'laws.FnExactReadEntry'. -/
def fnExactReadEntryCard : Claim7 := { stood := { row := fnExactReadEntryRow, standIns := [], harness := (true, "2ea897f03287066f9ee72b7da1ce0d0fb8db96078aa9be931caa2e1cf572ed10"), looks := true }, kinds := [], alts := [], laidByText := true, laidKinds := [.data, .data, .data, .data, .sentinel, .sentinel, .pinned], laidTests := true, laidLooks := .later }
def FnExactReadEntryCardSaid : Prop := Claim7.holds Tryd.pinned (.plain (OpenSpec.ofChange fnExactReadEntrySpec)) fnExactReadEntryCard

/-- THE TIED CARD OF 'laws.FnSealed'. -/
def fnSealedCard : Claim7 := { stood := { row := fnSealedRow, standIns := [], harness := (true, "2ea897f03287066f9ee72b7da1ce0d0fb8db96078aa9be931caa2e1cf572ed10"), looks := true }, kinds := [], alts := [], laidByText := true, laidKinds := [.data, .data, .data, .sentinel, .sentinel], laidTests := true, laidLooks := .later }
def FnSealedCardSaid : Prop := Claim7.holds Tryd.pinned (.plain (OpenSpec.ofChange fnSealedSpec)) fnSealedCard

/-- THE TIED CARD OF 'laws.FnRecords'. -/
def fnRecordsCard : Claim7 := { stood := { row := fnRecordsRow, standIns := [], harness := (true, "2ea897f03287066f9ee72b7da1ce0d0fb8db96078aa9be931caa2e1cf572ed10"), looks := true }, kinds := [], alts := [], laidByText := true, laidKinds := [.data, .data, .data, .sentinel, .sentinel], laidTests := true, laidLooks := .later }
def FnRecordsCardSaid : Prop := Claim7.holds Tryd.pinned (.plain (OpenSpec.ofChange fnRecordsSpec)) fnRecordsCard

/-- THE TIED CARD OF 'laws.FnEntries'. -/
def fnEntriesCard : Claim7 := { stood := { row := fnEntriesRow, standIns := [], harness := (true, "2ea897f03287066f9ee72b7da1ce0d0fb8db96078aa9be931caa2e1cf572ed10"), looks := true }, kinds := [], alts := [], laidByText := true, laidKinds := [.data, .data, .data, .data, .sentinel, .sentinel, .pinned], laidTests := true, laidLooks := .later }
def FnEntriesCardSaid : Prop := Claim7.holds Tryd.pinned (.plain (OpenSpec.ofChange fnEntriesSpec)) fnEntriesCard

/-- THE TIED CARD OF 'laws.FnExactShowFrame'. -/
def fnExactShowFrameCard : Claim7 := { stood := { row := fnExactShowFrameRow, standIns := [], harness := (true, "2ea897f03287066f9ee72b7da1ce0d0fb8db96078aa9be931caa2e1cf572ed10"), looks := true }, kinds := [], alts := [], laidByText := true, laidKinds := [.data, .data, .data], laidTests := true, laidLooks := .later }
def FnExactShowFrameCardSaid : Prop := Claim7.holds Tryd.pinned (.plain (OpenSpec.ofChange fnExactShowFrameSpec)) fnExactShowFrameCard

/-- THE TIED CARD OF 'laws.FnExactTermOk'. -/
def fnExactTermOkCard : Claim7 := { stood := { row := fnExactTermOkRow, standIns := [], harness := (true, "2ea897f03287066f9ee72b7da1ce0d0fb8db96078aa9be931caa2e1cf572ed10"), looks := true }, kinds := [], alts := [], laidByText := true, laidKinds := [.data, .pinned], laidTests := true, laidLooks := .later }
def FnExactTermOkCardSaid : Prop := Claim7.holds Tryd.pinned (.plain (OpenSpec.ofChange fnExactTermOkSpec)) fnExactTermOkCard

/-- THE SECOND FORM's CARD OF 'laws.FnExactRecord'. -/
def fnExactRecordUptoCard : Claim7 := { stood := { row := fnExactRecordUptoRow, standIns := [], harness := (true, "2ea897f03287066f9ee72b7da1ce0d0fb8db96078aa9be931caa2e1cf572ed10"), looks := true }, kinds := [], alts := [], laidByText := true, laidKinds := [.data, .data, .data], laidTests := true, laidLooks := .later }
def FnExactRecordUptoCardSaid : Prop := Claim7.holds Tryd.pinned (.plain (OpenSpec.upto fnExactRecordSpec)) fnExactRecordUptoCard

/-- THE SECOND FORM's CARD OF 'laws.FnExactSealed'. -/
def fnExactSealedUptoCard : Claim7 := { stood := { row := fnExactSealedUptoRow, standIns := [], harness := (true, "2ea897f03287066f9ee72b7da1ce0d0fb8db96078aa9be931caa2e1cf572ed10"), looks := true }, kinds := [], alts := [], laidByText := true, laidKinds := [.data, .data, .data], laidTests := true, laidLooks := .later }
def FnExactSealedUptoCardSaid : Prop := Claim7.holds Tryd.pinned (.plain (OpenSpec.upto fnExactSealedSpec)) fnExactSealedUptoCard

/-- THE SECOND FORM's CARD OF 'laws.FnExactShowEntry'. -/
def fnExactShowEntryUptoCard : Claim7 := { stood := { row := fnExactShowEntryUptoRow, standIns := [], harness := (true, "2ea897f03287066f9ee72b7da1ce0d0fb8db96078aa9be931caa2e1cf572ed10"), looks := true }, kinds := [], alts := [], laidByText := true, laidKinds := [.data, .data, .data], laidTests := true, laidLooks := .later }
def FnExactShowEntryUptoCardSaid : Prop := Claim7.holds Tryd.pinned (.plain (OpenSpec.upto fnExactShowEntrySpec)) fnExactShowEntryUptoCard

/-- THE SECOND FORM's CARD OF 'laws.FnExactOpened'. -/
def fnExactOpenedUptoCard : Claim7 := { stood := { row := fnExactOpenedUptoRow, standIns := [], harness := (true, "2ea897f03287066f9ee72b7da1ce0d0fb8db96078aa9be931caa2e1cf572ed10"), looks := true }, kinds := [], alts := [], laidByText := true, laidKinds := [.data, .data, .data, .sentinel, .sentinel], laidTests := true, laidLooks := .later }
def FnExactOpenedUptoCardSaid : Prop := Claim7.holds Tryd.pinned (.plain (OpenSpec.upto fnExactOpenedSpec)) fnExactOpenedUptoCard

/-- THE SECOND FORM's CARD OF 'laws.FnExactRecords'. -/
def fnExactRecordsUptoCard : Claim7 := { stood := { row := fnExactRecordsUptoRow, standIns := [], harness := (true, "2ea897f03287066f9ee72b7da1ce0d0fb8db96078aa9be931caa2e1cf572ed10"), looks := true }, kinds := [], alts := [], laidByText := true, laidKinds := [.data, .data, .data, .sentinel, .sentinel], laidTests := true, laidLooks := .later }
def FnExactRecordsUptoCardSaid : Prop := Claim7.holds Tryd.pinned (.plain (OpenSpec.upto fnExactRecordsSpec)) fnExactRecordsUptoCard

/-- THE SECOND FORM's CARD OF 'laws.FnExactReadEntry'. -/
def fnExactReadEntryUptoCard : Claim7 := { stood := { row := fnExactReadEntryUptoRow, standIns := [], harness := (true, "2ea897f03287066f9ee72b7da1ce0d0fb8db96078aa9be931caa2e1cf572ed10"), looks := true }, kinds := [], alts := [], laidByText := true, laidKinds := [.data, .data, .data, .data, .sentinel, .sentinel, .pinned], laidTests := true, laidLooks := .later }
def FnExactReadEntryUptoCardSaid : Prop := Claim7.holds Tryd.pinned (.plain (OpenSpec.upto fnExactReadEntrySpec)) fnExactReadEntryUptoCard

/-- THE SECOND FORM's CARD OF 'laws.FnSealed'. -/
def fnSealedUptoCard : Claim7 := { stood := { row := fnSealedUptoRow, standIns := [], harness := (true, "2ea897f03287066f9ee72b7da1ce0d0fb8db96078aa9be931caa2e1cf572ed10"), looks := true }, kinds := [], alts := [], laidByText := true, laidKinds := [.data, .data, .data, .sentinel, .sentinel], laidTests := true, laidLooks := .later }
def FnSealedUptoCardSaid : Prop := Claim7.holds Tryd.pinned (.plain (OpenSpec.upto fnSealedSpec)) fnSealedUptoCard

/-- THE SECOND FORM's CARD OF 'laws.FnRecords'. -/
def fnRecordsUptoCard : Claim7 := { stood := { row := fnRecordsUptoRow, standIns := [], harness := (true, "2ea897f03287066f9ee72b7da1ce0d0fb8db96078aa9be931caa2e1cf572ed10"), looks := true }, kinds := [], alts := [], laidByText := true, laidKinds := [.data, .data, .data, .sentinel, .sentinel], laidTests := true, laidLooks := .later }
def FnRecordsUptoCardSaid : Prop := Claim7.holds Tryd.pinned (.plain (OpenSpec.upto fnRecordsSpec)) fnRecordsUptoCard

/-- THE SECOND FORM's CARD OF 'laws.FnEntries'. -/
def fnEntriesUptoCard : Claim7 := { stood := { row := fnEntriesUptoRow, standIns := [], harness := (true, "2ea897f03287066f9ee72b7da1ce0d0fb8db96078aa9be931caa2e1cf572ed10"), looks := true }, kinds := [], alts := [], laidByText := true, laidKinds := [.data, .data, .data, .data, .sentinel, .sentinel, .pinned], laidTests := true, laidLooks := .later }
def FnEntriesUptoCardSaid : Prop := Claim7.holds Tryd.pinned (.plain (OpenSpec.upto fnEntriesSpec)) fnEntriesUptoCard

/-- THE SECOND FORM's CARD OF 'laws.FnExactShowFrame'. -/
def fnExactShowFrameUptoCard : Claim7 := { stood := { row := fnExactShowFrameUptoRow, standIns := [], harness := (true, "2ea897f03287066f9ee72b7da1ce0d0fb8db96078aa9be931caa2e1cf572ed10"), looks := true }, kinds := [], alts := [], laidByText := true, laidKinds := [.data, .data, .data], laidTests := true, laidLooks := .later }
def FnExactShowFrameUptoCardSaid : Prop := Claim7.holds Tryd.pinned (.plain (OpenSpec.upto fnExactShowFrameSpec)) fnExactShowFrameUptoCard

/-- THE SECOND FORM's CARD OF 'laws.FnExactTermOk'. -/
def fnExactTermOkUptoCard : Claim7 := { stood := { row := fnExactTermOkUptoRow, standIns := [], harness := (true, "2ea897f03287066f9ee72b7da1ce0d0fb8db96078aa9be931caa2e1cf572ed10"), looks := true }, kinds := [], alts := [], laidByText := true, laidKinds := [.data, .pinned], laidTests := true, laidLooks := .later }
def FnExactTermOkUptoCardSaid : Prop := Claim7.holds Tryd.pinned (.plain (OpenSpec.upto fnExactTermOkSpec)) fnExactTermOkUptoCard
end Rows
end Go.Proofs.YtklhdbkaejbajaaDoor
