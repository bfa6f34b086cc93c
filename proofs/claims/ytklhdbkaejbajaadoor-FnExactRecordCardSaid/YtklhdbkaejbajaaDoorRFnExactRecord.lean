/- FnExactRecord: the law returns true for every text. -/
import Derived.Test.YtklhdbkaejbajaaDoorTRec
namespace Go.Proofs.YtklhdbkaejbajaaDoor.G
open Go.RowKit Go.Lib
set_option linter.unusedVariables false
set_option linter.unusedSimpArgs false

theorem FnExactRecord_row (a0 : ByteArray) (i0 : a0.size ≤ maxLen) : NN fn.laws_FnExactRecord [(GV.str a0)] = some (.bool true) := by
  obtain ⟨l, rfl⟩ : ∃ l, a0 = bs l := ⟨_, bs_eta a0⟩
  apply S.laws_FnExactRecord.gives (k := 0)
  have kl : klenS (.str (bs l)) = some (.int .i64 (l.length : Nat)) := by rw [klenS_str, bs_size]
  have bl : ∀ h : Heap, bors h [.str (bs l)] = some [.str (bs l)] := fun h => by simp
  by_cases h : 1048576 < l.length
  · have h' : (1048576 : Int) < l.length := by omega
    generalize GV.str (bs l) = L at *
    simp [S.laws_FnExactRecord.run, kl, h']
  · have h' : ¬ (1048576 : Int) < l.length := by omega
    have e1 := impl_Record_spec l (by omega)
    have e2 := spec_Record_spec l (by omega)
    have ne : kbin .neq (.str (bs (recM l))) (.str (bs (recM l))) = some (.bool false) := by rw [kbin_sneq]; simp
    generalize GV.str (bs (recM l)) = T at *
    generalize GV.str (bs l) = L at *
    simp [S.laws_FnExactRecord.run, kl, h', kN_at (bl _) e1, kN_at (bl _) e2, ne, -kN_eq]
end Go.Proofs.YtklhdbkaejbajaaDoor.G
