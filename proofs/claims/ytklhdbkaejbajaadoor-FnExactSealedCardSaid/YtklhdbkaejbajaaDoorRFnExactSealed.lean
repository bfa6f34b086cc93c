/- FnExactSealed: the law returns true for every key, count and text. -/
import Derived.Test.YtklhdbkaejbajaaDoorTSeal
namespace Go.Proofs.YtklhdbkaejbajaaDoor.G
open Go.RowKit Go.Lib
set_option linter.unusedVariables false
set_option linter.unusedSimpArgs false

theorem FnExactSealed_row (a0 : ByteArray) (i0 : a0.size ≤ maxLen) (a1 : Int) (i1 : (Lit.int .i64 a1).wf = true) (a2 : ByteArray) (i2 : a2.size ≤ maxLen) : NN fn.laws_FnExactSealed [(GV.str a0), (GV.int .i64 a1), (GV.str a2)] = some (.bool true) := by
  obtain ⟨key, rfl⟩ : ∃ l, a0 = bs l := ⟨_, bs_eta a0⟩
  obtain ⟨l, rfl⟩ : ∃ l, a2 = bs l := ⟨_, bs_eta a2⟩
  apply S.laws_FnExactSealed.gives (k := 0)
  have kl := klenS_bs l
  have kk := klenS_bs key
  by_cases h : 1048576 < key.length
  · have h' : (1048576 : Int) < key.length := by omega
    generalize GV.str (bs key) = K at *
    simp [S.laws_FnExactSealed.run, kk, h']
  have h' : ¬ (1048576 : Int) < key.length := by omega
  by_cases g : 1048576 < l.length
  · have g' : (1048576 : Int) < l.length := by omega
    generalize GV.str (bs key) = K at *
    generalize GV.str (bs l) = L at *
    simp [S.laws_FnExactSealed.run, kk, kl, h', g']
  have g' : ¬ (1048576 : Int) < l.length := by omega
  have e1 : kN NN fn.impl_Sealed [.str (bs key), .int .i64 a1, .str (bs l)] [] = some (.str (bs (sealM key a1 l))) := kN_at (by simp) (impl_Sealed_spec _ _ _ (by omega) (by omega))
  have e2 : kN NN fn.spec_Sealed [.str (bs key), .int .i64 a1, .str (bs l)] [] = some (.str (bs (sealM key a1 l))) := kN_at (by simp) (spec_Sealed_spec _ _ _ (by omega) (by omega))
  have ne : kbin .neq (.str (bs (sealM key a1 l))) (.str (bs (sealM key a1 l))) = some (.bool false) := by rw [kbin_sneq]; simp
  generalize GV.str (bs (sealM key a1 l)) = T at *
  generalize GV.str (bs key) = K at *
  generalize GV.str (bs l) = L at *
  simp [S.laws_FnExactSealed.run, kk, kl, h', g', e1, e2, ne, -kN_eq]
end Go.Proofs.YtklhdbkaejbajaaDoor.G
