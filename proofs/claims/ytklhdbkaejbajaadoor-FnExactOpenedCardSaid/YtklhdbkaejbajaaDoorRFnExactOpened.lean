/- FnExactOpened: the law returns true for every key and every text. -/
import Derived.Test.YtklhdbkaejbajaaDoorTOpened
namespace Go.Proofs.YtklhdbkaejbajaaDoor.G
open Go.RowKit Go.Lib
set_option linter.unusedVariables false
set_option linter.unusedSimpArgs false

theorem FnExactOpened_row (a0 : ByteArray) (i0 : a0.size ≤ maxLen) (a1 : ByteArray) (i1 : a1.size ≤ maxLen) : NN fn.laws_FnExactOpened [GV.str a0, GV.str a1] = some (.bool true) := by
  obtain ⟨key, rfl⟩ : ∃ l, a0 = bs l := ⟨_, bs_eta a0⟩
  obtain ⟨d, rfl⟩ : ∃ l, a1 = bs l := ⟨_, bs_eta a1⟩
  apply S.laws_FnExactOpened.gives (k := 0)
  have k1 := klenS_bs key
  have k2 := klenS_bs d
  by_cases g1 : (1048576 : Int) < key.length
  · generalize GV.str (bs key) = L at *
    generalize GV.str (bs d) = D at *
    simp [S.laws_FnExactOpened.run, k1, g1]
  by_cases g2 : (1048576 : Int) < d.length
  · generalize GV.str (bs key) = L at *
    generalize GV.str (bs d) = D at *
    simp [S.laws_FnExactOpened.run, k1, k2, g1, g2]
  have eq : ∃ V, NN fn.impl_Opened [.str (bs key), .str (bs d)] = some (.tup V) ∧ NN fn.spec_Opened [.str (bs key), .str (bs d)] = some (.tup V) ∧ ∃ c t b, V = [.int .i64 c, .str (bs t), .bool b] := by
    rcases impl_Opened_spec key d (by omega) (by omega) with ⟨c, t, h1, h2⟩ | ⟨h1, h2⟩ <;> rcases spec_Opened_spec key d (by omega) (by omega) with ⟨c', t', h3, h4⟩ | ⟨h3, h4⟩
    · obtain ⟨rfl, rfl⟩ := h1.uniq h3
      exact ⟨_, h2, h4, _, _, _, rfl⟩
    · exact absurd h1 (h3 _ _)
    · exact absurd h3 (h1 _ _)
    · exact ⟨_, h2, h4, _, [], _, rfl⟩
  obtain ⟨V, e1, e2, c, t, b, rfl⟩ := eq
  have f1 : ∀ H, kN NN fn.impl_Opened [.str (bs key), .str (bs d)] H = _ := fun H => kN_at (by simp) e1
  have f2 : ∀ H, kN NN fn.spec_Opened [.str (bs key), .str (bs d)] H = _ := fun H => kN_at (by simp) e2
  have ne : kbin .neq (.str (bs t)) (.str (bs t)) = some (.bool false) := by rw [kbin_sneq]; simp
  have ke : keqB .neq (.bool b) (.bool b) = some (.bool false) := by cases b <;> rfl
  generalize GV.str (bs key) = L at *
  generalize GV.str (bs d) = D at *
  generalize GV.str (bs t) = T at *
  simp [S.laws_FnExactOpened.run, k1, k2, g1, g2, f1, f2, ne, ke, -kN_eq]
end Go.Proofs.YtklhdbkaejbajaaDoor.G
