/- FnExactReadEntry: the law returns true for every text. -/
import Derived.Test.YtklhdbkaejbajaaDoorTRead4
namespace Go.Proofs.YtklhdbkaejbajaaDoor.G
open Go.RowKit Go.Lib
set_option linter.unusedVariables false
set_option linter.unusedSimpArgs false

theorem laws_eqEntry_spec (k c q : Int) (l : List UInt8) : NN fn.laws_eqEntry [ent k c q l, ent k c q l] = some (.bool true) := by
  apply S.laws_eqEntry.gives (k := 0)
  have ne : kbin .neq (.str (bs l)) (.str (bs l)) = some (.bool false) := by rw [kbin_sneq]; simp
  generalize GV.str (bs l) = L at *
  simp [S.laws_eqEntry.run, ne, cellsAt_if]
theorem FnExactReadEntry_row (a0 : ByteArray) (i0 : a0.size ≤ maxLen) : NN fn.laws_FnExactReadEntry [(GV.str a0)] = some (.bool true) := by
  obtain ⟨s, rfl⟩ : ∃ l, a0 = bs l := ⟨_, bs_eta a0⟩
  apply S.laws_FnExactReadEntry.gives (k := 0)
  have kl := klenS_bs s
  by_cases g1 : (1048576 : Int) < s.length
  · generalize GV.str (bs s) = D at *
    simp [S.laws_FnExactReadEntry.run, kl, g1]
  have eq : ∃ k c q l b, NN fn.impl_ReadEntry [.str (bs s)] = some (.tup [ent k c q l, .bool b]) ∧ NN fn.spec_ReadEntry [.str (bs s)] = some (.tup [ent k c q l, .bool b]) := by
    rcases impl_ReadEntry_spec s (by omega) with ⟨k, c, q, l, h1, h2⟩ | ⟨h1, h2⟩ <;> rcases spec_ReadEntry_spec s (by omega) with ⟨k', c', q', l', h3, h4⟩ | ⟨h3, h4⟩
    · obtain ⟨rfl, rfl, rfl, rfl⟩ := h1.uniq h3
      exact ⟨_, _, _, _, _, h2, h4⟩
    · exact absurd h1 (h3 _ _ _ _)
    · exact absurd h3 (h1 _ _ _ _)
    · exact ⟨0, 0, 0, [], false, h2, h4⟩
  obtain ⟨k, c, q, l, b, e1, e2⟩ := eq
  have f1 : ∀ H, kN NN fn.impl_ReadEntry [.str (bs s)] H = _ := fun H => kN_at (by simp) e1
  have f2 : ∀ H, kN NN fn.spec_ReadEntry [.str (bs s)] H = _ := fun H => kN_at (by simp) e2
  have f3 : ∀ H, kN NN fn.laws_eqEntry [ent k c q l, ent k c q l] H = _ := fun H => kN_at (by simp [ent]) (laws_eqEntry_spec k c q l)
  have ke : keqB .neq (.bool b) (.bool b) = some (.bool false) := by cases b <;> rfl
  have hs1 : kstore 4 [zeroE] (.ptr 0 0 4) (ent k c q l) = some [[.int .i64 k, .int .i64 c, .int .i64 q, .str (bs l)]] := by
    rw [kstore_ptr, if_pos ⟨rfl, rfl⟩]; simp [cellsAt_if, splice, GV.cells, ent]
  have hs2 : kstore 4 [[.int .i64 k, .int .i64 c, .int .i64 q, .str (bs l)], zeroE] (.ptr 1 0 4) (ent k c q l) = some [[.int .i64 k, .int .i64 c, .int .i64 q, .str (bs l)], [.int .i64 k, .int .i64 c, .int .i64 q, .str (bs l)]] := by
    rw [kstore_ptr, if_pos ⟨rfl, rfl⟩]; simp [cellsAt_if, splice, GV.cells, ent]
  have l1 : kloadA 4 [[.int .i64 k, .int .i64 c, .int .i64 q, .str (bs l)], [.int .i64 k, .int .i64 c, .int .i64 q, .str (bs l)]] (.ptr 1 0 4) = some (ent k c q l) := by simp [kloadA_ptr, cellsAt_if]
  have l0 : kloadA 4 [[.int .i64 k, .int .i64 c, .int .i64 q, .str (bs l)], [.int .i64 k, .int .i64 c, .int .i64 q, .str (bs l)]] (.ptr 0 0 4) = some (ent k c q l) := by simp [kloadA_ptr, cellsAt_if]
  generalize ent k c q l = E at *
  generalize GV.str (bs s) = D at *
  simp [S.laws_FnExactReadEntry.run, kl, g1, f1, f2, f3, ke, hs1, hs2, l0, l1, -kN_eq, -kstore_ptr, -kloadA_ptr]
end Go.Proofs.YtklhdbkaejbajaaDoor.G
