/- Records. -/
import Derived.Test.YtklhdbkaejbajaaDoorTNum
import Derived.Test.YtklhdbkaejbajaaDoorTIn
import Derived.Test.YtklhdbkaejbajaaDoorSQ
namespace Go.Proofs.YtklhdbkaejbajaaDoor.G
open Go.RowKit Go.Lib
set_option linter.unusedVariables false
set_option linter.unusedSimpArgs false

/-! A record. -/
def recM (l : List UInt8) : List UInt8 := if 5000 < l.length then [] else itoa l.length ++ [32] ++ itoa (sumGo 2 l) ++ [10] ++ l ++ [10]
theorem impl_Record_spec (l : List UInt8) (hl : l.length ≤ 1048576) : NN fn.impl_Record [.str (bs l)] = some (.str (bs (recM l))) := by
  apply S.impl_Record.gives (k := 0)
  have kl : klenS (.str (bs l)) = some (.int .i64 (l.length : Nat)) := by rw [klenS_str, bs_size]
  have bl : ∀ h : Heap, bors h [.str (bs l)] = some [.str (bs l)] := fun h => by simp
  by_cases h : 5000 < l.length
  · have h' : (5000 : Int) < l.length := by omega
    have e : recM l = [] := by unfold recM; rw [if_pos h]
    rw [e]
    generalize GV.str (bs l) = L at *
    simp [S.impl_Record.run, kl, h']
  · have h' : ¬ (5000 : Int) < l.length := by omega
    have e : recM l = itoa l.length ++ [32] ++ itoa (sumGo 2 l) ++ [10] ++ l ++ [10] := by unfold recM; rw [if_neg h]
    obtain ⟨s1, s2⟩ := sumGo_b (s := 2) (l := l) (by omega)
    have d1 := impl_decimal_spec (l.length : Int) (by omega) (by omega)
    have d2 := impl_decimal_spec (sumGo 2 l) (by omega) (by omega)
    have n1 : ∀ H, kN NN fn.impl_decimal [.int .i64 (l.length : Int)] H = some (.str (bs (itoa l.length))) := fun H => kN_at (by simp) d1
    have n2 : ∀ H, kN NN fn.impl_decimal [.int .i64 (sumGo 2 l)] H = some (.str (bs (itoa (sumGo 2 l)))) := fun H => kN_at (by simp) d2
    have sm := impl_Sum_spec l hl
    have z1 := itoa_len (n := (l.length : Int)) (by omega) (by omega)
    have z2 := itoa_len (n := sumGo 2 l) (by omega) (by omega)
    have a1 := kadd_c (a := itoa l.length) (B := [32]) rfl (by simp only [List.length_singleton, maxLen]; omega)
    have a2 := kadd_bs (a := itoa l.length ++ [32]) (b := itoa (sumGo 2 l)) (by simp only [List.length_append, List.length_singleton, maxLen]; omega)
    have a3 := kadd_c (a := itoa l.length ++ [32] ++ itoa (sumGo 2 l)) (B := [10]) rfl (by simp only [List.length_append, List.length_singleton, maxLen]; omega)
    have a4 := kadd_bs (a := itoa l.length ++ [32] ++ itoa (sumGo 2 l) ++ [10]) (b := l) (by simp only [List.length_append, List.length_singleton, maxLen]; omega)
    have a5 := kadd_c (a := itoa l.length ++ [32] ++ itoa (sumGo 2 l) ++ [10] ++ l) (B := [10]) rfl (by simp only [List.length_append, List.length_singleton, maxLen]; omega)
    rw [← e] at a5
    have fT := fun h => finN_bs (recM l) h
    generalize GV.str (bs (recM l)) = T at *
    generalize GV.str (bs (itoa l.length ++ [32] ++ itoa (sumGo 2 l) ++ [10] ++ l)) = X5 at *
    generalize GV.str (bs (itoa l.length ++ [32] ++ itoa (sumGo 2 l) ++ [10])) = X4 at *
    generalize GV.str (bs (itoa l.length ++ [32] ++ itoa (sumGo 2 l))) = X3 at *
    generalize GV.str (bs (itoa l.length ++ [32])) = X2 at *
    generalize GV.str (bs (itoa l.length)) = X1 at *
    generalize GV.str (bs (itoa (sumGo 2 l))) = Y at *
    generalize GV.str (bs l) = L at *
    simp [S.impl_Record.run, kl, h', d1, d2, sm, a1, a2, a3, a4, a5, fT, kN_at (bl _) sm, -kN_eq, n1, n2]
theorem spec_Record_spec (l : List UInt8) (hl : l.length ≤ 1048576) : NN fn.spec_Record [.str (bs l)] = some (.str (bs (recM l))) := by
  apply S.spec_Record.gives (k := 0)
  have kl : klenS (.str (bs l)) = some (.int .i64 (l.length : Nat)) := by rw [klenS_str, bs_size]
  have bl : ∀ h : Heap, bors h [.str (bs l)] = some [.str (bs l)] := fun h => by simp
  by_cases h : 5000 < l.length
  · have h' : (5000 : Int) < l.length := by omega
    have e : recM l = [] := by unfold recM; rw [if_pos h]
    rw [e]
    generalize GV.str (bs l) = L at *
    simp [S.spec_Record.run, kl, h']
  · have h' : ¬ (5000 : Int) < l.length := by omega
    have e : recM l = itoa l.length ++ [32] ++ itoa (sumGo 2 l) ++ [10] ++ l ++ [10] := by unfold recM; rw [if_neg h]
    obtain ⟨s1, s2⟩ := sumGo_b (s := 2) (l := l) (by omega)
    have d1 := spec_l3Int_spec (l.length : Int) (by omega) (by omega)
    have d2 := spec_l3Int_spec (sumGo 2 l) (by omega) (by omega)
    have n1 : ∀ H, kN NN fn.spec_l3Int [.int .i64 (l.length : Int)] H = some (.str (bs (itoa l.length))) := fun H => kN_at (by simp) d1
    have n2 : ∀ H, kN NN fn.spec_l3Int [.int .i64 (sumGo 2 l)] H = some (.str (bs (itoa (sumGo 2 l)))) := fun H => kN_at (by simp) d2
    have sm := spec_Sum_spec l hl
    have z1 := itoa_len (n := (l.length : Int)) (by omega) (by omega)
    have z2 := itoa_len (n := sumGo 2 l) (by omega) (by omega)
    have a1 := kadd_c (a := itoa l.length) (B := [32]) rfl (by simp only [List.length_singleton, maxLen]; omega)
    have a2 := kadd_bs (a := itoa l.length ++ [32]) (b := itoa (sumGo 2 l)) (by simp only [List.length_append, List.length_singleton, maxLen]; omega)
    have a3 := kadd_c (a := itoa l.length ++ [32] ++ itoa (sumGo 2 l)) (B := [10]) rfl (by simp only [List.length_append, List.length_singleton, maxLen]; omega)
    have a4 := kadd_bs (a := itoa l.length ++ [32] ++ itoa (sumGo 2 l) ++ [10]) (b := l) (by simp only [List.length_append, List.length_singleton, maxLen]; omega)
    have a5 := kadd_c (a := itoa l.length ++ [32] ++ itoa (sumGo 2 l) ++ [10] ++ l) (B := [10]) rfl (by simp only [List.length_append, List.length_singleton, maxLen]; omega)
    rw [← e] at a5
    have fT := fun h => finN_bs (recM l) h
    generalize GV.str (bs (recM l)) = T at *
    generalize GV.str (bs (itoa l.length ++ [32] ++ itoa (sumGo 2 l) ++ [10] ++ l)) = X5 at *
    generalize GV.str (bs (itoa l.length ++ [32] ++ itoa (sumGo 2 l) ++ [10])) = X4 at *
    generalize GV.str (bs (itoa l.length ++ [32] ++ itoa (sumGo 2 l))) = X3 at *
    generalize GV.str (bs (itoa l.length ++ [32])) = X2 at *
    generalize GV.str (bs (itoa l.length)) = X1 at *
    generalize GV.str (bs (itoa (sumGo 2 l))) = Y at *
    generalize GV.str (bs l) = L at *
    simp [S.spec_Record.run, kl, h', d1, d2, sm, a1, a2, a3, a4, a5, fT, kN_at (bl _) sm, -kN_eq, n1, n2]
end Go.Proofs.YtklhdbkaejbajaaDoor.G
