/- FnExactRecords: the law returns true for every disk. -/
import Derived.Test.YtklhdbkaejbajaaDoorTRecs
namespace Go.Proofs.YtklhdbkaejbajaaDoor.G
open Go.RowKit Go.Lib
set_option linter.unusedVariables false
set_option linter.unusedSimpArgs false

theorem FnExactRecords_row (a0 : ByteArray) (i0 : a0.size ≤ maxLen) : NN fn.laws_FnExactRecords [(GV.str a0)] = some (.bool true) := by
  obtain ⟨d, rfl⟩ : ∃ l, a0 = bs l := ⟨_, bs_eta a0⟩
  apply S.laws_FnExactRecords.gives (k := 0)
  have kl := klenS_bs d
  by_cases g1 : (1048576 : Int) < d.length
  · generalize GV.str (bs d) = D at *
    simp [S.laws_FnExactRecords.run, kl, g1]
  have hd : d.length ≤ 1048576 := by omega
  have ok := recsM_ok d hd
  have hc := cStringS_le ok
  have s1 : ∀ H, kN NN fn.spec_Records [.str (bs d)] H = _ := fun H => kN_at (by simp) (spec_Records_spec d hd)
  have fr := fun H : Heap => fresh_tupI goodStringS (f := fn.impl_Records) (args := [.str (bs d)]) (xs := [.str (bs d)]) (H := H) (x := recsM d) (n := recsN d) (by simp) (impl_Records_spec d hd H.length)
  obtain ⟨v5, R5, H1, a1, a2, a3, a4, a5, a6⟩ := fr []
  have eq1 : kN NN fn.laws_eqStringS [v5, fzl false 1 cs (recsM d)] H1 = some (.bool true) := kN_at (xs := [fzl true 1 cs (recsM d), fzl true 1 cs (recsM d)]) (bors_one (RFl.good (es := 1) (mk := cs) (fun _ => rfl) (fun _ => rfl)) (by omega) a2 (by simp)) (by rw [laws_eqStringS_spec _ _ ok]; simp)
  obtain ⟨H2, m1, m2, m3⟩ := laws_markStringS_spec H1 v5 (recsM d) R5 1 ok a2 a3 (by omega)
  have held : ∀ H, rStringS H [v5] (kStringS (recsM d) 1) R5 → kN NN fn.laws_heldStringS [v5, .int .i64 1] H = some (.int .i64 ((1 + cStringS (recsM d) : Nat) : Int)) := fun H hr =>
    kN_at (xs := [fzl true 1 cs (kStringS (recsM d) 1), .int .i64 1]) (bors_one (RFl.good (es := 1) (mk := cs) (fun _ => rfl) (fun _ => rfl)) (by omega) hr (by simp)) (laws_heldStringS_spec (recsM d) 1 ok (by omega))
  have h1 := held H2 m2
  obtain ⟨v9, R9, H3, b1, b2, b3, b4, b5, b6⟩ := fr H2
  have m4 : rStringS H3 [v5] (kStringS (recsM d) 1) R5 := goodStringS.keep m2 b5 (fun i hi h => by cases h)
  have eq2 : kN NN fn.laws_eqStringS [v9, fzl false 1 cs (recsM d)] H3 = some (.bool true) := kN_at (xs := [fzl true 1 cs (recsM d), fzl true 1 cs (recsM d)]) (bors_one (RFl.good (es := 1) (mk := cs) (fun _ => rfl) (fun _ => rfl)) (by omega) b2 (by simp)) (by rw [laws_eqStringS_spec _ _ ok]; simp)
  have h2 := held H3 m4
  have m1' : HH fn.laws_markStringS [v5, .int .i64 1] H1 = some (.int .i64 ((1 + cStringS (recsM d) : Nat) : Int), H2) := m1
  have nn : kbin .neq (.int .i64 (recsN d)) (.int .i64 (recsN d)) = some (.bool false) := by rw [kbin_neq]; simp
  have mm : kbin .neq (.int .i64 ((1 + cStringS (recsM d) : Nat) : Int)) (.int .i64 ((1 + cStringS (recsM d) : Nat) : Int)) = some (.bool false) := by rw [kbin_neq]; simp
  have ml : kbin .lss (.int .i64 ((1 + cStringS (recsM d) : Nat) : Int)) (.int .i64 0) = some (.bool false) := by rw [kbin_lss, decide_eq_false (by omega)]
  generalize GV.int .i64 ((1 + cStringS (recsM d) : Nat) : Int) = M at *
  generalize GV.int .i64 (recsN d) = Q at *
  generalize fzl false 1 cs (recsM d) = F at *
  generalize GV.str (bs d) = D at *
  simp [S.laws_FnExactRecords.run, kl, g1, s1, a1, eq1, nn, m1', h1, ml, mm, b1, eq2, h2, -kN_eq, -kF_OO]
end Go.Proofs.YtklhdbkaejbajaaDoor.G
