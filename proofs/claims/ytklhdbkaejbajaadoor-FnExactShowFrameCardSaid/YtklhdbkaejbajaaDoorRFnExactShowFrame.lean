/- FnExactShowFrame: the law returns true for every frame. -/
import Derived.Test.YtklhdbkaejbajaaDoorTPat7
namespace Go.Proofs.YtklhdbkaejbajaaDoor.G
open Go.RowKit Go.Lib
set_option linter.unusedVariables false
set_option linter.unusedSimpArgs false

theorem FnExactShowFrame_row (a0 : (Int × Int × Int × (Int × Int × List ((Int × Int × List ((Int × (Int × Int × Bool × Bool × Bool) × Int))))))) (i0 : (Lit.int .i64 a0.1).wf = true ∧ ((Lit.int .i64 a0.2.1).wf = true ∧ ((Lit.int .i64 a0.2.2.1).wf = true ∧ ((Lit.int .i64 a0.2.2.2.1).wf = true ∧ ((Lit.int .i64 a0.2.2.2.2.1).wf = true ∧ (inSl (fun x1 : (Int × Int × List ((Int × (Int × Int × Bool × Bool × Bool) × Int))) => (Lit.int .i64 x1.1).wf = true ∧ ((Lit.int .i64 x1.2.1).wf = true ∧ (inSl (fun x2 : (Int × (Int × Int × Bool × Bool × Bool) × Int) => (Lit.int .i64 x2.1).wf = true ∧ (((Lit.int .i64 x2.2.1.1).wf = true ∧ ((Lit.int .i64 x2.2.1.2.1).wf = true ∧ (True ∧ (True ∧ True)))) ∧ (Lit.int .i64 x2.2.2).wf = true)) x1.2.2))) a0.2.2.2.2.2)))))) : NN fn.laws_FnExactShowFrame [(.agg [GV.int .i64 a0.1, GV.int .i64 a0.2.1, GV.int .i64 a0.2.2.1, GV.int .i64 a0.2.2.2.1, GV.int .i64 a0.2.2.2.2.1, fzl true 3 (fun x1 : (Int × Int × List ((Int × (Int × Int × Bool × Bool × Bool) × Int))) => [GV.int .i64 x1.1, GV.int .i64 x1.2.1, fzl true 7 (fun x2 : (Int × (Int × Int × Bool × Bool × Bool) × Int) => [GV.int .i64 x2.1, GV.int .i64 x2.2.1.1, GV.int .i64 x2.2.1.2.1, GV.bool x2.2.1.2.2.1, GV.bool x2.2.1.2.2.2.1, GV.bool x2.2.1.2.2.2.2, GV.int .i64 x2.2.2]) x1.2.2]) a0.2.2.2.2.2])] = some (.bool true) := by
  show NN fn.laws_FnExactShowFrame [.agg (mFrame true a0)] = some (.bool true)
  have sz0 : NN fn.laws_szFrame [.agg (mFrame true a0), .int .i64 1048576] = _ := laws_szFrame_spec a0.1 a0.2.1 a0.2.2.1 a0.2.2.2.1 a0.2.2.2.2.1 a0.2.2.2.2.2 1048576 i0 (by omega) (by omega)
  apply S.laws_FnExactShowFrame.gives (k := 0)
  have hbo : ∀ {Q : Type} (K : GV → Heap → Option Q), kbox (.agg (mFrame true a0)) [] K = K (.ptr 0 0 6) [mFrame true a0] := fun K => rfl
  have lA : kloadA 6 [mFrame true a0] (.ptr 0 0 6) = some (.agg (mFrame true a0)) := kpartA_at (cells := mFrame true a0) rfl rfl rfl (by simp)
  have bt : ∀ H, bor 9 H (.agg (mFrame true a0)) = some (.agg (mFrame true a0), []) := fun H => by simp
  have bf : ∀ H, bor 9 H (.agg (mFrame false a0)) = some (.agg (mFrame true a0), []) := fun H => by simp
  have sz : ∀ H, kN NN fn.laws_szFrame [.agg (mFrame true a0), .int .i64 1048576] H = some (.int .i64 (if (1048576 : Int) < (zFrame a0 : Int) then -1 else 1048576 - zFrame a0)) := fun H => kN_at (by rw [bors_cons, bt]; rfl) sz0
  by_cases g : (1048576 : Int) < (zFrame a0 : Int)
  · rw [if_pos g] at sz
    generalize mFrame true a0 = C at *
    simp [S.laws_FnExactShowFrame.run, hbo, lA, sz, -kN_eq, -kbox_agg, -kloadA_ptr]
  · rw [if_neg g] at sz
    have g' : ¬ ((1048576 : Int) - zFrame a0 < 0) := by omega
    have hm : okFrame a0 := okFrame_of (by omega)
    have to0 : NN fn.laws_toFrame [.agg (mFrame true a0)] = some (.agg (mFrame false a0)) := laws_toFrame_spec a0.1 a0.2.1 a0.2.2.1 a0.2.2.2.1 a0.2.2.2.2.1 a0.2.2.2.2.2 hm
    have eq0 : NN fn.laws_eqFrame [.agg (mFrame true a0), .agg (mFrame true a0)] = some (.bool true) := by
      have := laws_eqFrame_spec a0.1 a0.1 a0.2.1 a0.2.1 a0.2.2.1 a0.2.2.1 a0.2.2.2.1 a0.2.2.2.1 a0.2.2.2.2.1 a0.2.2.2.2.1 a0.2.2.2.2.2 a0.2.2.2.2.2 hm
      exact this.trans (by simp)
    have to : ∀ H, kN NN fn.laws_toFrame [.agg (mFrame true a0)] H = some (.agg (mFrame false a0)) := fun H => kN_at (by rw [bors_cons, bt]; rfl) to0
    have sp : ∀ H, kN NN fn.spec_ShowFrame [.agg (mFrame false a0)] H = some (.str (bs (showFM a0))) := fun H => kN_at (by rw [bors_cons, bf]; rfl) (spec_ShowFrame_spec a0)
    have im : ∀ H, kN NN fn.impl_ShowFrame [.agg (mFrame false a0)] H = some (.str (bs (showFM a0))) := fun H => kN_at (by rw [bors_cons, bf]; rfl) (impl_ShowFrame_spec a0)
    have eq : ∀ H, kN NN fn.laws_eqFrame [.agg (mFrame false a0), .agg (mFrame false a0)] H = some (.bool true) := fun H => kN_at (by rw [bors_cons, bf, bors_cons, bf]; rfl) eq0
    have ne : kbin .neq (.str (bs (showFM a0))) (.str (bs (showFM a0))) = some (.bool false) := by rw [kbin_sneq]; simp
    have st : kstore 6 ([mFrame true a0] ++ [[.int .i64 0, .int .i64 0, .int .i64 0, .int .i64 0, .int .i64 0, .nils]]) (.ptr [mFrame true a0].length 0 6) (.agg (mFrame false a0)) = some ([mFrame true a0] ++ [mFrame false a0]) := var_new rfl rfl (by simp)
    have st' : kstore 6 [mFrame true a0, [.int .i64 0, .int .i64 0, .int .i64 0, .int .i64 0, .int .i64 0, .nils]] (.ptr 1 0 6) (.agg (mFrame false a0)) = some [mFrame true a0, mFrame false a0] := st
    have l5 : kloadA 6 [mFrame true a0, mFrame false a0] (.ptr 1 0 6) = some (.agg (mFrame false a0)) := kpartA_at (cells := mFrame false a0) rfl rfl rfl (by simp)
    have l1 : kloadA 6 [mFrame true a0, mFrame false a0] (.ptr 0 0 6) = some (.agg (mFrame true a0)) := kpartA_at (cells := mFrame true a0) rfl rfl rfl (by simp)
    clear sz0 to0 eq0 bt bf st
    generalize GV.str (bs (showFM a0)) = X at *
    generalize mFrame true a0 = C at *
    generalize mFrame false a0 = D at *
    simp [S.laws_FnExactShowFrame.run, hbo, lA, sz, g', to, sp, im, ne, eq, st', l5, l1, -kN_eq, -kbox_agg, -kloadA_ptr, -kstore_ptr]

end Go.Proofs.YtklhdbkaejbajaaDoor.G
