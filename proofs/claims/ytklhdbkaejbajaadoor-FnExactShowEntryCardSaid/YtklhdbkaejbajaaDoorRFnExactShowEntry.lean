/- FnExactShowEntry: the law returns true for every entry. -/
import Derived.Test.YtklhdbkaejbajaaDoorTShow
namespace Go.Proofs.YtklhdbkaejbajaaDoor.G
open Go.RowKit Go.Lib
set_option linter.unusedVariables false
set_option linter.unusedSimpArgs false

theorem laws_szEntry_spec (k c q : Int) (l : List UInt8) (h : l.length ≤ maxLen) : NN fn.laws_szEntry [ent k c q l, .int .i64 1048576] = some (.int .i64 (if (1048576 : Int) - l.length < 0 then -1 else 1048576 - l.length)) := by
  apply S.laws_szEntry.gives (k := 0)
  have kl := klenS_bs l
  have w : IntKind.i64.wrap (1048576 - (l.length : Int)) = 1048576 - (l.length : Int) := wrap_id (by simp only [maxLen] at h; omega) (by omega)
  have hbo : ∀ {Q : Type} (K : GV → Heap → Option Q), kbox (ent k c q l) [] K = K (.ptr 0 0 4) [[.int .i64 k, .int .i64 c, .int .i64 q, .str (bs l)]] := fun K => rfl
  generalize GV.str (bs l) = L at *
  generalize ent k c q l = E at *
  by_cases g : (1048576 : Int) - l.length < 0
  · simp only [g, if_true]
    simp [S.laws_szEntry.run, hbo, kl, w, g, -kbox_agg]
  · simp only [g, if_false]
    simp [S.laws_szEntry.run, hbo, kl, w, g, -kbox_agg]
theorem laws_toEntry_spec (k c q : Int) (l : List UInt8) : NN fn.laws_toEntry [ent k c q l] = some (ent k c q l) := by
  apply S.laws_toEntry.gives (k := 0)
  have fT : ∀ H, finN (.agg [.int .i64 k, .int .i64 c, .int .i64 q, .str (bs l)]) H = some (ent k c q l) := fun H => rfl
  have hc : (GV.str (bs l)).cells = [GV.str (bs l)] ∧ (GV.str (bs l)).isCell = true := ⟨rfl, rfl⟩
  unfold ent at *
  generalize GV.str (bs l) = L at *
  simp [S.laws_toEntry.run, hc.1, hc.2, fT]
theorem FnExactShowEntry_row (a0 : (Int × Int × Int × ByteArray)) (i0 : (Lit.int .i64 a0.1).wf = true ∧ ((Lit.int .i64 a0.2.1).wf = true ∧ ((Lit.int .i64 a0.2.2.1).wf = true ∧ a0.2.2.2.size ≤ maxLen))) : NN fn.laws_FnExactShowEntry [(.agg [GV.int .i64 a0.1, GV.int .i64 a0.2.1, GV.int .i64 a0.2.2.1, GV.str a0.2.2.2])] = some (.bool true) := by
  obtain ⟨k, c, q, t⟩ := a0
  obtain ⟨l, rfl⟩ : ∃ l, t = bs l := ⟨_, bs_eta t⟩
  have hl : l.length ≤ maxLen := by have := i0.2.2.2; simpa using this
  apply S.laws_FnExactShowEntry.gives (k := 0)
  have sz : ∀ H, kN NN fn.laws_szEntry [ent k c q l, .int .i64 1048576] H = _ := fun H => kN_at (by simp [ent]) (laws_szEntry_spec k c q l hl)
  have to : ∀ H, kN NN fn.laws_toEntry [ent k c q l] H = _ := fun H => kN_at (by simp [ent]) (laws_toEntry_spec k c q l)
  have e1 : ∀ H, kN NN fn.impl_ShowEntry [ent k c q l] H = _ := fun H => kN_at (by simp [ent]) (impl_ShowEntry_spec k c q l)
  have e2 : ∀ H, kN NN fn.spec_ShowEntry [ent k c q l] H = _ := fun H => kN_at (by simp [ent]) (spec_ShowEntry_spec k c q l)
  have hbo : ∀ {Q : Type} (K : GV → Heap → Option Q), kbox (ent k c q l) [] K = K (.ptr 0 0 4) [[.int .i64 k, .int .i64 c, .int .i64 q, .str (bs l)]] := fun K => rfl
  have hld : kloadA 4 [[.int .i64 k, .int .i64 c, .int .i64 q, .str (bs l)]] (.ptr 0 0 4) = some (ent k c q l) := by simp [ent]
  have ne : kbin .neq (.str (bs (showM k c q l))) (.str (bs (showM k c q l))) = some (.bool false) := by rw [kbin_sneq]; simp
  show S.laws_FnExactShowEntry.run 0 (ent k c q l) [] finN = _
  generalize GV.str (bs (showM k c q l)) = T at *
  generalize ent k c q l = E at *
  by_cases g : (1048576 : Int) - l.length < 0
  · simp only [g, if_true] at sz
    simp [S.laws_FnExactShowEntry.run, hbo, hld, sz, -kN_eq, -kbox_agg, -kloadA_ptr]
  · simp only [g, if_false] at sz
    have g' : ¬ ((1048576 : Int) - l.length < 0) := g
    simp [S.laws_FnExactShowEntry.run, hbo, hld, sz, g', to, e1, e2, ne, -kN_eq, -kbox_agg, -kloadA_ptr]
end Go.Proofs.YtklhdbkaejbajaaDoor.G
