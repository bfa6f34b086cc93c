/- The law FnExactChainOk, for all data. -/
import Derived.Test.YtleeifecdjolhaaTChain3
namespace Go.Proofs.Ytleeifecdjolhaa.G
open Go.RowKit
set_option linter.unusedVariables false
set_option linter.unusedSimpArgs false
theorem FnExactChainOk_row (a0 : (List ((List (ByteArray) × Int)) × List (List (ByteArray)) × List (List (Int)))) (i0 : (inSl (fun x1 : (List (ByteArray) × Int) => inSl (fun x2 : ByteArray => x2.size ≤ maxLen) x1.1 ∧ (Lit.int .i64 x1.2).wf = true) a0.1) ∧ (inSl (fun x1 : List (ByteArray) => inSl (fun x2 : ByteArray => x2.size ≤ maxLen) x1) a0.2.1 ∧ inSl (fun x1 : List (Int) => inSl (fun x2 : Int => (Lit.int .i64 x2).wf = true) x1) a0.2.2)) : NN fn.laws_FnExactChainOk [(.agg [fzl true 2 (fun x1 : (List (ByteArray) × Int) => [fzl true 1 (fun x2 : ByteArray => [GV.str x2]) x1.1, GV.int .i64 x1.2]) a0.1, fzl true 1 (fun x1 : List (ByteArray) => [fzl true 1 (fun x2 : ByteArray => [GV.str x2]) x1]) a0.2.1, fzl true 1 (fun x1 : List (Int) => [fzl true 1 (fun x2 : Int => [GV.int .i64 x2]) x1]) a0.2.2])] = some (.bool true) := by
  obtain ⟨xs, ds, us⟩ := a0
  simp only at i0 ⊢
  show NN fn.laws_FnExactChainOk [.agg [fzl true 2 (mServer true) xs, fzl true 1 (mStringS true) ds, fzl true 1 (mInt64S true) us]] = some (.bool true)
  have sz := laws_szChain_spec xs ds us 1048576 i0 (by omega) (by omega)
  apply S.laws_FnExactChainOk.gives (k := 0)
  by_cases h : (1048576 : Int) < (zChain (xs, ds, us) : Int)
  · rw [if_pos h] at sz
    simp [S.laws_FnExactChainOk.run, sz]
  · rw [if_neg h] at sz
    have hm : okChain (xs, ds, us) := okChain_of (by omega)
    have h1 : ¬ ((1048576 : Int) - (zChain (xs, ds, us) : Int) < 0) := by omega
    have he := laws_eqChain_spec xs xs ds ds us us hm
    rw [decide_eq_true rfl] at he
    simp [S.laws_FnExactChainOk.run, sz, h1, laws_toChain_spec xs ds us hm, spec_ChainOk_spec xs ds us hm, impl_ChainOk_spec xs ds us hm, he]
end Go.Proofs.Ytleeifecdjolhaa.G
