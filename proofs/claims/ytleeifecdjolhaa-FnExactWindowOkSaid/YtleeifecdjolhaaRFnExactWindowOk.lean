/- The law FnExactWindowOk, for all data. -/
import Derived.Test.YtleeifecdjolhaaTWin
namespace Go.Proofs.Ytleeifecdjolhaa.G
open Go.RowKit
theorem wf_i64 {n : Int} (h : (Lit.int .i64 n).wf = true) : -9223372036854775808 ≤ n ∧ n ≤ 9223372036854775807 := by
  simp [Lit.wf, IntKind.min, IntKind.max, IntKind.bits, IntKind.signed] at h
  omega
theorem FnExactWindowOk_row (a0 : (Int × List (Int))) (i0 : (Lit.int .i64 a0.1).wf = true ∧ inSl (fun x1 : Int => (Lit.int .i64 x1).wf = true) a0.2) : NN fn.laws_FnExactWindowOk [(.agg [GV.int .i64 a0.1, fzl true 1 (fun x1 : Int => [GV.int .i64 x1]) a0.2])] = some (.bool true) :=
  laws_FnExactWindowOk_spec a0.1 a0.2 i0.2.1 (wf_i64 i0.1).1 (wf_i64 i0.1).2
end Go.Proofs.Ytleeifecdjolhaa.G
