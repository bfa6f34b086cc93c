/- Ranges, lengths. -/
import Derived.Test.YtklhdbkaejbajaaDoorTNum
import Derived.Test.YtklhdbkaejbajaaDoorTBuf
namespace Go.Proofs.YtklhdbkaejbajaaDoor.G
open Go.RowKit Go.Lib
set_option linter.unusedVariables false
set_option linter.unusedSimpArgs false
theorem impl_in_spec (a b c : Int) : NN fn.impl_in [.int .i64 a, .int .i64 b, .int .i64 c] = some (.bool (decide (b ≤ a) && decide (a ≤ c))) := by
  apply S.impl_in.gives (k := 0)
  simp [S.impl_in.run]
  cases decide (b ≤ a) <;> cases decide (a ≤ c) <;> simp
theorem spec_l1In_spec (a b c : Int) : NN fn.spec_l1In [.int .i64 a, .int .i64 b, .int .i64 c] = some (.bool (decide (b ≤ a) && decide (a ≤ c))) := by
  apply S.spec_l1In.gives (k := 0)
  simp [S.spec_l1In.run]
  cases decide (b ≤ a) <;> cases decide (a ≤ c) <;> simp
theorem klenS_bs (l : List UInt8) : klenS (.str (bs l)) = some (.int .i64 (l.length : Nat)) := by rw [klenS_str, bs_size]
theorem finN_bs (l : List UInt8) (h : Heap) : finN (.str (bs l)) h = some (.str (bs l)) := rfl
theorem kadd_c {a : List UInt8} {B : List UInt8} {b : ByteArray} (hb : b = bs B) (h : a.length + B.length ≤ maxLen) : kbin .add (.str (bs a)) (.str b) = some (.str (bs (a ++ B))) := by subst hb; exact kadd_bs h
end Go.Proofs.YtklhdbkaejbajaaDoor.G
