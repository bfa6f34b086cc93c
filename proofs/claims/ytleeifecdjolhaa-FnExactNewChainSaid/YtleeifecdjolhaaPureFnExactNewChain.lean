/- The law FnExactNewChain: run by the machine G, once for each number that it says something of. -/
import Derived.Test.YtleeifecdjolhaaG24
import Derived.Test.YtleeifecdjolhaaProg
import Derived.KernelRfl
namespace Go.Proofs.Ytleeifecdjolhaa.Pure.IFnExactNewChain
open Go.RowKit Go.Proofs.Ytleeifecdjolhaa.G
noncomputable def cfg : Cfg := ⟨fun f => [28, 30, 37, 39, 42, 44, 62, 63, 64, 83, 86, 87, 88, 94, 98, 99, 117, 120, 123, 129, 132, 134].contains f, fun _ => none⟩
theorem names : NameOk Try.prog := nameOk (by kernel_rfl)
theorem neg (m : Nat) : ansT (gcall Try.prog cfg 40 8 [.int .i64 (Int.negSucc m)] []) = true := by kernel_rfl
theorem at0 : ansT (gcall Try.prog cfg 40 8 [.int .i64 (Int.ofNat 0)] []) = true := by kernel_rfl
theorem at1 : ansT (gcall Try.prog cfg 40 8 [.int .i64 (Int.ofNat 1)] []) = true := by kernel_rfl
theorem at2 : ansT (gcall Try.prog cfg 40 8 [.int .i64 (Int.ofNat 2)] []) = true := by kernel_rfl
theorem at3 : ansT (gcall Try.prog cfg 40 8 [.int .i64 (Int.ofNat 3)] []) = true := by kernel_rfl
theorem at4 : ansT (gcall Try.prog cfg 40 8 [.int .i64 (Int.ofNat 4)] []) = true := by kernel_rfl
theorem at5 : ansT (gcall Try.prog cfg 40 8 [.int .i64 (Int.ofNat 5)] []) = true := by kernel_rfl
theorem above (m : Nat) : ansT (gcall Try.prog cfg 40 8 [.int .i64 (Int.ofNat (m + 6))] []) = true := by kernel_rfl
theorem all (a0 : Int) : ansT (gcall Try.prog cfg 40 8 [.int .i64 a0] []) = true := by
  match a0 with
  | .negSucc m => exact neg m
  | .ofNat 0 => exact at0
  | .ofNat 1 => exact at1
  | .ofNat 2 => exact at2
  | .ofNat 3 => exact at3
  | .ofNat 4 => exact at4
  | .ofNat 5 => exact at5
  | .ofNat (m + 6) => exact above m
end Go.Proofs.Ytleeifecdjolhaa.Pure.IFnExactNewChain
namespace Go.Proofs.Ytleeifecdjolhaa.Pure
open Go.RowKit Go.Proofs.Ytleeifecdjolhaa.G
theorem FnExactNewChain (a0 : Int) (W : World) (_w0 : (Lit.int .i64 a0).wf = true) : Calls Try.prog 8 #[.int .i64 a0] W fun e W' => e = .returned (.bool true) ∧ Below W.heap.size W W' :=
  law_calls (us := [.int .i64 a0]) (by kernel_rfl) IFnExactNewChain.names noExt (IFnExactNewChain.all a0) ⟨_, _, rfl, rfl, rfl⟩
end Go.Proofs.Ytleeifecdjolhaa.Pure
