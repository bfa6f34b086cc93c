/- What these functions do, told for open values, out of the machine with continuations. Printed by a program of this session. -/
import Derived.Test.YtklhdbkaejbajaaDoorSN
import Derived.KernelRfl
namespace Go.Proofs.YtklhdbkaejbajaaDoor.G
open Go.RowKit
set_option linter.unusedVariables false
set_option maxRecDepth 100000
noncomputable section
variable {R : Type} (k : Nat)
/-! impl_Record -/
namespace S.impl_Record
noncomputable def c0 : Code := bodyOf Tryd.f15
@[simp] def n0 {R : Type} (k : Nat) (G : KT1 R) (v0 : GV) (h : Heap) : Option R := (klenS v0).bind fun v4 => (kbin .gtr v4 (.int .i64 5000)).bind fun v5 => kcond v5 (G .ret (.str { data := #[] }) h) ((klenS v0).bind fun v7 => (kN NN fn.impl_decimal [v7] h).bind fun v8 => (kbin .add v8 (.str { data := #[32] })).bind fun v9 => (kN NN fn.impl_Sum [v0] h).bind fun v11 => (kN NN fn.impl_decimal [v11] h).bind fun v12 => (kbin .add v9 v12).bind fun v13 => (kbin .add v13 (.str { data := #[10] })).bind fun v14 => (kbin .add v14 v0).bind fun v16 => (kbin .add v16 (.str { data := #[10] })).bind fun v17 => G .ret v17 h)
theorem n0_eq (G : KT1 R) (σ : GS) (h : Heap) : KC k 18 c0 σ h (fun x σ h => G x (σ 2) h) = n0 k G (σ 0) h := by kernel_rfl
def run {R : Type} (k : Nat) (a0 : GV) (h : Heap) (fin : GV → Heap → Option R) : Option R := n0 k (fun x v2 h => kend x (fin v2 h)) a0 h
theorem run_eq {R : Type} (k : Nat) (a0 : GV) (h : Heap) (fin : GV → Heap → Option R) : kfun PP cfg NN HH k fn.impl_Record [a0] h fin = run k a0 h fin := (kfun_eq (nt := 18) (c := c0) (show PP.funcs[fn.impl_Record]? = some Tryd.f15 by kernel_rfl) (by kernel_rfl) (by kernel_rfl) (fun x σ h => by cases x <;> kernel_rfl)).trans (n0_eq k (fun x v2 h => kend x (fin v2 h)) _ h)
theorem gives {k : Nat} {a0 : GV} {v : GV} (e : run k a0 [] finN = some v) : NN fn.impl_Record [a0] = some v := nω_of (by kernel_rfl) ((run_eq k a0 [] finN).trans e)
end S.impl_Record
/-! spec_Record -/
namespace S.spec_Record
noncomputable def c0 : Code := bodyOf Tryd.f14
@[simp] def n0 {R : Type} (k : Nat) (G : KT1 R) (v0 : GV) (h : Heap) : Option R := (klenS v0).bind fun v4 => (kbin .gtr v4 (.int .i64 5000)).bind fun v5 => kcond v5 (G .ret (.str { data := #[] }) h) ((klenS v0).bind fun v7 => (kN NN fn.spec_l3Int [v7] h).bind fun v8 => (kbin .add v8 (.str { data := #[32] })).bind fun v9 => (kN NN fn.spec_Sum [v0] h).bind fun v11 => (kN NN fn.spec_l3Int [v11] h).bind fun v12 => (kbin .add v9 v12).bind fun v13 => (kbin .add v13 (.str { data := #[10] })).bind fun v14 => (kbin .add v14 v0).bind fun v16 => (kbin .add v16 (.str { data := #[10] })).bind fun v17 => G .ret v17 h)
theorem n0_eq (G : KT1 R) (σ : GS) (h : Heap) : KC k 18 c0 σ h (fun x σ h => G x (σ 2) h) = n0 k G (σ 0) h := by kernel_rfl
def run {R : Type} (k : Nat) (a0 : GV) (h : Heap) (fin : GV → Heap → Option R) : Option R := n0 k (fun x v2 h => kend x (fin v2 h)) a0 h
theorem run_eq {R : Type} (k : Nat) (a0 : GV) (h : Heap) (fin : GV → Heap → Option R) : kfun PP cfg NN HH k fn.spec_Record [a0] h fin = run k a0 h fin := (kfun_eq (nt := 18) (c := c0) (show PP.funcs[fn.spec_Record]? = some Tryd.f14 by kernel_rfl) (by kernel_rfl) (by kernel_rfl) (fun x σ h => by cases x <;> kernel_rfl)).trans (n0_eq k (fun x v2 h => kend x (fin v2 h)) _ h)
theorem gives {k : Nat} {a0 : GV} {v : GV} (e : run k a0 [] finN = some v) : NN fn.spec_Record [a0] = some v := nω_of (by kernel_rfl) ((run_eq k a0 [] finN).trans e)
end S.spec_Record
end
end Go.Proofs.YtklhdbkaejbajaaDoor.G
