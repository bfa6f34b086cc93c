/- What these functions do, told for open values, out of the machine with continuations. Printed by a program of this session. -/
import Derived.Test.YtolhjndfplfjpaaSA
import Derived.KernelRfl
namespace Go.Proofs.Ytolhjndfplfjpaa.G
open Go.RowKit
set_option linter.unusedVariables false
set_option maxRecDepth 100000
noncomputable section
variable {R : Type} (k : Nat)
/-! laws_FnExactNewSession -/
namespace S.laws_FnExactNewSession
noncomputable def c0 : Code := bodyOf Try.f3
noncomputable def c1 : Code := cR c0
noncomputable def c2 : Code := cR c1
noncomputable def c3 : Code := cR c2
noncomputable def c4 : Code := cR c3
@[simp] def n4 {R : Type} (k : Nat) (G : KT1 R) (v0 v1 v2 : GV) (h : Heap) : Option R := (kloadA 33 h v2).bind fun v12 => (HH fn.laws_markSession [v12, (.int .i64 1)] h).bind fun r => kr r fun v14 h => (kloadA 33 h v2).bind fun v15 => (kN NN fn.laws_heldSession [v15, (.int .i64 1)] h).bind fun v17 => (kbin .lss v17 (.int .i64 0)).bind fun v19 => kcond v19 (G .ret (.bool false) h) ((kbin .neq v17 v14).bind fun v22 => kcond v22 (G .ret (.bool false) h) ((kF false HH fn.impl_NewSession [] h).bind fun r => kr r fun v23 h => kalloc [(.int .i64 0), .nils, (.int .i64 0), .nils, (.int .i64 0), (.int .i64 0), (.int .i64 0), (.int .i64 0), (.bool false), (.bool false), (.bool false), (.int .i64 0), (.int .i64 0), (.bool false), (.bool false), (.bool false), (.bool false), (.int .i64 0), (.int .i64 0), (.int .i64 0), (.int .i64 0), (.bool false), (.bool false), (.bool false), .nils, (.int .i64 0), .nils, (.int .i64 0), .nils, (.str { data := #[] }), (.str { data := #[] }), .nils, (.int .i64 0)] h fun v5 h => (kstore 33 h v5 v23).bind fun h => (kloadA 33 h v5).bind fun v24 => (kloadA 33 h v1).bind fun v25 => (kN NN fn.laws_eqSession [v24, v25] h).bind fun v26 => (kun .not v26).bind fun v27 => kcond v27 (G .ret (.bool false) h) ((kloadA 33 h v2).bind fun v28 => (kN NN fn.laws_heldSession [v28, (.int .i64 1)] h).bind fun v30 => (kbin .lss v30 (.int .i64 0)).bind fun v32 => kcond v32 (G .ret (.bool false) h) ((kbin .neq v30 v14).bind fun v35 => kcond v35 (G .ret (.bool false) h) (G .ret (.bool true) h)))))
theorem n4_eq (G : KT1 R) (σ : GS) (h : Heap) : KC k 36 c4 σ h (fun x σ h => G x (σ 0) h) = n4 k G (σ 0) (σ 1) (σ 2) h := by kernel_rfl
noncomputable def c5 : Code := cL c3
@[simp] def n3 (G : KT1 R) (v0 v1 v2 : GV) (h : Heap) : Option R := (kloadA 33 h v2).bind fun v8 => (kloadA 33 h v1).bind fun v9 => (kN NN fn.laws_eqSession [v8, v9] h).bind fun v10 => (kun .not v10).bind fun v11 => kcond v11 (G .ret (.bool false) h) (n4 k G v0 v1 v2 h)
theorem n3_eq (G : KT1 R) (σ : GS) (h : Heap) : KC k 36 c3 σ h (fun x σ h => G x (σ 0) h) = n3 k G (σ 0) (σ 1) (σ 2) h := (kseq (a := c5) (b := c4) rfl (fun σ h => n4_eq k G σ h)).trans (by kernel_rfl)
noncomputable def c6 : Code := cL c2
@[simp] def n2 (G : KT1 R) (v0 v1 : GV) (h : Heap) : Option R := (kF false HH fn.impl_NewSession [] h).bind fun r => kr r fun v7 h => kalloc [(.int .i64 0), .nils, (.int .i64 0), .nils, (.int .i64 0), (.int .i64 0), (.int .i64 0), (.int .i64 0), (.bool false), (.bool false), (.bool false), (.int .i64 0), (.int .i64 0), (.bool false), (.bool false), (.bool false), (.bool false), (.int .i64 0), (.int .i64 0), (.int .i64 0), (.int .i64 0), (.bool false), (.bool false), (.bool false), .nils, (.int .i64 0), .nils, (.int .i64 0), .nils, (.str { data := #[] }), (.str { data := #[] }), .nils, (.int .i64 0)] h fun v2 h => (kstore 33 h v2 v7).bind fun h => n3 k G v0 v1 v2 h
theorem n2_eq (G : KT1 R) (σ : GS) (h : Heap) : KC k 36 c2 σ h (fun x σ h => G x (σ 0) h) = n2 k G (σ 0) (σ 1) h := (kseq (a := c6) (b := c3) rfl (fun σ h => n3_eq k G σ h)).trans (by kernel_rfl)
noncomputable def c7 : Code := cL c1
@[simp] def n1 (G : KT1 R) (v0 : GV) (h : Heap) : Option R := (kN NN fn.spec_NewSession [] h).bind fun v6 => kalloc [(.int .i64 0), .nils, (.int .i64 0), .nils, (.int .i64 0), (.int .i64 0), (.int .i64 0), (.int .i64 0), (.bool false), (.bool false), (.bool false), (.int .i64 0), (.int .i64 0), (.bool false), (.bool false), (.bool false), (.bool false), (.int .i64 0), (.int .i64 0), (.int .i64 0), (.int .i64 0), (.bool false), (.bool false), (.bool false), .nils, (.int .i64 0), .nils, (.int .i64 0), .nils, (.str { data := #[] }), (.str { data := #[] }), .nils, (.int .i64 0)] h fun v1 h => (kstore 33 h v1 v6).bind fun h => n2 k G v0 v1 h
theorem n1_eq (G : KT1 R) (σ : GS) (h : Heap) : KC k 36 c1 σ h (fun x σ h => G x (σ 0) h) = n1 k G (σ 0) h := (kseq (a := c7) (b := c2) rfl (fun σ h => n2_eq k G σ h)).trans (by kernel_rfl)
noncomputable def c8 : Code := cL c0
@[simp] def n0 (G : KT1 R) (h : Heap) : Option R := n1 k G (.bool false) h
theorem n0_eq (G : KT1 R) (σ : GS) (h : Heap) : KC k 36 c0 σ h (fun x σ h => G x (σ 0) h) = n0 k G h := (kseq (a := c8) (b := c1) rfl (fun σ h => n1_eq k G σ h)).trans (by kernel_rfl)
def run {R : Type} (k : Nat) (h : Heap) (fin : GV → Heap → Option R) : Option R := n0 k (fun x v0 h => kend x (fin v0 h)) h
theorem run_eq {R : Type} (k : Nat) (h : Heap) (fin : GV → Heap → Option R) : kfun PP cfg NN HH k fn.laws_FnExactNewSession [] h fin = run k h fin := (kfun_eq (nt := 36) (c := c0) (show PP.funcs[fn.laws_FnExactNewSession]? = some Try.f3 by kernel_rfl) (by kernel_rfl) (by kernel_rfl) (fun x σ h => by cases x <;> kernel_rfl)).trans (n0_eq k (fun x v0 h => kend x (fin v0 h)) _ h)
theorem gives {k : Nat} {v : GV} (e : run k [] finN = some v) : NN fn.laws_FnExactNewSession [] = some v := nω_of (by kernel_rfl) ((run_eq k [] finN).trans e)
end S.laws_FnExactNewSession
end
end Go.Proofs.Ytolhjndfplfjpaa.G
